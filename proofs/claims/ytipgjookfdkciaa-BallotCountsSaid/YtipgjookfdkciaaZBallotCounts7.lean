/- BallotCounts: a cipher tells nothing to who does not know the secret. No condition. -/
import Derived.Test.YtipgjookfdkciaaZBallotCounts6

namespace Go.Proofs.Ytipgjookfdkciaa
open Go.ChangeShapes Go.WideShapes Go.ChangeAt Go.RowKit

set_option maxRecDepth 100000 in
theorem alive9 (w : World) : Calls Try.prog 29 #[] w fun e w' => e = .returned (.bool true) ∧ Below w.heap.size w w' := by
  have h := fun w => Scalar_some 1 (by decide) (by decide) ⟨#[0, 5]⟩ w
  rw [show isSc (grp 1).q.m (grp 1).size ⟨#[0, 5]⟩ = true by decide +kernel] at h
  have HS := Lib.hid h
  clear h
  go_enter Try.func29, Try.ntmps29
  go_wp2_with fail
  refine (HS.out w).mono ?_
  rintro e w1 ⟨rfl, hb9⟩
  have HB := Lib.hid hb9
  have Hs1 := Lib.hid (show w.heap.size ≤ w1.heap.size from hb9.size)
  clear hb9
  go_wp2_with fail
  go_ret
  exact ⟨rfl, HB.out⟩

theorem pub_T (k : Nat) (h1 : 1 ≤ k) (h3 : k ≤ 3) {S : Nat} (hS : S < (grp k).q.m) (w : World) : Calls Try.prog 30 #[.int .i64 (k : Int), .string (T (grp k) S)] w (Gives (.tuple #[.string (T (grp k) (lowN (grp k) (2 ^ S))), .int .i64 0]) w) := by
  have ok := grp_ok k h1 h3
  have h := pub_some k h1 h3 (T (grp k) S) true (T_sc ok (grp_fits k h1 h3) hS) w
  rw [T_num ok (Nat.le_of_lt hS) (grp_fits k h1 h3), Nat.mod_eq_of_lt hS] at h
  exact h
theorem enc_T (k : Nat) (h1 : 1 ≤ k) (h3 : k ≤ 3) {K X N : Nat} (hK0 : 0 < K) (hK : K ≤ (grp k).q.m) (hX : X < (grp k).q.m) (hN : N < (grp k).q.m) (w : World) :
    Calls Try.prog 21 #[.int .i64 (k : Int), .string (T (grp k) K), .string (T (grp k) X), .string (T (grp k) N)] w (Gives (.tuple #[ciphV (T (grp k) (lowN (grp k) (2 ^ N))) (T (grp k) (lowN (grp k) (K ^ N * 2 ^ X))), .int .i64 0]) w) := by
  have ok := grp_ok k h1 h3
  have ft := grp_fits k h1 h3
  have h := enc_yes k h1 h3 (T (grp k) K) (T (grp k) X) (T (grp k) N) (T_el ok ft hK0 hK) true true (T_sc ok ft hX) (T_sc ok ft hN) w
  rw [T_num ok hK ft, T_num ok (Nat.le_of_lt hX) ft, T_num ok (Nat.le_of_lt hN) ft, Nat.mod_eq_of_lt hX, Nat.mod_eq_of_lt hN] at h
  exact h

/-- What the secret must be that a cipher hides another number. -/
theorem counts_plain {q S X Y N W s1 s2 s3 s4 : Nat} (hqp : IsPrime q) (hq : 1 < q) (hS : S < q) (hX : X < q) (hY : Y < q) (hN0 : 0 < N) (hN : N < q) (hW : N ^ (q - 2) % q = W) (e1 : S * N % q = s1) (e2 : (s1 + X) % q = s2) (e3 : (s2 + (q - Y)) % q = s3) (e4 : s3 * W % q = s4) :
    s4 < q ∧ (s4 * N + Y) % q = (S * N + X) % q ∧ (s4 = S ↔ X = Y) := by
  have hNW : W * N % q = 1 := by
    rw [← hW, Nat.mod_mul_mod, ← Nat.pow_succ, show (q - 2).succ = q - 1 by omega, fermat hqp (not_dvd_small hN0 hN), Nat.mod_eq_of_lt hq]
  have h4 : s4 * N % q = s3 := by
    rw [← e4, Nat.mod_mul_mod, Nat.mul_assoc, Nat.mul_mod, hNW, Nat.mul_one, Nat.mod_mod, Nat.mod_eq_of_lt (by rw [← e3]; exact Nat.mod_lt _ (by omega))]
  have h5 : (s3 + Y) % q = s2 := by
    rw [← e3, Nat.mod_add_mod, show s2 + (q - Y) + Y = s2 + q by omega, Nat.add_mod_right, Nat.mod_eq_of_lt (by rw [← e2]; exact Nat.mod_lt _ (by omega))]
  have h6 : (s4 * N + Y) % q = (S * N + X) % q := by
    rw [Nat.add_mod, h4, Nat.add_mod_mod, h5, ← e2, ← e1, Nat.mod_add_mod]
  have h7 : s4 < q := by rw [← e4]; exact Nat.mod_lt _ (by omega)
  refine ⟨h7, h6, ?_, ?_⟩
  · rintro rfl
    have h8 : (s4 * N + Y) % q = (s4 * N + X) % q := h6
    rcases Nat.le_total X Y with h9 | h9
    · have hd := (mod_eq_iff_dvd_sub (Nat.add_le_add_left h9 (s4 * N))).1 h8
      rw [Nat.add_sub_add_left] at hd
      rcases Nat.eq_zero_or_pos (Y - X) with h0 | h0
      · omega
      · have := Nat.le_of_dvd h0 hd; omega
    · have hd := (mod_eq_iff_dvd_sub (Nat.add_le_add_left h9 (s4 * N))).1 h8.symm
      rw [Nat.add_sub_add_left] at hd
      rcases Nat.eq_zero_or_pos (X - Y) with h0 | h0
      · omega
      · have := Nat.le_of_dvd h0 hd; omega
  · rintro rfl
    -- the same number: s3 = s1, and times the opposite of N it is S
    have h8 : s4 * N % q = S * N % q := by
      rcases Nat.le_total (S * N) (s4 * N) with h9 | h9
      · have hd := (mod_eq_iff_dvd_sub (Nat.add_le_add_right h9 X)).1 h6
        rw [Nat.add_sub_add_right] at hd
        exact (mod_eq_iff_dvd_sub h9).2 hd
      · have hd := (mod_eq_iff_dvd_sub (Nat.add_le_add_right h9 X)).1 h6.symm
        rw [Nat.add_sub_add_right] at hd
        exact ((mod_eq_iff_dvd_sub h9).2 hd).symm
    have h10 : ∀ z, z < q → z * N % q * W % q = z := fun z hz => by
      rw [Nat.mod_mul_mod, Nat.mul_assoc, Nat.mul_comm N W, Nat.mul_mod, hNW, Nat.mul_one, Nat.mod_mod, Nat.mod_eq_of_lt hz]
    rw [← h10 s4 h7, h8, h10 S hS]

set_option maxRecDepth 100000 in
set_option maxHeartbeats 2000000 in
theorem ballotCounts_none (k : Int) (hk : ¬ (1 ≤ k ∧ k ≤ 3)) (s x y n : ByteArray) (w : World) :
    Calls Try.prog 6 #[.int .i64 k, .string s, .string x, .string y, .string n] w fun e w' => e = .returned (.bool true) ∧ Below w.heap.size w w' := by
  go_enter Try.func6, Try.ntmps6
  go_wp2_with fail
  refine (alive9 w).mono ?_
  rintro e w1 ⟨rfl, hb9⟩
  have HB := Lib.hid hb9
  have Hs1 := Lib.hid (show w.heap.size ≤ w1.heap.size from hb9.size)
  clear hb9
  go_wp2_with fail
  refine (pub_none k hk s w1).mono ?_
  rintro e w2 ⟨rfl, hb9⟩
  replace HB := Lib.hid (below_up HB.out hb9)
  have Hs2 := Lib.hid (show w1.heap.size ≤ w2.heap.size from hb9.size)
  clear hb9
  unfold strE
  go_wp2_with fail
  refine (enc_none k hk _ x n w2).mono ?_
  rintro e w3 ⟨rfl, hb9⟩
  replace HB := Lib.hid (below_up HB.out hb9)
  have Hs3 := Lib.hid (show w2.heap.size ≤ w3.heap.size from hb9.size)
  clear hb9
  unfold cipE ciphV
  have hb9 : Below w3.heap.size w3 (w3.alloc (Obj.cells #[.string ⟨#[]⟩, .string ⟨#[]⟩] 41)) := ((Below.refl _ _).alloc (Nat.le_refl _) _)
  have hx90 : Bx (w3.alloc (Obj.cells #[.string ⟨#[]⟩, .string ⟨#[]⟩] 41)) (w3.heap.size) 41 [.string ⟨#[]⟩, .string ⟨#[]⟩] := by
    have h := (Bx.new w3 41 [.string ⟨#[]⟩, .string ⟨#[]⟩] _ rfl)
    exact h
  have hz9 : (w3.alloc (Obj.cells #[.string ⟨#[]⟩, .string ⟨#[]⟩] 41)).heap.size = w3.heap.size + 1 := by simp
  obtain ⟨w4, hq4⟩ : ∃ W9 : World, (w3.alloc (Obj.cells #[.string ⟨#[]⟩, .string ⟨#[]⟩] 41)) = W9 := ⟨_, rfl⟩
  rw [hq4] at hb9 hz9 hx90
  replace HB := Lib.hid (below_up HB.out hb9)
  have Hs4 := Lib.hid hz9
  have Hba := Lib.hid hx90
  clear hb9 hz9 hx90
  have ba_0 := Hba.out.cell (i := 0) rfl
  have ba_1 := Hba.out.cell (i := 1) rfl
  have f5_ba_0 := Hba.out.frozen 0
  have f5_ba_1 := Hba.out.frozen 1
  have o5_ba_0 := ba_0; clear ba_0
  have o5_ba_1 := ba_1; clear ba_1
  have hx9 : Bx ((w4.setCell ⟨w3.heap.size, 0, none⟩ (.string ⟨#[]⟩)).setCell ⟨w3.heap.size, 1, none⟩ (.string ⟨#[]⟩)) (w3.heap.size) 41 [.string ⟨#[]⟩, .string ⟨#[]⟩] := ((Hba.out.set 0 (.string ⟨#[]⟩)).set 1 (.string ⟨#[]⟩))
  have hb9 : Below w.heap.size w ((w4.setCell ⟨w3.heap.size, 0, none⟩ (.string ⟨#[]⟩)).setCell ⟨w3.heap.size, 1, none⟩ (.string ⟨#[]⟩)) := ((HB.out.setCell (show w.heap.size ≤ w3.heap.size by have g0 := Hs1.out; have g1 := Hs2.out; have g2 := Hs3.out; have g3 := Hs4.out; omega) _).setCell (show w.heap.size ≤ w3.heap.size by have g0 := Hs1.out; have g1 := Hs2.out; have g2 := Hs3.out; have g3 := Hs4.out; omega) _)
  have hz9 : ((w4.setCell ⟨w3.heap.size, 0, none⟩ (.string ⟨#[]⟩)).setCell ⟨w3.heap.size, 1, none⟩ (.string ⟨#[]⟩)).heap.size = w4.heap.size := by simp [World.setCell]
  obtain ⟨w5, hq5⟩ : ∃ W9 : World, ((w4.setCell ⟨w3.heap.size, 0, none⟩ (.string ⟨#[]⟩)).setCell ⟨w3.heap.size, 1, none⟩ (.string ⟨#[]⟩)) = W9 := ⟨_, rfl⟩
  rw [hq5] at hx9 hb9 hz9 
  clear Hba HB
  have Hba := Lib.hid hx9
  have HB := Lib.hid hb9
  have Hs5 := Lib.hid hz9
  clear hx9 hb9 hz9 
  have ba_0 := Hba.out.cell (i := 0) rfl
  have ba_1 := Hba.out.cell (i := 1) rfl
  go_wp2_with fail
  clear hq5 o5_ba_1 o5_ba_0 f5_ba_1 f5_ba_0 hq4
  go_ret
  exact ⟨rfl, HB.out⟩

set_option maxRecDepth 100000 in
set_option maxHeartbeats 2000000 in
theorem ballotCounts_sec (k : Nat) (h1 : 1 ≤ k) (h3 : k ≤ 3) (s x y n : ByteArray) (hs : isSc (grp k).q.m (grp k).size s = false) (w : World) :
    Calls Try.prog 6 #[.int .i64 (k : Int), .string s, .string x, .string y, .string n] w fun e w' => e = .returned (.bool true) ∧ Below w.heap.size w w' := by
  have hp := fun w => pub_some k h1 h3 s false hs w
  simp only [Bool.false_eq_true, if_false] at hp
  have HP := Lib.hid hp
  have hel : isEl (grp k).q.m (grp k).size ⟨#[]⟩ = false := by
    obtain rfl | rfl | rfl : k = 1 ∨ k = 2 ∨ k = 3 := by omega
    all_goals decide
  have HE := Lib.hid (fun w => enc_no k h1 h3 ⟨#[]⟩ x n hel w)
  clear hp hs hel
  go_enter Try.func6, Try.ntmps6
  go_wp2_with fail
  refine (alive9 w).mono ?_
  rintro e w1 ⟨rfl, hb9⟩
  have HB := Lib.hid hb9
  have Hs1 := Lib.hid (show w.heap.size ≤ w1.heap.size from hb9.size)
  clear hb9
  go_wp2_with fail
  refine (HP.out w1).mono ?_
  rintro e w2 ⟨rfl, hb9⟩
  replace HB := Lib.hid (below_up HB.out hb9)
  have Hs2 := Lib.hid (show w1.heap.size ≤ w2.heap.size from hb9.size)
  clear hb9
  unfold strE
  go_wp2_with fail
  refine (HE.out w2).mono ?_
  rintro e w3 ⟨rfl, hb9⟩
  replace HB := Lib.hid (below_up HB.out hb9)
  have Hs3 := Lib.hid (show w2.heap.size ≤ w3.heap.size from hb9.size)
  clear hb9
  unfold cipE ciphV
  have hb9 : Below w3.heap.size w3 (w3.alloc (Obj.cells #[.string ⟨#[]⟩, .string ⟨#[]⟩] 41)) := ((Below.refl _ _).alloc (Nat.le_refl _) _)
  have hx90 : Bx (w3.alloc (Obj.cells #[.string ⟨#[]⟩, .string ⟨#[]⟩] 41)) (w3.heap.size) 41 [.string ⟨#[]⟩, .string ⟨#[]⟩] := by
    have h := (Bx.new w3 41 [.string ⟨#[]⟩, .string ⟨#[]⟩] _ rfl)
    exact h
  have hz9 : (w3.alloc (Obj.cells #[.string ⟨#[]⟩, .string ⟨#[]⟩] 41)).heap.size = w3.heap.size + 1 := by simp
  obtain ⟨w4, hq4⟩ : ∃ W9 : World, (w3.alloc (Obj.cells #[.string ⟨#[]⟩, .string ⟨#[]⟩] 41)) = W9 := ⟨_, rfl⟩
  rw [hq4] at hb9 hz9 hx90
  replace HB := Lib.hid (below_up HB.out hb9)
  have Hs4 := Lib.hid hz9
  have Hba := Lib.hid hx90
  clear hb9 hz9 hx90
  have ba_0 := Hba.out.cell (i := 0) rfl
  have ba_1 := Hba.out.cell (i := 1) rfl
  have f5_ba_0 := Hba.out.frozen 0
  have f5_ba_1 := Hba.out.frozen 1
  have o5_ba_0 := ba_0; clear ba_0
  have o5_ba_1 := ba_1; clear ba_1
  have hx9 : Bx ((w4.setCell ⟨w3.heap.size, 0, none⟩ (.string ⟨#[]⟩)).setCell ⟨w3.heap.size, 1, none⟩ (.string ⟨#[]⟩)) (w3.heap.size) 41 [.string ⟨#[]⟩, .string ⟨#[]⟩] := ((Hba.out.set 0 (.string ⟨#[]⟩)).set 1 (.string ⟨#[]⟩))
  have hb9 : Below w.heap.size w ((w4.setCell ⟨w3.heap.size, 0, none⟩ (.string ⟨#[]⟩)).setCell ⟨w3.heap.size, 1, none⟩ (.string ⟨#[]⟩)) := ((HB.out.setCell (show w.heap.size ≤ w3.heap.size by have g0 := Hs1.out; have g1 := Hs2.out; have g2 := Hs3.out; have g3 := Hs4.out; omega) _).setCell (show w.heap.size ≤ w3.heap.size by have g0 := Hs1.out; have g1 := Hs2.out; have g2 := Hs3.out; have g3 := Hs4.out; omega) _)
  have hz9 : ((w4.setCell ⟨w3.heap.size, 0, none⟩ (.string ⟨#[]⟩)).setCell ⟨w3.heap.size, 1, none⟩ (.string ⟨#[]⟩)).heap.size = w4.heap.size := by simp [World.setCell]
  obtain ⟨w5, hq5⟩ : ∃ W9 : World, ((w4.setCell ⟨w3.heap.size, 0, none⟩ (.string ⟨#[]⟩)).setCell ⟨w3.heap.size, 1, none⟩ (.string ⟨#[]⟩)) = W9 := ⟨_, rfl⟩
  rw [hq5] at hx9 hb9 hz9 
  clear Hba HB
  have Hba := Lib.hid hx9
  have HB := Lib.hid hb9
  have Hs5 := Lib.hid hz9
  clear hx9 hb9 hz9 
  have ba_0 := Hba.out.cell (i := 0) rfl
  have ba_1 := Hba.out.cell (i := 1) rfl
  go_wp2_with fail
  clear hq5 o5_ba_1 o5_ba_0 f5_ba_1 f5_ba_0 hq4
  go_ret
  exact ⟨rfl, HB.out⟩

set_option maxRecDepth 100000 in
set_option maxHeartbeats 2000000 in
theorem ballotCounts_sc (k : Nat) (h1 : 1 ≤ k) (h3 : k ≤ 3) (s x y n : ByteArray) (hs : isSc (grp k).q.m (grp k).size s = true) (hno : (isSc (grp k).q.m (grp k).size x && isSc (grp k).q.m (grp k).size n) = false) (w : World) :
    Calls Try.prog 6 #[.int .i64 (k : Int), .string s, .string x, .string y, .string n] w fun e w' => e = .returned (.bool true) ∧ Below w.heap.size w w' := by
  have hp := fun w => pub_some k h1 h3 s true hs w
  simp only [if_true, (isSc_lt' hs).1] at hp
  have hel := T_isEl h1 h3 (pow2_nd (grp_ok k h1 h3) (grp_prime_p k h1 h3) (numOf s))
  obtain ⟨A, B, he⟩ := enc_any k h1 h3 _ x n hel false hno
  generalize textS (lowN (grp k) (2 ^ numOf s)) (grp k).size = K at *
  have HP := Lib.hid hp
  have HE := Lib.hid (show ∀ w, Calls Try.prog 21 #[.int .i64 (k : Int), .string K, .string x, .string n] w (Gives (.tuple #[ciphV A B, .int .i64 6]) w) from he)
  clear hp hs hel he hno
  go_enter Try.func6, Try.ntmps6
  go_wp2_with fail
  refine (alive9 w).mono ?_
  rintro e w1 ⟨rfl, hb9⟩
  have HB := Lib.hid hb9
  have Hs1 := Lib.hid (show w.heap.size ≤ w1.heap.size from hb9.size)
  clear hb9
  go_wp2_with fail
  refine (HP.out w1).mono ?_
  rintro e w2 ⟨rfl, hb9⟩
  replace HB := Lib.hid (below_up HB.out hb9)
  have Hs2 := Lib.hid (show w1.heap.size ≤ w2.heap.size from hb9.size)
  clear hb9
  go_wp2_with fail
  refine (HE.out w2).mono ?_
  rintro e w3 ⟨rfl, hb9⟩
  replace HB := Lib.hid (below_up HB.out hb9)
  have Hs3 := Lib.hid (show w2.heap.size ≤ w3.heap.size from hb9.size)
  clear hb9
  unfold ciphV
  have hb9 : Below w3.heap.size w3 (w3.alloc (Obj.cells #[.string A, .string B] 41)) := ((Below.refl _ _).alloc (Nat.le_refl _) _)
  have hx90 : Bx (w3.alloc (Obj.cells #[.string A, .string B] 41)) (w3.heap.size) 41 [.string A, .string B] := by
    have h := (Bx.new w3 41 [.string A, .string B] _ rfl)
    exact h
  have hz9 : (w3.alloc (Obj.cells #[.string A, .string B] 41)).heap.size = w3.heap.size + 1 := by simp
  obtain ⟨w4, hq4⟩ : ∃ W9 : World, (w3.alloc (Obj.cells #[.string A, .string B] 41)) = W9 := ⟨_, rfl⟩
  rw [hq4] at hb9 hz9 hx90
  replace HB := Lib.hid (below_up HB.out hb9)
  have Hs4 := Lib.hid hz9
  have Hba := Lib.hid hx90
  clear hb9 hz9 hx90
  have ba_0 := Hba.out.cell (i := 0) rfl
  have ba_1 := Hba.out.cell (i := 1) rfl
  go_wp2_with fail
  clear hq4
  go_ret
  exact ⟨rfl, HB.out⟩

set_option maxRecDepth 100000 in
set_option maxHeartbeats 2000000 in
theorem ballotCounts_zero (k : Nat) (h1 : 1 ≤ k) (h3 : k ≤ 3) (S X : Nat) (y : ByteArray) (hS : S < (grp k).q.m) (hX : X < (grp k).q.m) (w : World) :
    Calls Try.prog 6 #[.int .i64 (k : Int), .string (T (grp k) S), .string (T (grp k) X), .string y, .string (T (grp k) 0)] w fun e w' => e = .returned (.bool true) ∧ Below w.heap.size w w' := by
  have ok := grp_ok k h1 h3
  have hpp := grp_prime_p k h1 h3
  have HP := Lib.hid (fun w => pub_T k h1 h3 hS w)
  have HE := Lib.hid (fun w => enc_T k h1 h3 (K := lowN (grp k) (2 ^ S)) (lowN_pos ok hpp (pow2_nd ok hpp S)) (lowN_le ok _) hX ok.q.pos w)
  have HI := Lib.hid (fun w => inv_zero_t k h1 h3 w)
  clear hS hX ok hpp
  generalize T (grp k) (lowN (grp k) (2 ^ S)) = K at *
  generalize T (grp k) (lowN (grp k) (2 ^ 0)) = A at *
  generalize T (grp k) (lowN (grp k) (lowN (grp k) (2 ^ S) ^ 0 * 2 ^ X)) = B at *
  go_enter Try.func6, Try.ntmps6
  go_wp2_with fail
  refine (alive9 w).mono ?_
  rintro e w1 ⟨rfl, hb9⟩
  have HB := Lib.hid hb9
  have Hs1 := Lib.hid (show w.heap.size ≤ w1.heap.size from hb9.size)
  clear hb9
  go_wp2_with fail
  refine (HP.out w1).mono ?_
  rintro e w2 ⟨rfl, hb9⟩
  replace HB := Lib.hid (below_up HB.out hb9)
  have Hs2 := Lib.hid (show w1.heap.size ≤ w2.heap.size from hb9.size)
  clear hb9
  go_wp2_with fail
  refine (HE.out w2).mono ?_
  rintro e w3 ⟨rfl, hb9⟩
  replace HB := Lib.hid (below_up HB.out hb9)
  have Hs3 := Lib.hid (show w2.heap.size ≤ w3.heap.size from hb9.size)
  clear hb9
  unfold ciphV
  have hb9 : Below w3.heap.size w3 (w3.alloc (Obj.cells #[.string A, .string B] 41)) := ((Below.refl _ _).alloc (Nat.le_refl _) _)
  have hx90 : Bx (w3.alloc (Obj.cells #[.string A, .string B] 41)) (w3.heap.size) 41 [.string A, .string B] := by
    have h := (Bx.new w3 41 [.string A, .string B] _ rfl)
    exact h
  have hz9 : (w3.alloc (Obj.cells #[.string A, .string B] 41)).heap.size = w3.heap.size + 1 := by simp
  obtain ⟨w4, hq4⟩ : ∃ W9 : World, (w3.alloc (Obj.cells #[.string A, .string B] 41)) = W9 := ⟨_, rfl⟩
  rw [hq4] at hb9 hz9 hx90
  replace HB := Lib.hid (below_up HB.out hb9)
  have Hs4 := Lib.hid hz9
  have Hba := Lib.hid hx90
  clear hb9 hz9 hx90
  have ba_0 := Hba.out.cell (i := 0) rfl
  have ba_1 := Hba.out.cell (i := 1) rfl
  go_wp2_with fail
  clear hq4
  refine (HI.out w4).mono ?_
  rintro e w5 ⟨rfl, hb9⟩
  clear ba_0 ba_1
  replace Hba := Lib.hid (Hba.out.up hb9)
  replace HB := Lib.hid (below_up HB.out hb9)
  have Hs5 := Lib.hid (show w4.heap.size ≤ w5.heap.size from hb9.size)
  clear hb9
  have ba_0 := Hba.out.cell (i := 0) rfl
  have ba_1 := Hba.out.cell (i := 1) rfl
  go_wp2_with fail
  go_ret
  exact ⟨rfl, HB.out⟩

set_option maxRecDepth 100000 in
set_option maxHeartbeats 2000000 in
theorem ballotCounts_y (k : Nat) (h1 : 1 ≤ k) (h3 : k ≤ 3) (S X N : Nat) (y : ByteArray) (hS : S < (grp k).q.m) (hX : X < (grp k).q.m) (hN0 : 0 < N) (hN : N < (grp k).q.m) (hy : isSc (grp k).q.m (grp k).size y = false) (w : World) :
    Calls Try.prog 6 #[.int .i64 (k : Int), .string (T (grp k) S), .string (T (grp k) X), .string y, .string (T (grp k) N)] w fun e w' => e = .returned (.bool true) ∧ Below w.heap.size w w' := by
  have ok := grp_ok k h1 h3
  have hpp := grp_prime_p k h1 h3
  have HP := Lib.hid (fun w => pub_T k h1 h3 hS w)
  have HE := Lib.hid (fun w => enc_T k h1 h3 (K := lowN (grp k) (2 ^ S)) (lowN_pos ok hpp (pow2_nd ok hpp S)) (lowN_le ok _) hX hN w)
  have HI := Lib.hid (fun w => inv_t k h1 h3 N _ hN0 hN rfl w)
  have hsy := fun w => Scalar_some k h1 h3 y w
  rw [hy] at hsy
  have HY := Lib.hid hsy
  clear hS hX ok hpp hsy hy hN0 hN
  generalize T (grp k) (N ^ ((grp k).q.m - 2) % (grp k).q.m) = I at *
  generalize T (grp k) (lowN (grp k) (2 ^ S)) = K at *
  generalize T (grp k) (lowN (grp k) (2 ^ N)) = A at *
  generalize T (grp k) (lowN (grp k) (lowN (grp k) (2 ^ S) ^ N * 2 ^ X)) = B at *
  go_enter Try.func6, Try.ntmps6
  go_wp2_with fail
  refine (alive9 w).mono ?_
  rintro e w1 ⟨rfl, hb9⟩
  have HB := Lib.hid hb9
  have Hs1 := Lib.hid (show w.heap.size ≤ w1.heap.size from hb9.size)
  clear hb9
  go_wp2_with fail
  refine (HP.out w1).mono ?_
  rintro e w2 ⟨rfl, hb9⟩
  replace HB := Lib.hid (below_up HB.out hb9)
  have Hs2 := Lib.hid (show w1.heap.size ≤ w2.heap.size from hb9.size)
  clear hb9
  go_wp2_with fail
  refine (HE.out w2).mono ?_
  rintro e w3 ⟨rfl, hb9⟩
  replace HB := Lib.hid (below_up HB.out hb9)
  have Hs3 := Lib.hid (show w2.heap.size ≤ w3.heap.size from hb9.size)
  clear hb9
  unfold ciphV
  have hb9 : Below w3.heap.size w3 (w3.alloc (Obj.cells #[.string A, .string B] 41)) := ((Below.refl _ _).alloc (Nat.le_refl _) _)
  have hx90 : Bx (w3.alloc (Obj.cells #[.string A, .string B] 41)) (w3.heap.size) 41 [.string A, .string B] := by
    have h := (Bx.new w3 41 [.string A, .string B] _ rfl)
    exact h
  have hz9 : (w3.alloc (Obj.cells #[.string A, .string B] 41)).heap.size = w3.heap.size + 1 := by simp
  obtain ⟨w4, hq4⟩ : ∃ W9 : World, (w3.alloc (Obj.cells #[.string A, .string B] 41)) = W9 := ⟨_, rfl⟩
  rw [hq4] at hb9 hz9 hx90
  replace HB := Lib.hid (below_up HB.out hb9)
  have Hs4 := Lib.hid hz9
  have Hba := Lib.hid hx90
  clear hb9 hz9 hx90
  have ba_0 := Hba.out.cell (i := 0) rfl
  have ba_1 := Hba.out.cell (i := 1) rfl
  go_wp2_with fail
  clear hq4
  refine (HI.out w4).mono ?_
  rintro e w5 ⟨rfl, hb9⟩
  clear ba_0 ba_1
  replace Hba := Lib.hid (Hba.out.up hb9)
  replace HB := Lib.hid (below_up HB.out hb9)
  have Hs5 := Lib.hid (show w4.heap.size ≤ w5.heap.size from hb9.size)
  clear hb9
  have ba_0 := Hba.out.cell (i := 0) rfl
  have ba_1 := Hba.out.cell (i := 1) rfl
  go_wp2_with fail
  refine (HY.out w5).mono ?_
  rintro e w6 ⟨rfl, hb9⟩
  clear ba_0 ba_1
  replace Hba := Lib.hid (Hba.out.up hb9)
  replace HB := Lib.hid (below_up HB.out hb9)
  have Hs6 := Lib.hid (show w5.heap.size ≤ w6.heap.size from hb9.size)
  clear hb9
  have ba_0 := Hba.out.cell (i := 0) rfl
  have ba_1 := Hba.out.cell (i := 1) rfl
  go_wp2_with fail
  go_ret
  exact ⟨rfl, HB.out⟩

set_option maxRecDepth 100000 in
set_option maxHeartbeats 2000000 in
theorem ballotCounts_yes (k : Nat) (h1 : 1 ≤ k) (h3 : k ≤ 3) (S X Y N : Nat) (hS : S < (grp k).q.m) (hX : X < (grp k).q.m) (hY : Y < (grp k).q.m) (hN0 : 0 < N) (hN : N < (grp k).q.m) (w : World) :
    Calls Try.prog 6 #[.int .i64 (k : Int), .string (T (grp k) S), .string (T (grp k) X), .string (T (grp k) Y), .string (T (grp k) N)] w fun e w' => e = .returned (.bool true) ∧ Below w.heap.size w w' := by
  have ok := grp_ok k h1 h3
  have hpp := grp_prime_p k h1 h3
  have hqp := grp_prime_q k h1 h3
  have ft := grp_fits k h1 h3
  have hq : 1 < (grp k).q.m := by have := ok.odd; omega
  obtain ⟨W, hW⟩ : ∃ z, N ^ ((grp k).q.m - 2) % (grp k).q.m = z := ⟨_, rfl⟩
  obtain ⟨s1, e1⟩ : ∃ z, S * N % (grp k).q.m = z := ⟨_, rfl⟩
  obtain ⟨s2, e2⟩ : ∃ z, (s1 + X) % (grp k).q.m = z := ⟨_, rfl⟩
  obtain ⟨s3, e3⟩ : ∃ z, (s2 + ((grp k).q.m - Y)) % (grp k).q.m = z := ⟨_, rfl⟩
  obtain ⟨s4, e4⟩ : ∃ z, s3 * W % (grp k).q.m = z := ⟨_, rfl⟩
  obtain ⟨h4, hsum, hiff⟩ := counts_plain hqp hq hS hX hY hN0 hN hW e1 e2 e3 e4
  have lt : ∀ {z v : Nat}, z % (grp k).q.m = v → v < (grp k).q.m := fun h => by rw [← h]; exact Nat.mod_lt _ (by omega)
  have Q1 := Lib.hid (fun w => pub_T k h1 h3 hS w)
  have Q2 := Lib.hid (fun w => enc_T k h1 h3 (K := lowN (grp k) (2 ^ S)) (lowN_pos ok hpp (pow2_nd ok hpp S)) (lowN_le ok _) hX hN w)
  have Q3 := Lib.hid (fun w => inv_t k h1 h3 N _ hN0 hN hW w)
  have Q4 := Lib.hid (fun w => scal_t k h1 h3 Y hY w)
  have Q5 := Lib.hid (fun w => mulF_t k h1 h3 S N _ hS hN e1 w)
  have Q6 := Lib.hid (fun w => addF_t k h1 h3 s1 X _ (lt e1) hX e2 w)
  have Q7 := Lib.hid (fun w => sub_t k h1 h3 s2 Y _ (lt e2) hY e3 w)
  have Q8 := Lib.hid (fun w => mulF_t k h1 h3 s3 W _ (lt e3) (lt hW) e4 w)
  have Q9 := Lib.hid (fun w => pub_T k h1 h3 h4 w)
  have q10 := fun w => enc_T k h1 h3 (K := lowN (grp k) (2 ^ s4)) (lowN_pos ok hpp (pow2_nd ok hpp s4)) (lowN_le ok _) hY hN w
  have hB : lowN (grp k) (lowN (grp k) (2 ^ s4) ^ N * 2 ^ Y) = lowN (grp k) (lowN (grp k) (2 ^ S) ^ N * 2 ^ X) := by
    have e : ∀ a b : Nat, PM (grp k).p.m (lowN (grp k) (2 ^ a) ^ N * 2 ^ b) (2 ^ ((a * N + b) % (grp k).q.m)) := fun a b => by
      refine (((lowN_pm ok (2 ^ a)).pow N).mul (PM.refl _ (2 ^ b))).trans ?_
      rw [← Nat.pow_mul, ← Nat.pow_add]
      exact (pm_pow_mod hpp ok.twice (by decide) (by have := ok.twice; omega) _).symm
    refine lowN_eq ok ((e s4 Y).trans ?_)
    rw [hsum]
    exact (e S X).symm
  rw [hB] at q10
  have Q10 := Lib.hid q10
  have hk : (T (grp k) X = T (grp k) Y ↔ T (grp k) (lowN (grp k) (2 ^ s4)) = T (grp k) (lowN (grp k) (2 ^ S))) := by
    constructor
    · intro h
      have := T_inj ok ft (Nat.le_of_lt hX) (Nat.le_of_lt hY) h
      rw [hiff.2 this]
    · intro h
      have h9 := (lowN_iff ok _ _).1 (T_inj ok ft (lowN_le ok _) (lowN_le ok _) h)
      rw [hiff.1 (order_lt hqp hpp ok.twice hq (by decide) hq h4 hS h9)]
  have HK := Lib.hid hk
  clear hk q10 hB lt hiff hsum h4 e1 e2 e3 e4 hW hS hX hY hN0 hN ok hpp hqp ft hq
  generalize T (grp k) (lowN (grp k) (2 ^ S)) = tK at *
  generalize T (grp k) (lowN (grp k) (2 ^ N)) = A at *
  generalize T (grp k) (lowN (grp k) (lowN (grp k) (2 ^ S) ^ N * 2 ^ X)) = B at *
  generalize T (grp k) (lowN (grp k) (2 ^ s4)) = tK' at *
  generalize T (grp k) S = tS at *
  generalize T (grp k) X = tX at *
  generalize T (grp k) Y = tY at *
  generalize T (grp k) N = tN at *
  generalize T (grp k) W = tW at *
  generalize T (grp k) s1 = t1 at *
  generalize T (grp k) s2 = t2 at *
  generalize T (grp k) s3 = t3 at *
  generalize T (grp k) s4 = t4 at *
  go_enter Try.func6, Try.ntmps6
  go_wp2_with fail
  refine (alive9 w).mono ?_
  rintro e w1 ⟨rfl, hb9⟩
  have HB := Lib.hid hb9
  have Hs1 := Lib.hid (show w.heap.size ≤ w1.heap.size from hb9.size)
  clear hb9
  go_wp2_with fail
  refine (Q1.out w1).mono ?_
  rintro e w2 ⟨rfl, hb9⟩
  replace HB := Lib.hid (below_up HB.out hb9)
  have Hs2 := Lib.hid (show w1.heap.size ≤ w2.heap.size from hb9.size)
  clear hb9
  go_wp2_with fail
  refine (Q2.out w2).mono ?_
  rintro e w3 ⟨rfl, hb9⟩
  replace HB := Lib.hid (below_up HB.out hb9)
  have Hs3 := Lib.hid (show w2.heap.size ≤ w3.heap.size from hb9.size)
  clear hb9
  unfold ciphV
  have hb9 : Below w3.heap.size w3 (w3.alloc (Obj.cells #[.string A, .string B] 41)) := ((Below.refl _ _).alloc (Nat.le_refl _) _)
  have hx90 : Bx (w3.alloc (Obj.cells #[.string A, .string B] 41)) (w3.heap.size) 41 [.string A, .string B] := by
    have h := (Bx.new w3 41 [.string A, .string B] _ rfl)
    exact h
  have hz9 : (w3.alloc (Obj.cells #[.string A, .string B] 41)).heap.size = w3.heap.size + 1 := by simp
  obtain ⟨w4, hq4⟩ : ∃ W9 : World, (w3.alloc (Obj.cells #[.string A, .string B] 41)) = W9 := ⟨_, rfl⟩
  rw [hq4] at hb9 hz9 hx90
  replace HB := Lib.hid (below_up HB.out hb9)
  have Hs4 := Lib.hid hz9
  have Hba := Lib.hid hx90
  clear hb9 hz9 hx90
  have ba_0 := Hba.out.cell (i := 0) rfl
  have ba_1 := Hba.out.cell (i := 1) rfl
  go_wp2_with fail
  clear hq4
  refine (Q3.out w4).mono ?_
  rintro e w5 ⟨rfl, hb9⟩
  clear ba_0 ba_1
  replace Hba := Lib.hid (Hba.out.up hb9)
  replace HB := Lib.hid (below_up HB.out hb9)
  have Hs5 := Lib.hid (show w4.heap.size ≤ w5.heap.size from hb9.size)
  clear hb9
  have ba_0 := Hba.out.cell (i := 0) rfl
  have ba_1 := Hba.out.cell (i := 1) rfl
  go_wp2_with fail
  refine (Q4.out w5).mono ?_
  rintro e w6 ⟨rfl, hb9⟩
  clear ba_0 ba_1
  replace Hba := Lib.hid (Hba.out.up hb9)
  replace HB := Lib.hid (below_up HB.out hb9)
  have Hs6 := Lib.hid (show w5.heap.size ≤ w6.heap.size from hb9.size)
  clear hb9
  have ba_0 := Hba.out.cell (i := 0) rfl
  have ba_1 := Hba.out.cell (i := 1) rfl
  go_wp2_with fail
  refine (Q5.out w6).mono ?_
  rintro e w7 ⟨rfl, hb9⟩
  clear ba_0 ba_1
  replace Hba := Lib.hid (Hba.out.up hb9)
  replace HB := Lib.hid (below_up HB.out hb9)
  have Hs7 := Lib.hid (show w6.heap.size ≤ w7.heap.size from hb9.size)
  clear hb9
  have ba_0 := Hba.out.cell (i := 0) rfl
  have ba_1 := Hba.out.cell (i := 1) rfl
  go_wp2_with fail
  refine (Q6.out w7).mono ?_
  rintro e w8 ⟨rfl, hb9⟩
  clear ba_0 ba_1
  replace Hba := Lib.hid (Hba.out.up hb9)
  replace HB := Lib.hid (below_up HB.out hb9)
  have Hs8 := Lib.hid (show w7.heap.size ≤ w8.heap.size from hb9.size)
  clear hb9
  have ba_0 := Hba.out.cell (i := 0) rfl
  have ba_1 := Hba.out.cell (i := 1) rfl
  go_wp2_with fail
  refine (Q7.out w8).mono ?_
  rintro e w9 ⟨rfl, hb9⟩
  clear ba_0 ba_1
  replace Hba := Lib.hid (Hba.out.up hb9)
  replace HB := Lib.hid (below_up HB.out hb9)
  have Hs9 := Lib.hid (show w8.heap.size ≤ w9.heap.size from hb9.size)
  clear hb9
  have ba_0 := Hba.out.cell (i := 0) rfl
  have ba_1 := Hba.out.cell (i := 1) rfl
  go_wp2_with fail
  refine (Q8.out w9).mono ?_
  rintro e w10 ⟨rfl, hb9⟩
  clear ba_0 ba_1
  replace Hba := Lib.hid (Hba.out.up hb9)
  replace HB := Lib.hid (below_up HB.out hb9)
  have Hs10 := Lib.hid (show w9.heap.size ≤ w10.heap.size from hb9.size)
  clear hb9
  have ba_0 := Hba.out.cell (i := 0) rfl
  have ba_1 := Hba.out.cell (i := 1) rfl
  go_wp2_with fail
  refine (Q9.out w10).mono ?_
  rintro e w11 ⟨rfl, hb9⟩
  clear ba_0 ba_1
  replace Hba := Lib.hid (Hba.out.up hb9)
  replace HB := Lib.hid (below_up HB.out hb9)
  have Hs11 := Lib.hid (show w10.heap.size ≤ w11.heap.size from hb9.size)
  clear hb9
  have ba_0 := Hba.out.cell (i := 0) rfl
  have ba_1 := Hba.out.cell (i := 1) rfl
  go_wp2_with fail
  refine (Q10.out w11).mono ?_
  rintro e w12 ⟨rfl, hb9⟩
  clear ba_0 ba_1
  replace Hba := Lib.hid (Hba.out.up hb9)
  replace HB := Lib.hid (below_up HB.out hb9)
  have Hs12 := Lib.hid (show w11.heap.size ≤ w12.heap.size from hb9.size)
  clear hb9
  have ba_0 := Hba.out.cell (i := 0) rfl
  have ba_1 := Hba.out.cell (i := 1) rfl
  unfold ciphV
  have o13_ba_0 := ba_0; clear ba_0
  have o13_ba_1 := ba_1; clear ba_1
  have hb9 : Below w12.heap.size w12 (w12.alloc (Obj.cells #[.string A, .string B] 41)) := ((Below.refl _ _).alloc (Nat.le_refl _) _)
  have hx90 : Bx (w12.alloc (Obj.cells #[.string A, .string B] 41)) (w12.heap.size) 41 [.string A, .string B] := by
    have h := (Bx.new w12 41 [.string A, .string B] _ rfl)
    exact h
  have hz9 : (w12.alloc (Obj.cells #[.string A, .string B] 41)).heap.size = w12.heap.size + 1 := by simp
  obtain ⟨w13, hq13⟩ : ∃ W9 : World, (w12.alloc (Obj.cells #[.string A, .string B] 41)) = W9 := ⟨_, rfl⟩
  rw [hq13] at hb9 hz9 hx90
  replace Hba := Lib.hid (Hba.out.up hb9)
  replace HB := Lib.hid (below_up HB.out hb9)
  have Hs13 := Lib.hid hz9
  have Hbb := Lib.hid hx90
  clear hb9 hz9 hx90
  have ba_0 := Hba.out.cell (i := 0) rfl
  have ba_1 := Hba.out.cell (i := 1) rfl
  have bb_0 := Hbb.out.cell (i := 0) rfl
  have bb_1 := Hbb.out.cell (i := 1) rfl
  by_cases hxy : tX = tY
  · have hkk := HK.out.1 hxy
    subst hxy
    subst hkk
    go_wp2_with fail
    clear hq13 o13_ba_1 o13_ba_0
    go_ret
    exact ⟨by simp, HB.out⟩
  · have hx2 : ¬ tX.toList = tY.toList := fun e => hxy (toList_inj e)
    have hk2 : ¬ tK'.toList = tK.toList := fun e => hxy (HK.out.2 (toList_inj e))
    clear hxy
    go_wp2_with fail
    clear hq13 o13_ba_1 o13_ba_0
    go_ret
    exact ⟨by simp; rw [beq_eq_false_iff_ne.2 hx2, beq_eq_false_iff_ne.2 hk2], HB.out⟩

theorem ballotCounts_any (k : Int) (s x y n : ByteArray) (w : World) :
    Calls Try.prog 6 #[.int .i64 k, .string s, .string x, .string y, .string n] w fun e w' => e = .returned (.bool true) ∧ Below w.heap.size w w' := by
  by_cases hk : 1 ≤ k ∧ k ≤ 3
  · obtain ⟨j, rfl⟩ : ∃ j : Nat, k = j := ⟨k.toNat, by omega⟩
    cases hs : isSc (grp j).q.m (grp j).size s with
    | false => exact ballotCounts_sec j (by omega) (by omega) s x y n hs w
    | true =>
      cases h9 : (isSc (grp j).q.m (grp j).size x && isSc (grp j).q.m (grp j).size n) with
      | false => exact ballotCounts_sc j (by omega) (by omega) s x y n hs h9 w
      | true =>
        simp only [Bool.and_eq_true] at h9
        have fs := isSc_lt' hs
        have fx := isSc_lt' h9.1
        have fn := isSc_lt' h9.2
        rw [T_of (isSc_size hs), T_of (isSc_size h9.1), T_of (isSc_size h9.2)]
        rcases Nat.eq_zero_or_pos (numOf n) with h0 | h0
        · rw [h0]
          exact ballotCounts_zero j (by omega) (by omega) _ _ y fs.2 fx.2 w
        · cases hy : isSc (grp j).q.m (grp j).size y with
          | false => exact ballotCounts_y j (by omega) (by omega) _ _ _ y fs.2 fx.2 h0 fn.2 hy w
          | true =>
            rw [T_of (isSc_size hy)]
            exact ballotCounts_yes j (by omega) (by omega) _ _ _ _ fs.2 fx.2 (isSc_lt' hy).2 h0 fn.2 w
  · exact ballotCounts_none k hk s x y n w

set_option maxRecDepth 100000 in
theorem ballotCounts_calls {H : Type} (enc : TypeId × Value → H) (W : World) (base : Nat) {v0 v1 v2 v3 v4 : Value} {d0 d1 d2 d3 d4 : DataW H} {p0 p1 p2 p3 p4 : List MemPlace}
    (h0 : DataW.Trod enc Try.prog W 0 (fun _ => true) true 3 v0 d0 p0) (h1 : DataW.Trod enc Try.prog W 0 (fun _ => true) true 9 v1 d1 p1) (h2 : DataW.Trod enc Try.prog W 0 (fun _ => true) true 9 v2 d2 p2) (h3 : DataW.Trod enc Try.prog W 0 (fun _ => true) true 9 v3 d3 p3) (h4 : DataW.Trod enc Try.prog W 0 (fun _ => true) true 9 v4 d4 p4)
    (k0 : Value.okWide Try.prog W .any base 3 v0) (k1 : Value.okWide Try.prog W .any base 9 v1) (k2 : Value.okWide Try.prog W .any base 9 v2) (k3 : Value.okWide Try.prog W .any base 9 v3) (k4 : Value.okWide Try.prog W .any base 9 v4)
    (_lt0 : ∀ x ∈ p0, x.block < W.heap.size) (_lt1 : ∀ x ∈ p1, x.block < W.heap.size) (_lt2 : ∀ x ∈ p2, x.block < W.heap.size) (_lt3 : ∀ x ∈ p3, x.block < W.heap.size) (_lt4 : ∀ x ∈ p4, x.block < W.heap.size)
    (_hsz : (DataW.weightsEach Try.prog ([3, 9, 9, 9, 9] ++ Rows.ballotCountsSpec.plain.varTypes Try.prog) ([d0, d1, d2, d3, d4] ++ [])).all (· ≤ reachBytes) = true) :
    Calls Try.prog 6 #[v0, v1, v2, v3, v4] W fun e w' => e = .returned (.bool true) ∧ Below W.heap.size W w' := by
  obtain ⟨a0, rfl, _, _, _⟩ := open_int Try.underlying3 k0 h0
  obtain ⟨a1, rfl, _⟩ := Go.ChangeMaps.open_string Try.underlying9 k1 h1
  obtain ⟨a2, rfl, _⟩ := Go.ChangeMaps.open_string Try.underlying9 k2 h2
  obtain ⟨a3, rfl, _⟩ := Go.ChangeMaps.open_string Try.underlying9 k3 h3
  obtain ⟨a4, rfl, _⟩ := Go.ChangeMaps.open_string Try.underlying9 k4 h4
  exact ballotCounts_any a0 a1 a2 a3 a4 W

set_option maxRecDepth 100000 in
theorem ballotCounts_lifted (os : Os) (started : os.Started) (H : Type) (enc : TypeId × Value → H) :
    ReturnsInHanded {} Try.checked os 6 .any (Rows.ballotCountsSpec.pre6 enc Try.prog Try.f6 Rows.ballotCountsRow.domain false) (Rows.ballotCountsSpec.post enc Try.prog Try.f6 false true false false) := by
  refine returnsInHanded_of_change_sized (C := Try.checked) law_own started (by kernel_rfl) Try.func6
    (ChangeSpec.witness6 (enc := enc) (C := Try.checked) false ⟨#[], #[.int .i64 0, .string ⟨#[]⟩, .string ⟨#[]⟩, .string ⟨#[]⟩, .string ⟨#[]⟩], []⟩ 8 (by kernel_rfl) (by kernel_rfl) (by kernel_rfl) (by kernel_rfl)) ?_
  intro W base args ds gs before hval0 hW _ hsz0 _
  have hsz : (DataW.weightsEach Try.prog (Try.f6.params.toList ++ Rows.ballotCountsSpec.plain.varTypes Try.prog) (ds ++ gs)).all (· ≤ reachBytes) = true := hsz0
  clear hsz0
  have hval : ∀ (j : Nat) t v, Try.f6.params[j]? = some t → args[j]? = some v → Value.okWide Try.prog W .any base t v := hval0
  have hW' := hW
  obtain ⟨p, q, hA0, hV, rfl, _, _⟩ := hW
  have hA : DataW.TrodAll enc Try.prog W 0 (fun _ => true) true Try.f6.params.toList args.toList ds p := hA0
  rw [Try.params6] at hA hval hsz
  obtain ⟨v0, vs0, d0, ds0, p0, q0, hargs, rfl, rfl, h0, r0⟩ := trodAll_cons hA
  obtain ⟨v1, vs1, d1, ds1, p1, q1, rfl, rfl, rfl, h1, r1⟩ := trodAll_cons r0
  obtain ⟨v2, vs2, d2, ds2, p2, q2, rfl, rfl, rfl, h2, r2⟩ := trodAll_cons r1
  obtain ⟨v3, vs3, d3, ds3, p3, q3, rfl, rfl, rfl, h3, r3⟩ := trodAll_cons r2
  obtain ⟨v4, vs4, d4, ds4, p4, q4, rfl, rfl, rfl, h4, r4⟩ := trodAll_cons r3
  obtain ⟨rfl, rfl, rfl⟩ := trodAll_nil r4
  obtain rfl : args = #[v0, v1, v2, v3, v4] := by cases args; simp_all
  obtain ⟨rfl, rfl⟩ := trodVars_none hV
  have lt0 : ∀ x ∈ p0, x.block < W.heap.size := by obtain ⟨m, hm⟩ := h0; exact DataW.trod_lt m _ _ _ hm
  have lt1 : ∀ x ∈ p1, x.block < W.heap.size := by obtain ⟨m, hm⟩ := h1; exact DataW.trod_lt m _ _ _ hm
  have lt2 : ∀ x ∈ p2, x.block < W.heap.size := by obtain ⟨m, hm⟩ := h2; exact DataW.trod_lt m _ _ _ hm
  have lt3 : ∀ x ∈ p3, x.block < W.heap.size := by obtain ⟨m, hm⟩ := h3; exact DataW.trod_lt m _ _ _ hm
  have lt4 : ∀ x ∈ p4, x.block < W.heap.size := by obtain ⟨m, hm⟩ := h4; exact DataW.trod_lt m _ _ _ hm
  clear hA0 hval0
  refine (ballotCounts_calls enc W base h0 h1 h2 h3 h4 (hval 0 3 v0 rfl rfl) (hval 1 9 v1 rfl rfl) (hval 2 9 v2 rfl rfl) (hval 3 9 v3 rfl rfl) (hval 4 9 v4 rfl rfl) lt0 lt1 lt2 lt3 lt4 hsz).mono fun e W' ⟨he, bel⟩ => ?_
  subst he
  exact ⟨_, rfl, _, _, _, [], _, [], hW', trodAll_mk1 (shut_bool Try.underlying4 _), (trodAll_cons_mk (Below.trod law_laidOut (by kernel_rfl) (of_decide_eq_true (by kernel_rfl)) h0 bel lt0) (trodAll_cons_mk (Below.trod law_laidOut (by kernel_rfl) (of_decide_eq_true (by kernel_rfl)) h1 bel lt1) (trodAll_cons_mk (Below.trod law_laidOut (by kernel_rfl) (of_decide_eq_true (by kernel_rfl)) h2 bel lt2) (trodAll_cons_mk (Below.trod law_laidOut (by kernel_rfl) (of_decide_eq_true (by kernel_rfl)) h3 bel lt3) (trodAll_cons_mk (Below.trod law_laidOut (by kernel_rfl) (of_decide_eq_true (by kernel_rfl)) h4 bel lt4) trodAll_mk0))))), rfl, bel.frame _, fun h => by cases h⟩

theorem ballotCounts_holds : Rows.BallotCountsSaid :=
  OpenClaim.holds_of_wide 6 Try.f6 rfl rfl rfl rfl rfl rfl rfl ⟨rfl, rfl, rfl, rfl, rfl⟩ rfl rfl rfl rfl rfl (by kernel_rfl) Try.func6 (by kernel_rfl)
    (of_decide_eq_true (by kernel_rfl)) (by unfold Func.isWrapper; first | (rw [if_pos (by decide +kernel)]; kernel_rfl) | (rw [if_neg (by decide +kernel)]; exact ⟨rfl, rfl⟩))
    (fun os started H enc _ => ballotCounts_lifted os started H enc)
#print axioms ballotCounts_holds



end Go.Proofs.Ytipgjookfdkciaa
