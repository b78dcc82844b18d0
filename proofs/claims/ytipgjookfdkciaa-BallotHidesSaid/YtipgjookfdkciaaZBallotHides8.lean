/- BallotHides: Encrypt, Sum, Renew and Decrypt of anything answer what the document says. No condition. -/
import Derived.Test.YtipgjookfdkciaaZBallotHides7

namespace Go.Proofs.Ytipgjookfdkciaa
open Go.ChangeShapes Go.WideShapes Go.ChangeAt Go.RowKit

theorem grp_int (k : Int) : (¬ (1 ≤ k ∧ k ≤ 3)) ∨ ∃ j : Nat, k = j ∧ 1 ≤ j ∧ j ≤ 3 := by
  by_cases h : 1 ≤ k ∧ k ≤ 3
  · exact Or.inr ⟨k.toNat, by omega, by omega, by omega⟩
  · exact Or.inl h
theorem isSc_mod {G : GP} {s : ByteArray} (h : isSc G.q.m G.size s = true) : numOf s % G.q.m = numOf s := by
  unfold isSc at h
  simp only [Bool.and_eq_true, decide_eq_true_eq] at h
  exact Nat.mod_eq_of_lt h.2

theorem encBoth (k : Int) (key x n : ByteArray) : ∃ a b e, (∀ w, Calls Try.prog 21 #[.int .i64 k, .string key, .string x, .string n] w (Gives (.tuple #[ciphV a b, .int .i64 e]) w)) ∧
    (∀ w, Calls Try.prog 22 #[.int .i64 k, .string key, .string x, .string n] w (Gives (.tuple #[ciphV a b, .int .i64 e]) w)) := by
  rcases grp_int k with h | ⟨j, rfl, h1, h3⟩
  · exact ⟨_, _, _, fun w => enc_none k h key x n w, fun w => rEnc_none k h key x n w⟩
  · cases hk : isEl (grp j).q.m (grp j).size key with
    | false => exact ⟨_, _, _, fun w => enc_no j h1 h3 key x n hk w, fun w => rEnc_some j h1 h3 key x n _ _ _ hk rfl rfl w⟩
    | true =>
      have he := fun w => enc_yes j h1 h3 key x n hk _ _ rfl rfl w
      have hr := fun w => rEnc_some j h1 h3 key x n _ _ _ hk rfl rfl w
      cases hx : isSc (grp j).q.m (grp j).size x with
      | false =>
        simp only [hx, Bool.false_and, if_true, Bool.false_eq_true, if_false] at he hr
        exact ⟨_, _, _, he, hr⟩
      | true =>
        cases hn : isSc (grp j).q.m (grp j).size n with
        | false =>
          simp only [hx, hn, Bool.and_false, if_true, Bool.false_eq_true, if_false] at he hr
          exact ⟨_, _, _, he, hr⟩
        | true =>
          simp only [hx, hn, Bool.and_self, if_true, isSc_mod hx, isSc_mod hn] at he hr
          refine ⟨_, _, _, he, fun w => ?_⟩
          have h := hr w
          rw [Nat.mul_comm (2 ^ numOf x)] at h
          exact h

theorem cipOk_def (G : GP) (c : ByteArray × ByteArray) : (isEl G.q.m G.size c.1 && isEl G.q.m G.size c.2) = cipOk G c := rfl

theorem renewBoth (k : Int) (key n : ByteArray) (c : ByteArray × ByteArray) : ∃ a b e, (∀ w, Calls Try.prog 25 #[.int .i64 k, .string key, ciphV c.1 c.2, .string n] w (Gives (.tuple #[ciphV a b, .int .i64 e]) w)) ∧
    (∀ w, Calls Try.prog 26 #[.int .i64 k, .string key, ciphV c.1 c.2, .string n] w (Gives (.tuple #[ciphV a b, .int .i64 e]) w)) := by
  rcases grp_int k with h | ⟨j, rfl, h1, h3⟩
  · exact ⟨_, _, _, fun w => renew_none k h key c.1 c.2 n w, fun w => rRenew_none k h key n c w⟩
  · cases hk : isEl (grp j).q.m (grp j).size key with
    | false => exact ⟨_, _, _, fun w => renew_no j h1 h3 key c.1 c.2 n hk w, fun w => rRenew_some j h1 h3 key n c _ _ _ hk rfl rfl w⟩
    | true =>
      have he := fun w => renew_yes j h1 h3 key c.1 c.2 n hk _ _ _ rfl rfl rfl w
      have hr := fun w => rRenew_some j h1 h3 key n c _ _ _ hk rfl rfl w
      simp only [cipOk_def] at he
      cases hc : cipOk (grp j) c with
      | false =>
        simp only [hc, Bool.and_false, Bool.false_eq_true, if_false] at he hr
        exact ⟨_, _, _, he, hr⟩
      | true =>
        cases hn : isSc (grp j).q.m (grp j).size n with
        | false =>
          simp only [hc, hn, Bool.and_self, if_true, Bool.false_eq_true, if_false] at he hr
          exact ⟨_, _, _, he, hr⟩
        | true =>
          simp only [hc, hn, Bool.and_self, if_true, isSc_mod hn] at he hr
          exact ⟨_, _, _, he, hr⟩

theorem sumBoth (k : Int) (l : List (ByteArray × ByteArray)) (al : Option Addr) (cl : Nat) (hl : l.length ≤ 4398046511103) : ∃ a b e, (∀ w, Sl w w.heap.size al (l.flatMap cipC) → Calls Try.prog 23 #[.int .i64 k, .slice al l.length cl] w (Gives (.tuple #[ciphV a b, .int .i64 e]) w)) ∧
    (∀ w, Sl w w.heap.size al (l.flatMap cipC) → Calls Try.prog 24 #[.int .i64 k, .slice al l.length cl] w (Gives (.tuple #[ciphV a b, .int .i64 e]) w)) := by
  rcases grp_int k with h | ⟨j, rfl, h1, h3⟩
  · exact ⟨_, _, _, fun w _ => sum_none k h _ w, fun w _ => rSum_none k h _ w⟩
  · have he := fun w h => sum_some j h1 h3 l al cl hl w h
    have hr := fun w h => rSum_some j h1 h3 l al cl hl w h
    unfold sumE at he hr
    cases hc : l.all (cipOk (grp j)) with
    | false =>
      simp only [hc, Bool.false_eq_true, if_false] at he hr
      exact ⟨_, _, _, he, hr⟩
    | true =>
      simp only [hc, if_true] at he hr
      exact ⟨_, _, _, he, hr⟩

theorem decrBoth (k : Int) (x : ByteArray) (c : ByteArray × ByteArray) : ∃ a e, (∀ w, Calls Try.prog 27 #[.int .i64 k, .string x, ciphV c.1 c.2] w (Gives (.tuple #[.string a, .int .i64 e]) w)) ∧
    (∀ w, Calls Try.prog 28 #[.int .i64 k, .string x, ciphV c.1 c.2] w (Gives (.tuple #[.string a, .int .i64 e]) w)) := by
  rcases grp_int k with h | ⟨j, rfl, h1, h3⟩
  · exact ⟨_, _, fun w => decr_none k h x c.1 c.2 w, fun w => rDecr_none k h x c w⟩
  · have he := fun w => decr_some j h1 h3 x c.1 c.2 _ _ _ rfl rfl rfl w
    have hr := fun w => rDecr_some j h1 h3 x c _ _ rfl rfl w
    simp only [cipOk_def] at he
    cases hx : isSc (grp j).q.m (grp j).size x with
    | false =>
      simp only [hx, Bool.false_eq_true, if_false] at he hr
      exact ⟨_, _, he, hr⟩
    | true =>
      cases hc : cipOk (grp j) c with
      | false =>
        simp only [hx, hc, if_true, Bool.false_eq_true, if_false] at he hr
        exact ⟨_, _, he, hr⟩
      | true =>
        simp only [hx, hc, if_true, isSc_mod hx] at he hr
        refine ⟨_, _, he, fun w => ?_⟩
        have h := hr w
        have ok := grp_ok j h1 h3
        have hel : 0 < numOf c.1 ∧ numOf c.1 ≤ (grp j).q.m := by
          have h9 := hc
          unfold cipOk isEl at h9
          simp only [Bool.and_eq_true, decide_eq_true_eq] at h9
          exact ⟨h9.1.1.2, h9.1.2⟩
        have hu : lowN (grp j) (numOf c.2 * (numOf c.1 ^ numOf x) ^ ((grp j).p.m - 2)) = lowN (grp j) (numOf c.2 * (numOf c.1 ^ numOf x) ^ ((grp j).q.m - 1)) := by
          rw [← lowN_mulR ok, ← lowN_mulR ok (numOf c.2) ((numOf c.1 ^ numOf x) ^ ((grp j).q.m - 1)), ← lowN_pow ok (numOf c.1 ^ numOf x), ← lowN_pow ok (numOf c.1 ^ numOf x) ((grp j).q.m - 1)]
          have hp : 0 < lowN (grp j) (numOf c.1 ^ numOf x) := Lw_pos ok.twice ((grp_prime_p j h1 h3).not_dvd_pow (not_dvd_small hel.1 (by have := ok.twice; omega)) _)
          have h9 := under_low (grp_prime_p j h1 h3) ok.twice ok.q.pos hp (lowN_le ok _)
          exact congrArg (fun z => lowN (grp j) (numOf c.2 * z)) h9
        rw [hu]
        exact h

set_option maxRecDepth 100000 in
set_option maxHeartbeats 2000000 in
theorem ballotHides_any (k : Int) (key x n s : ByteArray) (l : List (ByteArray × ByteArray)) (al : Option Addr) (cl : Nat) (hl : l.length ≤ 4398046511103) (c : ByteArray × ByteArray) (w : World) (hS : Sl w w.heap.size al (l.flatMap cipC)) :
    Calls Try.prog 5 #[.int .i64 k, .string key, .string x, .string n, .slice al l.length cl, ciphV c.1 c.2, .string s] w fun e w' => e = .returned (.bool true) ∧ Below w.heap.size w w' := by
  obtain ⟨a1, b1, e1, he1, hr1⟩ := encBoth k key x n
  obtain ⟨a2, b2, e2, he2, hr2⟩ := sumBoth k l al cl hl
  obtain ⟨a3, b3, e3, he3, hr3⟩ := renewBoth k key n c
  obtain ⟨a4, e4, he4, hr4⟩ := decrBoth k s c
  have HS := Lib.hid hS
  have HE1 := Lib.hid he1
  have HE2 := Lib.hid he2
  have HE3 := Lib.hid he3
  have HE4 := Lib.hid he4
  have HR1 := Lib.hid hr1
  have HR2 := Lib.hid hr2
  have HR3 := Lib.hid hr3
  have HR4 := Lib.hid hr4
  clear hS he1 he2 he3 he4 hr1 hr2 hr3 hr4
  unfold ciphV
  go_enter Try.func5, Try.ntmps5
  go_wp2_with fail
  have hb9 : Below w.heap.size w (w.alloc (Obj.cells #[.string c.1, .string c.2] 41)) := ((Below.refl _ _).alloc (Nat.le_refl _) _)
  have hx90 : Bx (w.alloc (Obj.cells #[.string c.1, .string c.2] 41)) (w.heap.size) 41 [.string c.1, .string c.2] := by
    have h := (Bx.new w 41 [.string c.1, .string c.2] _ rfl)
    exact h
  have hz9 : (w.alloc (Obj.cells #[.string c.1, .string c.2] 41)).heap.size = w.heap.size + 1 := by simp
  obtain ⟨w1, hq1⟩ : ∃ W9 : World, (w.alloc (Obj.cells #[.string c.1, .string c.2] 41)) = W9 := ⟨_, rfl⟩
  rw [hq1] at hb9 hz9 hx90
  rw [hq1]
  clear hq1
  have HB := Lib.hid hb9
  have Hs1 := Lib.hid hz9
  have Hbi := Lib.hid hx90
  clear hb9 hz9 hx90
  have bi_0 := Hbi.out.cell (i := 0) rfl
  have bi_1 := Hbi.out.cell (i := 1) rfl
  go_wp2_with fail
  refine (HE1.out w1).mono ?_
  rintro e w2 ⟨rfl, hb9⟩
  clear bi_0 bi_1
  replace Hbi := Lib.hid (Hbi.out.up hb9)
  replace HB := Lib.hid (below_up HB.out hb9)
  have Hs2 := Lib.hid (show w1.heap.size ≤ w2.heap.size from hb9.size)
  clear hb9
  have bi_0 := Hbi.out.cell (i := 0) rfl
  have bi_1 := Hbi.out.cell (i := 1) rfl
  unfold ciphV
  clear bi_0 bi_1
  have hb9 : Below w2.heap.size w2 (w2.alloc (Obj.cells #[.string a1, .string b1] 41)) := ((Below.refl _ _).alloc (Nat.le_refl _) _)
  have hx90 : Bx (w2.alloc (Obj.cells #[.string a1, .string b1] 41)) (w2.heap.size) 41 [.string a1, .string b1] := by
    have h := (Bx.new w2 41 [.string a1, .string b1] _ rfl)
    exact h
  have hz9 : (w2.alloc (Obj.cells #[.string a1, .string b1] 41)).heap.size = w2.heap.size + 1 := by simp
  obtain ⟨w3, hq3⟩ : ∃ W9 : World, (w2.alloc (Obj.cells #[.string a1, .string b1] 41)) = W9 := ⟨_, rfl⟩
  rw [hq3] at hb9 hz9 hx90
  replace Hbi := Lib.hid (Hbi.out.up hb9)
  replace HB := Lib.hid (below_up HB.out hb9)
  have Hs3 := Lib.hid hz9
  have Hba := Lib.hid hx90
  clear hb9 hz9 hx90
  have bi_0 := Hbi.out.cell (i := 0) rfl
  have bi_1 := Hbi.out.cell (i := 1) rfl
  have ba_0 := Hba.out.cell (i := 0) rfl
  have ba_1 := Hba.out.cell (i := 1) rfl
  go_wp2_with fail
  clear hq3
  refine (HR1.out w3).mono ?_
  rintro e w4 ⟨rfl, hb9⟩
  clear bi_0 bi_1
  replace Hbi := Lib.hid (Hbi.out.up hb9)
  clear ba_0 ba_1
  replace Hba := Lib.hid (Hba.out.up hb9)
  replace HB := Lib.hid (below_up HB.out hb9)
  have Hs4 := Lib.hid (show w3.heap.size ≤ w4.heap.size from hb9.size)
  clear hb9
  have bi_0 := Hbi.out.cell (i := 0) rfl
  have bi_1 := Hbi.out.cell (i := 1) rfl
  have ba_0 := Hba.out.cell (i := 0) rfl
  have ba_1 := Hba.out.cell (i := 1) rfl
  unfold ciphV
  clear bi_0 bi_1
  clear ba_0 ba_1
  have hb9 : Below w4.heap.size w4 (w4.alloc (Obj.cells #[.string a1, .string b1] 41)) := ((Below.refl _ _).alloc (Nat.le_refl _) _)
  have hx90 : Bx (w4.alloc (Obj.cells #[.string a1, .string b1] 41)) (w4.heap.size) 41 [.string a1, .string b1] := by
    have h := (Bx.new w4 41 [.string a1, .string b1] _ rfl)
    exact h
  have hz9 : (w4.alloc (Obj.cells #[.string a1, .string b1] 41)).heap.size = w4.heap.size + 1 := by simp
  obtain ⟨w5, hq5⟩ : ∃ W9 : World, (w4.alloc (Obj.cells #[.string a1, .string b1] 41)) = W9 := ⟨_, rfl⟩
  rw [hq5] at hb9 hz9 hx90
  replace Hbi := Lib.hid (Hbi.out.up hb9)
  replace Hba := Lib.hid (Hba.out.up hb9)
  replace HB := Lib.hid (below_up HB.out hb9)
  have Hs5 := Lib.hid hz9
  have Hbb := Lib.hid hx90
  clear hb9 hz9 hx90
  have bi_0 := Hbi.out.cell (i := 0) rfl
  have bi_1 := Hbi.out.cell (i := 1) rfl
  have ba_0 := Hba.out.cell (i := 0) rfl
  have ba_1 := Hba.out.cell (i := 1) rfl
  have bb_0 := Hbb.out.cell (i := 0) rfl
  have bb_1 := Hbb.out.cell (i := 1) rfl
  go_wp2_with fail
  clear hq5
  refine (HE2.out w5 (HS.out.up HB.out)).mono ?_
  rintro e w6 ⟨rfl, hb9⟩
  clear bi_0 bi_1
  replace Hbi := Lib.hid (Hbi.out.up hb9)
  clear ba_0 ba_1
  replace Hba := Lib.hid (Hba.out.up hb9)
  clear bb_0 bb_1
  replace Hbb := Lib.hid (Hbb.out.up hb9)
  replace HB := Lib.hid (below_up HB.out hb9)
  have Hs6 := Lib.hid (show w5.heap.size ≤ w6.heap.size from hb9.size)
  clear hb9
  have bi_0 := Hbi.out.cell (i := 0) rfl
  have bi_1 := Hbi.out.cell (i := 1) rfl
  have ba_0 := Hba.out.cell (i := 0) rfl
  have ba_1 := Hba.out.cell (i := 1) rfl
  have bb_0 := Hbb.out.cell (i := 0) rfl
  have bb_1 := Hbb.out.cell (i := 1) rfl
  unfold ciphV
  have f7_ba_0 := Hba.out.frozen 0
  have f7_ba_1 := Hba.out.frozen 1
  have o7_bi_0 := bi_0; clear bi_0
  have o7_bi_1 := bi_1; clear bi_1
  have o7_ba_0 := ba_0; clear ba_0
  have o7_ba_1 := ba_1; clear ba_1
  have o7_bb_0 := bb_0; clear bb_0
  have o7_bb_1 := bb_1; clear bb_1
  have hx9 : Bx ((w6.setCell ⟨w2.heap.size, 0, none⟩ (.string a2)).setCell ⟨w2.heap.size, 1, none⟩ (.string b2)) (w2.heap.size) 41 [.string a2, .string b2] := ((Hba.out.set 0 (.string a2)).set 1 (.string b2))
  have hb9 : Below w.heap.size w ((w6.setCell ⟨w2.heap.size, 0, none⟩ (.string a2)).setCell ⟨w2.heap.size, 1, none⟩ (.string b2)) := ((HB.out.setCell (show w.heap.size ≤ w2.heap.size by have g0 := Hs1.out; have g1 := Hs2.out; have g2 := Hs3.out; have g3 := Hs4.out; have g4 := Hs5.out; have g5 := Hs6.out; omega) _).setCell (show w.heap.size ≤ w2.heap.size by have g0 := Hs1.out; have g1 := Hs2.out; have g2 := Hs3.out; have g3 := Hs4.out; have g4 := Hs5.out; have g5 := Hs6.out; omega) _)
  have hz9 : ((w6.setCell ⟨w2.heap.size, 0, none⟩ (.string a2)).setCell ⟨w2.heap.size, 1, none⟩ (.string b2)).heap.size = w6.heap.size := by simp [World.setCell]
  have ho9Hbi := ((Hbi.out.other (show _ ≠ w2.heap.size by have g0 := Hs1.out; have g1 := Hs2.out; have g2 := Hs3.out; have g3 := Hs4.out; have g4 := Hs5.out; have g5 := Hs6.out; omega) 0 (.string a2)).other (show _ ≠ w2.heap.size by have g0 := Hs1.out; have g1 := Hs2.out; have g2 := Hs3.out; have g3 := Hs4.out; have g4 := Hs5.out; have g5 := Hs6.out; omega) 1 (.string b2))
  have ho9Hbb := ((Hbb.out.other (show _ ≠ w2.heap.size by have g0 := Hs1.out; have g1 := Hs2.out; have g2 := Hs3.out; have g3 := Hs4.out; have g4 := Hs5.out; have g5 := Hs6.out; omega) 0 (.string a2)).other (show _ ≠ w2.heap.size by have g0 := Hs1.out; have g1 := Hs2.out; have g2 := Hs3.out; have g3 := Hs4.out; have g4 := Hs5.out; have g5 := Hs6.out; omega) 1 (.string b2))
  obtain ⟨w7, hq7⟩ : ∃ W9 : World, ((w6.setCell ⟨w2.heap.size, 0, none⟩ (.string a2)).setCell ⟨w2.heap.size, 1, none⟩ (.string b2)) = W9 := ⟨_, rfl⟩
  rw [hq7] at hx9 hb9 hz9 ho9Hbi ho9Hbb
  clear Hba HB
  have Hba := Lib.hid hx9
  have HB := Lib.hid hb9
  have Hs7 := Lib.hid hz9
  replace Hbi := Lib.hid ho9Hbi
  replace Hbb := Lib.hid ho9Hbb
  clear hx9 hb9 hz9 ho9Hbi ho9Hbb
  have bi_0 := Hbi.out.cell (i := 0) rfl
  have bi_1 := Hbi.out.cell (i := 1) rfl
  have ba_0 := Hba.out.cell (i := 0) rfl
  have ba_1 := Hba.out.cell (i := 1) rfl
  have bb_0 := Hbb.out.cell (i := 0) rfl
  have bb_1 := Hbb.out.cell (i := 1) rfl
  go_wp2_with fail
  clear hq7 o7_bb_1 o7_bb_0 o7_ba_1 o7_ba_0 o7_bi_1 o7_bi_0 f7_ba_1 f7_ba_0
  refine (HR2.out w7 (HS.out.up HB.out)).mono ?_
  rintro e w8 ⟨rfl, hb9⟩
  clear bi_0 bi_1
  replace Hbi := Lib.hid (Hbi.out.up hb9)
  clear ba_0 ba_1
  replace Hba := Lib.hid (Hba.out.up hb9)
  clear bb_0 bb_1
  replace Hbb := Lib.hid (Hbb.out.up hb9)
  replace HB := Lib.hid (below_up HB.out hb9)
  have Hs8 := Lib.hid (show w7.heap.size ≤ w8.heap.size from hb9.size)
  clear hb9
  have bi_0 := Hbi.out.cell (i := 0) rfl
  have bi_1 := Hbi.out.cell (i := 1) rfl
  have ba_0 := Hba.out.cell (i := 0) rfl
  have ba_1 := Hba.out.cell (i := 1) rfl
  have bb_0 := Hbb.out.cell (i := 0) rfl
  have bb_1 := Hbb.out.cell (i := 1) rfl
  unfold ciphV
  have f9_bb_0 := Hbb.out.frozen 0
  have f9_bb_1 := Hbb.out.frozen 1
  have o9_bi_0 := bi_0; clear bi_0
  have o9_bi_1 := bi_1; clear bi_1
  have o9_ba_0 := ba_0; clear ba_0
  have o9_ba_1 := ba_1; clear ba_1
  have o9_bb_0 := bb_0; clear bb_0
  have o9_bb_1 := bb_1; clear bb_1
  have hx9 : Bx ((w8.setCell ⟨w4.heap.size, 0, none⟩ (.string a2)).setCell ⟨w4.heap.size, 1, none⟩ (.string b2)) (w4.heap.size) 41 [.string a2, .string b2] := ((Hbb.out.set 0 (.string a2)).set 1 (.string b2))
  have hb9 : Below w.heap.size w ((w8.setCell ⟨w4.heap.size, 0, none⟩ (.string a2)).setCell ⟨w4.heap.size, 1, none⟩ (.string b2)) := ((HB.out.setCell (show w.heap.size ≤ w4.heap.size by have g0 := Hs1.out; have g1 := Hs2.out; have g2 := Hs3.out; have g3 := Hs4.out; have g4 := Hs5.out; have g5 := Hs6.out; have g6 := Hs7.out; have g7 := Hs8.out; omega) _).setCell (show w.heap.size ≤ w4.heap.size by have g0 := Hs1.out; have g1 := Hs2.out; have g2 := Hs3.out; have g3 := Hs4.out; have g4 := Hs5.out; have g5 := Hs6.out; have g6 := Hs7.out; have g7 := Hs8.out; omega) _)
  have hz9 : ((w8.setCell ⟨w4.heap.size, 0, none⟩ (.string a2)).setCell ⟨w4.heap.size, 1, none⟩ (.string b2)).heap.size = w8.heap.size := by simp [World.setCell]
  have ho9Hbi := ((Hbi.out.other (show _ ≠ w4.heap.size by have g0 := Hs1.out; have g1 := Hs2.out; have g2 := Hs3.out; have g3 := Hs4.out; have g4 := Hs5.out; have g5 := Hs6.out; have g6 := Hs7.out; have g7 := Hs8.out; omega) 0 (.string a2)).other (show _ ≠ w4.heap.size by have g0 := Hs1.out; have g1 := Hs2.out; have g2 := Hs3.out; have g3 := Hs4.out; have g4 := Hs5.out; have g5 := Hs6.out; have g6 := Hs7.out; have g7 := Hs8.out; omega) 1 (.string b2))
  have ho9Hba := ((Hba.out.other (show _ ≠ w4.heap.size by have g0 := Hs1.out; have g1 := Hs2.out; have g2 := Hs3.out; have g3 := Hs4.out; have g4 := Hs5.out; have g5 := Hs6.out; have g6 := Hs7.out; have g7 := Hs8.out; omega) 0 (.string a2)).other (show _ ≠ w4.heap.size by have g0 := Hs1.out; have g1 := Hs2.out; have g2 := Hs3.out; have g3 := Hs4.out; have g4 := Hs5.out; have g5 := Hs6.out; have g6 := Hs7.out; have g7 := Hs8.out; omega) 1 (.string b2))
  obtain ⟨w9, hq9⟩ : ∃ W9 : World, ((w8.setCell ⟨w4.heap.size, 0, none⟩ (.string a2)).setCell ⟨w4.heap.size, 1, none⟩ (.string b2)) = W9 := ⟨_, rfl⟩
  rw [hq9] at hx9 hb9 hz9 ho9Hbi ho9Hba
  clear Hbb HB
  have Hbb := Lib.hid hx9
  have HB := Lib.hid hb9
  have Hs9 := Lib.hid hz9
  replace Hbi := Lib.hid ho9Hbi
  replace Hba := Lib.hid ho9Hba
  clear hx9 hb9 hz9 ho9Hbi ho9Hba
  have bi_0 := Hbi.out.cell (i := 0) rfl
  have bi_1 := Hbi.out.cell (i := 1) rfl
  have ba_0 := Hba.out.cell (i := 0) rfl
  have ba_1 := Hba.out.cell (i := 1) rfl
  have bb_0 := Hbb.out.cell (i := 0) rfl
  have bb_1 := Hbb.out.cell (i := 1) rfl
  go_wp2_with fail
  clear hq9 o9_bb_1 o9_bb_0 o9_ba_1 o9_ba_0 o9_bi_1 o9_bi_0 f9_bb_1 f9_bb_0
  refine (HE3.out w9).mono ?_
  rintro e w10 ⟨rfl, hb9⟩
  clear bi_0 bi_1
  replace Hbi := Lib.hid (Hbi.out.up hb9)
  clear ba_0 ba_1
  replace Hba := Lib.hid (Hba.out.up hb9)
  clear bb_0 bb_1
  replace Hbb := Lib.hid (Hbb.out.up hb9)
  replace HB := Lib.hid (below_up HB.out hb9)
  have Hs10 := Lib.hid (show w9.heap.size ≤ w10.heap.size from hb9.size)
  clear hb9
  have bi_0 := Hbi.out.cell (i := 0) rfl
  have bi_1 := Hbi.out.cell (i := 1) rfl
  have ba_0 := Hba.out.cell (i := 0) rfl
  have ba_1 := Hba.out.cell (i := 1) rfl
  have bb_0 := Hbb.out.cell (i := 0) rfl
  have bb_1 := Hbb.out.cell (i := 1) rfl
  unfold ciphV
  have f11_ba_0 := Hba.out.frozen 0
  have f11_ba_1 := Hba.out.frozen 1
  have o11_bi_0 := bi_0; clear bi_0
  have o11_bi_1 := bi_1; clear bi_1
  have o11_ba_0 := ba_0; clear ba_0
  have o11_ba_1 := ba_1; clear ba_1
  have o11_bb_0 := bb_0; clear bb_0
  have o11_bb_1 := bb_1; clear bb_1
  have hx9 : Bx ((w10.setCell ⟨w2.heap.size, 0, none⟩ (.string a3)).setCell ⟨w2.heap.size, 1, none⟩ (.string b3)) (w2.heap.size) 41 [.string a3, .string b3] := ((Hba.out.set 0 (.string a3)).set 1 (.string b3))
  have hb9 : Below w.heap.size w ((w10.setCell ⟨w2.heap.size, 0, none⟩ (.string a3)).setCell ⟨w2.heap.size, 1, none⟩ (.string b3)) := ((HB.out.setCell (show w.heap.size ≤ w2.heap.size by have g0 := Hs1.out; have g1 := Hs2.out; have g2 := Hs3.out; have g3 := Hs4.out; have g4 := Hs5.out; have g5 := Hs6.out; have g6 := Hs7.out; have g7 := Hs8.out; have g8 := Hs9.out; have g9 := Hs10.out; omega) _).setCell (show w.heap.size ≤ w2.heap.size by have g0 := Hs1.out; have g1 := Hs2.out; have g2 := Hs3.out; have g3 := Hs4.out; have g4 := Hs5.out; have g5 := Hs6.out; have g6 := Hs7.out; have g7 := Hs8.out; have g8 := Hs9.out; have g9 := Hs10.out; omega) _)
  have hz9 : ((w10.setCell ⟨w2.heap.size, 0, none⟩ (.string a3)).setCell ⟨w2.heap.size, 1, none⟩ (.string b3)).heap.size = w10.heap.size := by simp [World.setCell]
  have ho9Hbi := ((Hbi.out.other (show _ ≠ w2.heap.size by have g0 := Hs1.out; have g1 := Hs2.out; have g2 := Hs3.out; have g3 := Hs4.out; have g4 := Hs5.out; have g5 := Hs6.out; have g6 := Hs7.out; have g7 := Hs8.out; have g8 := Hs9.out; have g9 := Hs10.out; omega) 0 (.string a3)).other (show _ ≠ w2.heap.size by have g0 := Hs1.out; have g1 := Hs2.out; have g2 := Hs3.out; have g3 := Hs4.out; have g4 := Hs5.out; have g5 := Hs6.out; have g6 := Hs7.out; have g7 := Hs8.out; have g8 := Hs9.out; have g9 := Hs10.out; omega) 1 (.string b3))
  have ho9Hbb := ((Hbb.out.other (show _ ≠ w2.heap.size by have g0 := Hs1.out; have g1 := Hs2.out; have g2 := Hs3.out; have g3 := Hs4.out; have g4 := Hs5.out; have g5 := Hs6.out; have g6 := Hs7.out; have g7 := Hs8.out; have g8 := Hs9.out; have g9 := Hs10.out; omega) 0 (.string a3)).other (show _ ≠ w2.heap.size by have g0 := Hs1.out; have g1 := Hs2.out; have g2 := Hs3.out; have g3 := Hs4.out; have g4 := Hs5.out; have g5 := Hs6.out; have g6 := Hs7.out; have g7 := Hs8.out; have g8 := Hs9.out; have g9 := Hs10.out; omega) 1 (.string b3))
  obtain ⟨w11, hq11⟩ : ∃ W9 : World, ((w10.setCell ⟨w2.heap.size, 0, none⟩ (.string a3)).setCell ⟨w2.heap.size, 1, none⟩ (.string b3)) = W9 := ⟨_, rfl⟩
  rw [hq11] at hx9 hb9 hz9 ho9Hbi ho9Hbb
  clear Hba HB
  have Hba := Lib.hid hx9
  have HB := Lib.hid hb9
  have Hs11 := Lib.hid hz9
  replace Hbi := Lib.hid ho9Hbi
  replace Hbb := Lib.hid ho9Hbb
  clear hx9 hb9 hz9 ho9Hbi ho9Hbb
  have bi_0 := Hbi.out.cell (i := 0) rfl
  have bi_1 := Hbi.out.cell (i := 1) rfl
  have ba_0 := Hba.out.cell (i := 0) rfl
  have ba_1 := Hba.out.cell (i := 1) rfl
  have bb_0 := Hbb.out.cell (i := 0) rfl
  have bb_1 := Hbb.out.cell (i := 1) rfl
  go_wp2_with fail
  clear hq11 o11_bb_1 o11_bb_0 o11_ba_1 o11_ba_0 o11_bi_1 o11_bi_0 f11_ba_1 f11_ba_0
  refine (HR3.out w11).mono ?_
  rintro e w12 ⟨rfl, hb9⟩
  clear bi_0 bi_1
  replace Hbi := Lib.hid (Hbi.out.up hb9)
  clear ba_0 ba_1
  replace Hba := Lib.hid (Hba.out.up hb9)
  clear bb_0 bb_1
  replace Hbb := Lib.hid (Hbb.out.up hb9)
  replace HB := Lib.hid (below_up HB.out hb9)
  have Hs12 := Lib.hid (show w11.heap.size ≤ w12.heap.size from hb9.size)
  clear hb9
  have bi_0 := Hbi.out.cell (i := 0) rfl
  have bi_1 := Hbi.out.cell (i := 1) rfl
  have ba_0 := Hba.out.cell (i := 0) rfl
  have ba_1 := Hba.out.cell (i := 1) rfl
  have bb_0 := Hbb.out.cell (i := 0) rfl
  have bb_1 := Hbb.out.cell (i := 1) rfl
  unfold ciphV
  have f13_bb_0 := Hbb.out.frozen 0
  have f13_bb_1 := Hbb.out.frozen 1
  have o13_bi_0 := bi_0; clear bi_0
  have o13_bi_1 := bi_1; clear bi_1
  have o13_ba_0 := ba_0; clear ba_0
  have o13_ba_1 := ba_1; clear ba_1
  have o13_bb_0 := bb_0; clear bb_0
  have o13_bb_1 := bb_1; clear bb_1
  have hx9 : Bx ((w12.setCell ⟨w4.heap.size, 0, none⟩ (.string a3)).setCell ⟨w4.heap.size, 1, none⟩ (.string b3)) (w4.heap.size) 41 [.string a3, .string b3] := ((Hbb.out.set 0 (.string a3)).set 1 (.string b3))
  have hb9 : Below w.heap.size w ((w12.setCell ⟨w4.heap.size, 0, none⟩ (.string a3)).setCell ⟨w4.heap.size, 1, none⟩ (.string b3)) := ((HB.out.setCell (show w.heap.size ≤ w4.heap.size by have g0 := Hs1.out; have g1 := Hs2.out; have g2 := Hs3.out; have g3 := Hs4.out; have g4 := Hs5.out; have g5 := Hs6.out; have g6 := Hs7.out; have g7 := Hs8.out; have g8 := Hs9.out; have g9 := Hs10.out; have g10 := Hs11.out; have g11 := Hs12.out; omega) _).setCell (show w.heap.size ≤ w4.heap.size by have g0 := Hs1.out; have g1 := Hs2.out; have g2 := Hs3.out; have g3 := Hs4.out; have g4 := Hs5.out; have g5 := Hs6.out; have g6 := Hs7.out; have g7 := Hs8.out; have g8 := Hs9.out; have g9 := Hs10.out; have g10 := Hs11.out; have g11 := Hs12.out; omega) _)
  have hz9 : ((w12.setCell ⟨w4.heap.size, 0, none⟩ (.string a3)).setCell ⟨w4.heap.size, 1, none⟩ (.string b3)).heap.size = w12.heap.size := by simp [World.setCell]
  have ho9Hbi := ((Hbi.out.other (show _ ≠ w4.heap.size by have g0 := Hs1.out; have g1 := Hs2.out; have g2 := Hs3.out; have g3 := Hs4.out; have g4 := Hs5.out; have g5 := Hs6.out; have g6 := Hs7.out; have g7 := Hs8.out; have g8 := Hs9.out; have g9 := Hs10.out; have g10 := Hs11.out; have g11 := Hs12.out; omega) 0 (.string a3)).other (show _ ≠ w4.heap.size by have g0 := Hs1.out; have g1 := Hs2.out; have g2 := Hs3.out; have g3 := Hs4.out; have g4 := Hs5.out; have g5 := Hs6.out; have g6 := Hs7.out; have g7 := Hs8.out; have g8 := Hs9.out; have g9 := Hs10.out; have g10 := Hs11.out; have g11 := Hs12.out; omega) 1 (.string b3))
  have ho9Hba := ((Hba.out.other (show _ ≠ w4.heap.size by have g0 := Hs1.out; have g1 := Hs2.out; have g2 := Hs3.out; have g3 := Hs4.out; have g4 := Hs5.out; have g5 := Hs6.out; have g6 := Hs7.out; have g7 := Hs8.out; have g8 := Hs9.out; have g9 := Hs10.out; have g10 := Hs11.out; have g11 := Hs12.out; omega) 0 (.string a3)).other (show _ ≠ w4.heap.size by have g0 := Hs1.out; have g1 := Hs2.out; have g2 := Hs3.out; have g3 := Hs4.out; have g4 := Hs5.out; have g5 := Hs6.out; have g6 := Hs7.out; have g7 := Hs8.out; have g8 := Hs9.out; have g9 := Hs10.out; have g10 := Hs11.out; have g11 := Hs12.out; omega) 1 (.string b3))
  obtain ⟨w13, hq13⟩ : ∃ W9 : World, ((w12.setCell ⟨w4.heap.size, 0, none⟩ (.string a3)).setCell ⟨w4.heap.size, 1, none⟩ (.string b3)) = W9 := ⟨_, rfl⟩
  rw [hq13] at hx9 hb9 hz9 ho9Hbi ho9Hba
  clear Hbb HB
  have Hbb := Lib.hid hx9
  have HB := Lib.hid hb9
  have Hs13 := Lib.hid hz9
  replace Hbi := Lib.hid ho9Hbi
  replace Hba := Lib.hid ho9Hba
  clear hx9 hb9 hz9 ho9Hbi ho9Hba
  have bi_0 := Hbi.out.cell (i := 0) rfl
  have bi_1 := Hbi.out.cell (i := 1) rfl
  have ba_0 := Hba.out.cell (i := 0) rfl
  have ba_1 := Hba.out.cell (i := 1) rfl
  have bb_0 := Hbb.out.cell (i := 0) rfl
  have bb_1 := Hbb.out.cell (i := 1) rfl
  go_wp2_with fail
  clear hq13 o13_bb_1 o13_bb_0 o13_ba_1 o13_ba_0 o13_bi_1 o13_bi_0 f13_bb_1 f13_bb_0
  refine (HE4.out w13).mono ?_
  rintro e w14 ⟨rfl, hb9⟩
  clear bi_0 bi_1
  replace Hbi := Lib.hid (Hbi.out.up hb9)
  clear ba_0 ba_1
  replace Hba := Lib.hid (Hba.out.up hb9)
  clear bb_0 bb_1
  replace Hbb := Lib.hid (Hbb.out.up hb9)
  replace HB := Lib.hid (below_up HB.out hb9)
  have Hs14 := Lib.hid (show w13.heap.size ≤ w14.heap.size from hb9.size)
  clear hb9
  have bi_0 := Hbi.out.cell (i := 0) rfl
  have bi_1 := Hbi.out.cell (i := 1) rfl
  have ba_0 := Hba.out.cell (i := 0) rfl
  have ba_1 := Hba.out.cell (i := 1) rfl
  have bb_0 := Hbb.out.cell (i := 0) rfl
  have bb_1 := Hbb.out.cell (i := 1) rfl
  go_wp2_with fail
  refine (HR4.out w14).mono ?_
  rintro e w15 ⟨rfl, hb9⟩
  clear bi_0 bi_1
  replace Hbi := Lib.hid (Hbi.out.up hb9)
  clear ba_0 ba_1
  replace Hba := Lib.hid (Hba.out.up hb9)
  clear bb_0 bb_1
  replace Hbb := Lib.hid (Hbb.out.up hb9)
  replace HB := Lib.hid (below_up HB.out hb9)
  have Hs15 := Lib.hid (show w14.heap.size ≤ w15.heap.size from hb9.size)
  clear hb9
  have bi_0 := Hbi.out.cell (i := 0) rfl
  have bi_1 := Hbi.out.cell (i := 1) rfl
  have ba_0 := Hba.out.cell (i := 0) rfl
  have ba_1 := Hba.out.cell (i := 1) rfl
  have bb_0 := Hbb.out.cell (i := 0) rfl
  have bb_1 := Hbb.out.cell (i := 1) rfl
  go_wp2_with fail
  go_ret
  exact ⟨by simp, HB.out⟩

theorem cipher_cells : Try.prog.cellsOf 41 = 2 := by kernel_rfl
theorem cipher_bytes : (Try.prog.info? 41).map (·.bytes) = some 32 := by kernel_rfl
section
variable {H : Type} {enc : TypeId × Value → H} {w : World}
theorem open_cip {sp : Nat → Bool} {held : Bool} (fuel : Nat) (cs : List Value) (y : DataW H × List MemPlace) (h : DataW.trod enc Try.prog w 0 sp held fuel 41 cs = some y) : ∃ c : ByteArray × ByteArray, cs = cipC c := by
  obtain ⟨h1, h2⟩ := open_cells Try.underlying41 (by kernel_rfl) cipher_cells (Nat.le_refl _) h
  obtain ⟨a, b, rfl⟩ := list2 h1
  obtain ⟨_, _, _, ha⟩ := h2 0 _ _ rfl rfl
  obtain ⟨_, _, _, hb⟩ := h2 1 _ _ rfl rfl
  obtain ⟨s, rfl⟩ := open_str Try.underlying9 ha
  obtain ⟨t, rfl⟩ := open_str Try.underlying9 hb
  exact ⟨(s, t), rfl⟩
end

set_option maxRecDepth 100000 in
theorem ballotHides_calls {H : Type} (enc : TypeId × Value → H) (W : World) (base : Nat) {v0 v1 v2 v3 v4 v5 v6 : Value} {d0 d1 d2 d3 d4 d5 d6 : DataW H} {p0 p1 p2 p3 p4 p5 p6 : List MemPlace}
    (h0 : DataW.Trod enc Try.prog W 0 (fun _ => true) true 3 v0 d0 p0) (h1 : DataW.Trod enc Try.prog W 0 (fun _ => true) true 9 v1 d1 p1) (h2 : DataW.Trod enc Try.prog W 0 (fun _ => true) true 9 v2 d2 p2) (h3 : DataW.Trod enc Try.prog W 0 (fun _ => true) true 9 v3 d3 p3) (h4 : DataW.Trod enc Try.prog W 0 (fun _ => true) true 39 v4 d4 p4) (h5 : DataW.Trod enc Try.prog W 0 (fun _ => true) true 41 v5 d5 p5) (h6 : DataW.Trod enc Try.prog W 0 (fun _ => true) true 9 v6 d6 p6)
    (k0 : Value.okWide Try.prog W .any base 3 v0) (k1 : Value.okWide Try.prog W .any base 9 v1) (k2 : Value.okWide Try.prog W .any base 9 v2) (k3 : Value.okWide Try.prog W .any base 9 v3) (k4 : Value.okWide Try.prog W .any base 39 v4) (k5 : Value.okWide Try.prog W .any base 41 v5) (k6 : Value.okWide Try.prog W .any base 9 v6)
    (_lt0 : ∀ x ∈ p0, x.block < W.heap.size) (_lt1 : ∀ x ∈ p1, x.block < W.heap.size) (_lt2 : ∀ x ∈ p2, x.block < W.heap.size) (_lt3 : ∀ x ∈ p3, x.block < W.heap.size) (_lt4 : ∀ x ∈ p4, x.block < W.heap.size) (_lt5 : ∀ x ∈ p5, x.block < W.heap.size) (_lt6 : ∀ x ∈ p6, x.block < W.heap.size)
    (hsz : (DataW.weightsEach Try.prog ([3, 9, 9, 9, 39, 41, 9] ++ Rows.ballotHidesSpec.plain.varTypes Try.prog) ([d0, d1, d2, d3, d4, d5, d6] ++ [])).all (· ≤ reachBytes) = true) :
    Calls Try.prog 5 #[v0, v1, v2, v3, v4, v5, v6] W fun e w' => e = .returned (.bool true) ∧ Below W.heap.size W w' := by
  obtain ⟨k, rfl, _, _, _⟩ := open_int Try.underlying3 k0 h0
  obtain ⟨a1, rfl, _⟩ := Go.ChangeMaps.open_string Try.underlying9 k1 h1
  obtain ⟨a2, rfl, _⟩ := Go.ChangeMaps.open_string Try.underlying9 k2 h2
  obtain ⟨a3, rfl, _⟩ := Go.ChangeMaps.open_string Try.underlying9 k3 h3
  obtain ⟨a6, rfl, _⟩ := Go.ChangeMaps.open_string Try.underlying9 k6 h6
  obtain ⟨sa, len, cap, rfl⟩ := okWide_slice Try.underlying39 k4
  obtain ⟨cs, rfl, _⟩ := okWide_struct Try.underlying41 k5
  obtain ⟨f5, h5⟩ := h5
  obtain ⟨c, hc⟩ := open_cip f5 _ _ h5
  obtain rfl : cs = #[.string c.1, .string c.2] := by
    have : cs.toList = cipC c := hc
    rw [← Array.toArray_toList (xs := cs), this]
    rfl
  obtain ⟨f4, h4⟩ := h4
  have h4' : DataW.trod enc Try.prog W 0 (fun _ => true) true f4 39 [.slice sa len cap] = some (d4, p4) := h4
  have hw := trod_len Try.underlying39 h4'
  obtain ⟨a', cap', xs, hv, _, hs, _⟩ := open_els cipC (fun _ => True) Try.underlying39 cipher_cells (by omega) (Nat.le_refl _) (fun n l y' _ _ hy => by
    obtain ⟨c', rfl⟩ := open_cip n l y' hy
    exact ⟨c', rfl, trivial⟩) h4'
  simp only [Value.slice.injEq] at hv
  obtain ⟨rfl, rfl, rfl⟩ := hv
  refine ballotHides_any k a1 a2 a3 a6 xs sa cap ?_ c W hs
  rcases hw with h | ⟨es, rs, rfl, hes⟩
  · omega
  · have := sized_slice hsz (j := 4) (t := 39) (e := 41) rfl rfl Try.underlying39
    rw [show Try.prog.bytesOf 41 = 32 by kernel_rfl] at this
    simp only [reachBytes] at this
    omega

set_option maxRecDepth 100000 in
theorem ballotHides_lifted (os : Os) (started : os.Started) (H : Type) (enc : TypeId × Value → H) :
    ReturnsInHanded {} Try.checked os 5 .any (Rows.ballotHidesSpec.pre6 enc Try.prog Try.f5 Rows.ballotHidesRow.domain false) (Rows.ballotHidesSpec.post enc Try.prog Try.f5 false true false false) := by
  refine returnsInHanded_of_change_sized (C := Try.checked) law_own started (by kernel_rfl) Try.func5
    (ChangeSpec.witness6 (enc := enc) (C := Try.checked) false ⟨#[], #[.int .i64 0, .string ⟨#[]⟩, .string ⟨#[]⟩, .string ⟨#[]⟩, .slice none 0 0, .agg #[.string ⟨#[]⟩, .string ⟨#[]⟩], .string ⟨#[]⟩], []⟩ 8 (by kernel_rfl) (by kernel_rfl) (by kernel_rfl) (by kernel_rfl)) ?_
  intro W base args ds gs before hval0 hW _ hsz0 _
  have hsz : (DataW.weightsEach Try.prog (Try.f5.params.toList ++ Rows.ballotHidesSpec.plain.varTypes Try.prog) (ds ++ gs)).all (· ≤ reachBytes) = true := hsz0
  clear hsz0
  have hval : ∀ (j : Nat) t v, Try.f5.params[j]? = some t → args[j]? = some v → Value.okWide Try.prog W .any base t v := hval0
  have hW' := hW
  obtain ⟨p, q, hA0, hV, rfl, _, _⟩ := hW
  have hA : DataW.TrodAll enc Try.prog W 0 (fun _ => true) true Try.f5.params.toList args.toList ds p := hA0
  rw [Try.params5] at hA hval hsz
  obtain ⟨v0, vs0, d0, ds0, p0, q0, hargs, rfl, rfl, h0, r0⟩ := trodAll_cons hA
  obtain ⟨v1, vs1, d1, ds1, p1, q1, rfl, rfl, rfl, h1, r1⟩ := trodAll_cons r0
  obtain ⟨v2, vs2, d2, ds2, p2, q2, rfl, rfl, rfl, h2, r2⟩ := trodAll_cons r1
  obtain ⟨v3, vs3, d3, ds3, p3, q3, rfl, rfl, rfl, h3, r3⟩ := trodAll_cons r2
  obtain ⟨v4, vs4, d4, ds4, p4, q4, rfl, rfl, rfl, h4, r4⟩ := trodAll_cons r3
  obtain ⟨v5, vs5, d5, ds5, p5, q5, rfl, rfl, rfl, h5, r5⟩ := trodAll_cons r4
  obtain ⟨v6, vs6, d6, ds6, p6, q6, rfl, rfl, rfl, h6, r6⟩ := trodAll_cons r5
  obtain ⟨rfl, rfl, rfl⟩ := trodAll_nil r6
  obtain rfl : args = #[v0, v1, v2, v3, v4, v5, v6] := by cases args; simp_all
  obtain ⟨rfl, rfl⟩ := trodVars_none hV
  have lt0 : ∀ x ∈ p0, x.block < W.heap.size := by obtain ⟨m, hm⟩ := h0; exact DataW.trod_lt m _ _ _ hm
  have lt1 : ∀ x ∈ p1, x.block < W.heap.size := by obtain ⟨m, hm⟩ := h1; exact DataW.trod_lt m _ _ _ hm
  have lt2 : ∀ x ∈ p2, x.block < W.heap.size := by obtain ⟨m, hm⟩ := h2; exact DataW.trod_lt m _ _ _ hm
  have lt3 : ∀ x ∈ p3, x.block < W.heap.size := by obtain ⟨m, hm⟩ := h3; exact DataW.trod_lt m _ _ _ hm
  have lt4 : ∀ x ∈ p4, x.block < W.heap.size := by obtain ⟨m, hm⟩ := h4; exact DataW.trod_lt m _ _ _ hm
  have lt5 : ∀ x ∈ p5, x.block < W.heap.size := by obtain ⟨m, hm⟩ := h5; exact DataW.trod_lt m _ _ _ hm
  have lt6 : ∀ x ∈ p6, x.block < W.heap.size := by obtain ⟨m, hm⟩ := h6; exact DataW.trod_lt m _ _ _ hm
  clear hA0 hval0
  refine (ballotHides_calls enc W base h0 h1 h2 h3 h4 h5 h6 (hval 0 3 v0 rfl rfl) (hval 1 9 v1 rfl rfl) (hval 2 9 v2 rfl rfl) (hval 3 9 v3 rfl rfl) (hval 4 39 v4 rfl rfl) (hval 5 41 v5 rfl rfl) (hval 6 9 v6 rfl rfl) lt0 lt1 lt2 lt3 lt4 lt5 lt6 hsz).mono fun e W' ⟨he, bel⟩ => ?_
  subst he
  exact ⟨_, rfl, _, _, _, [], _, [], hW', trodAll_mk1 (shut_bool Try.underlying4 _), (trodAll_cons_mk (Below.trod law_laidOut (by kernel_rfl) (of_decide_eq_true (by kernel_rfl)) h0 bel lt0) (trodAll_cons_mk (Below.trod law_laidOut (by kernel_rfl) (of_decide_eq_true (by kernel_rfl)) h1 bel lt1) (trodAll_cons_mk (Below.trod law_laidOut (by kernel_rfl) (of_decide_eq_true (by kernel_rfl)) h2 bel lt2) (trodAll_cons_mk (Below.trod law_laidOut (by kernel_rfl) (of_decide_eq_true (by kernel_rfl)) h3 bel lt3) (trodAll_cons_mk (Below.trod law_laidOut (by kernel_rfl) (of_decide_eq_true (by kernel_rfl)) h4 bel lt4) (trodAll_cons_mk (Below.trod law_laidOut (by kernel_rfl) (of_decide_eq_true (by kernel_rfl)) h5 bel lt5) (trodAll_cons_mk (Below.trod law_laidOut (by kernel_rfl) (of_decide_eq_true (by kernel_rfl)) h6 bel lt6) trodAll_mk0))))))), rfl, bel.frame _, fun h => by cases h⟩

theorem ballotHides_holds : Rows.BallotHidesSaid :=
  OpenClaim.holds_of_wide 5 Try.f5 rfl rfl rfl rfl rfl rfl rfl ⟨rfl, rfl, rfl, rfl, rfl⟩ rfl rfl rfl rfl rfl (by kernel_rfl) Try.func5 (by kernel_rfl)
    (of_decide_eq_true (by kernel_rfl)) (by unfold Func.isWrapper; first | (rw [if_pos (by decide +kernel)]; kernel_rfl) | (rw [if_neg (by decide +kernel)]; exact ⟨rfl, rfl⟩))
    (fun os started H enc _ => ballotHides_lifted os started H enc)
#print axioms ballotHides_holds



end Go.Proofs.Ytipgjookfdkciaa
