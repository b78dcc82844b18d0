/- GroupElems: Times, Under, Power of any bytes, as the document says. No condition. -/
import Derived.Test.YtdmldnpadojflaaGrpPlain
import Derived.Test.YtdmldnpadojflaaLawCar
namespace Go.Proofs.Ytdmldnpadojflaa
open Go.ChangeShapes Go.WideShapes Go.ChangeAt Go.RowKit

theorem isEl_facts {q size : Nat} {s : ByteArray} (h : isEl q size s = true) : s.size = size ∧ 0 < numOf s ∧ numOf s ≤ q := by
  unfold isEl at h
  simp at h
  exact ⟨h.1.1, h.1.2, h.2⟩
theorem isSc_facts {q size : Nat} {s : ByteArray} (h : isSc q size s = true) : s.size = size ∧ numOf s < q := by
  unfold isSc at h
  simp at h
  exact h

set_option maxRecDepth 100000 in
set_option maxHeartbeats 400000 in
theorem groupElems_none (k : Int) (hk : ¬ (1 ≤ k ∧ k ≤ 3)) (a b n : ByteArray) (w : World) : Calls Try.prog 8 #[.int .i64 k, .string a, .string b, .string n] w fun e w' => e = .returned (.bool true) ∧ Below w.heap.size w w' := by
  go_enter Try.func8, Try.ntmps8
  go_wp2_with fail
  refine (refKind_none k hk w).mono ?_
  rintro e w1 ⟨rfl, hb1⟩
  go_wp2_with fail
  have u1 : Below w1.heap.size w1 (w1.alloc (.cells #[.int .i64 0, .slice none 0 0, .slice none 0 0] 25)) := (Below.refl _ _).alloc (Nat.le_refl _) _
  have hc : Car w (w1.alloc (.cells #[.int .i64 0, .slice none 0 0, .slice none 0 0] 25)) w1.heap.size 25 0 0 0 none none 0 0 none none 0 0 := ⟨below_up (hb1) u1, Bx.new w1 _ _ _ rfl, NumAt.zero _ _, NumAt.zero _ _, NumAt.zero _ _, NumAt.zero _ _⟩
  obtain ⟨W2, hW2⟩ : ∃ W9 : World, (w1.alloc (.cells #[.int .i64 0, .slice none 0 0, .slice none 0 0] 25)) = W9 := ⟨_, rfl⟩
  rw [hW2] at hc ⊢
  clear hW2
  have HC := Lib.hid hc
  clear hc hb1 u1
  have hz_0 := HC.out.z.cell (i := 0) rfl
  have hz_1 := HC.out.z.cell (i := 1) rfl
  have hz_2 := HC.out.z.cell (i := 2) rfl
  go_wp2_with fail
  refine (Times_none k hk a b W2).mono ?_
  rintro e w3 ⟨rfl, hb9⟩
  have HC9 := Lib.hid (HC.out.up hb9)
  clear hb9
  clear HC hz_0 hz_1 hz_2
  have HC := HC9
  clear HC9
  have hz_0 := HC.out.z.cell (i := 0) rfl
  have hz_1 := HC.out.z.cell (i := 1) rfl
  have hz_2 := HC.out.z.cell (i := 2) rfl
  go_wp2_with fail
  refine (lawText_err ⟨#[]⟩ 1 (by omega) w3).mono ?_
  rintro e w4 ⟨rfl, hb9⟩
  have HC9 := Lib.hid (HC.out.up hb9)
  clear hb9
  clear HC hz_0 hz_1 hz_2
  have HC := HC9
  clear HC9
  have hz_0 := HC.out.z.cell (i := 0) rfl
  have hz_1 := HC.out.z.cell (i := 1) rfl
  have hz_2 := HC.out.z.cell (i := 2) rfl
  go_wp2_with fail
  refine (Power_none k hk a n w4).mono ?_
  rintro e w5 ⟨rfl, hb9⟩
  have HC9 := Lib.hid (HC.out.up hb9)
  clear hb9
  clear HC hz_0 hz_1 hz_2
  have HC := HC9
  clear HC9
  have hz_0 := HC.out.z.cell (i := 0) rfl
  have hz_1 := HC.out.z.cell (i := 1) rfl
  have hz_2 := HC.out.z.cell (i := 2) rfl
  go_wp2_with fail
  refine (lawText_err ⟨#[]⟩ 1 (by omega) w5).mono ?_
  rintro e w6 ⟨rfl, hb9⟩
  have HC9 := Lib.hid (HC.out.up hb9)
  clear hb9
  clear HC hz_0 hz_1 hz_2
  have HC := HC9
  clear HC9
  have hz_0 := HC.out.z.cell (i := 0) rfl
  have hz_1 := HC.out.z.cell (i := 1) rfl
  have hz_2 := HC.out.z.cell (i := 2) rfl
  go_wp2_with fail
  refine (Under_none k hk a w6).mono ?_
  rintro e w7 ⟨rfl, hb9⟩
  have HC9 := Lib.hid (HC.out.up hb9)
  clear hb9
  clear HC hz_0 hz_1 hz_2
  have HC := HC9
  clear HC9
  have hz_0 := HC.out.z.cell (i := 0) rfl
  have hz_1 := HC.out.z.cell (i := 1) rfl
  have hz_2 := HC.out.z.cell (i := 2) rfl
  go_wp2_with fail
  refine (lawText_err ⟨#[]⟩ 1 (by omega) w7).mono ?_
  rintro e w8 ⟨rfl, hb9⟩
  have HC9 := Lib.hid (HC.out.up hb9)
  clear hb9
  clear HC hz_0 hz_1 hz_2
  have HC := HC9
  clear HC9
  have hz_0 := HC.out.z.cell (i := 0) rfl
  have hz_1 := HC.out.z.cell (i := 1) rfl
  have hz_2 := HC.out.z.cell (i := 2) rfl
  go_wp2_with fail
  go_ret
  exact ⟨rfl, HC.out.b⟩

set_option maxRecDepth 100000 in
set_option maxHeartbeats 1000000 in
theorem groupElems_no (k : Nat) (h1 : 1 ≤ k) (h3 : k ≤ 3) (a b n : ByteArray) (hba : isEl (grp k).q.m (grp k).size a = false) (w : World) : Calls Try.prog 8 #[.int .i64 (k : Int), .string a, .string b, .string n] w fun e w' => e = .returned (.bool true) ∧ Below w.heap.size w w' := by
  obtain ⟨hlq, hlp⟩ := grp_small k h1 h3
  have hsz : (grp k).size ≤ 32 := (grp_ok k h1 h3).size_le
  have hq0 : 0 < (grp k).q.m := (grp_ok k h1 h3).q.pos
  have hq16 : (grp k).q.m < DD ^ 16 := (grp_ok k h1 h3).q.lt4
  have hp0 : 0 < (grp k).p.m := (grp_ok k h1 h3).p.pos
  have hp16 : (grp k).p.m < DD ^ 16 := (grp_ok k h1 h3).p.lt4
  have hs0 : (((grp k).size : Int) == 0) = false := by
    obtain rfl | rfl | rfl : k = 1 ∨ k = 2 ∨ k = 3 := by omega
    all_goals rfl
  have hT := fun W => Times_some k h1 h3 a b W
  have hP := fun W => Power_some k h1 h3 a n W
  have hU := fun W => Under_some k h1 h3 a W
  simp only [timV, timE, powV, powE, undV, undE, hba, Bool.false_and, if_true, Bool.false_eq_true, if_false] at hT hP hU
  have HT := Lib.hid hT
  have HP := Lib.hid hP
  have HU := Lib.hid hU
  have HBA := Lib.hid hba
  clear hba hT hP hU
  go_enter Try.func8, Try.ntmps8
  go_wp2_with fail
  refine (refKind_some k h1 h3 w).mono ?_
  rintro e w1 ⟨aq, cq, ap, cp, rfl, hq, hp, hb1⟩
  have u1 : Below w1.heap.size w1 (w1.alloc (.cells #[.int .i64 ((grp k).size : Int), .slice aq (dl (grp k).q.m) cq, .slice ap (dl (grp k).p.m) cp] 25)) := (Below.refl _ _).alloc (Nat.le_refl _) _
  have hc : Car w (w1.alloc (.cells #[.int .i64 ((grp k).size : Int), .slice aq (dl (grp k).q.m) cq, .slice ap (dl (grp k).p.m) cp] 25)) w1.heap.size 25 (grp k).size (grp k).q.m (grp k).p.m aq ap cq cp none none 0 0 := ⟨below_up (hb1) u1, Bx.new w1 _ _ _ rfl, hq.up u1, hp.up u1, NumAt.zero _ _, NumAt.zero _ _⟩
  obtain ⟨W2, hW2⟩ : ∃ W9 : World, (w1.alloc (.cells #[.int .i64 ((grp k).size : Int), .slice aq (dl (grp k).q.m) cq, .slice ap (dl (grp k).p.m) cp] 25)) = W9 := ⟨_, rfl⟩
  rw [hW2] at hc
  have HC := Lib.hid hc
  have HZL := Lib.hid (Bx.lt (HC.out.z))
  clear hc hq hp hb1 u1
  have hz_0 := HC.out.z.cell (i := 0) rfl
  have hz_1 := HC.out.z.cell (i := 1) rfl
  have hz_2 := HC.out.z.cell (i := 2) rfl
  go_wp2_with fail
  refine ((HBA.out ▸ refIsElem_any a (grp k).size (grp k).q.m (grp k).p.m aq ap cq cp hsz W2 HC.out.q)).mono ?_
  rintro e w5 ⟨rfl, hb9⟩
  have HC9 := Lib.hid (HC.out.up hb9)
  clear hb9
  clear HC hz_0 hz_1 hz_2
  have HC := HC9
  clear HC9
  have hz_0 := HC.out.z.cell (i := 0) rfl
  have hz_1 := HC.out.z.cell (i := 1) rfl
  have hz_2 := HC.out.z.cell (i := 2) rfl
  go_wp2_with fail
  refine (HT.out w5).mono ?_
  rintro e w6 ⟨rfl, hb9⟩
  have HC9 := Lib.hid (HC.out.up hb9)
  clear hb9
  clear HC hz_0 hz_1 hz_2
  have HC := HC9
  clear HC9
  have hz_0 := HC.out.z.cell (i := 0) rfl
  have hz_1 := HC.out.z.cell (i := 1) rfl
  have hz_2 := HC.out.z.cell (i := 2) rfl
  go_wp2_with fail
  refine (lawText_err ⟨#[]⟩ 7 (by omega) w6).mono ?_
  rintro e w7 ⟨rfl, hb9⟩
  have HC9 := Lib.hid (HC.out.up hb9)
  clear hb9
  clear HC hz_0 hz_1 hz_2
  have HC := HC9
  clear HC9
  have hz_0 := HC.out.z.cell (i := 0) rfl
  have hz_1 := HC.out.z.cell (i := 1) rfl
  have hz_2 := HC.out.z.cell (i := 2) rfl
  go_wp2_with fail
  refine (HP.out w7).mono ?_
  rintro e w8 ⟨rfl, hb9⟩
  have HC9 := Lib.hid (HC.out.up hb9)
  clear hb9
  clear HC hz_0 hz_1 hz_2
  have HC := HC9
  clear HC9
  have hz_0 := HC.out.z.cell (i := 0) rfl
  have hz_1 := HC.out.z.cell (i := 1) rfl
  have hz_2 := HC.out.z.cell (i := 2) rfl
  go_wp2_with fail
  refine (lawText_err ⟨#[]⟩ 7 (by omega) w8).mono ?_
  rintro e w9 ⟨rfl, hb9⟩
  have HC9 := Lib.hid (HC.out.up hb9)
  clear hb9
  clear HC hz_0 hz_1 hz_2
  have HC := HC9
  clear HC9
  have hz_0 := HC.out.z.cell (i := 0) rfl
  have hz_1 := HC.out.z.cell (i := 1) rfl
  have hz_2 := HC.out.z.cell (i := 2) rfl
  go_wp2_with fail
  refine (HU.out w9).mono ?_
  rintro e w10 ⟨rfl, hb9⟩
  have HC9 := Lib.hid (HC.out.up hb9)
  clear hb9
  clear HC hz_0 hz_1 hz_2
  have HC := HC9
  clear HC9
  have hz_0 := HC.out.z.cell (i := 0) rfl
  have hz_1 := HC.out.z.cell (i := 1) rfl
  have hz_2 := HC.out.z.cell (i := 2) rfl
  go_wp2_with fail
  refine (lawText_err ⟨#[]⟩ 7 (by omega) w10).mono ?_
  rintro e w11 ⟨rfl, hb9⟩
  have HC9 := Lib.hid (HC.out.up hb9)
  clear hb9
  clear HC hz_0 hz_1 hz_2
  have HC := HC9
  clear HC9
  have hz_0 := HC.out.z.cell (i := 0) rfl
  have hz_1 := HC.out.z.cell (i := 1) rfl
  have hz_2 := HC.out.z.cell (i := 2) rfl
  go_wp2_with fail
  go_ret
  exact ⟨rfl, HC.out.b⟩


set_option maxRecDepth 100000 in
set_option maxHeartbeats 1000000 in
theorem groupElems_nn (k : Nat) (h1 : 1 ≤ k) (h3 : k ≤ 3) (a b n : ByteArray) (hba : isEl (grp k).q.m (grp k).size a = true) (hbb : isEl (grp k).q.m (grp k).size b = false) (hbn : isSc (grp k).q.m (grp k).size n = false) (w : World) : Calls Try.prog 8 #[.int .i64 (k : Int), .string a, .string b, .string n] w fun e w' => e = .returned (.bool true) ∧ Below w.heap.size w w' := by
  obtain ⟨hlq, hlp⟩ := grp_small k h1 h3
  have hsz : (grp k).size ≤ 32 := (grp_ok k h1 h3).size_le
  have hq0 : 0 < (grp k).q.m := (grp_ok k h1 h3).q.pos
  have hq16 : (grp k).q.m < DD ^ 16 := (grp_ok k h1 h3).q.lt4
  have hp0 : 0 < (grp k).p.m := (grp_ok k h1 h3).p.pos
  have hp16 : (grp k).p.m < DD ^ 16 := (grp_ok k h1 h3).p.lt4
  have hs0 : (((grp k).size : Int) == 0) = false := by
    obtain rfl | rfl | rfl : k = 1 ∨ k = 2 ∨ k = 3 := by omega
    all_goals rfl
  have hp1 : 1 < (grp k).p.m := by have := (grp_ok k h1 h3).twice; omega
  have htw : (grp k).p.m = 2 * (grp k).q.m + 1 := (grp_ok k h1 h3).twice
  have hA9 := isEl_facts hba
  have HLA : Hid (a.size ≤ 1048576) := by show _ ≤ _; omega
  have HNA : Hid (numOf a < DD ^ 16) := Nat.lt_of_le_of_lt hA9.2.2 hq16
  have hund : lowR (grp k).q.m (grp k).p.m (numOf a ^ ((grp k).p.m - 2) % (grp k).p.m) = lowR (grp k).q.m (grp k).p.m (numOf a ^ ((grp k).q.m - 1) % (grp k).p.m) := under_low (grp_prime_p k h1 h3) htw hq0 hA9.2.1 hA9.2.2
  obtain ⟨ru, hru⟩ : ∃ r, lowR (grp k).q.m (grp k).p.m (numOf a ^ ((grp k).q.m - 1) % (grp k).p.m) = r := ⟨_, rfl⟩
  have hru16 : ru < DD ^ 16 := by
    have := lowR_leq (q := (grp k).q.m) htw (Nat.mod_lt (numOf a ^ ((grp k).q.m - 1)) hp0)
    omega
  have HDU : Hid (dl ru ≤ 1048576) := small_dl _ hru16
  rw [hru] at hund
  have hT := fun W => Times_some k h1 h3 a b W
  have hP := fun W => Power_some k h1 h3 a n W
  have hU := fun W => Under_some k h1 h3 a W
  rw [show undV (grp k) a = textS ru (grp k).size by unfold undV; rw [if_pos hba]; exact congrArg (textS · _) hund, show undE (grp k) a = 0 by unfold undE; rw [if_pos hba]] at hU
  simp only [timV, timE, powV, powE, hba, hbb, hbn, Bool.true_and, if_true, Bool.false_eq_true, if_false, Bool.true_eq_false] at hT hP
  have HT := Lib.hid hT
  have HP := Lib.hid hP
  have HU := Lib.hid hU
  have HBA := Lib.hid hba
  have HBB := Lib.hid hbb
  have HBN := Lib.hid hbn
  have HRU := Lib.hid hru
  have HP1 := Lib.hid hp1
  have hq1 : 1 ≤ (grp k).q.m := hq0
  clear hba hbb hbn hT hP hU hA9 hund hru htw hru16 hp1
  go_enter Try.func8, Try.ntmps8
  go_wp2_with fail
  refine (refKind_some k h1 h3 w).mono ?_
  rintro e w1 ⟨aq, cq, ap, cp, rfl, hq, hp, hb1⟩
  have u1 : Below w1.heap.size w1 (w1.alloc (.cells #[.int .i64 ((grp k).size : Int), .slice aq (dl (grp k).q.m) cq, .slice ap (dl (grp k).p.m) cp] 25)) := (Below.refl _ _).alloc (Nat.le_refl _) _
  have hc : Car w (w1.alloc (.cells #[.int .i64 ((grp k).size : Int), .slice aq (dl (grp k).q.m) cq, .slice ap (dl (grp k).p.m) cp] 25)) w1.heap.size 25 (grp k).size (grp k).q.m (grp k).p.m aq ap cq cp none none 0 0 := ⟨below_up (hb1) u1, Bx.new w1 _ _ _ rfl, hq.up u1, hp.up u1, NumAt.zero _ _, NumAt.zero _ _⟩
  obtain ⟨W2, hW2⟩ : ∃ W9 : World, (w1.alloc (.cells #[.int .i64 ((grp k).size : Int), .slice aq (dl (grp k).q.m) cq, .slice ap (dl (grp k).p.m) cp] 25)) = W9 := ⟨_, rfl⟩
  rw [hW2] at hc
  have HC := Lib.hid hc
  have HZL := Lib.hid (Bx.lt (HC.out.z))
  clear hc hq hp hb1 u1
  have hz_0 := HC.out.z.cell (i := 0) rfl
  have hz_1 := HC.out.z.cell (i := 1) rfl
  have hz_2 := HC.out.z.cell (i := 2) rfl
  go_wp2_with fail
  refine ((HBA.out ▸ refIsElem_any a (grp k).size (grp k).q.m (grp k).p.m aq ap cq cp hsz W2 HC.out.q)).mono ?_
  rintro e w3 ⟨rfl, hb9⟩
  have HC9 := Lib.hid (HC.out.up hb9)
  clear hb9
  clear HC hz_0 hz_1 hz_2
  have HC := HC9
  clear HC9
  have hz_0 := HC.out.z.cell (i := 0) rfl
  have hz_1 := HC.out.z.cell (i := 1) rfl
  have hz_2 := HC.out.z.cell (i := 2) rfl
  go_wp2_with fail
  refine ((HBB.out ▸ refIsElem_any b (grp k).size (grp k).q.m (grp k).p.m aq ap cq cp hsz w3 HC.out.q)).mono ?_
  rintro e w4 ⟨rfl, hb9⟩
  have HC9 := Lib.hid (HC.out.up hb9)
  clear hb9
  clear HC hz_0 hz_1 hz_2
  have HC := HC9
  clear HC9
  have hz_0 := HC.out.z.cell (i := 0) rfl
  have hz_1 := HC.out.z.cell (i := 1) rfl
  have hz_2 := HC.out.z.cell (i := 2) rfl
  go_wp2_with fail
  refine ((HBN.out ▸ refIsScalar_any n (grp k).size (grp k).q.m (grp k).p.m aq ap cq cp hsz w4 HC.out.q)).mono ?_
  rintro e w5 ⟨rfl, hb9⟩
  have HC9 := Lib.hid (HC.out.up hb9)
  clear hb9
  clear HC hz_0 hz_1 hz_2
  have HC := HC9
  clear HC9
  have hz_0 := HC.out.z.cell (i := 0) rfl
  have hz_1 := HC.out.z.cell (i := 1) rfl
  have hz_2 := HC.out.z.cell (i := 2) rfl
  go_wp2_with fail
  have HW0 : Hid (Below w5.heap.size w5 w5.drew) := (Below.refl _ _).drew
  have hzl := HC.out.z.lt
  refine wp_region_tree (fun w' => ∃ E : Over w5, w' = E.w) (.qs [0, 1, 4, 5] (.a 2 (.a 3 (.a 6 (.q 7 .done))))) (by kernel_rfl) (by kernel_rfl) (fun _ _ d _ _ h => by cases d <;> exact h) ⟨⟨_, HW0.out⟩, rfl⟩ ?_
  have hov := fun (E : Over w5) o => E.cell (b := w1.heap.size) o hzl
  simp only [Tree.qs]
  repeat (refine tree_q rfl rfl ?_; go_big_quiet_step (fail); refine wpQuiet_nil ?_)
  refine tree_a rfl (fun K hK => ?_)
  go_simp
  refine (refRead_any a HLA.out w5.drew).mono ?_
  rintro e w40 ⟨a40, c40, rfl, hn9, hb9⟩
  have HN40 := Lib.hid hn9
  have HW40 := Lib.hid (below_up HW0.out hb9)
  have HU40 := Lib.hid hb9
  clear hn9 hb9
  refine hK _ _ ⟨⟨⟨w40, HW40.out⟩, rfl⟩, ?_⟩
  clear hK K
  repeat (refine tree_q rfl rfl ?_; go_big_quiet_step (fail); refine wpQuiet_nil ?_)
  refine tree_a rfl (fun K hK => ?_)
  go_simp
  have h9 := refUnder_any (numOf a) (grp k).size (grp k).q.m (grp k).p.m a40 aq ap c40 cq cp HNA.out hq1 hq16 HP1.out hp16 w40 HN40.out (HC.out.up HW40.out).q (HC.out.up HW40.out).p
  rw [HRU.out] at h9
  refine h9.mono ?_
  clear h9
  rintro e w41 ⟨a41, c41, rfl, hn9, hb9⟩
  have HN41 := Lib.hid hn9
  have HW41 := Lib.hid (below_up HW40.out hb9)
  have HU41 := Lib.hid hb9
  clear hn9 hb9
  refine hK _ _ ⟨⟨⟨w41, HW41.out⟩, rfl⟩, ?_⟩
  clear hK K
  repeat (refine tree_q rfl rfl ?_; go_big_quiet_step (fail); refine wpQuiet_nil ?_)
  refine tree_a rfl (fun K hK => ?_)
  go_simp
  refine (refText_any ru (grp k).size a41 c41 HDU.out (by omega) w41 HN41.out).mono ?_
  rintro e w42 ⟨rfl, hb9⟩
  have HW42 := Lib.hid (below_up HW41.out hb9)
  clear hb9
  refine hK _ _ ⟨⟨⟨w42, HW42.out⟩, rfl⟩, ?_⟩
  clear hK K
  repeat (refine tree_q rfl rfl ?_; go_big_quiet_step (fail); refine wpQuiet_nil ?_)
  refine tree_end ?_
  have HC9 := Lib.hid (HC.out.up HW42.out)
  clear hov hzl
  clear HC hz_0 hz_1 hz_2
  have HC := HC9
  clear HC9
  have hz_0 := HC.out.z.cell (i := 0) rfl
  have hz_1 := HC.out.z.cell (i := 1) rfl
  have hz_2 := HC.out.z.cell (i := 2) rfl
  go_wp2_with fail
  refine (HT.out w42).mono ?_
  rintro e w50 ⟨rfl, hb9⟩
  have HC9 := Lib.hid (HC.out.up hb9)
  clear hb9
  clear HC hz_0 hz_1 hz_2
  have HC := HC9
  clear HC9
  have hz_0 := HC.out.z.cell (i := 0) rfl
  have hz_1 := HC.out.z.cell (i := 1) rfl
  have hz_2 := HC.out.z.cell (i := 2) rfl
  go_wp2_with fail
  refine (lawText_err ⟨#[]⟩ 7 (by omega) w50).mono ?_
  rintro e w51 ⟨rfl, hb9⟩
  have HC9 := Lib.hid (HC.out.up hb9)
  clear hb9
  clear HC hz_0 hz_1 hz_2
  have HC := HC9
  clear HC9
  have hz_0 := HC.out.z.cell (i := 0) rfl
  have hz_1 := HC.out.z.cell (i := 1) rfl
  have hz_2 := HC.out.z.cell (i := 2) rfl
  go_wp2_with fail
  refine (HP.out w51).mono ?_
  rintro e w52 ⟨rfl, hb9⟩
  have HC9 := Lib.hid (HC.out.up hb9)
  clear hb9
  clear HC hz_0 hz_1 hz_2
  have HC := HC9
  clear HC9
  have hz_0 := HC.out.z.cell (i := 0) rfl
  have hz_1 := HC.out.z.cell (i := 1) rfl
  have hz_2 := HC.out.z.cell (i := 2) rfl
  go_wp2_with fail
  refine (lawText_err ⟨#[]⟩ 6 (by omega) w52).mono ?_
  rintro e w53 ⟨rfl, hb9⟩
  have HC9 := Lib.hid (HC.out.up hb9)
  clear hb9
  clear HC hz_0 hz_1 hz_2
  have HC := HC9
  clear HC9
  have hz_0 := HC.out.z.cell (i := 0) rfl
  have hz_1 := HC.out.z.cell (i := 1) rfl
  have hz_2 := HC.out.z.cell (i := 2) rfl
  go_wp2_with fail
  refine (HU.out w53).mono ?_
  rintro e w54 ⟨rfl, hb9⟩
  have HC9 := Lib.hid (HC.out.up hb9)
  clear hb9
  clear HC hz_0 hz_1 hz_2
  have HC := HC9
  clear HC9
  have hz_0 := HC.out.z.cell (i := 0) rfl
  have hz_1 := HC.out.z.cell (i := 1) rfl
  have hz_2 := HC.out.z.cell (i := 2) rfl
  go_wp2_with fail
  refine (lawText_ok (textS ru (grp k).size) w54).mono ?_
  rintro e w55 ⟨rfl, hb9⟩
  have HC9 := Lib.hid (HC.out.up hb9)
  clear hb9
  clear HC hz_0 hz_1 hz_2
  have HC := HC9
  clear HC9
  have hz_0 := HC.out.z.cell (i := 0) rfl
  have hz_1 := HC.out.z.cell (i := 1) rfl
  have hz_2 := HC.out.z.cell (i := 2) rfl
  go_wp2_with fail
  go_ret
  exact ⟨rfl, HC.out.b⟩


set_option maxRecDepth 100000 in
set_option maxHeartbeats 1000000 in
theorem groupElems_yn (k : Nat) (h1 : 1 ≤ k) (h3 : k ≤ 3) (a b n : ByteArray) (hba : isEl (grp k).q.m (grp k).size a = true) (hbb : isEl (grp k).q.m (grp k).size b = true) (hbn : isSc (grp k).q.m (grp k).size n = false) (w : World) : Calls Try.prog 8 #[.int .i64 (k : Int), .string a, .string b, .string n] w fun e w' => e = .returned (.bool true) ∧ Below w.heap.size w w' := by
  obtain ⟨hlq, hlp⟩ := grp_small k h1 h3
  have hsz : (grp k).size ≤ 32 := (grp_ok k h1 h3).size_le
  have hq0 : 0 < (grp k).q.m := (grp_ok k h1 h3).q.pos
  have hq16 : (grp k).q.m < DD ^ 16 := (grp_ok k h1 h3).q.lt4
  have hp0 : 0 < (grp k).p.m := (grp_ok k h1 h3).p.pos
  have hp16 : (grp k).p.m < DD ^ 16 := (grp_ok k h1 h3).p.lt4
  have hs0 : (((grp k).size : Int) == 0) = false := by
    obtain rfl | rfl | rfl : k = 1 ∨ k = 2 ∨ k = 3 := by omega
    all_goals rfl
  have hp1 : 1 < (grp k).p.m := by have := (grp_ok k h1 h3).twice; omega
  have htw : (grp k).p.m = 2 * (grp k).q.m + 1 := (grp_ok k h1 h3).twice
  have hA9 := isEl_facts hba
  have HLA : Hid (a.size ≤ 1048576) := by show _ ≤ _; omega
  have HNA : Hid (numOf a < DD ^ 16) := Nat.lt_of_le_of_lt hA9.2.2 hq16
  have hund : lowR (grp k).q.m (grp k).p.m (numOf a ^ ((grp k).p.m - 2) % (grp k).p.m) = lowR (grp k).q.m (grp k).p.m (numOf a ^ ((grp k).q.m - 1) % (grp k).p.m) := under_low (grp_prime_p k h1 h3) htw hq0 hA9.2.1 hA9.2.2
  obtain ⟨ru, hru⟩ : ∃ r, lowR (grp k).q.m (grp k).p.m (numOf a ^ ((grp k).q.m - 1) % (grp k).p.m) = r := ⟨_, rfl⟩
  have hru16 : ru < DD ^ 16 := by
    have := lowR_leq (q := (grp k).q.m) htw (Nat.mod_lt (numOf a ^ ((grp k).q.m - 1)) hp0)
    omega
  have HDU : Hid (dl ru ≤ 1048576) := small_dl _ hru16
  rw [hru] at hund
  have hT := fun W => Times_some k h1 h3 a b W
  have hP := fun W => Power_some k h1 h3 a n W
  have hU := fun W => Under_some k h1 h3 a W
  rw [show undV (grp k) a = textS ru (grp k).size by unfold undV; rw [if_pos hba]; exact congrArg (textS · _) hund, show undE (grp k) a = 0 by unfold undE; rw [if_pos hba]] at hU
  simp only [powV, powE, hba, hbn, if_true, Bool.true_eq_false, if_false] at hP
  have hB9 := isEl_facts hbb
  have HLB : Hid (b.size ≤ 1048576) := by show _ ≤ _; omega
  have HNB : Hid (numOf b < DD ^ 16) := Nat.lt_of_le_of_lt hB9.2.2 hq16
  obtain ⟨rt, hrt⟩ : ∃ r, lowR (grp k).q.m (grp k).p.m (numOf a * numOf b % (grp k).p.m) = r := ⟨_, rfl⟩
  have hrt16 : rt < DD ^ 16 := by
    have := lowR_leq (q := (grp k).q.m) htw (Nat.mod_lt (numOf a * numOf b) hp0)
    omega
  have HDT : Hid (dl rt ≤ 1048576) := small_dl _ hrt16
  have ht9 : timV (grp k) a b = textS rt (grp k).size := by unfold timV; rw [hba, hbb]; exact congrArg (textS · _) hrt
  have ht8 : timE (grp k) a b = 0 := by unfold timE; rw [hba, hbb]; rfl
  rw [ht9, ht8] at hT
  have HRT := Lib.hid hrt
  clear ht9 ht8 hrt hrt16 hB9
  have HT := Lib.hid hT
  have HP := Lib.hid hP
  have HU := Lib.hid hU
  have HBA := Lib.hid hba
  have HBB := Lib.hid hbb
  have HBN := Lib.hid hbn
  have HRU := Lib.hid hru
  have HP1 := Lib.hid hp1
  have hq1 : 1 ≤ (grp k).q.m := hq0
  clear hba hbb hbn hT hP hU hA9 hund hru htw hru16 hp1
  go_enter Try.func8, Try.ntmps8
  go_wp2_with fail
  refine (refKind_some k h1 h3 w).mono ?_
  rintro e w1 ⟨aq, cq, ap, cp, rfl, hq, hp, hb1⟩
  have u1 : Below w1.heap.size w1 (w1.alloc (.cells #[.int .i64 ((grp k).size : Int), .slice aq (dl (grp k).q.m) cq, .slice ap (dl (grp k).p.m) cp] 25)) := (Below.refl _ _).alloc (Nat.le_refl _) _
  have hc : Car w (w1.alloc (.cells #[.int .i64 ((grp k).size : Int), .slice aq (dl (grp k).q.m) cq, .slice ap (dl (grp k).p.m) cp] 25)) w1.heap.size 25 (grp k).size (grp k).q.m (grp k).p.m aq ap cq cp none none 0 0 := ⟨below_up (hb1) u1, Bx.new w1 _ _ _ rfl, hq.up u1, hp.up u1, NumAt.zero _ _, NumAt.zero _ _⟩
  obtain ⟨W2, hW2⟩ : ∃ W9 : World, (w1.alloc (.cells #[.int .i64 ((grp k).size : Int), .slice aq (dl (grp k).q.m) cq, .slice ap (dl (grp k).p.m) cp] 25)) = W9 := ⟨_, rfl⟩
  rw [hW2] at hc
  have HC := Lib.hid hc
  have HZL := Lib.hid (Bx.lt (HC.out.z))
  clear hc hq hp hb1 u1
  have hz_0 := HC.out.z.cell (i := 0) rfl
  have hz_1 := HC.out.z.cell (i := 1) rfl
  have hz_2 := HC.out.z.cell (i := 2) rfl
  go_wp2_with fail
  refine ((HBA.out ▸ refIsElem_any a (grp k).size (grp k).q.m (grp k).p.m aq ap cq cp hsz W2 HC.out.q)).mono ?_
  rintro e w3 ⟨rfl, hb9⟩
  have HC9 := Lib.hid (HC.out.up hb9)
  clear hb9
  clear HC hz_0 hz_1 hz_2
  have HC := HC9
  clear HC9
  have hz_0 := HC.out.z.cell (i := 0) rfl
  have hz_1 := HC.out.z.cell (i := 1) rfl
  have hz_2 := HC.out.z.cell (i := 2) rfl
  go_wp2_with fail
  refine ((HBB.out ▸ refIsElem_any b (grp k).size (grp k).q.m (grp k).p.m aq ap cq cp hsz w3 HC.out.q)).mono ?_
  rintro e w4 ⟨rfl, hb9⟩
  have HC9 := Lib.hid (HC.out.up hb9)
  clear hb9
  clear HC hz_0 hz_1 hz_2
  have HC := HC9
  clear HC9
  have hz_0 := HC.out.z.cell (i := 0) rfl
  have hz_1 := HC.out.z.cell (i := 1) rfl
  have hz_2 := HC.out.z.cell (i := 2) rfl
  go_wp2_with fail
  refine ((HBN.out ▸ refIsScalar_any n (grp k).size (grp k).q.m (grp k).p.m aq ap cq cp hsz w4 HC.out.q)).mono ?_
  rintro e w5 ⟨rfl, hb9⟩
  have HC9 := Lib.hid (HC.out.up hb9)
  clear hb9
  clear HC hz_0 hz_1 hz_2
  have HC := HC9
  clear HC9
  have hz_0 := HC.out.z.cell (i := 0) rfl
  have hz_1 := HC.out.z.cell (i := 1) rfl
  have hz_2 := HC.out.z.cell (i := 2) rfl
  go_wp2_with fail
  have HW0 : Hid (Below w5.heap.size w5 w5.drew) := (Below.refl _ _).drew
  have hzl := HC.out.z.lt
  refine wp_region_tree (fun w' => ∃ E : Over w5, w' = E.w) (.qs [0, 1, 3, 6, 7] (.a 2 (.a 4 (.a 5 (.a 8 (.q 9 .done)))))) (by kernel_rfl) (by kernel_rfl) (fun _ _ d _ _ h => by cases d <;> exact h) ⟨⟨_, HW0.out⟩, rfl⟩ ?_
  have hov := fun (E : Over w5) o => E.cell (b := w1.heap.size) o hzl
  simp only [Tree.qs]
  repeat (refine tree_q rfl rfl ?_; go_big_quiet_step (fail); refine wpQuiet_nil ?_)
  refine tree_a rfl (fun K hK => ?_)
  go_simp
  refine (refRead_any a HLA.out w5.drew).mono ?_
  rintro e w20 ⟨a20, c20, rfl, hn9, hb9⟩
  have HN20 := Lib.hid hn9
  have HW20 := Lib.hid (below_up HW0.out hb9)
  have HU20 := Lib.hid hb9
  clear hn9 hb9
  refine hK _ _ ⟨⟨⟨w20, HW20.out⟩, rfl⟩, ?_⟩
  clear hK K
  repeat (refine tree_q rfl rfl ?_; go_big_quiet_step (fail); refine wpQuiet_nil ?_)
  refine tree_a rfl (fun K hK => ?_)
  go_simp
  refine (refRead_any b HLB.out w20).mono ?_
  rintro e w21 ⟨a21, c21, rfl, hn9, hb9⟩
  have HN21 := Lib.hid hn9
  have HW21 := Lib.hid (below_up HW20.out hb9)
  have HU21 := Lib.hid hb9
  clear hn9 hb9
  refine hK _ _ ⟨⟨⟨w21, HW21.out⟩, rfl⟩, ?_⟩
  clear hK K
  repeat (refine tree_q rfl rfl ?_; go_big_quiet_step (fail); refine wpQuiet_nil ?_)
  refine tree_a rfl (fun K hK => ?_)
  go_simp
  have h9 := refProduct_any (numOf a) (numOf b) (grp k).size (grp k).q.m (grp k).p.m a20 a21 aq ap c20 c21 cq cp HNA.out HNB.out hp0 hp16 w21 (HN20.out.up HU21.out) HN21.out (HC.out.up HW21.out).q (HC.out.up HW21.out).p
  rw [HRT.out] at h9
  refine h9.mono ?_
  clear h9
  rintro e w22 ⟨a22, c22, rfl, hn9, hb9⟩
  have HN22 := Lib.hid hn9
  have HW22 := Lib.hid (below_up HW21.out hb9)
  have HU22 := Lib.hid hb9
  clear hn9 hb9
  refine hK _ _ ⟨⟨⟨w22, HW22.out⟩, rfl⟩, ?_⟩
  clear hK K
  repeat (refine tree_q rfl rfl ?_; go_big_quiet_step (fail); refine wpQuiet_nil ?_)
  refine tree_a rfl (fun K hK => ?_)
  go_simp
  refine (refText_any rt (grp k).size a22 c22 HDT.out (by omega) w22 HN22.out).mono ?_
  rintro e w23 ⟨rfl, hb9⟩
  have HW23 := Lib.hid (below_up HW22.out hb9)
  clear hb9
  refine hK _ _ ⟨⟨⟨w23, HW23.out⟩, rfl⟩, ?_⟩
  clear hK K
  repeat (refine tree_q rfl rfl ?_; go_big_quiet_step (fail); refine wpQuiet_nil ?_)
  refine tree_end ?_
  have HC9 := Lib.hid (HC.out.up HW23.out)
  clear hov hzl
  clear HC hz_0 hz_1 hz_2
  have HC := HC9
  clear HC9
  have hz_0 := HC.out.z.cell (i := 0) rfl
  have hz_1 := HC.out.z.cell (i := 1) rfl
  have hz_2 := HC.out.z.cell (i := 2) rfl
  go_wp2_with fail
  have HW0 : Hid (Below w23.heap.size w23 w23.drew) := (Below.refl _ _).drew
  have hzl := HC.out.z.lt
  refine wp_region_tree (fun w' => ∃ E : Over w23, w' = E.w) (.qs [0, 1, 4, 5] (.a 2 (.a 3 (.a 6 (.q 7 .done))))) (by kernel_rfl) (by kernel_rfl) (fun _ _ d _ _ h => by cases d <;> exact h) ⟨⟨_, HW0.out⟩, rfl⟩ ?_
  have hov := fun (E : Over w23) o => E.cell (b := w1.heap.size) o hzl
  simp only [Tree.qs]
  repeat (refine tree_q rfl rfl ?_; go_big_quiet_step (fail); refine wpQuiet_nil ?_)
  refine tree_a rfl (fun K hK => ?_)
  go_simp
  refine (refRead_any a HLA.out w23.drew).mono ?_
  rintro e w40 ⟨a40, c40, rfl, hn9, hb9⟩
  have HN40 := Lib.hid hn9
  have HW40 := Lib.hid (below_up HW0.out hb9)
  have HU40 := Lib.hid hb9
  clear hn9 hb9
  refine hK _ _ ⟨⟨⟨w40, HW40.out⟩, rfl⟩, ?_⟩
  clear hK K
  repeat (refine tree_q rfl rfl ?_; go_big_quiet_step (fail); refine wpQuiet_nil ?_)
  refine tree_a rfl (fun K hK => ?_)
  go_simp
  have h9 := refUnder_any (numOf a) (grp k).size (grp k).q.m (grp k).p.m a40 aq ap c40 cq cp HNA.out hq1 hq16 HP1.out hp16 w40 HN40.out (HC.out.up HW40.out).q (HC.out.up HW40.out).p
  rw [HRU.out] at h9
  refine h9.mono ?_
  clear h9
  rintro e w41 ⟨a41, c41, rfl, hn9, hb9⟩
  have HN41 := Lib.hid hn9
  have HW41 := Lib.hid (below_up HW40.out hb9)
  have HU41 := Lib.hid hb9
  clear hn9 hb9
  refine hK _ _ ⟨⟨⟨w41, HW41.out⟩, rfl⟩, ?_⟩
  clear hK K
  repeat (refine tree_q rfl rfl ?_; go_big_quiet_step (fail); refine wpQuiet_nil ?_)
  refine tree_a rfl (fun K hK => ?_)
  go_simp
  refine (refText_any ru (grp k).size a41 c41 HDU.out (by omega) w41 HN41.out).mono ?_
  rintro e w42 ⟨rfl, hb9⟩
  have HW42 := Lib.hid (below_up HW41.out hb9)
  clear hb9
  refine hK _ _ ⟨⟨⟨w42, HW42.out⟩, rfl⟩, ?_⟩
  clear hK K
  repeat (refine tree_q rfl rfl ?_; go_big_quiet_step (fail); refine wpQuiet_nil ?_)
  refine tree_end ?_
  have HC9 := Lib.hid (HC.out.up HW42.out)
  clear hov hzl
  clear HC hz_0 hz_1 hz_2
  have HC := HC9
  clear HC9
  have hz_0 := HC.out.z.cell (i := 0) rfl
  have hz_1 := HC.out.z.cell (i := 1) rfl
  have hz_2 := HC.out.z.cell (i := 2) rfl
  go_wp2_with fail
  refine (HT.out w42).mono ?_
  rintro e w50 ⟨rfl, hb9⟩
  have HC9 := Lib.hid (HC.out.up hb9)
  clear hb9
  clear HC hz_0 hz_1 hz_2
  have HC := HC9
  clear HC9
  have hz_0 := HC.out.z.cell (i := 0) rfl
  have hz_1 := HC.out.z.cell (i := 1) rfl
  have hz_2 := HC.out.z.cell (i := 2) rfl
  go_wp2_with fail
  refine (lawText_ok (textS rt (grp k).size) w50).mono ?_
  rintro e w51 ⟨rfl, hb9⟩
  have HC9 := Lib.hid (HC.out.up hb9)
  clear hb9
  clear HC hz_0 hz_1 hz_2
  have HC := HC9
  clear HC9
  have hz_0 := HC.out.z.cell (i := 0) rfl
  have hz_1 := HC.out.z.cell (i := 1) rfl
  have hz_2 := HC.out.z.cell (i := 2) rfl
  go_wp2_with fail
  refine (HP.out w51).mono ?_
  rintro e w52 ⟨rfl, hb9⟩
  have HC9 := Lib.hid (HC.out.up hb9)
  clear hb9
  clear HC hz_0 hz_1 hz_2
  have HC := HC9
  clear HC9
  have hz_0 := HC.out.z.cell (i := 0) rfl
  have hz_1 := HC.out.z.cell (i := 1) rfl
  have hz_2 := HC.out.z.cell (i := 2) rfl
  go_wp2_with fail
  refine (lawText_err ⟨#[]⟩ 6 (by omega) w52).mono ?_
  rintro e w53 ⟨rfl, hb9⟩
  have HC9 := Lib.hid (HC.out.up hb9)
  clear hb9
  clear HC hz_0 hz_1 hz_2
  have HC := HC9
  clear HC9
  have hz_0 := HC.out.z.cell (i := 0) rfl
  have hz_1 := HC.out.z.cell (i := 1) rfl
  have hz_2 := HC.out.z.cell (i := 2) rfl
  go_wp2_with fail
  refine (HU.out w53).mono ?_
  rintro e w54 ⟨rfl, hb9⟩
  have HC9 := Lib.hid (HC.out.up hb9)
  clear hb9
  clear HC hz_0 hz_1 hz_2
  have HC := HC9
  clear HC9
  have hz_0 := HC.out.z.cell (i := 0) rfl
  have hz_1 := HC.out.z.cell (i := 1) rfl
  have hz_2 := HC.out.z.cell (i := 2) rfl
  go_wp2_with fail
  refine (lawText_ok (textS ru (grp k).size) w54).mono ?_
  rintro e w55 ⟨rfl, hb9⟩
  have HC9 := Lib.hid (HC.out.up hb9)
  clear hb9
  clear HC hz_0 hz_1 hz_2
  have HC := HC9
  clear HC9
  have hz_0 := HC.out.z.cell (i := 0) rfl
  have hz_1 := HC.out.z.cell (i := 1) rfl
  have hz_2 := HC.out.z.cell (i := 2) rfl
  go_wp2_with fail
  go_ret
  exact ⟨rfl, HC.out.b⟩

set_option maxRecDepth 100000 in
set_option maxHeartbeats 1000000 in
theorem groupElems_ny (k : Nat) (h1 : 1 ≤ k) (h3 : k ≤ 3) (a b n : ByteArray) (hba : isEl (grp k).q.m (grp k).size a = true) (hbb : isEl (grp k).q.m (grp k).size b = false) (hbn : isSc (grp k).q.m (grp k).size n = true) (w : World) : Calls Try.prog 8 #[.int .i64 (k : Int), .string a, .string b, .string n] w fun e w' => e = .returned (.bool true) ∧ Below w.heap.size w w' := by
  obtain ⟨hlq, hlp⟩ := grp_small k h1 h3
  have hsz : (grp k).size ≤ 32 := (grp_ok k h1 h3).size_le
  have hq0 : 0 < (grp k).q.m := (grp_ok k h1 h3).q.pos
  have hq16 : (grp k).q.m < DD ^ 16 := (grp_ok k h1 h3).q.lt4
  have hp0 : 0 < (grp k).p.m := (grp_ok k h1 h3).p.pos
  have hp16 : (grp k).p.m < DD ^ 16 := (grp_ok k h1 h3).p.lt4
  have hs0 : (((grp k).size : Int) == 0) = false := by
    obtain rfl | rfl | rfl : k = 1 ∨ k = 2 ∨ k = 3 := by omega
    all_goals rfl
  have hp1 : 1 < (grp k).p.m := by have := (grp_ok k h1 h3).twice; omega
  have htw : (grp k).p.m = 2 * (grp k).q.m + 1 := (grp_ok k h1 h3).twice
  have hA9 := isEl_facts hba
  have HLA : Hid (a.size ≤ 1048576) := by show _ ≤ _; omega
  have HNA : Hid (numOf a < DD ^ 16) := Nat.lt_of_le_of_lt hA9.2.2 hq16
  have hund : lowR (grp k).q.m (grp k).p.m (numOf a ^ ((grp k).p.m - 2) % (grp k).p.m) = lowR (grp k).q.m (grp k).p.m (numOf a ^ ((grp k).q.m - 1) % (grp k).p.m) := under_low (grp_prime_p k h1 h3) htw hq0 hA9.2.1 hA9.2.2
  obtain ⟨ru, hru⟩ : ∃ r, lowR (grp k).q.m (grp k).p.m (numOf a ^ ((grp k).q.m - 1) % (grp k).p.m) = r := ⟨_, rfl⟩
  have hru16 : ru < DD ^ 16 := by
    have := lowR_leq (q := (grp k).q.m) htw (Nat.mod_lt (numOf a ^ ((grp k).q.m - 1)) hp0)
    omega
  have HDU : Hid (dl ru ≤ 1048576) := small_dl _ hru16
  rw [hru] at hund
  have hT := fun W => Times_some k h1 h3 a b W
  have hP := fun W => Power_some k h1 h3 a n W
  have hU := fun W => Under_some k h1 h3 a W
  rw [show undV (grp k) a = textS ru (grp k).size by unfold undV; rw [if_pos hba]; exact congrArg (textS · _) hund, show undE (grp k) a = 0 by unfold undE; rw [if_pos hba]] at hU
  simp only [timV, timE, hba, hbb, Bool.true_and, Bool.false_eq_true, if_false] at hT
  have hN9 := isSc_facts hbn
  have HLN : Hid (n.size ≤ 1048576) := by show _ ≤ _; omega
  have HDN : Hid (dl (numOf n) ≤ 65536) := Nat.le_trans (dl_of_lt (numOf n) 16 (Nat.lt_trans hN9.2 hq16)) (by decide)
  obtain ⟨rp, hrp⟩ : ∃ r, lowR (grp k).q.m (grp k).p.m (numOf a ^ numOf n % (grp k).p.m) = r := ⟨_, rfl⟩
  have hrp16 : rp < DD ^ 16 := by
    have := lowR_leq (q := (grp k).q.m) htw (Nat.mod_lt (numOf a ^ numOf n) hp0)
    omega
  have HDP : Hid (dl rp ≤ 1048576) := small_dl _ hrp16
  have ht9 : powV (grp k) a n = textS rp (grp k).size := by unfold powV; rw [hba, hbn]; exact congrArg (textS · _) hrp
  have ht8 : powE (grp k) a n = 0 := by unfold powE; rw [hba, hbn]; rfl
  rw [ht9, ht8] at hP
  have HRP := Lib.hid hrp
  clear ht9 ht8 hrp hrp16 hN9
  have HT := Lib.hid hT
  have HP := Lib.hid hP
  have HU := Lib.hid hU
  have HBA := Lib.hid hba
  have HBB := Lib.hid hbb
  have HBN := Lib.hid hbn
  have HRU := Lib.hid hru
  have HP1 := Lib.hid hp1
  have hq1 : 1 ≤ (grp k).q.m := hq0
  clear hba hbb hbn hT hP hU hA9 hund hru htw hru16 hp1
  go_enter Try.func8, Try.ntmps8
  go_wp2_with fail
  refine (refKind_some k h1 h3 w).mono ?_
  rintro e w1 ⟨aq, cq, ap, cp, rfl, hq, hp, hb1⟩
  have u1 : Below w1.heap.size w1 (w1.alloc (.cells #[.int .i64 ((grp k).size : Int), .slice aq (dl (grp k).q.m) cq, .slice ap (dl (grp k).p.m) cp] 25)) := (Below.refl _ _).alloc (Nat.le_refl _) _
  have hc : Car w (w1.alloc (.cells #[.int .i64 ((grp k).size : Int), .slice aq (dl (grp k).q.m) cq, .slice ap (dl (grp k).p.m) cp] 25)) w1.heap.size 25 (grp k).size (grp k).q.m (grp k).p.m aq ap cq cp none none 0 0 := ⟨below_up (hb1) u1, Bx.new w1 _ _ _ rfl, hq.up u1, hp.up u1, NumAt.zero _ _, NumAt.zero _ _⟩
  obtain ⟨W2, hW2⟩ : ∃ W9 : World, (w1.alloc (.cells #[.int .i64 ((grp k).size : Int), .slice aq (dl (grp k).q.m) cq, .slice ap (dl (grp k).p.m) cp] 25)) = W9 := ⟨_, rfl⟩
  rw [hW2] at hc
  have HC := Lib.hid hc
  have HZL := Lib.hid (Bx.lt (HC.out.z))
  clear hc hq hp hb1 u1
  have hz_0 := HC.out.z.cell (i := 0) rfl
  have hz_1 := HC.out.z.cell (i := 1) rfl
  have hz_2 := HC.out.z.cell (i := 2) rfl
  go_wp2_with fail
  refine ((HBA.out ▸ refIsElem_any a (grp k).size (grp k).q.m (grp k).p.m aq ap cq cp hsz W2 HC.out.q)).mono ?_
  rintro e w3 ⟨rfl, hb9⟩
  have HC9 := Lib.hid (HC.out.up hb9)
  clear hb9
  clear HC hz_0 hz_1 hz_2
  have HC := HC9
  clear HC9
  have hz_0 := HC.out.z.cell (i := 0) rfl
  have hz_1 := HC.out.z.cell (i := 1) rfl
  have hz_2 := HC.out.z.cell (i := 2) rfl
  go_wp2_with fail
  refine ((HBB.out ▸ refIsElem_any b (grp k).size (grp k).q.m (grp k).p.m aq ap cq cp hsz w3 HC.out.q)).mono ?_
  rintro e w4 ⟨rfl, hb9⟩
  have HC9 := Lib.hid (HC.out.up hb9)
  clear hb9
  clear HC hz_0 hz_1 hz_2
  have HC := HC9
  clear HC9
  have hz_0 := HC.out.z.cell (i := 0) rfl
  have hz_1 := HC.out.z.cell (i := 1) rfl
  have hz_2 := HC.out.z.cell (i := 2) rfl
  go_wp2_with fail
  refine ((HBN.out ▸ refIsScalar_any n (grp k).size (grp k).q.m (grp k).p.m aq ap cq cp hsz w4 HC.out.q)).mono ?_
  rintro e w5 ⟨rfl, hb9⟩
  have HC9 := Lib.hid (HC.out.up hb9)
  clear hb9
  clear HC hz_0 hz_1 hz_2
  have HC := HC9
  clear HC9
  have hz_0 := HC.out.z.cell (i := 0) rfl
  have hz_1 := HC.out.z.cell (i := 1) rfl
  have hz_2 := HC.out.z.cell (i := 2) rfl
  go_wp2_with fail
  have HW0 : Hid (Below w5.heap.size w5 w5.drew) := (Below.refl _ _).drew
  have hzl := HC.out.z.lt
  refine wp_region_tree (fun w' => ∃ E : Over w5, w' = E.w) (.qs [0, 1, 3, 6, 7] (.a 2 (.a 4 (.a 5 (.a 8 (.q 9 .done)))))) (by kernel_rfl) (by kernel_rfl) (fun _ _ d _ _ h => by cases d <;> exact h) ⟨⟨_, HW0.out⟩, rfl⟩ ?_
  have hov := fun (E : Over w5) o => E.cell (b := w1.heap.size) o hzl
  simp only [Tree.qs]
  repeat (refine tree_q rfl rfl ?_; go_big_quiet_step (fail); refine wpQuiet_nil ?_)
  refine tree_a rfl (fun K hK => ?_)
  go_simp
  refine (refRead_any a HLA.out w5.drew).mono ?_
  rintro e w30 ⟨a30, c30, rfl, hn9, hb9⟩
  have HN30 := Lib.hid hn9
  have HW30 := Lib.hid (below_up HW0.out hb9)
  have HU30 := Lib.hid hb9
  clear hn9 hb9
  refine hK _ _ ⟨⟨⟨w30, HW30.out⟩, rfl⟩, ?_⟩
  clear hK K
  repeat (refine tree_q rfl rfl ?_; go_big_quiet_step (fail); refine wpQuiet_nil ?_)
  refine tree_a rfl (fun K hK => ?_)
  go_simp
  refine (refRead_any n HLN.out w30).mono ?_
  rintro e w31 ⟨a31, c31, rfl, hn9, hb9⟩
  have HN31 := Lib.hid hn9
  have HW31 := Lib.hid (below_up HW30.out hb9)
  have HU31 := Lib.hid hb9
  clear hn9 hb9
  refine hK _ _ ⟨⟨⟨w31, HW31.out⟩, rfl⟩, ?_⟩
  clear hK K
  repeat (refine tree_q rfl rfl ?_; go_big_quiet_step (fail); refine wpQuiet_nil ?_)
  refine tree_a rfl (fun K hK => ?_)
  go_simp
  have h9 := refPow_any (numOf a) (numOf n) (grp k).size (grp k).q.m (grp k).p.m a30 a31 aq ap c30 c31 cq cp HNA.out HDN.out HP1.out hp16 w31 (HN30.out.up HU31.out) HN31.out (HC.out.up HW31.out).q (HC.out.up HW31.out).p
  rw [HRP.out] at h9
  refine h9.mono ?_
  clear h9
  rintro e w32 ⟨a32, c32, rfl, hn9, hb9⟩
  have HN32 := Lib.hid hn9
  have HW32 := Lib.hid (below_up HW31.out hb9)
  have HU32 := Lib.hid hb9
  clear hn9 hb9
  refine hK _ _ ⟨⟨⟨w32, HW32.out⟩, rfl⟩, ?_⟩
  clear hK K
  repeat (refine tree_q rfl rfl ?_; go_big_quiet_step (fail); refine wpQuiet_nil ?_)
  refine tree_a rfl (fun K hK => ?_)
  go_simp
  refine (refText_any rp (grp k).size a32 c32 HDP.out (by omega) w32 HN32.out).mono ?_
  rintro e w33 ⟨rfl, hb9⟩
  have HW33 := Lib.hid (below_up HW32.out hb9)
  clear hb9
  refine hK _ _ ⟨⟨⟨w33, HW33.out⟩, rfl⟩, ?_⟩
  clear hK K
  repeat (refine tree_q rfl rfl ?_; go_big_quiet_step (fail); refine wpQuiet_nil ?_)
  refine tree_end ?_
  have HC9 := Lib.hid (HC.out.up HW33.out)
  clear hov hzl
  clear HC hz_0 hz_1 hz_2
  have HC := HC9
  clear HC9
  have hz_0 := HC.out.z.cell (i := 0) rfl
  have hz_1 := HC.out.z.cell (i := 1) rfl
  have hz_2 := HC.out.z.cell (i := 2) rfl
  go_wp2_with fail
  have HW0 : Hid (Below w33.heap.size w33 w33.drew) := (Below.refl _ _).drew
  have hzl := HC.out.z.lt
  refine wp_region_tree (fun w' => ∃ E : Over w33, w' = E.w) (.qs [0, 1, 4, 5] (.a 2 (.a 3 (.a 6 (.q 7 .done))))) (by kernel_rfl) (by kernel_rfl) (fun _ _ d _ _ h => by cases d <;> exact h) ⟨⟨_, HW0.out⟩, rfl⟩ ?_
  have hov := fun (E : Over w33) o => E.cell (b := w1.heap.size) o hzl
  simp only [Tree.qs]
  repeat (refine tree_q rfl rfl ?_; go_big_quiet_step (fail); refine wpQuiet_nil ?_)
  refine tree_a rfl (fun K hK => ?_)
  go_simp
  refine (refRead_any a HLA.out w33.drew).mono ?_
  rintro e w40 ⟨a40, c40, rfl, hn9, hb9⟩
  have HN40 := Lib.hid hn9
  have HW40 := Lib.hid (below_up HW0.out hb9)
  have HU40 := Lib.hid hb9
  clear hn9 hb9
  refine hK _ _ ⟨⟨⟨w40, HW40.out⟩, rfl⟩, ?_⟩
  clear hK K
  repeat (refine tree_q rfl rfl ?_; go_big_quiet_step (fail); refine wpQuiet_nil ?_)
  refine tree_a rfl (fun K hK => ?_)
  go_simp
  have h9 := refUnder_any (numOf a) (grp k).size (grp k).q.m (grp k).p.m a40 aq ap c40 cq cp HNA.out hq1 hq16 HP1.out hp16 w40 HN40.out (HC.out.up HW40.out).q (HC.out.up HW40.out).p
  rw [HRU.out] at h9
  refine h9.mono ?_
  clear h9
  rintro e w41 ⟨a41, c41, rfl, hn9, hb9⟩
  have HN41 := Lib.hid hn9
  have HW41 := Lib.hid (below_up HW40.out hb9)
  have HU41 := Lib.hid hb9
  clear hn9 hb9
  refine hK _ _ ⟨⟨⟨w41, HW41.out⟩, rfl⟩, ?_⟩
  clear hK K
  repeat (refine tree_q rfl rfl ?_; go_big_quiet_step (fail); refine wpQuiet_nil ?_)
  refine tree_a rfl (fun K hK => ?_)
  go_simp
  refine (refText_any ru (grp k).size a41 c41 HDU.out (by omega) w41 HN41.out).mono ?_
  rintro e w42 ⟨rfl, hb9⟩
  have HW42 := Lib.hid (below_up HW41.out hb9)
  clear hb9
  refine hK _ _ ⟨⟨⟨w42, HW42.out⟩, rfl⟩, ?_⟩
  clear hK K
  repeat (refine tree_q rfl rfl ?_; go_big_quiet_step (fail); refine wpQuiet_nil ?_)
  refine tree_end ?_
  have HC9 := Lib.hid (HC.out.up HW42.out)
  clear hov hzl
  clear HC hz_0 hz_1 hz_2
  have HC := HC9
  clear HC9
  have hz_0 := HC.out.z.cell (i := 0) rfl
  have hz_1 := HC.out.z.cell (i := 1) rfl
  have hz_2 := HC.out.z.cell (i := 2) rfl
  go_wp2_with fail
  refine (HT.out w42).mono ?_
  rintro e w50 ⟨rfl, hb9⟩
  have HC9 := Lib.hid (HC.out.up hb9)
  clear hb9
  clear HC hz_0 hz_1 hz_2
  have HC := HC9
  clear HC9
  have hz_0 := HC.out.z.cell (i := 0) rfl
  have hz_1 := HC.out.z.cell (i := 1) rfl
  have hz_2 := HC.out.z.cell (i := 2) rfl
  go_wp2_with fail
  refine (lawText_err ⟨#[]⟩ 7 (by omega) w50).mono ?_
  rintro e w51 ⟨rfl, hb9⟩
  have HC9 := Lib.hid (HC.out.up hb9)
  clear hb9
  clear HC hz_0 hz_1 hz_2
  have HC := HC9
  clear HC9
  have hz_0 := HC.out.z.cell (i := 0) rfl
  have hz_1 := HC.out.z.cell (i := 1) rfl
  have hz_2 := HC.out.z.cell (i := 2) rfl
  go_wp2_with fail
  refine (HP.out w51).mono ?_
  rintro e w52 ⟨rfl, hb9⟩
  have HC9 := Lib.hid (HC.out.up hb9)
  clear hb9
  clear HC hz_0 hz_1 hz_2
  have HC := HC9
  clear HC9
  have hz_0 := HC.out.z.cell (i := 0) rfl
  have hz_1 := HC.out.z.cell (i := 1) rfl
  have hz_2 := HC.out.z.cell (i := 2) rfl
  go_wp2_with fail
  refine (lawText_ok (textS rp (grp k).size) w52).mono ?_
  rintro e w53 ⟨rfl, hb9⟩
  have HC9 := Lib.hid (HC.out.up hb9)
  clear hb9
  clear HC hz_0 hz_1 hz_2
  have HC := HC9
  clear HC9
  have hz_0 := HC.out.z.cell (i := 0) rfl
  have hz_1 := HC.out.z.cell (i := 1) rfl
  have hz_2 := HC.out.z.cell (i := 2) rfl
  go_wp2_with fail
  refine (HU.out w53).mono ?_
  rintro e w54 ⟨rfl, hb9⟩
  have HC9 := Lib.hid (HC.out.up hb9)
  clear hb9
  clear HC hz_0 hz_1 hz_2
  have HC := HC9
  clear HC9
  have hz_0 := HC.out.z.cell (i := 0) rfl
  have hz_1 := HC.out.z.cell (i := 1) rfl
  have hz_2 := HC.out.z.cell (i := 2) rfl
  go_wp2_with fail
  refine (lawText_ok (textS ru (grp k).size) w54).mono ?_
  rintro e w55 ⟨rfl, hb9⟩
  have HC9 := Lib.hid (HC.out.up hb9)
  clear hb9
  clear HC hz_0 hz_1 hz_2
  have HC := HC9
  clear HC9
  have hz_0 := HC.out.z.cell (i := 0) rfl
  have hz_1 := HC.out.z.cell (i := 1) rfl
  have hz_2 := HC.out.z.cell (i := 2) rfl
  go_wp2_with fail
  go_ret
  exact ⟨rfl, HC.out.b⟩

set_option maxRecDepth 100000 in
set_option maxHeartbeats 3000000 in
theorem groupElems_yy (k : Nat) (h1 : 1 ≤ k) (h3 : k ≤ 3) (a b n : ByteArray) (hba : isEl (grp k).q.m (grp k).size a = true) (hbb : isEl (grp k).q.m (grp k).size b = true) (hbn : isSc (grp k).q.m (grp k).size n = true) (w : World) : Calls Try.prog 8 #[.int .i64 (k : Int), .string a, .string b, .string n] w fun e w' => e = .returned (.bool true) ∧ Below w.heap.size w w' := by
  obtain ⟨hlq, hlp⟩ := grp_small k h1 h3
  have hsz : (grp k).size ≤ 32 := (grp_ok k h1 h3).size_le
  have hq0 : 0 < (grp k).q.m := (grp_ok k h1 h3).q.pos
  have hq16 : (grp k).q.m < DD ^ 16 := (grp_ok k h1 h3).q.lt4
  have hp0 : 0 < (grp k).p.m := (grp_ok k h1 h3).p.pos
  have hp16 : (grp k).p.m < DD ^ 16 := (grp_ok k h1 h3).p.lt4
  have hs0 : (((grp k).size : Int) == 0) = false := by
    obtain rfl | rfl | rfl : k = 1 ∨ k = 2 ∨ k = 3 := by omega
    all_goals rfl
  have hp1 : 1 < (grp k).p.m := by have := (grp_ok k h1 h3).twice; omega
  have htw : (grp k).p.m = 2 * (grp k).q.m + 1 := (grp_ok k h1 h3).twice
  have hA9 := isEl_facts hba
  have HLA : Hid (a.size ≤ 1048576) := by show _ ≤ _; omega
  have HNA : Hid (numOf a < DD ^ 16) := Nat.lt_of_le_of_lt hA9.2.2 hq16
  have hund : lowR (grp k).q.m (grp k).p.m (numOf a ^ ((grp k).p.m - 2) % (grp k).p.m) = lowR (grp k).q.m (grp k).p.m (numOf a ^ ((grp k).q.m - 1) % (grp k).p.m) := under_low (grp_prime_p k h1 h3) htw hq0 hA9.2.1 hA9.2.2
  obtain ⟨ru, hru⟩ : ∃ r, lowR (grp k).q.m (grp k).p.m (numOf a ^ ((grp k).q.m - 1) % (grp k).p.m) = r := ⟨_, rfl⟩
  have hru16 : ru < DD ^ 16 := by
    have := lowR_leq (q := (grp k).q.m) htw (Nat.mod_lt (numOf a ^ ((grp k).q.m - 1)) hp0)
    omega
  have HDU : Hid (dl ru ≤ 1048576) := small_dl _ hru16
  rw [hru] at hund
  have hT := fun W => Times_some k h1 h3 a b W
  have hP := fun W => Power_some k h1 h3 a n W
  have hU := fun W => Under_some k h1 h3 a W
  rw [show undV (grp k) a = textS ru (grp k).size by unfold undV; rw [if_pos hba]; exact congrArg (textS · _) hund, show undE (grp k) a = 0 by unfold undE; rw [if_pos hba]] at hU
  have hB9 := isEl_facts hbb
  have HLB : Hid (b.size ≤ 1048576) := by show _ ≤ _; omega
  have HNB : Hid (numOf b < DD ^ 16) := Nat.lt_of_le_of_lt hB9.2.2 hq16
  obtain ⟨rt, hrt⟩ : ∃ r, lowR (grp k).q.m (grp k).p.m (numOf a * numOf b % (grp k).p.m) = r := ⟨_, rfl⟩
  have hrt16 : rt < DD ^ 16 := by
    have := lowR_leq (q := (grp k).q.m) htw (Nat.mod_lt (numOf a * numOf b) hp0)
    omega
  have HDT : Hid (dl rt ≤ 1048576) := small_dl _ hrt16
  have ht9 : timV (grp k) a b = textS rt (grp k).size := by unfold timV; rw [hba, hbb]; exact congrArg (textS · _) hrt
  have ht8 : timE (grp k) a b = 0 := by unfold timE; rw [hba, hbb]; rfl
  rw [ht9, ht8] at hT
  have HRT := Lib.hid hrt
  clear ht9 ht8 hrt hrt16 hB9
  have hN9 := isSc_facts hbn
  have HLN : Hid (n.size ≤ 1048576) := by show _ ≤ _; omega
  have HDN : Hid (dl (numOf n) ≤ 65536) := Nat.le_trans (dl_of_lt (numOf n) 16 (Nat.lt_trans hN9.2 hq16)) (by decide)
  obtain ⟨rp, hrp⟩ : ∃ r, lowR (grp k).q.m (grp k).p.m (numOf a ^ numOf n % (grp k).p.m) = r := ⟨_, rfl⟩
  have hrp16 : rp < DD ^ 16 := by
    have := lowR_leq (q := (grp k).q.m) htw (Nat.mod_lt (numOf a ^ numOf n) hp0)
    omega
  have HDP : Hid (dl rp ≤ 1048576) := small_dl _ hrp16
  have ht9 : powV (grp k) a n = textS rp (grp k).size := by unfold powV; rw [hba, hbn]; exact congrArg (textS · _) hrp
  have ht8 : powE (grp k) a n = 0 := by unfold powE; rw [hba, hbn]; rfl
  rw [ht9, ht8] at hP
  have HRP := Lib.hid hrp
  clear ht9 ht8 hrp hrp16 hN9
  have HT := Lib.hid hT
  have HP := Lib.hid hP
  have HU := Lib.hid hU
  have HBA := Lib.hid hba
  have HBB := Lib.hid hbb
  have HBN := Lib.hid hbn
  have HRU := Lib.hid hru
  have HP1 := Lib.hid hp1
  have hq1 : 1 ≤ (grp k).q.m := hq0
  clear hba hbb hbn hT hP hU hA9 hund hru htw hru16 hp1
  go_enter Try.func8, Try.ntmps8
  go_wp2_with fail
  refine (refKind_some k h1 h3 w).mono ?_
  rintro e w1 ⟨aq, cq, ap, cp, rfl, hq, hp, hb1⟩
  have u1 : Below w1.heap.size w1 (w1.alloc (.cells #[.int .i64 ((grp k).size : Int), .slice aq (dl (grp k).q.m) cq, .slice ap (dl (grp k).p.m) cp] 25)) := (Below.refl _ _).alloc (Nat.le_refl _) _
  have hc : Car w (w1.alloc (.cells #[.int .i64 ((grp k).size : Int), .slice aq (dl (grp k).q.m) cq, .slice ap (dl (grp k).p.m) cp] 25)) w1.heap.size 25 (grp k).size (grp k).q.m (grp k).p.m aq ap cq cp none none 0 0 := ⟨below_up (hb1) u1, Bx.new w1 _ _ _ rfl, hq.up u1, hp.up u1, NumAt.zero _ _, NumAt.zero _ _⟩
  obtain ⟨W2, hW2⟩ : ∃ W9 : World, (w1.alloc (.cells #[.int .i64 ((grp k).size : Int), .slice aq (dl (grp k).q.m) cq, .slice ap (dl (grp k).p.m) cp] 25)) = W9 := ⟨_, rfl⟩
  rw [hW2] at hc
  have HC := Lib.hid hc
  have HZL := Lib.hid (Bx.lt (HC.out.z))
  clear hc hq hp hb1 u1
  have hz_0 := HC.out.z.cell (i := 0) rfl
  have hz_1 := HC.out.z.cell (i := 1) rfl
  have hz_2 := HC.out.z.cell (i := 2) rfl
  go_wp2_with fail
  refine ((HBA.out ▸ refIsElem_any a (grp k).size (grp k).q.m (grp k).p.m aq ap cq cp hsz W2 HC.out.q)).mono ?_
  rintro e w3 ⟨rfl, hb9⟩
  have HC9 := Lib.hid (HC.out.up hb9)
  clear hb9
  clear HC hz_0 hz_1 hz_2
  have HC := HC9
  clear HC9
  have hz_0 := HC.out.z.cell (i := 0) rfl
  have hz_1 := HC.out.z.cell (i := 1) rfl
  have hz_2 := HC.out.z.cell (i := 2) rfl
  go_wp2_with fail
  refine ((HBB.out ▸ refIsElem_any b (grp k).size (grp k).q.m (grp k).p.m aq ap cq cp hsz w3 HC.out.q)).mono ?_
  rintro e w4 ⟨rfl, hb9⟩
  have HC9 := Lib.hid (HC.out.up hb9)
  clear hb9
  clear HC hz_0 hz_1 hz_2
  have HC := HC9
  clear HC9
  have hz_0 := HC.out.z.cell (i := 0) rfl
  have hz_1 := HC.out.z.cell (i := 1) rfl
  have hz_2 := HC.out.z.cell (i := 2) rfl
  go_wp2_with fail
  refine ((HBN.out ▸ refIsScalar_any n (grp k).size (grp k).q.m (grp k).p.m aq ap cq cp hsz w4 HC.out.q)).mono ?_
  rintro e w5 ⟨rfl, hb9⟩
  have HC9 := Lib.hid (HC.out.up hb9)
  clear hb9
  clear HC hz_0 hz_1 hz_2
  have HC := HC9
  clear HC9
  have hz_0 := HC.out.z.cell (i := 0) rfl
  have hz_1 := HC.out.z.cell (i := 1) rfl
  have hz_2 := HC.out.z.cell (i := 2) rfl
  go_wp2_with fail
  have HW0 : Hid (Below w5.heap.size w5 w5.drew) := (Below.refl _ _).drew
  have hzl := HC.out.z.lt
  refine wp_region_tree (fun w' => ∃ E : Over w5, w' = E.w) (.qs [0, 1, 3, 6, 7] (.a 2 (.a 4 (.a 5 (.a 8 (.q 9 .done)))))) (by kernel_rfl) (by kernel_rfl) (fun _ _ d _ _ h => by cases d <;> exact h) ⟨⟨_, HW0.out⟩, rfl⟩ ?_
  have hov := fun (E : Over w5) o => E.cell (b := w1.heap.size) o hzl
  simp only [Tree.qs]
  repeat (refine tree_q rfl rfl ?_; go_big_quiet_step (fail); refine wpQuiet_nil ?_)
  refine tree_a rfl (fun K hK => ?_)
  go_simp
  refine (refRead_any a HLA.out w5.drew).mono ?_
  rintro e w20 ⟨a20, c20, rfl, hn9, hb9⟩
  have HN20 := Lib.hid hn9
  have HW20 := Lib.hid (below_up HW0.out hb9)
  have HU20 := Lib.hid hb9
  clear hn9 hb9
  refine hK _ _ ⟨⟨⟨w20, HW20.out⟩, rfl⟩, ?_⟩
  clear hK K
  repeat (refine tree_q rfl rfl ?_; go_big_quiet_step (fail); refine wpQuiet_nil ?_)
  refine tree_a rfl (fun K hK => ?_)
  go_simp
  refine (refRead_any b HLB.out w20).mono ?_
  rintro e w21 ⟨a21, c21, rfl, hn9, hb9⟩
  have HN21 := Lib.hid hn9
  have HW21 := Lib.hid (below_up HW20.out hb9)
  have HU21 := Lib.hid hb9
  clear hn9 hb9
  refine hK _ _ ⟨⟨⟨w21, HW21.out⟩, rfl⟩, ?_⟩
  clear hK K
  repeat (refine tree_q rfl rfl ?_; go_big_quiet_step (fail); refine wpQuiet_nil ?_)
  refine tree_a rfl (fun K hK => ?_)
  go_simp
  have h9 := refProduct_any (numOf a) (numOf b) (grp k).size (grp k).q.m (grp k).p.m a20 a21 aq ap c20 c21 cq cp HNA.out HNB.out hp0 hp16 w21 (HN20.out.up HU21.out) HN21.out (HC.out.up HW21.out).q (HC.out.up HW21.out).p
  rw [HRT.out] at h9
  refine h9.mono ?_
  clear h9
  rintro e w22 ⟨a22, c22, rfl, hn9, hb9⟩
  have HN22 := Lib.hid hn9
  have HW22 := Lib.hid (below_up HW21.out hb9)
  have HU22 := Lib.hid hb9
  clear hn9 hb9
  refine hK _ _ ⟨⟨⟨w22, HW22.out⟩, rfl⟩, ?_⟩
  clear hK K
  repeat (refine tree_q rfl rfl ?_; go_big_quiet_step (fail); refine wpQuiet_nil ?_)
  refine tree_a rfl (fun K hK => ?_)
  go_simp
  refine (refText_any rt (grp k).size a22 c22 HDT.out (by omega) w22 HN22.out).mono ?_
  rintro e w23 ⟨rfl, hb9⟩
  have HW23 := Lib.hid (below_up HW22.out hb9)
  clear hb9
  refine hK _ _ ⟨⟨⟨w23, HW23.out⟩, rfl⟩, ?_⟩
  clear hK K
  repeat (refine tree_q rfl rfl ?_; go_big_quiet_step (fail); refine wpQuiet_nil ?_)
  refine tree_end ?_
  have HC9 := Lib.hid (HC.out.up HW23.out)
  clear hov hzl
  clear HC hz_0 hz_1 hz_2
  have HC := HC9
  clear HC9
  have hz_0 := HC.out.z.cell (i := 0) rfl
  have hz_1 := HC.out.z.cell (i := 1) rfl
  have hz_2 := HC.out.z.cell (i := 2) rfl
  go_wp2_with fail
  have HW0 : Hid (Below w23.heap.size w23 w23.drew) := (Below.refl _ _).drew
  have hzl := HC.out.z.lt
  refine wp_region_tree (fun w' => ∃ E : Over w23, w' = E.w) (.qs [0, 1, 3, 6, 7] (.a 2 (.a 4 (.a 5 (.a 8 (.q 9 .done)))))) (by kernel_rfl) (by kernel_rfl) (fun _ _ d _ _ h => by cases d <;> exact h) ⟨⟨_, HW0.out⟩, rfl⟩ ?_
  have hov := fun (E : Over w23) o => E.cell (b := w1.heap.size) o hzl
  simp only [Tree.qs]
  repeat (refine tree_q rfl rfl ?_; go_big_quiet_step (fail); refine wpQuiet_nil ?_)
  refine tree_a rfl (fun K hK => ?_)
  go_simp
  refine (refRead_any a HLA.out w23.drew).mono ?_
  rintro e w30 ⟨a30, c30, rfl, hn9, hb9⟩
  have HN30 := Lib.hid hn9
  have HW30 := Lib.hid (below_up HW0.out hb9)
  have HU30 := Lib.hid hb9
  clear hn9 hb9
  refine hK _ _ ⟨⟨⟨w30, HW30.out⟩, rfl⟩, ?_⟩
  clear hK K
  repeat (refine tree_q rfl rfl ?_; go_big_quiet_step (fail); refine wpQuiet_nil ?_)
  refine tree_a rfl (fun K hK => ?_)
  go_simp
  refine (refRead_any n HLN.out w30).mono ?_
  rintro e w31 ⟨a31, c31, rfl, hn9, hb9⟩
  have HN31 := Lib.hid hn9
  have HW31 := Lib.hid (below_up HW30.out hb9)
  have HU31 := Lib.hid hb9
  clear hn9 hb9
  refine hK _ _ ⟨⟨⟨w31, HW31.out⟩, rfl⟩, ?_⟩
  clear hK K
  repeat (refine tree_q rfl rfl ?_; go_big_quiet_step (fail); refine wpQuiet_nil ?_)
  refine tree_a rfl (fun K hK => ?_)
  go_simp
  have h9 := refPow_any (numOf a) (numOf n) (grp k).size (grp k).q.m (grp k).p.m a30 a31 aq ap c30 c31 cq cp HNA.out HDN.out HP1.out hp16 w31 (HN30.out.up HU31.out) HN31.out (HC.out.up HW31.out).q (HC.out.up HW31.out).p
  rw [HRP.out] at h9
  refine h9.mono ?_
  clear h9
  rintro e w32 ⟨a32, c32, rfl, hn9, hb9⟩
  have HN32 := Lib.hid hn9
  have HW32 := Lib.hid (below_up HW31.out hb9)
  have HU32 := Lib.hid hb9
  clear hn9 hb9
  refine hK _ _ ⟨⟨⟨w32, HW32.out⟩, rfl⟩, ?_⟩
  clear hK K
  repeat (refine tree_q rfl rfl ?_; go_big_quiet_step (fail); refine wpQuiet_nil ?_)
  refine tree_a rfl (fun K hK => ?_)
  go_simp
  refine (refText_any rp (grp k).size a32 c32 HDP.out (by omega) w32 HN32.out).mono ?_
  rintro e w33 ⟨rfl, hb9⟩
  have HW33 := Lib.hid (below_up HW32.out hb9)
  clear hb9
  refine hK _ _ ⟨⟨⟨w33, HW33.out⟩, rfl⟩, ?_⟩
  clear hK K
  repeat (refine tree_q rfl rfl ?_; go_big_quiet_step (fail); refine wpQuiet_nil ?_)
  refine tree_end ?_
  have HC9 := Lib.hid (HC.out.up HW33.out)
  clear hov hzl
  clear HC hz_0 hz_1 hz_2
  have HC := HC9
  clear HC9
  have hz_0 := HC.out.z.cell (i := 0) rfl
  have hz_1 := HC.out.z.cell (i := 1) rfl
  have hz_2 := HC.out.z.cell (i := 2) rfl
  go_wp2_with fail
  have HW0 : Hid (Below w33.heap.size w33 w33.drew) := (Below.refl _ _).drew
  have hzl := HC.out.z.lt
  refine wp_region_tree (fun w' => ∃ E : Over w33, w' = E.w) (.qs [0, 1, 4, 5] (.a 2 (.a 3 (.a 6 (.q 7 .done))))) (by kernel_rfl) (by kernel_rfl) (fun _ _ d _ _ h => by cases d <;> exact h) ⟨⟨_, HW0.out⟩, rfl⟩ ?_
  have hov := fun (E : Over w33) o => E.cell (b := w1.heap.size) o hzl
  simp only [Tree.qs]
  repeat (refine tree_q rfl rfl ?_; go_big_quiet_step (fail); refine wpQuiet_nil ?_)
  refine tree_a rfl (fun K hK => ?_)
  go_simp
  refine (refRead_any a HLA.out w33.drew).mono ?_
  rintro e w40 ⟨a40, c40, rfl, hn9, hb9⟩
  have HN40 := Lib.hid hn9
  have HW40 := Lib.hid (below_up HW0.out hb9)
  have HU40 := Lib.hid hb9
  clear hn9 hb9
  refine hK _ _ ⟨⟨⟨w40, HW40.out⟩, rfl⟩, ?_⟩
  clear hK K
  repeat (refine tree_q rfl rfl ?_; go_big_quiet_step (fail); refine wpQuiet_nil ?_)
  refine tree_a rfl (fun K hK => ?_)
  go_simp
  have h9 := refUnder_any (numOf a) (grp k).size (grp k).q.m (grp k).p.m a40 aq ap c40 cq cp HNA.out hq1 hq16 HP1.out hp16 w40 HN40.out (HC.out.up HW40.out).q (HC.out.up HW40.out).p
  rw [HRU.out] at h9
  refine h9.mono ?_
  clear h9
  rintro e w41 ⟨a41, c41, rfl, hn9, hb9⟩
  have HN41 := Lib.hid hn9
  have HW41 := Lib.hid (below_up HW40.out hb9)
  have HU41 := Lib.hid hb9
  clear hn9 hb9
  refine hK _ _ ⟨⟨⟨w41, HW41.out⟩, rfl⟩, ?_⟩
  clear hK K
  repeat (refine tree_q rfl rfl ?_; go_big_quiet_step (fail); refine wpQuiet_nil ?_)
  refine tree_a rfl (fun K hK => ?_)
  go_simp
  refine (refText_any ru (grp k).size a41 c41 HDU.out (by omega) w41 HN41.out).mono ?_
  rintro e w42 ⟨rfl, hb9⟩
  have HW42 := Lib.hid (below_up HW41.out hb9)
  clear hb9
  refine hK _ _ ⟨⟨⟨w42, HW42.out⟩, rfl⟩, ?_⟩
  clear hK K
  repeat (refine tree_q rfl rfl ?_; go_big_quiet_step (fail); refine wpQuiet_nil ?_)
  refine tree_end ?_
  have HC9 := Lib.hid (HC.out.up HW42.out)
  clear hov hzl
  clear HC hz_0 hz_1 hz_2
  have HC := HC9
  clear HC9
  have hz_0 := HC.out.z.cell (i := 0) rfl
  have hz_1 := HC.out.z.cell (i := 1) rfl
  have hz_2 := HC.out.z.cell (i := 2) rfl
  go_wp2_with fail
  refine (HT.out w42).mono ?_
  rintro e w50 ⟨rfl, hb9⟩
  have HC9 := Lib.hid (HC.out.up hb9)
  clear hb9
  clear HC hz_0 hz_1 hz_2
  have HC := HC9
  clear HC9
  have hz_0 := HC.out.z.cell (i := 0) rfl
  have hz_1 := HC.out.z.cell (i := 1) rfl
  have hz_2 := HC.out.z.cell (i := 2) rfl
  go_wp2_with fail
  refine (lawText_ok (textS rt (grp k).size) w50).mono ?_
  rintro e w51 ⟨rfl, hb9⟩
  have HC9 := Lib.hid (HC.out.up hb9)
  clear hb9
  clear HC hz_0 hz_1 hz_2
  have HC := HC9
  clear HC9
  have hz_0 := HC.out.z.cell (i := 0) rfl
  have hz_1 := HC.out.z.cell (i := 1) rfl
  have hz_2 := HC.out.z.cell (i := 2) rfl
  go_wp2_with fail
  refine (HP.out w51).mono ?_
  rintro e w52 ⟨rfl, hb9⟩
  have HC9 := Lib.hid (HC.out.up hb9)
  clear hb9
  clear HC hz_0 hz_1 hz_2
  have HC := HC9
  clear HC9
  have hz_0 := HC.out.z.cell (i := 0) rfl
  have hz_1 := HC.out.z.cell (i := 1) rfl
  have hz_2 := HC.out.z.cell (i := 2) rfl
  go_wp2_with fail
  refine (lawText_ok (textS rp (grp k).size) w52).mono ?_
  rintro e w53 ⟨rfl, hb9⟩
  have HC9 := Lib.hid (HC.out.up hb9)
  clear hb9
  clear HC hz_0 hz_1 hz_2
  have HC := HC9
  clear HC9
  have hz_0 := HC.out.z.cell (i := 0) rfl
  have hz_1 := HC.out.z.cell (i := 1) rfl
  have hz_2 := HC.out.z.cell (i := 2) rfl
  go_wp2_with fail
  refine (HU.out w53).mono ?_
  rintro e w54 ⟨rfl, hb9⟩
  have HC9 := Lib.hid (HC.out.up hb9)
  clear hb9
  clear HC hz_0 hz_1 hz_2
  have HC := HC9
  clear HC9
  have hz_0 := HC.out.z.cell (i := 0) rfl
  have hz_1 := HC.out.z.cell (i := 1) rfl
  have hz_2 := HC.out.z.cell (i := 2) rfl
  go_wp2_with fail
  refine (lawText_ok (textS ru (grp k).size) w54).mono ?_
  rintro e w55 ⟨rfl, hb9⟩
  have HC9 := Lib.hid (HC.out.up hb9)
  clear hb9
  clear HC hz_0 hz_1 hz_2
  have HC := HC9
  clear HC9
  have hz_0 := HC.out.z.cell (i := 0) rfl
  have hz_1 := HC.out.z.cell (i := 1) rfl
  have hz_2 := HC.out.z.cell (i := 2) rfl
  go_wp2_with fail
  go_ret
  exact ⟨rfl, HC.out.b⟩

theorem groupElems_any (k : Int) (a b n : ByteArray) (w : World) : Calls Try.prog 8 #[.int .i64 k, .string a, .string b, .string n] w fun e w' => e = .returned (.bool true) ∧ Below w.heap.size w w' := by
  by_cases hk : 1 ≤ k ∧ k ≤ 3
  · obtain ⟨j, rfl⟩ : ∃ j : Nat, k = j := ⟨k.toNat, by omega⟩
    cases hba : isEl (grp j).q.m (grp j).size a with
    | false => exact groupElems_no j (by omega) (by omega) a b n hba w
    | true =>
      cases hbb : isEl (grp j).q.m (grp j).size b with
      | false =>
        cases hbn : isSc (grp j).q.m (grp j).size n with
        | false => exact groupElems_nn j (by omega) (by omega) a b n hba hbb hbn w
        | true => exact groupElems_ny j (by omega) (by omega) a b n hba hbb hbn w
      | true =>
        cases hbn : isSc (grp j).q.m (grp j).size n with
        | false => exact groupElems_yn j (by omega) (by omega) a b n hba hbb hbn w
        | true => exact groupElems_yy j (by omega) (by omega) a b n hba hbb hbn w
  · exact groupElems_none k hk a b n w

set_option maxRecDepth 100000 in
theorem groupElems_calls {H : Type} (enc : TypeId × Value → H) (W : World) (base : Nat) {v0 v1 v2 v3 : Value} {d0 d1 d2 d3 : DataW H} {p0 p1 p2 p3 : List MemPlace}
    (h0 : DataW.Trod enc Try.prog W 0 (fun _ => true) true 3 v0 d0 p0) (h1 : DataW.Trod enc Try.prog W 0 (fun _ => true) true 9 v1 d1 p1) (h2 : DataW.Trod enc Try.prog W 0 (fun _ => true) true 9 v2 d2 p2) (h3 : DataW.Trod enc Try.prog W 0 (fun _ => true) true 9 v3 d3 p3)
    (k0 : Value.okWide Try.prog W .any base 3 v0) (k1 : Value.okWide Try.prog W .any base 9 v1) (k2 : Value.okWide Try.prog W .any base 9 v2) (k3 : Value.okWide Try.prog W .any base 9 v3)
    (_lt0 : ∀ x ∈ p0, x.block < W.heap.size) (_lt1 : ∀ x ∈ p1, x.block < W.heap.size) (_lt2 : ∀ x ∈ p2, x.block < W.heap.size) (_lt3 : ∀ x ∈ p3, x.block < W.heap.size)
    (_hsz : (DataW.weightsEach Try.prog ([3, 9, 9, 9] ++ Rows.groupElemsSpec.plain.varTypes Try.prog) ([d0, d1, d2, d3] ++ [])).all (· ≤ reachBytes) = true) :
    Calls Try.prog 8 #[v0, v1, v2, v3] W fun e w' => e = .returned (.bool true) ∧ Below W.heap.size W w' := by
  obtain ⟨a, rfl, _, _, _⟩ := open_int Try.underlying3 k0 h0
  obtain ⟨s, rfl, _⟩ := Go.ChangeMaps.open_string Try.underlying9 k1 h1
  obtain ⟨n, rfl, _⟩ := Go.ChangeMaps.open_string Try.underlying9 k2 h2
  obtain ⟨m, rfl, _⟩ := Go.ChangeMaps.open_string Try.underlying9 k3 h3
  exact groupElems_any a s n m W

set_option maxRecDepth 100000 in
theorem groupElems_lifted (os : Os) (started : os.Started) (H : Type) (enc : TypeId × Value → H) :
    ReturnsInHanded {} Try.checked os 8 .any (Rows.groupElemsSpec.pre6 enc Try.prog Try.f8 Rows.groupElemsRow.domain false) (Rows.groupElemsSpec.post enc Try.prog Try.f8 false true false false) := by
  refine returnsInHanded_of_change_sized (C := Try.checked) law_own started (by kernel_rfl) Try.func8
    (ChangeSpec.witness6 (enc := enc) (C := Try.checked) false ⟨#[], #[.int .i64 0, .string ⟨#[]⟩, .string ⟨#[]⟩, .string ⟨#[]⟩], []⟩ 8 (by kernel_rfl) (by kernel_rfl) (by kernel_rfl) (by kernel_rfl)) ?_
  intro W base args ds gs before hval0 hW _ hsz0 _
  have hsz : (DataW.weightsEach Try.prog (Try.f8.params.toList ++ Rows.groupElemsSpec.plain.varTypes Try.prog) (ds ++ gs)).all (· ≤ reachBytes) = true := hsz0
  clear hsz0
  have hval : ∀ (j : Nat) t v, Try.f8.params[j]? = some t → args[j]? = some v → Value.okWide Try.prog W .any base t v := hval0
  have hW' := hW
  obtain ⟨p, q, hA0, hV, rfl, _, _⟩ := hW
  have hA : DataW.TrodAll enc Try.prog W 0 (fun _ => true) true Try.f8.params.toList args.toList ds p := hA0
  rw [Try.params8] at hA hval hsz
  obtain ⟨v0, vs0, d0, ds0, p0, q0, hargs, rfl, rfl, h0, r0⟩ := trodAll_cons hA
  obtain ⟨v1, vs1, d1, ds1, p1, q1, rfl, rfl, rfl, h1, r1⟩ := trodAll_cons r0
  obtain ⟨v2, vs2, d2, ds2, p2, q2, rfl, rfl, rfl, h2, r2⟩ := trodAll_cons r1
  obtain ⟨v3, vs3, d3, ds3, p3, q3, rfl, rfl, rfl, h3, r3⟩ := trodAll_cons r2
  obtain ⟨rfl, rfl, rfl⟩ := trodAll_nil r3
  obtain rfl : args = #[v0, v1, v2, v3] := by cases args; simp_all
  obtain ⟨rfl, rfl⟩ := trodVars_none hV
  have lt0 : ∀ x ∈ p0, x.block < W.heap.size := by obtain ⟨m, hm⟩ := h0; exact DataW.trod_lt m _ _ _ hm
  have lt1 : ∀ x ∈ p1, x.block < W.heap.size := by obtain ⟨m, hm⟩ := h1; exact DataW.trod_lt m _ _ _ hm
  have lt2 : ∀ x ∈ p2, x.block < W.heap.size := by obtain ⟨m, hm⟩ := h2; exact DataW.trod_lt m _ _ _ hm
  have lt3 : ∀ x ∈ p3, x.block < W.heap.size := by obtain ⟨m, hm⟩ := h3; exact DataW.trod_lt m _ _ _ hm
  clear hA0 hval0
  refine (groupElems_calls enc W base h0 h1 h2 h3 (hval 0 3 v0 rfl rfl) (hval 1 9 v1 rfl rfl) (hval 2 9 v2 rfl rfl) (hval 3 9 v3 rfl rfl) lt0 lt1 lt2 lt3 hsz).mono fun e W' ⟨he, bel⟩ => ?_
  subst he
  exact ⟨_, rfl, _, _, _, [], _, [], hW', trodAll_mk1 (shut_bool Try.underlying4 _), (trodAll_cons_mk (Below.trod law_laidOut (by kernel_rfl) (of_decide_eq_true (by kernel_rfl)) h0 bel lt0) (trodAll_cons_mk (Below.trod law_laidOut (by kernel_rfl) (of_decide_eq_true (by kernel_rfl)) h1 bel lt1) (trodAll_cons_mk (Below.trod law_laidOut (by kernel_rfl) (of_decide_eq_true (by kernel_rfl)) h2 bel lt2) (trodAll_cons_mk (Below.trod law_laidOut (by kernel_rfl) (of_decide_eq_true (by kernel_rfl)) h3 bel lt3) trodAll_mk0)))), rfl, bel.frame _, fun h => by cases h⟩

theorem groupElems_holds : Rows.GroupElemsSaid :=
  OpenClaim.holds_of_wide 8 Try.f8 rfl rfl rfl rfl rfl rfl rfl ⟨rfl, rfl, rfl, rfl, rfl⟩ rfl rfl rfl rfl rfl (by kernel_rfl) Try.func8 (by kernel_rfl)
    (of_decide_eq_true (by kernel_rfl)) (by unfold Func.isWrapper; first | (rw [if_pos (by decide +kernel)]; kernel_rfl) | (rw [if_neg (by decide +kernel)]; exact ⟨rfl, rfl⟩))
    (fun os started H enc _ => groupElems_lifted os started H enc)
#print axioms groupElems_holds



end Go.Proofs.Ytdmldnpadojflaa
