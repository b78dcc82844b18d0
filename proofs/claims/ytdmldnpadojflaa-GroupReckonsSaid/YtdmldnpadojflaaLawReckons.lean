/- GroupReckons: Add, Sub, Mul, Inv of any bytes, as the document says. No condition. -/
import Derived.Test.YtdmldnpadojflaaGroupFace
import Derived.Test.YtdmldnpadojflaaLawCar
namespace Go.Proofs.Ytdmldnpadojflaa
open Go.ChangeShapes Go.WideShapes Go.ChangeAt Go.RowKit

theorem recV_no {G : GP} {a b : ByteArray} {z : Nat} (h : (isSc G.q.m G.size a && isSc G.q.m G.size b) = false) : recV G a b z = ⟨#[]⟩ := by
  unfold recV; rw [h]; rfl
theorem recE_no {G : GP} {a b : ByteArray} (h : (isSc G.q.m G.size a && isSc G.q.m G.size b) = false) : recE G a b = 6 := by
  unfold recE; rw [h]; rfl
theorem recV_yes {G : GP} {a b : ByteArray} {z r : Nat} (h : (isSc G.q.m G.size a && isSc G.q.m G.size b) = true) (hr : z % G.q.m = r) : recV G a b z = textS r G.size := by
  unfold recV; rw [if_pos h, hr]
theorem recE_yes {G : GP} {a b : ByteArray} (h : (isSc G.q.m G.size a && isSc G.q.m G.size b) = true) : recE G a b = 0 := by
  unfold recE; rw [h]; rfl


set_option maxRecDepth 100000 in
set_option maxHeartbeats 400000 in
theorem groupReckons_none (k : Int) (hk : ¬ (1 ≤ k ∧ k ≤ 3)) (a b : ByteArray) (w : World) : Calls Try.prog 6 #[.int .i64 k, .string a, .string b] w fun e w' => e = .returned (.bool true) ∧ Below w.heap.size w w' := by
  go_enter Try.func6, Try.ntmps6
  go_wp2_with fail
  refine (refKind_none k hk w).mono ?_
  rintro e w1 ⟨rfl, hb1⟩
  go_wp2_with fail
  have u1 : Below w1.heap.size w1 (w1.alloc (.cells #[.int .i64 0, .slice none 0 0, .slice none 0 0] 25)) := (Below.refl _ _).alloc (Nat.le_refl _) _
  have hc : Car w (w1.alloc (.cells #[.int .i64 0, .slice none 0 0, .slice none 0 0] 25)) w1.heap.size 25 0 0 0 none none 0 0 none none 0 0 := ⟨below_up (hb1) u1, Bx.new w1 _ _ _ rfl, NumAt.zero _ _, NumAt.zero _ _, NumAt.zero _ _, NumAt.zero _ _⟩
  obtain ⟨W2, hW2⟩ : ∃ W9 : World, (w1.alloc (.cells #[.int .i64 0, .slice none 0 0, .slice none 0 0] 25)) = W9 := ⟨_, rfl⟩
  rw [hW2] at hc ⊢
  clear hW2
  have HC := Lib.hid hc
  clear hc hb1 u1
  have hz_0 := HC.out.z.cell (i := 0) rfl
  have hz_1 := HC.out.z.cell (i := 1) rfl
  have hz_2 := HC.out.z.cell (i := 2) rfl
  refine (refOf_any 1 (by omega) W2).mono ?_
  rintro e w3 ⟨ax, cx, rfl, hn9, hb9⟩
  have HC9 := Lib.hid (HC.out.setx hb9 hn9)
  clear hb9 hn9
  clear HC hz_0 hz_1 hz_2
  have HC := HC9
  clear HC9
  have hz_0 := HC.out.z.cell (i := 0) rfl
  have hz_1 := HC.out.z.cell (i := 1) rfl
  have hz_2 := HC.out.z.cell (i := 2) rfl
  go_wp2_with fail
  refine (refOf_any 1 (by omega) w3).mono ?_
  rintro e w4 ⟨ay, cy, rfl, hn9, hb9⟩
  have HC9 := Lib.hid (HC.out.sety hb9 hn9)
  clear hb9 hn9
  clear HC hz_0 hz_1 hz_2
  have HC := HC9
  clear HC9
  have hz_0 := HC.out.z.cell (i := 0) rfl
  have hz_1 := HC.out.z.cell (i := 1) rfl
  have hz_2 := HC.out.z.cell (i := 2) rfl
  go_wp2_with fail
  refine (Inv_none k hk a w4).mono ?_
  rintro e w5 ⟨rfl, hb9⟩
  have HC9 := Lib.hid (HC.out.up hb9)
  clear hb9
  clear HC hz_0 hz_1 hz_2
  have HC := HC9
  clear HC9
  have hz_0 := HC.out.z.cell (i := 0) rfl
  have hz_1 := HC.out.z.cell (i := 1) rfl
  have hz_2 := HC.out.z.cell (i := 2) rfl
  go_wp2_with fail
  have HW0 : Hid (Below w5.heap.size w5 w5.drew) := (Below.refl _ _).drew
  have hzl := HC.out.z.lt
  refine wp_region_tree (fun w' => ∃ E : Over w5, w' = E.w) (.qs [0, 1, 2, 3, 4, 5] (.a 6 (.qs [7, 8, 9, 10, 11, 12, 13, 14, 15, 16, 18, 19] (.a 17 (.a 20 (.a 21 (.qs [22, 23, 24] .done))))))) (by kernel_rfl) (by kernel_rfl) (fun _ _ d _ _ h => by cases d <;> exact h) ⟨⟨_, HW0.out⟩, rfl⟩ ?_
  have hov := fun (E : Over w5) o => E.cell (b := w1.heap.size) o hzl
  simp only [Tree.qs]
  repeat (refine tree_q rfl rfl ?_; go_big_quiet_step (fail); refine wpQuiet_nil ?_)
  refine tree_a rfl (fun K hK => ?_)
  go_simp
  refine (lawText_err ⟨#[]⟩ 1 (by omega) w5.drew).mono ?_
  rintro e w6 ⟨rfl, hb9⟩
  have HW6 := Lib.hid (below_up HW0.out hb9)
  clear hb9
  refine hK _ _ ⟨⟨⟨w6, HW6.out⟩, rfl⟩, ?_⟩
  clear hK K
  repeat (refine tree_q rfl rfl ?_; go_big_quiet_step (fail); refine wpQuiet_nil ?_)
  refine tree_a rfl (fun K hK => ?_)
  go_simp
  refine hK _ _ ⟨⟨⟨_, HW6.out⟩, rfl⟩, ?_⟩
  clear hK K
  repeat (refine tree_q rfl rfl ?_; go_big_quiet_step (fail); refine wpQuiet_nil ?_)
  refine tree_a rfl (fun K hK => ?_)
  go_simp
  refine hK _ _ ⟨⟨⟨_, HW6.out⟩, rfl⟩, ?_⟩
  clear hK K
  repeat (refine tree_q rfl rfl ?_; go_big_quiet_step (fail); refine wpQuiet_nil ?_)
  refine tree_a rfl (fun K hK => ?_)
  go_simp
  refine hK _ _ ⟨⟨⟨_, HW6.out⟩, rfl⟩, ?_⟩
  clear hK K
  repeat (refine tree_q rfl rfl ?_; go_big_quiet_step (fail); refine wpQuiet_nil ?_)
  refine tree_end ?_
  have HC9 := Lib.hid (HC.out.up HW6.out)
  clear hov hzl
  clear HC hz_0 hz_1 hz_2
  have HC := HC9
  clear HC9
  have hz_0 := HC.out.z.cell (i := 0) rfl
  have hz_1 := HC.out.z.cell (i := 1) rfl
  have hz_2 := HC.out.z.cell (i := 2) rfl
  go_wp2_with fail
  refine (Add_none k hk a b w6).mono ?_
  rintro e w7 ⟨rfl, hb9⟩
  have HC9 := Lib.hid (HC.out.up hb9)
  clear hb9
  clear HC hz_0 hz_1 hz_2
  have HC := HC9
  clear HC9
  have hz_0 := HC.out.z.cell (i := 0) rfl
  have hz_1 := HC.out.z.cell (i := 1) rfl
  have hz_2 := HC.out.z.cell (i := 2) rfl
  go_wp2_with fail
  refine (Sub_none k hk a b w7).mono ?_
  rintro e w8 ⟨rfl, hb9⟩
  have HC9 := Lib.hid (HC.out.up hb9)
  clear hb9
  clear HC hz_0 hz_1 hz_2
  have HC := HC9
  clear HC9
  have hz_0 := HC.out.z.cell (i := 0) rfl
  have hz_1 := HC.out.z.cell (i := 1) rfl
  have hz_2 := HC.out.z.cell (i := 2) rfl
  go_wp2_with fail
  refine (Mul_none k hk a b w8).mono ?_
  rintro e w9 ⟨rfl, hb9⟩
  have HC9 := Lib.hid (HC.out.up hb9)
  clear hb9
  clear HC hz_0 hz_1 hz_2
  have HC := HC9
  clear HC9
  have hz_0 := HC.out.z.cell (i := 0) rfl
  have hz_1 := HC.out.z.cell (i := 1) rfl
  have hz_2 := HC.out.z.cell (i := 2) rfl
  go_wp2_with fail
  refine (lawText_err ⟨#[]⟩ 1 (by omega) w9).mono ?_
  rintro e w30 ⟨rfl, hb9⟩
  have HC9 := Lib.hid (HC.out.up hb9)
  clear hb9
  clear HC hz_0 hz_1 hz_2
  have HC := HC9
  clear HC9
  have hz_0 := HC.out.z.cell (i := 0) rfl
  have hz_1 := HC.out.z.cell (i := 1) rfl
  have hz_2 := HC.out.z.cell (i := 2) rfl
  go_wp2_with fail
  refine (lawText_err ⟨#[]⟩ 1 (by omega) w30).mono ?_
  rintro e w31 ⟨rfl, hb9⟩
  have HC9 := Lib.hid (HC.out.up hb9)
  clear hb9
  clear HC hz_0 hz_1 hz_2
  have HC := HC9
  clear HC9
  have hz_0 := HC.out.z.cell (i := 0) rfl
  have hz_1 := HC.out.z.cell (i := 1) rfl
  have hz_2 := HC.out.z.cell (i := 2) rfl
  go_wp2_with fail
  refine (lawText_err ⟨#[]⟩ 1 (by omega) w31).mono ?_
  rintro e w32 ⟨rfl, hb9⟩
  have HC9 := Lib.hid (HC.out.up hb9)
  clear hb9
  clear HC hz_0 hz_1 hz_2
  have HC := HC9
  clear HC9
  have hz_0 := HC.out.z.cell (i := 0) rfl
  have hz_1 := HC.out.z.cell (i := 1) rfl
  have hz_2 := HC.out.z.cell (i := 2) rfl
  go_wp2_with fail
  go_ret
  exact ⟨rfl, HC.out.b⟩

set_option maxRecDepth 100000 in
set_option maxHeartbeats 1000000 in
theorem groupReckons_no (k : Nat) (h1 : 1 ≤ k) (h3 : k ≤ 3) (a b : ByteArray) (hba : isSc (grp k).q.m (grp k).size a = false) (w : World) : Calls Try.prog 6 #[.int .i64 (k : Int), .string a, .string b] w fun e w' => e = .returned (.bool true) ∧ Below w.heap.size w w' := by
  obtain ⟨hlq, hlp⟩ := grp_small k h1 h3
  have hsz : (grp k).size ≤ 32 := (grp_ok k h1 h3).size_le
  have hq0 : 0 < (grp k).q.m := (grp_ok k h1 h3).q.pos
  have hq16 : (grp k).q.m < DD ^ 16 := (grp_ok k h1 h3).q.lt4
  have hp0 : 0 < (grp k).p.m := (grp_ok k h1 h3).p.pos
  have hp16 : (grp k).p.m < DD ^ 16 := (grp_ok k h1 h3).p.lt4
  have hs0 : (((grp k).size : Int) == 0) = false := by
    obtain rfl | rfl | rfl : k = 1 ∨ k = 2 ∨ k = 3 := by omega
    all_goals rfl
  have hand : (isSc (grp k).q.m (grp k).size a && isSc (grp k).q.m (grp k).size b) = false := by rw [hba]; rfl
  have hI := fun W => Inv_some k h1 h3 a W
  rw [show invV (grp k) a = ⟨#[]⟩ by unfold invV; rw [hba]; rfl, show invE (grp k) a = 6 by unfold invE; rw [hba]; rfl] at hI
  have hA := fun W => Add_some k h1 h3 a b W
  have hS := fun W => Sub_some k h1 h3 a b W
  have hM := fun W => Mul_some k h1 h3 a b W
  rw [recV_no hand, recE_no hand] at hA hS hM
  have HI := Lib.hid hI
  have HA := Lib.hid hA
  have HS := Lib.hid hS
  have HM := Lib.hid hM
  have HBA := Lib.hid hba
  clear hba hand hI hA hS hM
  go_enter Try.func6, Try.ntmps6
  go_wp2_with fail
  refine (refKind_some k h1 h3 w).mono ?_
  rintro e w1 ⟨aq, cq, ap, cp, rfl, hq, hp, hb1⟩
  have u1 : Below w1.heap.size w1 (w1.alloc (.cells #[.int .i64 ((grp k).size : Int), .slice aq (dl (grp k).q.m) cq, .slice ap (dl (grp k).p.m) cp] 25)) := (Below.refl _ _).alloc (Nat.le_refl _) _
  have hc : Car w (w1.alloc (.cells #[.int .i64 ((grp k).size : Int), .slice aq (dl (grp k).q.m) cq, .slice ap (dl (grp k).p.m) cp] 25)) w1.heap.size 25 (grp k).size (grp k).q.m (grp k).p.m aq ap cq cp none none 0 0 := ⟨below_up (hb1) u1, Bx.new w1 _ _ _ rfl, hq.up u1, hp.up u1, NumAt.zero _ _, NumAt.zero _ _⟩
  obtain ⟨W2, hW2⟩ : ∃ W9 : World, (w1.alloc (.cells #[.int .i64 ((grp k).size : Int), .slice aq (dl (grp k).q.m) cq, .slice ap (dl (grp k).p.m) cp] 25)) = W9 := ⟨_, rfl⟩
  rw [hW2] at hc
  have HC := Lib.hid hc
  have HZL := Lib.hid (Bx.lt (HC.out.z))
  clear hc hq hp hb1 u1
  have hz_0 := HC.out.z.cell (i := 0) rfl
  have hz_1 := HC.out.z.cell (i := 1) rfl
  have hz_2 := HC.out.z.cell (i := 2) rfl
  go_wp2_with fail
  refine (refOf_any 1 (by omega) W2).mono ?_
  rintro e w3 ⟨ax, cx, rfl, hn9, hb9⟩
  have HC9 := Lib.hid (HC.out.setx hb9 hn9)
  clear hb9 hn9
  clear HC hz_0 hz_1 hz_2
  have HC := HC9
  clear HC9
  have hz_0 := HC.out.z.cell (i := 0) rfl
  have hz_1 := HC.out.z.cell (i := 1) rfl
  have hz_2 := HC.out.z.cell (i := 2) rfl
  go_wp2_with fail
  refine (refOf_any 1 (by omega) w3).mono ?_
  rintro e w4 ⟨ay, cy, rfl, hn9, hb9⟩
  have HC9 := Lib.hid (HC.out.sety hb9 hn9)
  clear hb9 hn9
  clear HC hz_0 hz_1 hz_2
  have HC := HC9
  clear HC9
  have hz_0 := HC.out.z.cell (i := 0) rfl
  have hz_1 := HC.out.z.cell (i := 1) rfl
  have hz_2 := HC.out.z.cell (i := 2) rfl
  go_wp2_with fail
  refine ((HBA.out ▸ refIsScalar_any a (grp k).size (grp k).q.m (grp k).p.m aq ap cq cp hsz w4 HC.out.q)).mono ?_
  rintro e w5 ⟨rfl, hb9⟩
  have HC9 := Lib.hid (HC.out.up hb9)
  clear hb9
  clear HC hz_0 hz_1 hz_2
  have HC := HC9
  clear HC9
  have hz_0 := HC.out.z.cell (i := 0) rfl
  have hz_1 := HC.out.z.cell (i := 1) rfl
  have hz_2 := HC.out.z.cell (i := 2) rfl
  go_wp2_with fail
  refine (HI.out w5).mono ?_
  rintro e w6 ⟨rfl, hb9⟩
  have HC9 := Lib.hid (HC.out.up hb9)
  clear hb9
  clear HC hz_0 hz_1 hz_2
  have HC := HC9
  clear HC9
  have hz_0 := HC.out.z.cell (i := 0) rfl
  have hz_1 := HC.out.z.cell (i := 1) rfl
  have hz_2 := HC.out.z.cell (i := 2) rfl
  go_wp2_with fail
  have HW0 : Hid (Below w6.heap.size w6 w6.drew) := (Below.refl _ _).drew
  have hzl := HC.out.z.lt
  refine wp_region_tree (fun w' => ∃ E : Over w6, w' = E.w) (.qs [0, 1, 2, 3, 4, 5] (.a 6 (.qs [7, 8, 9, 10, 11, 12, 13, 14, 15, 16, 18, 19] (.a 17 (.a 20 (.a 21 (.qs [22, 23, 24] .done))))))) (by kernel_rfl) (by kernel_rfl) (fun _ _ d _ _ h => by cases d <;> exact h) ⟨⟨_, HW0.out⟩, rfl⟩ ?_
  have hov := fun (E : Over w6) o => E.cell (b := w1.heap.size) o hzl
  simp only [Tree.qs]
  repeat (refine tree_q rfl rfl ?_; go_big_quiet_step (fail); refine wpQuiet_nil ?_)
  refine tree_a rfl (fun K hK => ?_)
  go_simp
  refine (lawText_err ⟨#[]⟩ 6 (by omega) w6.drew).mono ?_
  rintro e w7 ⟨rfl, hb9⟩
  have HW7 := Lib.hid (below_up HW0.out hb9)
  clear hb9
  refine hK _ _ ⟨⟨⟨w7, HW7.out⟩, rfl⟩, ?_⟩
  clear hK K
  repeat (refine tree_q rfl rfl ?_; go_big_quiet_step (fail); refine wpQuiet_nil ?_)
  refine tree_a rfl (fun K hK => ?_)
  go_simp
  refine hK _ _ ⟨⟨⟨_, HW7.out⟩, rfl⟩, ?_⟩
  clear hK K
  repeat (refine tree_q rfl rfl ?_; go_big_quiet_step (fail); refine wpQuiet_nil ?_)
  refine tree_a rfl (fun K hK => ?_)
  go_simp
  refine hK _ _ ⟨⟨⟨_, HW7.out⟩, rfl⟩, ?_⟩
  clear hK K
  repeat (refine tree_q rfl rfl ?_; go_big_quiet_step (fail); refine wpQuiet_nil ?_)
  refine tree_a rfl (fun K hK => ?_)
  go_simp
  refine hK _ _ ⟨⟨⟨_, HW7.out⟩, rfl⟩, ?_⟩
  clear hK K
  repeat (refine tree_q rfl rfl ?_; go_big_quiet_step (fail); refine wpQuiet_nil ?_)
  refine tree_end ?_
  have HC9 := Lib.hid (HC.out.up HW7.out)
  clear hov hzl
  clear HC hz_0 hz_1 hz_2
  have HC := HC9
  clear HC9
  have hz_0 := HC.out.z.cell (i := 0) rfl
  have hz_1 := HC.out.z.cell (i := 1) rfl
  have hz_2 := HC.out.z.cell (i := 2) rfl
  go_wp2_with fail
  refine (HA.out w7).mono ?_
  rintro e w8 ⟨rfl, hb9⟩
  have HC9 := Lib.hid (HC.out.up hb9)
  clear hb9
  clear HC hz_0 hz_1 hz_2
  have HC := HC9
  clear HC9
  have hz_0 := HC.out.z.cell (i := 0) rfl
  have hz_1 := HC.out.z.cell (i := 1) rfl
  have hz_2 := HC.out.z.cell (i := 2) rfl
  go_wp2_with fail
  refine (HS.out w8).mono ?_
  rintro e w9 ⟨rfl, hb9⟩
  have HC9 := Lib.hid (HC.out.up hb9)
  clear hb9
  clear HC hz_0 hz_1 hz_2
  have HC := HC9
  clear HC9
  have hz_0 := HC.out.z.cell (i := 0) rfl
  have hz_1 := HC.out.z.cell (i := 1) rfl
  have hz_2 := HC.out.z.cell (i := 2) rfl
  go_wp2_with fail
  refine (HM.out w9).mono ?_
  rintro e w10 ⟨rfl, hb9⟩
  have HC9 := Lib.hid (HC.out.up hb9)
  clear hb9
  clear HC hz_0 hz_1 hz_2
  have HC := HC9
  clear HC9
  have hz_0 := HC.out.z.cell (i := 0) rfl
  have hz_1 := HC.out.z.cell (i := 1) rfl
  have hz_2 := HC.out.z.cell (i := 2) rfl
  go_wp2_with fail
  refine (lawText_err ⟨#[]⟩ 6 (by omega) w10).mono ?_
  rintro e w30 ⟨rfl, hb9⟩
  have HC9 := Lib.hid (HC.out.up hb9)
  clear hb9
  clear HC hz_0 hz_1 hz_2
  have HC := HC9
  clear HC9
  have hz_0 := HC.out.z.cell (i := 0) rfl
  have hz_1 := HC.out.z.cell (i := 1) rfl
  have hz_2 := HC.out.z.cell (i := 2) rfl
  go_wp2_with fail
  refine (lawText_err ⟨#[]⟩ 6 (by omega) w30).mono ?_
  rintro e w31 ⟨rfl, hb9⟩
  have HC9 := Lib.hid (HC.out.up hb9)
  clear hb9
  clear HC hz_0 hz_1 hz_2
  have HC := HC9
  clear HC9
  have hz_0 := HC.out.z.cell (i := 0) rfl
  have hz_1 := HC.out.z.cell (i := 1) rfl
  have hz_2 := HC.out.z.cell (i := 2) rfl
  go_wp2_with fail
  refine (lawText_err ⟨#[]⟩ 6 (by omega) w31).mono ?_
  rintro e w32 ⟨rfl, hb9⟩
  have HC9 := Lib.hid (HC.out.up hb9)
  clear hb9
  clear HC hz_0 hz_1 hz_2
  have HC := HC9
  clear HC9
  have hz_0 := HC.out.z.cell (i := 0) rfl
  have hz_1 := HC.out.z.cell (i := 1) rfl
  have hz_2 := HC.out.z.cell (i := 2) rfl
  go_wp2_with fail
  go_ret
  exact ⟨rfl, HC.out.b⟩


theorem isSc_size {q size : Nat} {s : ByteArray} (h : isSc q size s = true) : s.size = size := by
  unfold isSc at h
  simp at h
  exact h.1

set_option maxRecDepth 100000 in
set_option maxHeartbeats 1000000 in
theorem groupReckons_zn (k : Nat) (h1 : 1 ≤ k) (h3 : k ≤ 3) (a b : ByteArray) (hba : isSc (grp k).q.m (grp k).size a = true) (h0 : numOf a = 0) (hbb : isSc (grp k).q.m (grp k).size b = false) (w : World) : Calls Try.prog 6 #[.int .i64 (k : Int), .string a, .string b] w fun e w' => e = .returned (.bool true) ∧ Below w.heap.size w w' := by
  obtain ⟨hlq, hlp⟩ := grp_small k h1 h3
  have hsz : (grp k).size ≤ 32 := (grp_ok k h1 h3).size_le
  have hq0 : 0 < (grp k).q.m := (grp_ok k h1 h3).q.pos
  have hq16 : (grp k).q.m < DD ^ 16 := (grp_ok k h1 h3).q.lt4
  have hp0 : 0 < (grp k).p.m := (grp_ok k h1 h3).p.pos
  have hp16 : (grp k).p.m < DD ^ 16 := (grp_ok k h1 h3).p.lt4
  have hs0 : (((grp k).size : Int) == 0) = false := by
    obtain rfl | rfl | rfl : k = 1 ∨ k = 2 ∨ k = 3 := by omega
    all_goals rfl
  have hq2 : 2 ≤ (grp k).q.m := by
    obtain rfl | rfl | rfl : k = 1 ∨ k = 2 ∨ k = 3 := by omega
    all_goals decide
  have hla : a.size ≤ 1048576 := by
    have := isSc_size hba
    omega
  have hlb : isSc (grp k).q.m (grp k).size b = true → b.size ≤ 1048576 := fun h => by
    have := isSc_size h
    omega
  have HLB := Lib.hid hlb
  have HLA := Lib.hid hla
  have HNA := Lib.hid (Nat.lt_trans (isSc_lt hba) hq16)
  have HNB := Lib.hid (show isSc (grp k).q.m (grp k).size b = true → numOf b < (grp k).q.m from isSc_lt)
  have hI := fun W => Inv_some k h1 h3 a W
  have hA := fun W => Add_some k h1 h3 a b W
  have hS := fun W => Sub_some k h1 h3 a b W
  have hM := fun W => Mul_some k h1 h3 a b W
  rw [show invV (grp k) a = ⟨#[]⟩ by unfold invV; rw [if_neg (by simp [h0])], show invE (grp k) a = 5 by unfold invE; rw [if_pos hba, if_pos h0]] at hI
  have hand : (isSc (grp k).q.m (grp k).size a && isSc (grp k).q.m (grp k).size b) = false := by rw [hba, hbb]; rfl
  rw [recV_no hand, recE_no hand] at hA hS hM
  have hd : ((dl (numOf a) : Int) == 0) = true := by rw [h0]; rfl
  clear hand h0
  have HI := Lib.hid hI
  have HA := Lib.hid hA
  have HS := Lib.hid hS
  have HM := Lib.hid hM
  have HBA := Lib.hid hba
  have HBB := Lib.hid hbb
  clear hba hbb hI hA hS hM hla hlb
  go_enter Try.func6, Try.ntmps6
  go_wp2_with fail
  refine (refKind_some k h1 h3 w).mono ?_
  rintro e w1 ⟨aq, cq, ap, cp, rfl, hq, hp, hb1⟩
  have u1 : Below w1.heap.size w1 (w1.alloc (.cells #[.int .i64 ((grp k).size : Int), .slice aq (dl (grp k).q.m) cq, .slice ap (dl (grp k).p.m) cp] 25)) := (Below.refl _ _).alloc (Nat.le_refl _) _
  have hc : Car w (w1.alloc (.cells #[.int .i64 ((grp k).size : Int), .slice aq (dl (grp k).q.m) cq, .slice ap (dl (grp k).p.m) cp] 25)) w1.heap.size 25 (grp k).size (grp k).q.m (grp k).p.m aq ap cq cp none none 0 0 := ⟨below_up (hb1) u1, Bx.new w1 _ _ _ rfl, hq.up u1, hp.up u1, NumAt.zero _ _, NumAt.zero _ _⟩
  obtain ⟨W2, hW2⟩ : ∃ W9 : World, (w1.alloc (.cells #[.int .i64 ((grp k).size : Int), .slice aq (dl (grp k).q.m) cq, .slice ap (dl (grp k).p.m) cp] 25)) = W9 := ⟨_, rfl⟩
  rw [hW2] at hc
  have HC := Lib.hid hc
  have HZL := Lib.hid (Bx.lt (HC.out.z))
  clear hc hq hp hb1 u1
  have hz_0 := HC.out.z.cell (i := 0) rfl
  have hz_1 := HC.out.z.cell (i := 1) rfl
  have hz_2 := HC.out.z.cell (i := 2) rfl
  go_wp2_with fail
  refine (refOf_any 1 (by omega) W2).mono ?_
  rintro e w3 ⟨ax0, cx0, rfl, hn9, hb9⟩
  have HC9 := Lib.hid (HC.out.setx hb9 hn9)
  clear hb9 hn9
  clear HC hz_0 hz_1 hz_2
  have HC := HC9
  clear HC9
  have hz_0 := HC.out.z.cell (i := 0) rfl
  have hz_1 := HC.out.z.cell (i := 1) rfl
  have hz_2 := HC.out.z.cell (i := 2) rfl
  go_wp2_with fail
  refine (refOf_any 1 (by omega) w3).mono ?_
  rintro e w4 ⟨ay0, cy0, rfl, hn9, hb9⟩
  have HC9 := Lib.hid (HC.out.sety hb9 hn9)
  clear hb9 hn9
  clear HC hz_0 hz_1 hz_2
  have HC := HC9
  clear HC9
  have hz_0 := HC.out.z.cell (i := 0) rfl
  have hz_1 := HC.out.z.cell (i := 1) rfl
  have hz_2 := HC.out.z.cell (i := 2) rfl
  go_wp2_with fail
  refine ((HBA.out ▸ refIsScalar_any a (grp k).size (grp k).q.m (grp k).p.m aq ap cq cp hsz w4 HC.out.q)).mono ?_
  rintro e w5 ⟨rfl, hb9⟩
  have HC9 := Lib.hid (HC.out.up hb9)
  clear hb9
  clear HC hz_0 hz_1 hz_2
  have HC := HC9
  clear HC9
  have hz_0 := HC.out.z.cell (i := 0) rfl
  have hz_1 := HC.out.z.cell (i := 1) rfl
  have hz_2 := HC.out.z.cell (i := 2) rfl
  go_wp2_with fail
  refine (refRead_any a HLA.out w5).mono ?_
  rintro e w6 ⟨ax, cx, rfl, hn9, hb9⟩
  have HC9 := Lib.hid (HC.out.setx hb9 hn9)
  clear hb9 hn9
  clear HC hz_0 hz_1 hz_2
  have HC := HC9
  clear HC9
  have hz_0 := HC.out.z.cell (i := 0) rfl
  have hz_1 := HC.out.z.cell (i := 1) rfl
  have hz_2 := HC.out.z.cell (i := 2) rfl
  go_wp2_with fail
  refine ((HBB.out ▸ refIsScalar_any b (grp k).size (grp k).q.m (grp k).p.m aq ap cq cp hsz w6 HC.out.q)).mono ?_
  rintro e w7 ⟨rfl, hb9⟩
  have HC9 := Lib.hid (HC.out.up hb9)
  clear hb9
  clear HC hz_0 hz_1 hz_2
  have HC := HC9
  clear HC9
  have hz_0 := HC.out.z.cell (i := 0) rfl
  have hz_1 := HC.out.z.cell (i := 1) rfl
  have hz_2 := HC.out.z.cell (i := 2) rfl
  go_wp2_with fail
  refine (HI.out w7).mono ?_
  rintro e w8 ⟨rfl, hb9⟩
  have HC9 := Lib.hid (HC.out.up hb9)
  clear hb9
  clear HC hz_0 hz_1 hz_2
  have HC := HC9
  clear HC9
  have hz_0 := HC.out.z.cell (i := 0) rfl
  have hz_1 := HC.out.z.cell (i := 1) rfl
  have hz_2 := HC.out.z.cell (i := 2) rfl
  go_wp2_with fail
  have HW0 : Hid (Below w8.heap.size w8 w8.drew) := (Below.refl _ _).drew
  have hzl := HC.out.z.lt
  refine wp_region_tree (fun w' => ∃ E : Over w8, w' = E.w) (.qs [0, 1, 2, 3, 4, 5] (.a 6 (.qs [7, 8, 9, 10, 11, 12, 13, 14, 15, 16, 18, 19] (.a 17 (.a 20 (.a 21 (.qs [22, 23, 24] .done))))))) (by kernel_rfl) (by kernel_rfl) (fun _ _ d _ _ h => by cases d <;> exact h) ⟨⟨_, HW0.out⟩, rfl⟩ ?_
  have hov := fun (E : Over w8) o => E.cell (b := w1.heap.size) o hzl
  simp only [Tree.qs]
  repeat (refine tree_q rfl rfl ?_; go_big_quiet_step (fail); refine wpQuiet_nil ?_)
  refine tree_a rfl (fun K hK => ?_)
  go_simp
  refine (lawText_err ⟨#[]⟩ 5 (by omega) w8.drew).mono ?_
  rintro e w9 ⟨rfl, hb9⟩
  have HW9 := Lib.hid (below_up HW0.out hb9)
  clear hb9
  refine hK _ _ ⟨⟨⟨w9, HW9.out⟩, rfl⟩, ?_⟩
  clear hK K
  repeat (refine tree_q rfl rfl ?_; go_big_quiet_step (fail); refine wpQuiet_nil ?_)
  refine tree_a rfl (fun K hK => ?_)
  go_simp
  refine hK _ _ ⟨⟨⟨_, HW9.out⟩, rfl⟩, ?_⟩
  clear hK K
  repeat (refine tree_q rfl rfl ?_; go_big_quiet_step (fail); refine wpQuiet_nil ?_)
  refine tree_a rfl (fun K hK => ?_)
  go_simp
  refine hK _ _ ⟨⟨⟨_, HW9.out⟩, rfl⟩, ?_⟩
  clear hK K
  repeat (refine tree_q rfl rfl ?_; go_big_quiet_step (fail); refine wpQuiet_nil ?_)
  refine tree_a rfl (fun K hK => ?_)
  go_simp
  refine hK _ _ ⟨⟨⟨_, HW9.out⟩, rfl⟩, ?_⟩
  clear hK K
  repeat (refine tree_q rfl rfl ?_; go_big_quiet_step (fail); refine wpQuiet_nil ?_)
  refine tree_end ?_
  have HC9 := Lib.hid (HC.out.up HW9.out)
  clear hov hzl
  clear HC hz_0 hz_1 hz_2
  have HC := HC9
  clear HC9
  have hz_0 := HC.out.z.cell (i := 0) rfl
  have hz_1 := HC.out.z.cell (i := 1) rfl
  have hz_2 := HC.out.z.cell (i := 2) rfl
  go_wp2_with fail
  refine (HA.out w9).mono ?_
  rintro e w10 ⟨rfl, hb9⟩
  have HC9 := Lib.hid (HC.out.up hb9)
  clear hb9
  clear HC hz_0 hz_1 hz_2
  have HC := HC9
  clear HC9
  have hz_0 := HC.out.z.cell (i := 0) rfl
  have hz_1 := HC.out.z.cell (i := 1) rfl
  have hz_2 := HC.out.z.cell (i := 2) rfl
  go_wp2_with fail
  refine (HS.out w10).mono ?_
  rintro e w11 ⟨rfl, hb9⟩
  have HC9 := Lib.hid (HC.out.up hb9)
  clear hb9
  clear HC hz_0 hz_1 hz_2
  have HC := HC9
  clear HC9
  have hz_0 := HC.out.z.cell (i := 0) rfl
  have hz_1 := HC.out.z.cell (i := 1) rfl
  have hz_2 := HC.out.z.cell (i := 2) rfl
  go_wp2_with fail
  refine (HM.out w11).mono ?_
  rintro e w12 ⟨rfl, hb9⟩
  have HC9 := Lib.hid (HC.out.up hb9)
  clear hb9
  clear HC hz_0 hz_1 hz_2
  have HC := HC9
  clear HC9
  have hz_0 := HC.out.z.cell (i := 0) rfl
  have hz_1 := HC.out.z.cell (i := 1) rfl
  have hz_2 := HC.out.z.cell (i := 2) rfl
  go_wp2_with fail
  refine (lawText_err ⟨#[]⟩ 6 (by omega) w12).mono ?_
  rintro e w30 ⟨rfl, hb9⟩
  have HC9 := Lib.hid (HC.out.up hb9)
  clear hb9
  clear HC hz_0 hz_1 hz_2
  have HC := HC9
  clear HC9
  have hz_0 := HC.out.z.cell (i := 0) rfl
  have hz_1 := HC.out.z.cell (i := 1) rfl
  have hz_2 := HC.out.z.cell (i := 2) rfl
  go_wp2_with fail
  refine (lawText_err ⟨#[]⟩ 6 (by omega) w30).mono ?_
  rintro e w31 ⟨rfl, hb9⟩
  have HC9 := Lib.hid (HC.out.up hb9)
  clear hb9
  clear HC hz_0 hz_1 hz_2
  have HC := HC9
  clear HC9
  have hz_0 := HC.out.z.cell (i := 0) rfl
  have hz_1 := HC.out.z.cell (i := 1) rfl
  have hz_2 := HC.out.z.cell (i := 2) rfl
  go_wp2_with fail
  refine (lawText_err ⟨#[]⟩ 6 (by omega) w31).mono ?_
  rintro e w32 ⟨rfl, hb9⟩
  have HC9 := Lib.hid (HC.out.up hb9)
  clear hb9
  clear HC hz_0 hz_1 hz_2
  have HC := HC9
  clear HC9
  have hz_0 := HC.out.z.cell (i := 0) rfl
  have hz_1 := HC.out.z.cell (i := 1) rfl
  have hz_2 := HC.out.z.cell (i := 2) rfl
  go_wp2_with fail
  go_ret
  exact ⟨rfl, HC.out.b⟩


theorem dl_eq_zero {n : Nat} (h : dl n = 0) : n = 0 := by
  have h1 := lt_dl n
  rw [h, Nat.pow_zero] at h1
  omega

set_option maxRecDepth 100000 in
set_option maxHeartbeats 1000000 in
theorem groupReckons_in (k : Nat) (h1 : 1 ≤ k) (h3 : k ≤ 3) (a b : ByteArray) (hba : isSc (grp k).q.m (grp k).size a = true) (h0 : numOf a ≠ 0) (hbb : isSc (grp k).q.m (grp k).size b = false) (w : World) : Calls Try.prog 6 #[.int .i64 (k : Int), .string a, .string b] w fun e w' => e = .returned (.bool true) ∧ Below w.heap.size w w' := by
  obtain ⟨hlq, hlp⟩ := grp_small k h1 h3
  have hsz : (grp k).size ≤ 32 := (grp_ok k h1 h3).size_le
  have hq0 : 0 < (grp k).q.m := (grp_ok k h1 h3).q.pos
  have hq16 : (grp k).q.m < DD ^ 16 := (grp_ok k h1 h3).q.lt4
  have hp0 : 0 < (grp k).p.m := (grp_ok k h1 h3).p.pos
  have hp16 : (grp k).p.m < DD ^ 16 := (grp_ok k h1 h3).p.lt4
  have hs0 : (((grp k).size : Int) == 0) = false := by
    obtain rfl | rfl | rfl : k = 1 ∨ k = 2 ∨ k = 3 := by omega
    all_goals rfl
  have hq2 : 2 ≤ (grp k).q.m := by
    obtain rfl | rfl | rfl : k = 1 ∨ k = 2 ∨ k = 3 := by omega
    all_goals decide
  have hla : a.size ≤ 1048576 := by
    have := isSc_size hba
    omega
  have hlb : isSc (grp k).q.m (grp k).size b = true → b.size ≤ 1048576 := fun h => by
    have := isSc_size h
    omega
  have HLB := Lib.hid hlb
  have HLA := Lib.hid hla
  have HNA := Lib.hid (Nat.lt_trans (isSc_lt hba) hq16)
  have HNB := Lib.hid (show isSc (grp k).q.m (grp k).size b = true → numOf b < (grp k).q.m from isSc_lt)
  have hI := fun W => Inv_some k h1 h3 a W
  have hA := fun W => Add_some k h1 h3 a b W
  have hS := fun W => Sub_some k h1 h3 a b W
  have hM := fun W => Mul_some k h1 h3 a b W
  obtain ⟨ri, hri⟩ : ∃ r, numOf a ^ ((grp k).q.m - 2) % (grp k).q.m = r := ⟨_, rfl⟩
  have HDI : Hid (dl ri ≤ 1048576) := small_dl _ (Nat.lt_trans (hri ▸ Nat.mod_lt _ hq0) hq16)
  rw [show invV (grp k) a = textS ri (grp k).size by unfold invV; rw [if_pos ⟨hba, h0⟩, hri], show invE (grp k) a = 0 by unfold invE; rw [if_pos hba, if_neg h0]] at hI
  have HRI := Lib.hid hri
  have hd : ((dl (numOf a) : Int) == 0) = false := by
    rw [beq_eq_false_iff_ne]
    intro h
    exact h0 (dl_eq_zero (by exact_mod_cast h))
  clear hri
  have hand : (isSc (grp k).q.m (grp k).size a && isSc (grp k).q.m (grp k).size b) = false := by rw [hba, hbb]; rfl
  rw [recV_no hand, recE_no hand] at hA hS hM
  clear hand h0
  have HI := Lib.hid hI
  have HA := Lib.hid hA
  have HS := Lib.hid hS
  have HM := Lib.hid hM
  have HBA := Lib.hid hba
  have HBB := Lib.hid hbb
  clear hba hbb hI hA hS hM hla hlb
  go_enter Try.func6, Try.ntmps6
  go_wp2_with fail
  refine (refKind_some k h1 h3 w).mono ?_
  rintro e w1 ⟨aq, cq, ap, cp, rfl, hq, hp, hb1⟩
  have u1 : Below w1.heap.size w1 (w1.alloc (.cells #[.int .i64 ((grp k).size : Int), .slice aq (dl (grp k).q.m) cq, .slice ap (dl (grp k).p.m) cp] 25)) := (Below.refl _ _).alloc (Nat.le_refl _) _
  have hc : Car w (w1.alloc (.cells #[.int .i64 ((grp k).size : Int), .slice aq (dl (grp k).q.m) cq, .slice ap (dl (grp k).p.m) cp] 25)) w1.heap.size 25 (grp k).size (grp k).q.m (grp k).p.m aq ap cq cp none none 0 0 := ⟨below_up (hb1) u1, Bx.new w1 _ _ _ rfl, hq.up u1, hp.up u1, NumAt.zero _ _, NumAt.zero _ _⟩
  obtain ⟨W2, hW2⟩ : ∃ W9 : World, (w1.alloc (.cells #[.int .i64 ((grp k).size : Int), .slice aq (dl (grp k).q.m) cq, .slice ap (dl (grp k).p.m) cp] 25)) = W9 := ⟨_, rfl⟩
  rw [hW2] at hc
  have HC := Lib.hid hc
  have HZL := Lib.hid (Bx.lt (HC.out.z))
  clear hc hq hp hb1 u1
  have hz_0 := HC.out.z.cell (i := 0) rfl
  have hz_1 := HC.out.z.cell (i := 1) rfl
  have hz_2 := HC.out.z.cell (i := 2) rfl
  go_wp2_with fail
  refine (refOf_any 1 (by omega) W2).mono ?_
  rintro e w3 ⟨ax0, cx0, rfl, hn9, hb9⟩
  have HC9 := Lib.hid (HC.out.setx hb9 hn9)
  clear hb9 hn9
  clear HC hz_0 hz_1 hz_2
  have HC := HC9
  clear HC9
  have hz_0 := HC.out.z.cell (i := 0) rfl
  have hz_1 := HC.out.z.cell (i := 1) rfl
  have hz_2 := HC.out.z.cell (i := 2) rfl
  go_wp2_with fail
  refine (refOf_any 1 (by omega) w3).mono ?_
  rintro e w4 ⟨ay0, cy0, rfl, hn9, hb9⟩
  have HC9 := Lib.hid (HC.out.sety hb9 hn9)
  clear hb9 hn9
  clear HC hz_0 hz_1 hz_2
  have HC := HC9
  clear HC9
  have hz_0 := HC.out.z.cell (i := 0) rfl
  have hz_1 := HC.out.z.cell (i := 1) rfl
  have hz_2 := HC.out.z.cell (i := 2) rfl
  go_wp2_with fail
  refine ((HBA.out ▸ refIsScalar_any a (grp k).size (grp k).q.m (grp k).p.m aq ap cq cp hsz w4 HC.out.q)).mono ?_
  rintro e w5 ⟨rfl, hb9⟩
  have HC9 := Lib.hid (HC.out.up hb9)
  clear hb9
  clear HC hz_0 hz_1 hz_2
  have HC := HC9
  clear HC9
  have hz_0 := HC.out.z.cell (i := 0) rfl
  have hz_1 := HC.out.z.cell (i := 1) rfl
  have hz_2 := HC.out.z.cell (i := 2) rfl
  go_wp2_with fail
  refine (refRead_any a HLA.out w5).mono ?_
  rintro e w6 ⟨ax, cx, rfl, hn9, hb9⟩
  have HC9 := Lib.hid (HC.out.setx hb9 hn9)
  clear hb9 hn9
  clear HC hz_0 hz_1 hz_2
  have HC := HC9
  clear HC9
  have hz_0 := HC.out.z.cell (i := 0) rfl
  have hz_1 := HC.out.z.cell (i := 1) rfl
  have hz_2 := HC.out.z.cell (i := 2) rfl
  go_wp2_with fail
  refine ((HBB.out ▸ refIsScalar_any b (grp k).size (grp k).q.m (grp k).p.m aq ap cq cp hsz w6 HC.out.q)).mono ?_
  rintro e w7 ⟨rfl, hb9⟩
  have HC9 := Lib.hid (HC.out.up hb9)
  clear hb9
  clear HC hz_0 hz_1 hz_2
  have HC := HC9
  clear HC9
  have hz_0 := HC.out.z.cell (i := 0) rfl
  have hz_1 := HC.out.z.cell (i := 1) rfl
  have hz_2 := HC.out.z.cell (i := 2) rfl
  go_wp2_with fail
  refine (HI.out w7).mono ?_
  rintro e w8 ⟨rfl, hb9⟩
  have HC9 := Lib.hid (HC.out.up hb9)
  clear hb9
  clear HC hz_0 hz_1 hz_2
  have HC := HC9
  clear HC9
  have hz_0 := HC.out.z.cell (i := 0) rfl
  have hz_1 := HC.out.z.cell (i := 1) rfl
  have hz_2 := HC.out.z.cell (i := 2) rfl
  go_wp2_with fail
  have HW0 : Hid (Below w8.heap.size w8 w8.drew) := (Below.refl _ _).drew
  have hzl := HC.out.z.lt
  refine wp_region_tree (fun w' => ∃ E : Over w8, w' = E.w) (.qs [0, 1, 2, 3, 4, 5] (.a 6 (.qs [7, 8, 9, 10, 11, 12, 13, 14, 15, 16, 18, 19] (.a 17 (.a 20 (.a 21 (.qs [22, 23, 24] .done))))))) (by kernel_rfl) (by kernel_rfl) (fun _ _ d _ _ h => by cases d <;> exact h) ⟨⟨_, HW0.out⟩, rfl⟩ ?_
  have hov := fun (E : Over w8) o => E.cell (b := w1.heap.size) o hzl
  simp only [Tree.qs]
  repeat (refine tree_q rfl rfl ?_; go_big_quiet_step (fail); refine wpQuiet_nil ?_)
  refine tree_a rfl (fun K hK => ?_)
  go_simp
  refine hK _ _ ⟨⟨⟨_, HW0.out⟩, rfl⟩, ?_⟩
  clear hK K
  repeat (refine tree_q rfl rfl ?_; go_big_quiet_step (fail); refine wpQuiet_nil ?_)
  refine tree_a rfl (fun K hK => ?_)
  go_simp
  have h9 := refInv_any (numOf a) (grp k).size (grp k).q.m (grp k).p.m ax aq ap cx cq cp HNA.out hq2 hq16 w8.drew (HC.out.up HW0.out).x (HC.out.up HW0.out).q
  rw [HRI.out] at h9
  refine h9.mono ?_
  clear h9
  rintro e w20 ⟨a20, c20, rfl, hn9, hb9⟩
  have HN20 := Lib.hid hn9
  have HW20 := Lib.hid (below_up HW0.out hb9)
  clear hn9 hb9
  refine hK _ _ ⟨⟨⟨w20, HW20.out⟩, rfl⟩, ?_⟩
  clear hK K
  repeat (refine tree_q rfl rfl ?_; go_big_quiet_step (fail); refine wpQuiet_nil ?_)
  refine tree_a rfl (fun K hK => ?_)
  go_simp
  refine (refText_any ri (grp k).size a20 c20 HDI.out (by omega) w20 HN20.out).mono ?_
  rintro e w21 ⟨rfl, hb9⟩
  have HW21 := Lib.hid (below_up HW20.out hb9)
  clear hb9
  refine hK _ _ ⟨⟨⟨w21, HW21.out⟩, rfl⟩, ?_⟩
  clear hK K
  repeat (refine tree_q rfl rfl ?_; go_big_quiet_step (fail); refine wpQuiet_nil ?_)
  refine tree_a rfl (fun K hK => ?_)
  go_simp
  refine (lawText_ok (textS ri (grp k).size) w21).mono ?_
  rintro e w22 ⟨rfl, hb9⟩
  have HW22 := Lib.hid (below_up HW21.out hb9)
  clear hb9
  refine hK _ _ ⟨⟨⟨w22, HW22.out⟩, rfl⟩, ?_⟩
  clear hK K
  repeat (refine tree_q rfl rfl ?_; go_big_quiet_step (fail); refine wpQuiet_nil ?_)
  refine tree_end ?_
  have HC9 := Lib.hid (HC.out.up HW22.out)
  clear hov hzl
  clear HC hz_0 hz_1 hz_2
  have HC := HC9
  clear HC9
  have hz_0 := HC.out.z.cell (i := 0) rfl
  have hz_1 := HC.out.z.cell (i := 1) rfl
  have hz_2 := HC.out.z.cell (i := 2) rfl
  go_wp2_with fail
  refine (HA.out w22).mono ?_
  rintro e w10 ⟨rfl, hb9⟩
  have HC9 := Lib.hid (HC.out.up hb9)
  clear hb9
  clear HC hz_0 hz_1 hz_2
  have HC := HC9
  clear HC9
  have hz_0 := HC.out.z.cell (i := 0) rfl
  have hz_1 := HC.out.z.cell (i := 1) rfl
  have hz_2 := HC.out.z.cell (i := 2) rfl
  go_wp2_with fail
  refine (HS.out w10).mono ?_
  rintro e w11 ⟨rfl, hb9⟩
  have HC9 := Lib.hid (HC.out.up hb9)
  clear hb9
  clear HC hz_0 hz_1 hz_2
  have HC := HC9
  clear HC9
  have hz_0 := HC.out.z.cell (i := 0) rfl
  have hz_1 := HC.out.z.cell (i := 1) rfl
  have hz_2 := HC.out.z.cell (i := 2) rfl
  go_wp2_with fail
  refine (HM.out w11).mono ?_
  rintro e w12 ⟨rfl, hb9⟩
  have HC9 := Lib.hid (HC.out.up hb9)
  clear hb9
  clear HC hz_0 hz_1 hz_2
  have HC := HC9
  clear HC9
  have hz_0 := HC.out.z.cell (i := 0) rfl
  have hz_1 := HC.out.z.cell (i := 1) rfl
  have hz_2 := HC.out.z.cell (i := 2) rfl
  go_wp2_with fail
  refine (lawText_err ⟨#[]⟩ 6 (by omega) w12).mono ?_
  rintro e w30 ⟨rfl, hb9⟩
  have HC9 := Lib.hid (HC.out.up hb9)
  clear hb9
  clear HC hz_0 hz_1 hz_2
  have HC := HC9
  clear HC9
  have hz_0 := HC.out.z.cell (i := 0) rfl
  have hz_1 := HC.out.z.cell (i := 1) rfl
  have hz_2 := HC.out.z.cell (i := 2) rfl
  go_wp2_with fail
  refine (lawText_err ⟨#[]⟩ 6 (by omega) w30).mono ?_
  rintro e w31 ⟨rfl, hb9⟩
  have HC9 := Lib.hid (HC.out.up hb9)
  clear hb9
  clear HC hz_0 hz_1 hz_2
  have HC := HC9
  clear HC9
  have hz_0 := HC.out.z.cell (i := 0) rfl
  have hz_1 := HC.out.z.cell (i := 1) rfl
  have hz_2 := HC.out.z.cell (i := 2) rfl
  go_wp2_with fail
  refine (lawText_err ⟨#[]⟩ 6 (by omega) w31).mono ?_
  rintro e w32 ⟨rfl, hb9⟩
  have HC9 := Lib.hid (HC.out.up hb9)
  clear hb9
  clear HC hz_0 hz_1 hz_2
  have HC := HC9
  clear HC9
  have hz_0 := HC.out.z.cell (i := 0) rfl
  have hz_1 := HC.out.z.cell (i := 1) rfl
  have hz_2 := HC.out.z.cell (i := 2) rfl
  go_wp2_with fail
  go_ret
  exact ⟨rfl, HC.out.b⟩


set_option maxRecDepth 100000 in
set_option maxHeartbeats 1000000 in
theorem groupReckons_zy (k : Nat) (h1 : 1 ≤ k) (h3 : k ≤ 3) (a b : ByteArray) (hba : isSc (grp k).q.m (grp k).size a = true) (h0 : numOf a = 0) (hbb : isSc (grp k).q.m (grp k).size b = true) (w : World) : Calls Try.prog 6 #[.int .i64 (k : Int), .string a, .string b] w fun e w' => e = .returned (.bool true) ∧ Below w.heap.size w w' := by
  obtain ⟨hlq, hlp⟩ := grp_small k h1 h3
  have hsz : (grp k).size ≤ 32 := (grp_ok k h1 h3).size_le
  have hq0 : 0 < (grp k).q.m := (grp_ok k h1 h3).q.pos
  have hq16 : (grp k).q.m < DD ^ 16 := (grp_ok k h1 h3).q.lt4
  have hp0 : 0 < (grp k).p.m := (grp_ok k h1 h3).p.pos
  have hp16 : (grp k).p.m < DD ^ 16 := (grp_ok k h1 h3).p.lt4
  have hs0 : (((grp k).size : Int) == 0) = false := by
    obtain rfl | rfl | rfl : k = 1 ∨ k = 2 ∨ k = 3 := by omega
    all_goals rfl
  have hq2 : 2 ≤ (grp k).q.m := by
    obtain rfl | rfl | rfl : k = 1 ∨ k = 2 ∨ k = 3 := by omega
    all_goals decide
  have hla : a.size ≤ 1048576 := by
    have := isSc_size hba
    omega
  have hlb : isSc (grp k).q.m (grp k).size b = true → b.size ≤ 1048576 := fun h => by
    have := isSc_size h
    omega
  have HLB := Lib.hid hlb
  have HLA := Lib.hid hla
  have HNA := Lib.hid (Nat.lt_trans (isSc_lt hba) hq16)
  have HNB := Lib.hid (show isSc (grp k).q.m (grp k).size b = true → numOf b < (grp k).q.m from isSc_lt)
  have hI := fun W => Inv_some k h1 h3 a W
  have hA := fun W => Add_some k h1 h3 a b W
  have hS := fun W => Sub_some k h1 h3 a b W
  have hM := fun W => Mul_some k h1 h3 a b W
  rw [show invV (grp k) a = ⟨#[]⟩ by unfold invV; rw [if_neg (by simp [h0])], show invE (grp k) a = 5 by unfold invE; rw [if_pos hba, if_pos h0]] at hI
  have hd : ((dl (numOf a) : Int) == 0) = true := by rw [h0]; rfl
  have hand : (isSc (grp k).q.m (grp k).size a && isSc (grp k).q.m (grp k).size b) = true := by rw [hba, hbb]; rfl
  obtain ⟨ra, hra⟩ : ∃ r, (numOf a + numOf b) % (grp k).q.m = r := ⟨_, rfl⟩
  obtain ⟨rs, hrs⟩ : ∃ r, (numOf a + (grp k).q.m - numOf b) % (grp k).q.m = r := ⟨_, rfl⟩
  obtain ⟨rm, hrm⟩ : ∃ r, numOf a * numOf b % (grp k).q.m = r := ⟨_, rfl⟩
  have hle := Nat.le_of_lt (isSc_lt hbb)
  rw [recV_yes (r := ra) hand hra, recE_yes hand] at hA
  rw [recV_yes (r := rs) hand (by rw [← Nat.add_sub_assoc hle]; exact hrs), recE_yes hand] at hS
  rw [recV_yes (r := rm) hand hrm, recE_yes hand] at hM
  have HDA : Hid (dl ra ≤ 1048576) := small_dl _ (Nat.lt_trans (hra ▸ Nat.mod_lt _ hq0) hq16)
  have HDS : Hid (dl rs ≤ 1048576) := small_dl _ (Nat.lt_trans (hrs ▸ Nat.mod_lt _ hq0) hq16)
  have HDM : Hid (dl rm ≤ 1048576) := small_dl _ (Nat.lt_trans (hrm ▸ Nat.mod_lt _ hq0) hq16)
  have HRA := Lib.hid hra
  have HRS := Lib.hid hrs
  have HRM := Lib.hid hrm
  have HLE := Lib.hid hle
  have HB16 := Lib.hid (Nat.lt_trans (isSc_lt hbb) hq16)
  clear hand hra hrs hrm hle
  clear h0
  have HI := Lib.hid hI
  have HA := Lib.hid hA
  have HS := Lib.hid hS
  have HM := Lib.hid hM
  have HBA := Lib.hid hba
  have HBB := Lib.hid hbb
  clear hba hbb hI hA hS hM hla hlb
  go_enter Try.func6, Try.ntmps6
  go_wp2_with fail
  refine (refKind_some k h1 h3 w).mono ?_
  rintro e w1 ⟨aq, cq, ap, cp, rfl, hq, hp, hb1⟩
  have u1 : Below w1.heap.size w1 (w1.alloc (.cells #[.int .i64 ((grp k).size : Int), .slice aq (dl (grp k).q.m) cq, .slice ap (dl (grp k).p.m) cp] 25)) := (Below.refl _ _).alloc (Nat.le_refl _) _
  have hc : Car w (w1.alloc (.cells #[.int .i64 ((grp k).size : Int), .slice aq (dl (grp k).q.m) cq, .slice ap (dl (grp k).p.m) cp] 25)) w1.heap.size 25 (grp k).size (grp k).q.m (grp k).p.m aq ap cq cp none none 0 0 := ⟨below_up (hb1) u1, Bx.new w1 _ _ _ rfl, hq.up u1, hp.up u1, NumAt.zero _ _, NumAt.zero _ _⟩
  obtain ⟨W2, hW2⟩ : ∃ W9 : World, (w1.alloc (.cells #[.int .i64 ((grp k).size : Int), .slice aq (dl (grp k).q.m) cq, .slice ap (dl (grp k).p.m) cp] 25)) = W9 := ⟨_, rfl⟩
  rw [hW2] at hc
  have HC := Lib.hid hc
  have HZL := Lib.hid (Bx.lt (HC.out.z))
  clear hc hq hp hb1 u1
  have hz_0 := HC.out.z.cell (i := 0) rfl
  have hz_1 := HC.out.z.cell (i := 1) rfl
  have hz_2 := HC.out.z.cell (i := 2) rfl
  go_wp2_with fail
  refine (refOf_any 1 (by omega) W2).mono ?_
  rintro e w3 ⟨ax0, cx0, rfl, hn9, hb9⟩
  have HC9 := Lib.hid (HC.out.setx hb9 hn9)
  clear hb9 hn9
  clear HC hz_0 hz_1 hz_2
  have HC := HC9
  clear HC9
  have hz_0 := HC.out.z.cell (i := 0) rfl
  have hz_1 := HC.out.z.cell (i := 1) rfl
  have hz_2 := HC.out.z.cell (i := 2) rfl
  go_wp2_with fail
  refine (refOf_any 1 (by omega) w3).mono ?_
  rintro e w4 ⟨ay0, cy0, rfl, hn9, hb9⟩
  have HC9 := Lib.hid (HC.out.sety hb9 hn9)
  clear hb9 hn9
  clear HC hz_0 hz_1 hz_2
  have HC := HC9
  clear HC9
  have hz_0 := HC.out.z.cell (i := 0) rfl
  have hz_1 := HC.out.z.cell (i := 1) rfl
  have hz_2 := HC.out.z.cell (i := 2) rfl
  go_wp2_with fail
  refine ((HBA.out ▸ refIsScalar_any a (grp k).size (grp k).q.m (grp k).p.m aq ap cq cp hsz w4 HC.out.q)).mono ?_
  rintro e w5 ⟨rfl, hb9⟩
  have HC9 := Lib.hid (HC.out.up hb9)
  clear hb9
  clear HC hz_0 hz_1 hz_2
  have HC := HC9
  clear HC9
  have hz_0 := HC.out.z.cell (i := 0) rfl
  have hz_1 := HC.out.z.cell (i := 1) rfl
  have hz_2 := HC.out.z.cell (i := 2) rfl
  go_wp2_with fail
  refine (refRead_any a HLA.out w5).mono ?_
  rintro e w6 ⟨ax, cx, rfl, hn9, hb9⟩
  have HC9 := Lib.hid (HC.out.setx hb9 hn9)
  clear hb9 hn9
  clear HC hz_0 hz_1 hz_2
  have HC := HC9
  clear HC9
  have hz_0 := HC.out.z.cell (i := 0) rfl
  have hz_1 := HC.out.z.cell (i := 1) rfl
  have hz_2 := HC.out.z.cell (i := 2) rfl
  go_wp2_with fail
  refine ((HBB.out ▸ refIsScalar_any b (grp k).size (grp k).q.m (grp k).p.m aq ap cq cp hsz w6 HC.out.q)).mono ?_
  rintro e w7 ⟨rfl, hb9⟩
  have HC9 := Lib.hid (HC.out.up hb9)
  clear hb9
  clear HC hz_0 hz_1 hz_2
  have HC := HC9
  clear HC9
  have hz_0 := HC.out.z.cell (i := 0) rfl
  have hz_1 := HC.out.z.cell (i := 1) rfl
  have hz_2 := HC.out.z.cell (i := 2) rfl
  go_wp2_with fail
  refine (refRead_any b (HLB.out HBB.out) w7).mono ?_
  rintro e w40 ⟨ay, cy, rfl, hn9, hb9⟩
  have HC9 := Lib.hid (HC.out.sety hb9 hn9)
  clear hb9 hn9
  clear HC hz_0 hz_1 hz_2
  have HC := HC9
  clear HC9
  have hz_0 := HC.out.z.cell (i := 0) rfl
  have hz_1 := HC.out.z.cell (i := 1) rfl
  have hz_2 := HC.out.z.cell (i := 2) rfl
  go_wp2_with fail
  refine (HI.out w40).mono ?_
  rintro e w8 ⟨rfl, hb9⟩
  have HC9 := Lib.hid (HC.out.up hb9)
  clear hb9
  clear HC hz_0 hz_1 hz_2
  have HC := HC9
  clear HC9
  have hz_0 := HC.out.z.cell (i := 0) rfl
  have hz_1 := HC.out.z.cell (i := 1) rfl
  have hz_2 := HC.out.z.cell (i := 2) rfl
  go_wp2_with fail
  have HW0 : Hid (Below w8.heap.size w8 w8.drew) := (Below.refl _ _).drew
  have hzl := HC.out.z.lt
  refine wp_region_tree (fun w' => ∃ E : Over w8, w' = E.w) (.qs [0, 1, 2, 3, 4, 5] (.a 6 (.qs [7, 8, 9, 10, 11, 12, 13, 14, 15, 16, 18, 19] (.a 17 (.a 20 (.a 21 (.qs [22, 23, 24] .done))))))) (by kernel_rfl) (by kernel_rfl) (fun _ _ d _ _ h => by cases d <;> exact h) ⟨⟨_, HW0.out⟩, rfl⟩ ?_
  have hov := fun (E : Over w8) o => E.cell (b := w1.heap.size) o hzl
  simp only [Tree.qs]
  repeat (refine tree_q rfl rfl ?_; go_big_quiet_step (fail); refine wpQuiet_nil ?_)
  refine tree_a rfl (fun K hK => ?_)
  go_simp
  refine (lawText_err ⟨#[]⟩ 5 (by omega) w8.drew).mono ?_
  rintro e w9 ⟨rfl, hb9⟩
  have HW9 := Lib.hid (below_up HW0.out hb9)
  clear hb9
  refine hK _ _ ⟨⟨⟨w9, HW9.out⟩, rfl⟩, ?_⟩
  clear hK K
  repeat (refine tree_q rfl rfl ?_; go_big_quiet_step (fail); refine wpQuiet_nil ?_)
  refine tree_a rfl (fun K hK => ?_)
  go_simp
  refine hK _ _ ⟨⟨⟨_, HW9.out⟩, rfl⟩, ?_⟩
  clear hK K
  repeat (refine tree_q rfl rfl ?_; go_big_quiet_step (fail); refine wpQuiet_nil ?_)
  refine tree_a rfl (fun K hK => ?_)
  go_simp
  refine hK _ _ ⟨⟨⟨_, HW9.out⟩, rfl⟩, ?_⟩
  clear hK K
  repeat (refine tree_q rfl rfl ?_; go_big_quiet_step (fail); refine wpQuiet_nil ?_)
  refine tree_a rfl (fun K hK => ?_)
  go_simp
  refine hK _ _ ⟨⟨⟨_, HW9.out⟩, rfl⟩, ?_⟩
  clear hK K
  repeat (refine tree_q rfl rfl ?_; go_big_quiet_step (fail); refine wpQuiet_nil ?_)
  refine tree_end ?_
  have HC9 := Lib.hid (HC.out.up HW9.out)
  clear hov hzl
  clear HC hz_0 hz_1 hz_2
  have HC := HC9
  clear HC9
  have hz_0 := HC.out.z.cell (i := 0) rfl
  have hz_1 := HC.out.z.cell (i := 1) rfl
  have hz_2 := HC.out.z.cell (i := 2) rfl
  go_wp2_with fail
  refine (HA.out w9).mono ?_
  rintro e w10 ⟨rfl, hb9⟩
  have HC9 := Lib.hid (HC.out.up hb9)
  clear hb9
  clear HC hz_0 hz_1 hz_2
  have HC := HC9
  clear HC9
  have hz_0 := HC.out.z.cell (i := 0) rfl
  have hz_1 := HC.out.z.cell (i := 1) rfl
  have hz_2 := HC.out.z.cell (i := 2) rfl
  go_wp2_with fail
  refine (HS.out w10).mono ?_
  rintro e w11 ⟨rfl, hb9⟩
  have HC9 := Lib.hid (HC.out.up hb9)
  clear hb9
  clear HC hz_0 hz_1 hz_2
  have HC := HC9
  clear HC9
  have hz_0 := HC.out.z.cell (i := 0) rfl
  have hz_1 := HC.out.z.cell (i := 1) rfl
  have hz_2 := HC.out.z.cell (i := 2) rfl
  go_wp2_with fail
  refine (HM.out w11).mono ?_
  rintro e w12 ⟨rfl, hb9⟩
  have HC9 := Lib.hid (HC.out.up hb9)
  clear hb9
  clear HC hz_0 hz_1 hz_2
  have HC := HC9
  clear HC9
  have hz_0 := HC.out.z.cell (i := 0) rfl
  have hz_1 := HC.out.z.cell (i := 1) rfl
  have hz_2 := HC.out.z.cell (i := 2) rfl
  go_wp2_with fail
  have HW0 : Hid (Below w12.heap.size w12 w12.drew) := (Below.refl _ _).drew
  have hzl := HC.out.z.lt
  refine wp_region_tree (fun w' => ∃ E : Over w12, w' = E.w) (.qs [0, 1, 2, 3, 4, 6, 7] (.a 5 (.a 8 (.a 9 (.qs [10, 11, 12, 13, 14, 15, 17, 18] (.a 16 (.a 19 (.a 20 (.qs [21, 22, 23, 24, 25, 26, 27, 29, 30] (.a 28 (.a 31 (.a 32 (.qs [33, 34] .done))))))))))))) (by kernel_rfl) (by kernel_rfl) (fun _ _ d _ _ h => by cases d <;> exact h) ⟨⟨_, HW0.out⟩, rfl⟩ ?_
  have hov := fun (E : Over w12) o => E.cell (b := w1.heap.size) o hzl
  simp only [Tree.qs]
  repeat (refine tree_q rfl rfl ?_; go_big_quiet_step (fail); refine wpQuiet_nil ?_)
  refine tree_a rfl (fun K hK => ?_)
  go_simp
  have h9 := refAdd_any (numOf a) (numOf b) (grp k).size (grp k).q.m (grp k).p.m ax ay aq ap cx cy cq cp HNA.out HB16.out hq0 w12.drew (HC.out.up HW0.out).x (HC.out.up HW0.out).y (HC.out.up HW0.out).q
  rw [HRA.out] at h9
  refine h9.mono ?_
  clear h9
  rintro e w50 ⟨a50, c50, rfl, hn9, hb9⟩
  have HN50 := Lib.hid hn9
  have HW50 := Lib.hid (below_up HW0.out hb9)
  clear hn9 hb9
  refine hK _ _ ⟨⟨⟨w50, HW50.out⟩, rfl⟩, ?_⟩
  clear hK K
  repeat (refine tree_q rfl rfl ?_; go_big_quiet_step (fail); refine wpQuiet_nil ?_)
  refine tree_a rfl (fun K hK => ?_)
  go_simp
  refine (refText_any ra (grp k).size a50 c50 HDA.out (by omega) w50 HN50.out).mono ?_
  rintro e w51 ⟨rfl, hb9⟩
  have HW51 := Lib.hid (below_up HW50.out hb9)
  clear hb9
  refine hK _ _ ⟨⟨⟨w51, HW51.out⟩, rfl⟩, ?_⟩
  clear hK K
  repeat (refine tree_q rfl rfl ?_; go_big_quiet_step (fail); refine wpQuiet_nil ?_)
  refine tree_a rfl (fun K hK => ?_)
  go_simp
  refine (lawText_ok (textS ra (grp k).size) w51).mono ?_
  rintro e w52 ⟨rfl, hb9⟩
  have HW52 := Lib.hid (below_up HW51.out hb9)
  clear hb9
  refine hK _ _ ⟨⟨⟨w52, HW52.out⟩, rfl⟩, ?_⟩
  clear hK K
  repeat (refine tree_q rfl rfl ?_; go_big_quiet_step (fail); refine wpQuiet_nil ?_)
  refine tree_a rfl (fun K hK => ?_)
  go_simp
  have h9 := refSub_any (numOf a) (numOf b) (grp k).size (grp k).q.m (grp k).p.m ax ay aq ap cx cy cq cp HNA.out HLE.out hq0 hq16 w52 (HC.out.up HW52.out).x (HC.out.up HW52.out).y (HC.out.up HW52.out).q
  rw [HRS.out] at h9
  refine h9.mono ?_
  clear h9
  rintro e w53 ⟨a53, c53, rfl, hn9, hb9⟩
  have HN53 := Lib.hid hn9
  have HW53 := Lib.hid (below_up HW52.out hb9)
  clear hn9 hb9
  refine hK _ _ ⟨⟨⟨w53, HW53.out⟩, rfl⟩, ?_⟩
  clear hK K
  repeat (refine tree_q rfl rfl ?_; go_big_quiet_step (fail); refine wpQuiet_nil ?_)
  refine tree_a rfl (fun K hK => ?_)
  go_simp
  refine (refText_any rs (grp k).size a53 c53 HDS.out (by omega) w53 HN53.out).mono ?_
  rintro e w54 ⟨rfl, hb9⟩
  have HW54 := Lib.hid (below_up HW53.out hb9)
  clear hb9
  refine hK _ _ ⟨⟨⟨w54, HW54.out⟩, rfl⟩, ?_⟩
  clear hK K
  repeat (refine tree_q rfl rfl ?_; go_big_quiet_step (fail); refine wpQuiet_nil ?_)
  refine tree_a rfl (fun K hK => ?_)
  go_simp
  refine (lawText_ok (textS rs (grp k).size) w54).mono ?_
  rintro e w55 ⟨rfl, hb9⟩
  have HW55 := Lib.hid (below_up HW54.out hb9)
  clear hb9
  refine hK _ _ ⟨⟨⟨w55, HW55.out⟩, rfl⟩, ?_⟩
  clear hK K
  repeat (refine tree_q rfl rfl ?_; go_big_quiet_step (fail); refine wpQuiet_nil ?_)
  refine tree_a rfl (fun K hK => ?_)
  go_simp
  have h9 := refMul_any (numOf a) (numOf b) (grp k).size (grp k).q.m (grp k).p.m ax ay aq ap cx cy cq cp HNA.out HB16.out hq0 w55 (HC.out.up HW55.out).x (HC.out.up HW55.out).y (HC.out.up HW55.out).q
  rw [HRM.out] at h9
  refine h9.mono ?_
  clear h9
  rintro e w56 ⟨a56, c56, rfl, hn9, hb9⟩
  have HN56 := Lib.hid hn9
  have HW56 := Lib.hid (below_up HW55.out hb9)
  clear hn9 hb9
  refine hK _ _ ⟨⟨⟨w56, HW56.out⟩, rfl⟩, ?_⟩
  clear hK K
  repeat (refine tree_q rfl rfl ?_; go_big_quiet_step (fail); refine wpQuiet_nil ?_)
  refine tree_a rfl (fun K hK => ?_)
  go_simp
  refine (refText_any rm (grp k).size a56 c56 HDM.out (by omega) w56 HN56.out).mono ?_
  rintro e w57 ⟨rfl, hb9⟩
  have HW57 := Lib.hid (below_up HW56.out hb9)
  clear hb9
  refine hK _ _ ⟨⟨⟨w57, HW57.out⟩, rfl⟩, ?_⟩
  clear hK K
  repeat (refine tree_q rfl rfl ?_; go_big_quiet_step (fail); refine wpQuiet_nil ?_)
  refine tree_a rfl (fun K hK => ?_)
  go_simp
  refine (lawText_ok (textS rm (grp k).size) w57).mono ?_
  rintro e w58 ⟨rfl, hb9⟩
  have HW58 := Lib.hid (below_up HW57.out hb9)
  clear hb9
  refine hK _ _ ⟨⟨⟨w58, HW58.out⟩, rfl⟩, ?_⟩
  clear hK K
  repeat (refine tree_q rfl rfl ?_; go_big_quiet_step (fail); refine wpQuiet_nil ?_)
  refine tree_end ?_
  have HC9 := Lib.hid (HC.out.up HW58.out)
  clear hov hzl
  clear HC hz_0 hz_1 hz_2
  have HC := HC9
  clear HC9
  have hz_0 := HC.out.z.cell (i := 0) rfl
  have hz_1 := HC.out.z.cell (i := 1) rfl
  have hz_2 := HC.out.z.cell (i := 2) rfl
  go_wp2_with fail
  go_ret
  exact ⟨rfl, HC.out.b⟩

set_option maxRecDepth 100000 in
set_option maxHeartbeats 1000000 in
theorem groupReckons_iy (k : Nat) (h1 : 1 ≤ k) (h3 : k ≤ 3) (a b : ByteArray) (hba : isSc (grp k).q.m (grp k).size a = true) (h0 : numOf a ≠ 0) (hbb : isSc (grp k).q.m (grp k).size b = true) (w : World) : Calls Try.prog 6 #[.int .i64 (k : Int), .string a, .string b] w fun e w' => e = .returned (.bool true) ∧ Below w.heap.size w w' := by
  obtain ⟨hlq, hlp⟩ := grp_small k h1 h3
  have hsz : (grp k).size ≤ 32 := (grp_ok k h1 h3).size_le
  have hq0 : 0 < (grp k).q.m := (grp_ok k h1 h3).q.pos
  have hq16 : (grp k).q.m < DD ^ 16 := (grp_ok k h1 h3).q.lt4
  have hp0 : 0 < (grp k).p.m := (grp_ok k h1 h3).p.pos
  have hp16 : (grp k).p.m < DD ^ 16 := (grp_ok k h1 h3).p.lt4
  have hs0 : (((grp k).size : Int) == 0) = false := by
    obtain rfl | rfl | rfl : k = 1 ∨ k = 2 ∨ k = 3 := by omega
    all_goals rfl
  have hq2 : 2 ≤ (grp k).q.m := by
    obtain rfl | rfl | rfl : k = 1 ∨ k = 2 ∨ k = 3 := by omega
    all_goals decide
  have hla : a.size ≤ 1048576 := by
    have := isSc_size hba
    omega
  have hlb : isSc (grp k).q.m (grp k).size b = true → b.size ≤ 1048576 := fun h => by
    have := isSc_size h
    omega
  have HLB := Lib.hid hlb
  have HLA := Lib.hid hla
  have HNA := Lib.hid (Nat.lt_trans (isSc_lt hba) hq16)
  have HNB := Lib.hid (show isSc (grp k).q.m (grp k).size b = true → numOf b < (grp k).q.m from isSc_lt)
  have hI := fun W => Inv_some k h1 h3 a W
  have hA := fun W => Add_some k h1 h3 a b W
  have hS := fun W => Sub_some k h1 h3 a b W
  have hM := fun W => Mul_some k h1 h3 a b W
  obtain ⟨ri, hri⟩ : ∃ r, numOf a ^ ((grp k).q.m - 2) % (grp k).q.m = r := ⟨_, rfl⟩
  have HDI : Hid (dl ri ≤ 1048576) := small_dl _ (Nat.lt_trans (hri ▸ Nat.mod_lt _ hq0) hq16)
  rw [show invV (grp k) a = textS ri (grp k).size by unfold invV; rw [if_pos ⟨hba, h0⟩, hri], show invE (grp k) a = 0 by unfold invE; rw [if_pos hba, if_neg h0]] at hI
  have HRI := Lib.hid hri
  have hd : ((dl (numOf a) : Int) == 0) = false := by
    rw [beq_eq_false_iff_ne]
    intro h
    exact h0 (dl_eq_zero (by exact_mod_cast h))
  clear hri
  have hand : (isSc (grp k).q.m (grp k).size a && isSc (grp k).q.m (grp k).size b) = true := by rw [hba, hbb]; rfl
  obtain ⟨ra, hra⟩ : ∃ r, (numOf a + numOf b) % (grp k).q.m = r := ⟨_, rfl⟩
  obtain ⟨rs, hrs⟩ : ∃ r, (numOf a + (grp k).q.m - numOf b) % (grp k).q.m = r := ⟨_, rfl⟩
  obtain ⟨rm, hrm⟩ : ∃ r, numOf a * numOf b % (grp k).q.m = r := ⟨_, rfl⟩
  have hle := Nat.le_of_lt (isSc_lt hbb)
  rw [recV_yes (r := ra) hand hra, recE_yes hand] at hA
  rw [recV_yes (r := rs) hand (by rw [← Nat.add_sub_assoc hle]; exact hrs), recE_yes hand] at hS
  rw [recV_yes (r := rm) hand hrm, recE_yes hand] at hM
  have HDA : Hid (dl ra ≤ 1048576) := small_dl _ (Nat.lt_trans (hra ▸ Nat.mod_lt _ hq0) hq16)
  have HDS : Hid (dl rs ≤ 1048576) := small_dl _ (Nat.lt_trans (hrs ▸ Nat.mod_lt _ hq0) hq16)
  have HDM : Hid (dl rm ≤ 1048576) := small_dl _ (Nat.lt_trans (hrm ▸ Nat.mod_lt _ hq0) hq16)
  have HRA := Lib.hid hra
  have HRS := Lib.hid hrs
  have HRM := Lib.hid hrm
  have HLE := Lib.hid hle
  have HB16 := Lib.hid (Nat.lt_trans (isSc_lt hbb) hq16)
  clear hand hra hrs hrm hle
  clear h0
  have HI := Lib.hid hI
  have HA := Lib.hid hA
  have HS := Lib.hid hS
  have HM := Lib.hid hM
  have HBA := Lib.hid hba
  have HBB := Lib.hid hbb
  clear hba hbb hI hA hS hM hla hlb
  go_enter Try.func6, Try.ntmps6
  go_wp2_with fail
  refine (refKind_some k h1 h3 w).mono ?_
  rintro e w1 ⟨aq, cq, ap, cp, rfl, hq, hp, hb1⟩
  have u1 : Below w1.heap.size w1 (w1.alloc (.cells #[.int .i64 ((grp k).size : Int), .slice aq (dl (grp k).q.m) cq, .slice ap (dl (grp k).p.m) cp] 25)) := (Below.refl _ _).alloc (Nat.le_refl _) _
  have hc : Car w (w1.alloc (.cells #[.int .i64 ((grp k).size : Int), .slice aq (dl (grp k).q.m) cq, .slice ap (dl (grp k).p.m) cp] 25)) w1.heap.size 25 (grp k).size (grp k).q.m (grp k).p.m aq ap cq cp none none 0 0 := ⟨below_up (hb1) u1, Bx.new w1 _ _ _ rfl, hq.up u1, hp.up u1, NumAt.zero _ _, NumAt.zero _ _⟩
  obtain ⟨W2, hW2⟩ : ∃ W9 : World, (w1.alloc (.cells #[.int .i64 ((grp k).size : Int), .slice aq (dl (grp k).q.m) cq, .slice ap (dl (grp k).p.m) cp] 25)) = W9 := ⟨_, rfl⟩
  rw [hW2] at hc
  have HC := Lib.hid hc
  have HZL := Lib.hid (Bx.lt (HC.out.z))
  clear hc hq hp hb1 u1
  have hz_0 := HC.out.z.cell (i := 0) rfl
  have hz_1 := HC.out.z.cell (i := 1) rfl
  have hz_2 := HC.out.z.cell (i := 2) rfl
  go_wp2_with fail
  refine (refOf_any 1 (by omega) W2).mono ?_
  rintro e w3 ⟨ax0, cx0, rfl, hn9, hb9⟩
  have HC9 := Lib.hid (HC.out.setx hb9 hn9)
  clear hb9 hn9
  clear HC hz_0 hz_1 hz_2
  have HC := HC9
  clear HC9
  have hz_0 := HC.out.z.cell (i := 0) rfl
  have hz_1 := HC.out.z.cell (i := 1) rfl
  have hz_2 := HC.out.z.cell (i := 2) rfl
  go_wp2_with fail
  refine (refOf_any 1 (by omega) w3).mono ?_
  rintro e w4 ⟨ay0, cy0, rfl, hn9, hb9⟩
  have HC9 := Lib.hid (HC.out.sety hb9 hn9)
  clear hb9 hn9
  clear HC hz_0 hz_1 hz_2
  have HC := HC9
  clear HC9
  have hz_0 := HC.out.z.cell (i := 0) rfl
  have hz_1 := HC.out.z.cell (i := 1) rfl
  have hz_2 := HC.out.z.cell (i := 2) rfl
  go_wp2_with fail
  refine ((HBA.out ▸ refIsScalar_any a (grp k).size (grp k).q.m (grp k).p.m aq ap cq cp hsz w4 HC.out.q)).mono ?_
  rintro e w5 ⟨rfl, hb9⟩
  have HC9 := Lib.hid (HC.out.up hb9)
  clear hb9
  clear HC hz_0 hz_1 hz_2
  have HC := HC9
  clear HC9
  have hz_0 := HC.out.z.cell (i := 0) rfl
  have hz_1 := HC.out.z.cell (i := 1) rfl
  have hz_2 := HC.out.z.cell (i := 2) rfl
  go_wp2_with fail
  refine (refRead_any a HLA.out w5).mono ?_
  rintro e w6 ⟨ax, cx, rfl, hn9, hb9⟩
  have HC9 := Lib.hid (HC.out.setx hb9 hn9)
  clear hb9 hn9
  clear HC hz_0 hz_1 hz_2
  have HC := HC9
  clear HC9
  have hz_0 := HC.out.z.cell (i := 0) rfl
  have hz_1 := HC.out.z.cell (i := 1) rfl
  have hz_2 := HC.out.z.cell (i := 2) rfl
  go_wp2_with fail
  refine ((HBB.out ▸ refIsScalar_any b (grp k).size (grp k).q.m (grp k).p.m aq ap cq cp hsz w6 HC.out.q)).mono ?_
  rintro e w7 ⟨rfl, hb9⟩
  have HC9 := Lib.hid (HC.out.up hb9)
  clear hb9
  clear HC hz_0 hz_1 hz_2
  have HC := HC9
  clear HC9
  have hz_0 := HC.out.z.cell (i := 0) rfl
  have hz_1 := HC.out.z.cell (i := 1) rfl
  have hz_2 := HC.out.z.cell (i := 2) rfl
  go_wp2_with fail
  refine (refRead_any b (HLB.out HBB.out) w7).mono ?_
  rintro e w40 ⟨ay, cy, rfl, hn9, hb9⟩
  have HC9 := Lib.hid (HC.out.sety hb9 hn9)
  clear hb9 hn9
  clear HC hz_0 hz_1 hz_2
  have HC := HC9
  clear HC9
  have hz_0 := HC.out.z.cell (i := 0) rfl
  have hz_1 := HC.out.z.cell (i := 1) rfl
  have hz_2 := HC.out.z.cell (i := 2) rfl
  go_wp2_with fail
  refine (HI.out w40).mono ?_
  rintro e w8 ⟨rfl, hb9⟩
  have HC9 := Lib.hid (HC.out.up hb9)
  clear hb9
  clear HC hz_0 hz_1 hz_2
  have HC := HC9
  clear HC9
  have hz_0 := HC.out.z.cell (i := 0) rfl
  have hz_1 := HC.out.z.cell (i := 1) rfl
  have hz_2 := HC.out.z.cell (i := 2) rfl
  go_wp2_with fail
  have HW0 : Hid (Below w8.heap.size w8 w8.drew) := (Below.refl _ _).drew
  have hzl := HC.out.z.lt
  refine wp_region_tree (fun w' => ∃ E : Over w8, w' = E.w) (.qs [0, 1, 2, 3, 4, 5] (.a 6 (.qs [7, 8, 9, 10, 11, 12, 13, 14, 15, 16, 18, 19] (.a 17 (.a 20 (.a 21 (.qs [22, 23, 24] .done))))))) (by kernel_rfl) (by kernel_rfl) (fun _ _ d _ _ h => by cases d <;> exact h) ⟨⟨_, HW0.out⟩, rfl⟩ ?_
  have hov := fun (E : Over w8) o => E.cell (b := w1.heap.size) o hzl
  simp only [Tree.qs]
  repeat (refine tree_q rfl rfl ?_; go_big_quiet_step (fail); refine wpQuiet_nil ?_)
  refine tree_a rfl (fun K hK => ?_)
  go_simp
  refine hK _ _ ⟨⟨⟨_, HW0.out⟩, rfl⟩, ?_⟩
  clear hK K
  repeat (refine tree_q rfl rfl ?_; go_big_quiet_step (fail); refine wpQuiet_nil ?_)
  refine tree_a rfl (fun K hK => ?_)
  go_simp
  have h9 := refInv_any (numOf a) (grp k).size (grp k).q.m (grp k).p.m ax aq ap cx cq cp HNA.out hq2 hq16 w8.drew (HC.out.up HW0.out).x (HC.out.up HW0.out).q
  rw [HRI.out] at h9
  refine h9.mono ?_
  clear h9
  rintro e w20 ⟨a20, c20, rfl, hn9, hb9⟩
  have HN20 := Lib.hid hn9
  have HW20 := Lib.hid (below_up HW0.out hb9)
  clear hn9 hb9
  refine hK _ _ ⟨⟨⟨w20, HW20.out⟩, rfl⟩, ?_⟩
  clear hK K
  repeat (refine tree_q rfl rfl ?_; go_big_quiet_step (fail); refine wpQuiet_nil ?_)
  refine tree_a rfl (fun K hK => ?_)
  go_simp
  refine (refText_any ri (grp k).size a20 c20 HDI.out (by omega) w20 HN20.out).mono ?_
  rintro e w21 ⟨rfl, hb9⟩
  have HW21 := Lib.hid (below_up HW20.out hb9)
  clear hb9
  refine hK _ _ ⟨⟨⟨w21, HW21.out⟩, rfl⟩, ?_⟩
  clear hK K
  repeat (refine tree_q rfl rfl ?_; go_big_quiet_step (fail); refine wpQuiet_nil ?_)
  refine tree_a rfl (fun K hK => ?_)
  go_simp
  refine (lawText_ok (textS ri (grp k).size) w21).mono ?_
  rintro e w22 ⟨rfl, hb9⟩
  have HW22 := Lib.hid (below_up HW21.out hb9)
  clear hb9
  refine hK _ _ ⟨⟨⟨w22, HW22.out⟩, rfl⟩, ?_⟩
  clear hK K
  repeat (refine tree_q rfl rfl ?_; go_big_quiet_step (fail); refine wpQuiet_nil ?_)
  refine tree_end ?_
  have HC9 := Lib.hid (HC.out.up HW22.out)
  clear hov hzl
  clear HC hz_0 hz_1 hz_2
  have HC := HC9
  clear HC9
  have hz_0 := HC.out.z.cell (i := 0) rfl
  have hz_1 := HC.out.z.cell (i := 1) rfl
  have hz_2 := HC.out.z.cell (i := 2) rfl
  go_wp2_with fail
  refine (HA.out w22).mono ?_
  rintro e w10 ⟨rfl, hb9⟩
  have HC9 := Lib.hid (HC.out.up hb9)
  clear hb9
  clear HC hz_0 hz_1 hz_2
  have HC := HC9
  clear HC9
  have hz_0 := HC.out.z.cell (i := 0) rfl
  have hz_1 := HC.out.z.cell (i := 1) rfl
  have hz_2 := HC.out.z.cell (i := 2) rfl
  go_wp2_with fail
  refine (HS.out w10).mono ?_
  rintro e w11 ⟨rfl, hb9⟩
  have HC9 := Lib.hid (HC.out.up hb9)
  clear hb9
  clear HC hz_0 hz_1 hz_2
  have HC := HC9
  clear HC9
  have hz_0 := HC.out.z.cell (i := 0) rfl
  have hz_1 := HC.out.z.cell (i := 1) rfl
  have hz_2 := HC.out.z.cell (i := 2) rfl
  go_wp2_with fail
  refine (HM.out w11).mono ?_
  rintro e w12 ⟨rfl, hb9⟩
  have HC9 := Lib.hid (HC.out.up hb9)
  clear hb9
  clear HC hz_0 hz_1 hz_2
  have HC := HC9
  clear HC9
  have hz_0 := HC.out.z.cell (i := 0) rfl
  have hz_1 := HC.out.z.cell (i := 1) rfl
  have hz_2 := HC.out.z.cell (i := 2) rfl
  go_wp2_with fail
  have HW0 : Hid (Below w12.heap.size w12 w12.drew) := (Below.refl _ _).drew
  have hzl := HC.out.z.lt
  refine wp_region_tree (fun w' => ∃ E : Over w12, w' = E.w) (.qs [0, 1, 2, 3, 4, 6, 7] (.a 5 (.a 8 (.a 9 (.qs [10, 11, 12, 13, 14, 15, 17, 18] (.a 16 (.a 19 (.a 20 (.qs [21, 22, 23, 24, 25, 26, 27, 29, 30] (.a 28 (.a 31 (.a 32 (.qs [33, 34] .done))))))))))))) (by kernel_rfl) (by kernel_rfl) (fun _ _ d _ _ h => by cases d <;> exact h) ⟨⟨_, HW0.out⟩, rfl⟩ ?_
  have hov := fun (E : Over w12) o => E.cell (b := w1.heap.size) o hzl
  simp only [Tree.qs]
  repeat (refine tree_q rfl rfl ?_; go_big_quiet_step (fail); refine wpQuiet_nil ?_)
  refine tree_a rfl (fun K hK => ?_)
  go_simp
  have h9 := refAdd_any (numOf a) (numOf b) (grp k).size (grp k).q.m (grp k).p.m ax ay aq ap cx cy cq cp HNA.out HB16.out hq0 w12.drew (HC.out.up HW0.out).x (HC.out.up HW0.out).y (HC.out.up HW0.out).q
  rw [HRA.out] at h9
  refine h9.mono ?_
  clear h9
  rintro e w50 ⟨a50, c50, rfl, hn9, hb9⟩
  have HN50 := Lib.hid hn9
  have HW50 := Lib.hid (below_up HW0.out hb9)
  clear hn9 hb9
  refine hK _ _ ⟨⟨⟨w50, HW50.out⟩, rfl⟩, ?_⟩
  clear hK K
  repeat (refine tree_q rfl rfl ?_; go_big_quiet_step (fail); refine wpQuiet_nil ?_)
  refine tree_a rfl (fun K hK => ?_)
  go_simp
  refine (refText_any ra (grp k).size a50 c50 HDA.out (by omega) w50 HN50.out).mono ?_
  rintro e w51 ⟨rfl, hb9⟩
  have HW51 := Lib.hid (below_up HW50.out hb9)
  clear hb9
  refine hK _ _ ⟨⟨⟨w51, HW51.out⟩, rfl⟩, ?_⟩
  clear hK K
  repeat (refine tree_q rfl rfl ?_; go_big_quiet_step (fail); refine wpQuiet_nil ?_)
  refine tree_a rfl (fun K hK => ?_)
  go_simp
  refine (lawText_ok (textS ra (grp k).size) w51).mono ?_
  rintro e w52 ⟨rfl, hb9⟩
  have HW52 := Lib.hid (below_up HW51.out hb9)
  clear hb9
  refine hK _ _ ⟨⟨⟨w52, HW52.out⟩, rfl⟩, ?_⟩
  clear hK K
  repeat (refine tree_q rfl rfl ?_; go_big_quiet_step (fail); refine wpQuiet_nil ?_)
  refine tree_a rfl (fun K hK => ?_)
  go_simp
  have h9 := refSub_any (numOf a) (numOf b) (grp k).size (grp k).q.m (grp k).p.m ax ay aq ap cx cy cq cp HNA.out HLE.out hq0 hq16 w52 (HC.out.up HW52.out).x (HC.out.up HW52.out).y (HC.out.up HW52.out).q
  rw [HRS.out] at h9
  refine h9.mono ?_
  clear h9
  rintro e w53 ⟨a53, c53, rfl, hn9, hb9⟩
  have HN53 := Lib.hid hn9
  have HW53 := Lib.hid (below_up HW52.out hb9)
  clear hn9 hb9
  refine hK _ _ ⟨⟨⟨w53, HW53.out⟩, rfl⟩, ?_⟩
  clear hK K
  repeat (refine tree_q rfl rfl ?_; go_big_quiet_step (fail); refine wpQuiet_nil ?_)
  refine tree_a rfl (fun K hK => ?_)
  go_simp
  refine (refText_any rs (grp k).size a53 c53 HDS.out (by omega) w53 HN53.out).mono ?_
  rintro e w54 ⟨rfl, hb9⟩
  have HW54 := Lib.hid (below_up HW53.out hb9)
  clear hb9
  refine hK _ _ ⟨⟨⟨w54, HW54.out⟩, rfl⟩, ?_⟩
  clear hK K
  repeat (refine tree_q rfl rfl ?_; go_big_quiet_step (fail); refine wpQuiet_nil ?_)
  refine tree_a rfl (fun K hK => ?_)
  go_simp
  refine (lawText_ok (textS rs (grp k).size) w54).mono ?_
  rintro e w55 ⟨rfl, hb9⟩
  have HW55 := Lib.hid (below_up HW54.out hb9)
  clear hb9
  refine hK _ _ ⟨⟨⟨w55, HW55.out⟩, rfl⟩, ?_⟩
  clear hK K
  repeat (refine tree_q rfl rfl ?_; go_big_quiet_step (fail); refine wpQuiet_nil ?_)
  refine tree_a rfl (fun K hK => ?_)
  go_simp
  have h9 := refMul_any (numOf a) (numOf b) (grp k).size (grp k).q.m (grp k).p.m ax ay aq ap cx cy cq cp HNA.out HB16.out hq0 w55 (HC.out.up HW55.out).x (HC.out.up HW55.out).y (HC.out.up HW55.out).q
  rw [HRM.out] at h9
  refine h9.mono ?_
  clear h9
  rintro e w56 ⟨a56, c56, rfl, hn9, hb9⟩
  have HN56 := Lib.hid hn9
  have HW56 := Lib.hid (below_up HW55.out hb9)
  clear hn9 hb9
  refine hK _ _ ⟨⟨⟨w56, HW56.out⟩, rfl⟩, ?_⟩
  clear hK K
  repeat (refine tree_q rfl rfl ?_; go_big_quiet_step (fail); refine wpQuiet_nil ?_)
  refine tree_a rfl (fun K hK => ?_)
  go_simp
  refine (refText_any rm (grp k).size a56 c56 HDM.out (by omega) w56 HN56.out).mono ?_
  rintro e w57 ⟨rfl, hb9⟩
  have HW57 := Lib.hid (below_up HW56.out hb9)
  clear hb9
  refine hK _ _ ⟨⟨⟨w57, HW57.out⟩, rfl⟩, ?_⟩
  clear hK K
  repeat (refine tree_q rfl rfl ?_; go_big_quiet_step (fail); refine wpQuiet_nil ?_)
  refine tree_a rfl (fun K hK => ?_)
  go_simp
  refine (lawText_ok (textS rm (grp k).size) w57).mono ?_
  rintro e w58 ⟨rfl, hb9⟩
  have HW58 := Lib.hid (below_up HW57.out hb9)
  clear hb9
  refine hK _ _ ⟨⟨⟨w58, HW58.out⟩, rfl⟩, ?_⟩
  clear hK K
  repeat (refine tree_q rfl rfl ?_; go_big_quiet_step (fail); refine wpQuiet_nil ?_)
  refine tree_end ?_
  have HC9 := Lib.hid (HC.out.up HW58.out)
  clear hov hzl
  clear HC hz_0 hz_1 hz_2
  have HC := HC9
  clear HC9
  have hz_0 := HC.out.z.cell (i := 0) rfl
  have hz_1 := HC.out.z.cell (i := 1) rfl
  have hz_2 := HC.out.z.cell (i := 2) rfl
  go_wp2_with fail
  go_ret
  exact ⟨rfl, HC.out.b⟩

theorem groupReckons_any (k : Int) (a b : ByteArray) (w : World) : Calls Try.prog 6 #[.int .i64 k, .string a, .string b] w fun e w' => e = .returned (.bool true) ∧ Below w.heap.size w w' := by
  by_cases hk : 1 ≤ k ∧ k ≤ 3
  · obtain ⟨j, rfl⟩ : ∃ j : Nat, k = j := ⟨k.toNat, by omega⟩
    cases hba : isSc (grp j).q.m (grp j).size a with
    | false => exact groupReckons_no j (by omega) (by omega) a b hba w
    | true =>
      cases hbb : isSc (grp j).q.m (grp j).size b with
      | false =>
        by_cases h0 : numOf a = 0
        · exact groupReckons_zn j (by omega) (by omega) a b hba h0 hbb w
        · exact groupReckons_in j (by omega) (by omega) a b hba h0 hbb w
      | true =>
        by_cases h0 : numOf a = 0
        · exact groupReckons_zy j (by omega) (by omega) a b hba h0 hbb w
        · exact groupReckons_iy j (by omega) (by omega) a b hba h0 hbb w
  · exact groupReckons_none k hk a b w

set_option maxRecDepth 100000 in
theorem groupReckons_calls {H : Type} (enc : TypeId × Value → H) (W : World) (base : Nat) {v0 v1 v2 : Value} {d0 d1 d2 : DataW H} {p0 p1 p2 : List MemPlace}
    (h0 : DataW.Trod enc Try.prog W 0 (fun _ => true) true 3 v0 d0 p0) (h1 : DataW.Trod enc Try.prog W 0 (fun _ => true) true 9 v1 d1 p1) (h2 : DataW.Trod enc Try.prog W 0 (fun _ => true) true 9 v2 d2 p2)
    (k0 : Value.okWide Try.prog W .any base 3 v0) (k1 : Value.okWide Try.prog W .any base 9 v1) (k2 : Value.okWide Try.prog W .any base 9 v2)
    (_lt0 : ∀ x ∈ p0, x.block < W.heap.size) (_lt1 : ∀ x ∈ p1, x.block < W.heap.size) (_lt2 : ∀ x ∈ p2, x.block < W.heap.size)
    (_hsz : (DataW.weightsEach Try.prog ([3, 9, 9] ++ Rows.groupReckonsSpec.plain.varTypes Try.prog) ([d0, d1, d2] ++ [])).all (· ≤ reachBytes) = true) :
    Calls Try.prog 6 #[v0, v1, v2] W fun e w' => e = .returned (.bool true) ∧ Below W.heap.size W w' := by
  obtain ⟨a, rfl, _, _, _⟩ := open_int Try.underlying3 k0 h0
  obtain ⟨s, rfl, _⟩ := Go.ChangeMaps.open_string Try.underlying9 k1 h1
  obtain ⟨n, rfl, _⟩ := Go.ChangeMaps.open_string Try.underlying9 k2 h2
  exact groupReckons_any a s n W

set_option maxRecDepth 100000 in
theorem groupReckons_lifted (os : Os) (started : os.Started) (H : Type) (enc : TypeId × Value → H) :
    ReturnsInHanded {} Try.checked os 6 .any (Rows.groupReckonsSpec.pre6 enc Try.prog Try.f6 Rows.groupReckonsRow.domain false) (Rows.groupReckonsSpec.post enc Try.prog Try.f6 false true false false) := by
  refine returnsInHanded_of_change_sized (C := Try.checked) law_own started (by kernel_rfl) Try.func6
    (ChangeSpec.witness6 (enc := enc) (C := Try.checked) false ⟨#[], #[.int .i64 0, .string ⟨#[]⟩, .string ⟨#[]⟩], []⟩ 8 (by kernel_rfl) (by kernel_rfl) (by kernel_rfl) (by kernel_rfl)) ?_
  intro W base args ds gs before hval0 hW _ hsz0 _
  have hsz : (DataW.weightsEach Try.prog (Try.f6.params.toList ++ Rows.groupReckonsSpec.plain.varTypes Try.prog) (ds ++ gs)).all (· ≤ reachBytes) = true := hsz0
  clear hsz0
  have hval : ∀ (j : Nat) t v, Try.f6.params[j]? = some t → args[j]? = some v → Value.okWide Try.prog W .any base t v := hval0
  have hW' := hW
  obtain ⟨p, q, hA0, hV, rfl, _, _⟩ := hW
  have hA : DataW.TrodAll enc Try.prog W 0 (fun _ => true) true Try.f6.params.toList args.toList ds p := hA0
  rw [Try.params6] at hA hval hsz
  obtain ⟨v0, vs0, d0, ds0, p0, q0, hargs, rfl, rfl, h0, r0⟩ := trodAll_cons hA
  obtain ⟨v1, vs1, d1, ds1, p1, q1, rfl, rfl, rfl, h1, r1⟩ := trodAll_cons r0
  obtain ⟨v2, vs2, d2, ds2, p2, q2, rfl, rfl, rfl, h2, r2⟩ := trodAll_cons r1
  obtain ⟨rfl, rfl, rfl⟩ := trodAll_nil r2
  obtain rfl : args = #[v0, v1, v2] := by cases args; simp_all
  obtain ⟨rfl, rfl⟩ := trodVars_none hV
  have lt0 : ∀ x ∈ p0, x.block < W.heap.size := by obtain ⟨m, hm⟩ := h0; exact DataW.trod_lt m _ _ _ hm
  have lt1 : ∀ x ∈ p1, x.block < W.heap.size := by obtain ⟨m, hm⟩ := h1; exact DataW.trod_lt m _ _ _ hm
  have lt2 : ∀ x ∈ p2, x.block < W.heap.size := by obtain ⟨m, hm⟩ := h2; exact DataW.trod_lt m _ _ _ hm
  clear hA0 hval0
  refine (groupReckons_calls enc W base h0 h1 h2 (hval 0 3 v0 rfl rfl) (hval 1 9 v1 rfl rfl) (hval 2 9 v2 rfl rfl) lt0 lt1 lt2 hsz).mono fun e W' ⟨he, bel⟩ => ?_
  subst he
  exact ⟨_, rfl, _, _, _, [], _, [], hW', trodAll_mk1 (shut_bool Try.underlying4 _), (trodAll_cons_mk (Below.trod law_laidOut (by kernel_rfl) (of_decide_eq_true (by kernel_rfl)) h0 bel lt0) (trodAll_cons_mk (Below.trod law_laidOut (by kernel_rfl) (of_decide_eq_true (by kernel_rfl)) h1 bel lt1) (trodAll_cons_mk (Below.trod law_laidOut (by kernel_rfl) (of_decide_eq_true (by kernel_rfl)) h2 bel lt2) trodAll_mk0))), rfl, bel.frame _, fun h => by cases h⟩

theorem groupReckons_holds : Rows.GroupReckonsSaid :=
  OpenClaim.holds_of_wide 6 Try.f6 rfl rfl rfl rfl rfl rfl rfl ⟨rfl, rfl, rfl, rfl, rfl⟩ rfl rfl rfl rfl rfl (by kernel_rfl) Try.func6 (by kernel_rfl)
    (of_decide_eq_true (by kernel_rfl)) (by unfold Func.isWrapper; first | (rw [if_pos (by decide +kernel)]; kernel_rfl) | (rw [if_neg (by decide +kernel)]; exact ⟨rfl, rfl⟩))
    (fun os started H enc _ => groupReckons_lifted os started H enc)
#print axioms groupReckons_holds



end Go.Proofs.Ytdmldnpadojflaa
