/- GroupTells: what a kind has, of any kind, is what the document says. No condition. -/
import Derived.Test.YtdmldnpadojflaaGroupTells
import Derived.Test.YtdmldnpadojflaaLawBase
namespace Go.Proofs.Ytdmldnpadojflaa
open Go.ChangeShapes Go.WideShapes Go.ChangeAt Go.RowKit

theorem grp_small (k : Nat) (h1 : 1 ≤ k) (h3 : k ≤ 3) : dl (grp k).q.m ≤ 1048576 ∧ dl (grp k).p.m ≤ 1048576 :=
  ⟨small_dl _ (grp_ok k h1 h3).q.lt4, small_dl _ (grp_ok k h1 h3).p.lt4⟩



set_option maxRecDepth 100000 in
set_option maxHeartbeats 2000000 in
theorem groupTells_some (k : Nat) (h1 : 1 ≤ k) (h3 : k ≤ 3) (w : World) : Calls Try.prog 3 #[.int .i64 (k : Int)] w fun e w' => e = .returned (.bool true) ∧ Below w.heap.size w w' := by
  obtain ⟨hlq, hlp⟩ := grp_small k h1 h3
  have hsz : (grp k).size ≤ 32 := (grp_ok k h1 h3).size_le
  have hs0 : (((grp k).size : Int) == 0) = false := by
    obtain rfl | rfl | rfl : k = 1 ∨ k = 2 ∨ k = 3 := by omega
    all_goals rfl
  go_enter Try.func3, Try.ntmps3
  go_wp2_with fail
  refine (refKind_some k h1 h3 w).mono ?_
  rintro e w1 ⟨aq, cq, ap, cp, rfl, hq, hp, hb1⟩
  have hb2 : Below w.heap.size w (w1.alloc (.cells #[.int .i64 ((grp k).size : Int), .slice aq (dl (grp k).q.m) cq, .slice ap (dl (grp k).p.m) cp] 25)) := hb1.alloc hb1.size _
  have hz2 : Bx (w1.alloc (.cells #[.int .i64 ((grp k).size : Int), .slice aq (dl (grp k).q.m) cq, .slice ap (dl (grp k).p.m) cp] 25)) w1.heap.size 25 [.int .i64 ((grp k).size : Int), .slice aq (dl (grp k).q.m) cq, .slice ap (dl (grp k).p.m) cp] := Bx.new w1 _ _ _ rfl
  have hq2 := hq.up ((Below.refl w1.heap.size w1).alloc (Nat.le_refl _) (.cells #[.int .i64 ((grp k).size : Int), .slice aq (dl (grp k).q.m) cq, .slice ap (dl (grp k).p.m) cp] 25))
  have hp2 := hp.up ((Below.refl w1.heap.size w1).alloc (Nat.le_refl _) (.cells #[.int .i64 ((grp k).size : Int), .slice aq (dl (grp k).q.m) cq, .slice ap (dl (grp k).p.m) cp] 25))
  obtain ⟨W2, hW2⟩ : ∃ W9 : World, (w1.alloc (.cells #[.int .i64 ((grp k).size : Int), .slice aq (dl (grp k).q.m) cq, .slice ap (dl (grp k).p.m) cp] 25)) = W9 := ⟨_, rfl⟩
  rw [hW2] at hb2 hz2 hq2 hp2
  have HZ := Lib.hid hz2
  have HB := Lib.hid hb2
  have HQ := Lib.hid hq2
  have HP := Lib.hid hp2
  clear hb2 hz2 hq2 hp2 hq hp hb1
  have hz_0 := HZ.out.cell (i := 0) rfl
  have hz_1 := HZ.out.cell (i := 1) rfl
  have hz_2 := HZ.out.cell (i := 2) rfl
  go_wp2_with fail
  refine (Sizes_some k h1 h3 W2).mono ?_
  rintro e w3 ⟨rfl, hb9⟩
  have HZ9 := Lib.hid (HZ.out.up hb9)
  have HB9 := Lib.hid (below_up HB.out hb9)
  have HQ9 := Lib.hid (HQ.out.up hb9)
  have HP9 := Lib.hid (HP.out.up hb9)
  clear hb9 HZ HB HQ HP hz_0 hz_1 hz_2
  have HZ := HZ9
  have HB := HB9
  have HQ := HQ9
  have HP := HP9
  clear HZ9 HB9 HQ9 HP9
  have hz_0 := HZ.out.cell (i := 0) rfl
  have hz_1 := HZ.out.cell (i := 1) rfl
  have hz_2 := HZ.out.cell (i := 2) rfl
  go_wp2_with fail
  refine (Order_some k h1 h3 w3).mono ?_
  rintro e w4 ⟨rfl, hb9⟩
  have HZ9 := Lib.hid (HZ.out.up hb9)
  have HB9 := Lib.hid (below_up HB.out hb9)
  have HQ9 := Lib.hid (HQ.out.up hb9)
  have HP9 := Lib.hid (HP.out.up hb9)
  clear hb9 HZ HB HQ HP hz_0 hz_1 hz_2
  have HZ := HZ9
  have HB := HB9
  have HQ := HQ9
  have HP := HP9
  clear HZ9 HB9 HQ9 HP9
  have hz_0 := HZ.out.cell (i := 0) rfl
  have hz_1 := HZ.out.cell (i := 1) rfl
  have hz_2 := HZ.out.cell (i := 2) rfl
  go_wp2_with fail
  refine (Prime_some k h1 h3 w4).mono ?_
  rintro e w5 ⟨rfl, hb9⟩
  have HZ9 := Lib.hid (HZ.out.up hb9)
  have HB9 := Lib.hid (below_up HB.out hb9)
  have HQ9 := Lib.hid (HQ.out.up hb9)
  have HP9 := Lib.hid (HP.out.up hb9)
  clear hb9 HZ HB HQ HP hz_0 hz_1 hz_2
  have HZ := HZ9
  have HB := HB9
  have HQ := HQ9
  have HP := HP9
  clear HZ9 HB9 HQ9 HP9
  have hz_0 := HZ.out.cell (i := 0) rfl
  have hz_1 := HZ.out.cell (i := 1) rfl
  have hz_2 := HZ.out.cell (i := 2) rfl
  go_wp2_with fail
  refine (refText_any (grp k).q.m (grp k).size aq cq hlq (by omega) w5 HQ.out).mono ?_
  rintro e w6 ⟨rfl, hb9⟩
  have HZ9 := Lib.hid (HZ.out.up hb9)
  have HB9 := Lib.hid (below_up HB.out hb9)
  have HQ9 := Lib.hid (HQ.out.up hb9)
  have HP9 := Lib.hid (HP.out.up hb9)
  clear hb9 HZ HB HQ HP hz_0 hz_1 hz_2
  have HZ := HZ9
  have HB := HB9
  have HQ := HQ9
  have HP := HP9
  clear HZ9 HB9 HQ9 HP9
  have hz_0 := HZ.out.cell (i := 0) rfl
  have hz_1 := HZ.out.cell (i := 1) rfl
  have hz_2 := HZ.out.cell (i := 2) rfl
  go_wp2_with fail
  refine (lawText_ok (textS (grp k).q.m (grp k).size) w6).mono ?_
  rintro e w7 ⟨rfl, hb9⟩
  have HZ9 := Lib.hid (HZ.out.up hb9)
  have HB9 := Lib.hid (below_up HB.out hb9)
  have HQ9 := Lib.hid (HQ.out.up hb9)
  have HP9 := Lib.hid (HP.out.up hb9)
  clear hb9 HZ HB HQ HP hz_0 hz_1 hz_2
  have HZ := HZ9
  have HB := HB9
  have HQ := HQ9
  have HP := HP9
  clear HZ9 HB9 HQ9 HP9
  have hz_0 := HZ.out.cell (i := 0) rfl
  have hz_1 := HZ.out.cell (i := 1) rfl
  have hz_2 := HZ.out.cell (i := 2) rfl
  go_wp2_with fail
  refine (refText_any (grp k).p.m (grp k).size ap cp hlp (by omega) w7 HP.out).mono ?_
  rintro e w8 ⟨rfl, hb9⟩
  have HZ9 := Lib.hid (HZ.out.up hb9)
  have HB9 := Lib.hid (below_up HB.out hb9)
  have HQ9 := Lib.hid (HQ.out.up hb9)
  have HP9 := Lib.hid (HP.out.up hb9)
  clear hb9 HZ HB HQ HP hz_0 hz_1 hz_2
  have HZ := HZ9
  have HB := HB9
  have HQ := HQ9
  have HP := HP9
  clear HZ9 HB9 HQ9 HP9
  have hz_0 := HZ.out.cell (i := 0) rfl
  have hz_1 := HZ.out.cell (i := 1) rfl
  have hz_2 := HZ.out.cell (i := 2) rfl
  go_wp2_with fail
  refine (lawText_ok (textS (grp k).p.m (grp k).size) w8).mono ?_
  rintro e w9 ⟨rfl, hb9⟩
  have HZ9 := Lib.hid (HZ.out.up hb9)
  have HB9 := Lib.hid (below_up HB.out hb9)
  have HQ9 := Lib.hid (HQ.out.up hb9)
  have HP9 := Lib.hid (HP.out.up hb9)
  clear hb9 HZ HB HQ HP hz_0 hz_1 hz_2
  have HZ := HZ9
  have HB := HB9
  have HQ := HQ9
  have HP := HP9
  clear HZ9 HB9 HQ9 HP9
  have hz_0 := HZ.out.cell (i := 0) rfl
  have hz_1 := HZ.out.cell (i := 1) rfl
  have hz_2 := HZ.out.cell (i := 2) rfl
  go_wp2_with fail
  refine (Base_some k h1 h3 w9).mono ?_
  rintro e w10 ⟨rfl, hb9⟩
  have HZ9 := Lib.hid (HZ.out.up hb9)
  have HB9 := Lib.hid (below_up HB.out hb9)
  have HQ9 := Lib.hid (HQ.out.up hb9)
  have HP9 := Lib.hid (HP.out.up hb9)
  clear hb9 HZ HB HQ HP hz_0 hz_1 hz_2
  have HZ := HZ9
  have HB := HB9
  have HQ := HQ9
  have HP := HP9
  clear HZ9 HB9 HQ9 HP9
  have hz_0 := HZ.out.cell (i := 0) rfl
  have hz_1 := HZ.out.cell (i := 1) rfl
  have hz_2 := HZ.out.cell (i := 2) rfl
  go_wp2_with fail
  have hzl := HZ.out.lt
  refine wp_region_tree (fun w' => ∃ E : Over w10, w' = E.w) (.qs [0, 1, 2, 4, 5] (.a 3 (.a 6 (.a 7 (.q 8 .done))))) (by kernel_rfl) (by kernel_rfl) (fun _ _ d _ _ h => by cases d <;> exact h) ⟨⟨_, (Below.refl _ _).drew⟩, rfl⟩ ?_
  have hov := fun (E : Over w10) o => E.cell (b := w1.heap.size) o hzl
  simp only [Tree.qs]
  repeat (refine tree_q rfl rfl ?_; go_big_quiet_step (fail); refine wpQuiet_nil ?_)
  refine tree_a rfl (fun K hK => ?_)
  go_simp
  refine (refOf_any 2 (by omega) _).mono ?_
  rintro e w11 ⟨a9, c9, rfl, hn9, hb9⟩
  have HN9 := Lib.hid hn9
  have HW11 : Hid (Below w10.heap.size w10 w11) := (Below.refl _ _).drew.trans hb9
  clear hn9 hb9
  refine hK _ _ ⟨⟨⟨w11, HW11.out⟩, rfl⟩, ?_⟩
  clear hK K
  refine tree_a rfl (fun K hK => ?_)
  go_simp
  refine (refText_any 2 (grp k).size a9 c9 (by decide) (by omega) w11 HN9.out).mono ?_
  rintro e w12 ⟨rfl, hb9⟩
  have HW12 := Lib.hid (below_up HW11.out hb9)
  clear hb9
  refine hK _ _ ⟨⟨⟨w12, HW12.out⟩, rfl⟩, ?_⟩
  clear hK K
  refine tree_a rfl (fun K hK => ?_)
  go_simp
  refine (lawText_ok (textS 2 (grp k).size) w12).mono ?_
  rintro e w13 ⟨rfl, hb9⟩
  have HW13 := Lib.hid (below_up HW12.out hb9)
  clear hb9
  refine hK _ _ ⟨⟨⟨w13, HW13.out⟩, rfl⟩, ?_⟩
  clear hK K
  refine tree_q rfl rfl ?_
  go_big_quiet_step (fail)
  refine wpQuiet_nil ?_
  refine tree_end ?_
  have HF := Lib.hid (below_up HB.out HW13.out)
  clear hov
  go_wp2_with fail
  go_ret
  exact ⟨rfl, HF.out⟩


theorem refText_nil (size : Nat) (hs : size ≤ 1024) (w : World) : Calls Try.prog 18 #[.slice none 0 0, .int .i64 (size : Int)] w fun e w' => e = .returned (.string (textS 0 size)) ∧ Below w.heap.size w w' :=
  refText_any 0 size none 0 (by decide) hs w (NumAt.zero _ _)
theorem refText_nil0 (w : World) : Calls Try.prog 18 #[.slice none 0 0, .int .i64 0] w fun e w' => e = .returned (.string (textS 0 0)) ∧ Below w.heap.size w w' :=
  refText_nil 0 (by omega) w

theorem refText_two0 (a9 : Option Addr) (c9 : Nat) (w : World) (h : NumAt w a9 2) : Calls Try.prog 18 #[.slice a9 (dl 2) c9, .int .i64 0] w fun e w' => e = .returned (.string (textS 2 0)) ∧ Below w.heap.size w w' :=
  refText_any 2 0 a9 c9 (by decide) (by omega) w h

set_option maxRecDepth 100000 in
set_option maxHeartbeats 2000000 in
theorem groupTells_none (k : Int) (hk : ¬ (1 ≤ k ∧ k ≤ 3)) (w : World) : Calls Try.prog 3 #[.int .i64 k] w fun e w' => e = .returned (.bool true) ∧ Below w.heap.size w w' := by
  go_enter Try.func3, Try.ntmps3
  go_wp2_with fail
  refine (refKind_none k hk w).mono ?_
  rintro e w1 ⟨rfl, hb1⟩
  have HB1 := Lib.hid hb1
  clear hb1
  go_wp2_with fail
  have hb1 := HB1.out
  have hb2 : Below w.heap.size w (w1.alloc (.cells #[.int .i64 0, .slice none 0 0, .slice none 0 0] 25)) := hb1.alloc hb1.size _
  have hz2 : Bx (w1.alloc (.cells #[.int .i64 0, .slice none 0 0, .slice none 0 0] 25)) w1.heap.size 25 [.int .i64 0, .slice none 0 0, .slice none 0 0] := Bx.new w1 _ _ _ rfl
  obtain ⟨W2, hW2⟩ : ∃ W9 : World, (w1.alloc (.cells #[.int .i64 0, .slice none 0 0, .slice none 0 0] 25)) = W9 := ⟨_, rfl⟩
  rw [hW2] at hb2 hz2 ⊢
  clear hW2
  have HZ := Lib.hid hz2
  have HB := Lib.hid hb2
  clear hb2 hz2 hb1
  have hz_0 := HZ.out.cell (i := 0) rfl
  have hz_1 := HZ.out.cell (i := 1) rfl
  have hz_2 := HZ.out.cell (i := 2) rfl
  refine (Sizes_none k hk W2).mono ?_
  rintro e w3 ⟨rfl, hb9⟩
  have HZ9 := Lib.hid (HZ.out.up hb9)
  have HB9 := Lib.hid (below_up HB.out hb9)
  clear hb9 HZ HB hz_0 hz_1 hz_2
  have HZ := HZ9
  have HB := HB9
  clear HZ9 HB9
  have hz_0 := HZ.out.cell (i := 0) rfl
  have hz_1 := HZ.out.cell (i := 1) rfl
  have hz_2 := HZ.out.cell (i := 2) rfl
  go_wp2_with fail
  refine (Order_none k hk w3).mono ?_
  rintro e w4 ⟨rfl, hb9⟩
  have HZ9 := Lib.hid (HZ.out.up hb9)
  have HB9 := Lib.hid (below_up HB.out hb9)
  clear hb9 HZ HB hz_0 hz_1 hz_2
  have HZ := HZ9
  have HB := HB9
  clear HZ9 HB9
  have hz_0 := HZ.out.cell (i := 0) rfl
  have hz_1 := HZ.out.cell (i := 1) rfl
  have hz_2 := HZ.out.cell (i := 2) rfl
  go_wp2_with fail
  refine (Prime_none k hk w4).mono ?_
  rintro e w5 ⟨rfl, hb9⟩
  have HZ9 := Lib.hid (HZ.out.up hb9)
  have HB9 := Lib.hid (below_up HB.out hb9)
  clear hb9 HZ HB hz_0 hz_1 hz_2
  have HZ := HZ9
  have HB := HB9
  clear HZ9 HB9
  have hz_0 := HZ.out.cell (i := 0) rfl
  have hz_1 := HZ.out.cell (i := 1) rfl
  have hz_2 := HZ.out.cell (i := 2) rfl
  go_wp2_with fail
  refine (refText_nil0 w5).mono ?_
  rintro e w6 ⟨rfl, hb9⟩
  have HZ9 := Lib.hid (HZ.out.up hb9)
  have HB9 := Lib.hid (below_up HB.out hb9)
  clear hb9 HZ HB hz_0 hz_1 hz_2
  have HZ := HZ9
  have HB := HB9
  clear HZ9 HB9
  have hz_0 := HZ.out.cell (i := 0) rfl
  have hz_1 := HZ.out.cell (i := 1) rfl
  have hz_2 := HZ.out.cell (i := 2) rfl
  go_wp2_with fail
  refine (lawText_err (textS 0 0) 1 (by omega) w6).mono ?_
  rintro e w7 ⟨rfl, hb9⟩
  have HZ9 := Lib.hid (HZ.out.up hb9)
  have HB9 := Lib.hid (below_up HB.out hb9)
  clear hb9 HZ HB hz_0 hz_1 hz_2
  have HZ := HZ9
  have HB := HB9
  clear HZ9 HB9
  have hz_0 := HZ.out.cell (i := 0) rfl
  have hz_1 := HZ.out.cell (i := 1) rfl
  have hz_2 := HZ.out.cell (i := 2) rfl
  go_wp2_with fail
  refine (refText_nil0 w7).mono ?_
  rintro e w8 ⟨rfl, hb9⟩
  have HZ9 := Lib.hid (HZ.out.up hb9)
  have HB9 := Lib.hid (below_up HB.out hb9)
  clear hb9 HZ HB hz_0 hz_1 hz_2
  have HZ := HZ9
  have HB := HB9
  clear HZ9 HB9
  have hz_0 := HZ.out.cell (i := 0) rfl
  have hz_1 := HZ.out.cell (i := 1) rfl
  have hz_2 := HZ.out.cell (i := 2) rfl
  go_wp2_with fail
  refine (lawText_err (textS 0 0) 1 (by omega) w8).mono ?_
  rintro e w9 ⟨rfl, hb9⟩
  have HZ9 := Lib.hid (HZ.out.up hb9)
  have HB9 := Lib.hid (below_up HB.out hb9)
  clear hb9 HZ HB hz_0 hz_1 hz_2
  have HZ := HZ9
  have HB := HB9
  clear HZ9 HB9
  have hz_0 := HZ.out.cell (i := 0) rfl
  have hz_1 := HZ.out.cell (i := 1) rfl
  have hz_2 := HZ.out.cell (i := 2) rfl
  go_wp2_with fail
  refine (Base_none k hk w9).mono ?_
  rintro e w10 ⟨rfl, hb9⟩
  have HZ9 := Lib.hid (HZ.out.up hb9)
  have HB9 := Lib.hid (below_up HB.out hb9)
  clear hb9 HZ HB hz_0 hz_1 hz_2
  have HZ := HZ9
  have HB := HB9
  clear HZ9 HB9
  have hz_0 := HZ.out.cell (i := 0) rfl
  have hz_1 := HZ.out.cell (i := 1) rfl
  have hz_2 := HZ.out.cell (i := 2) rfl
  go_wp2_with fail
  have hzl := HZ.out.lt
  refine wp_region_tree (fun w' => ∃ E : Over w10, w' = E.w) (.qs [0, 1, 2, 4, 5] (.a 3 (.a 6 (.a 7 (.q 8 .done))))) (by kernel_rfl) (by kernel_rfl) (fun _ _ d _ _ h => by cases d <;> exact h) ⟨⟨_, (Below.refl _ _).drew⟩, rfl⟩ ?_
  have hov := fun (E : Over w10) o => E.cell (b := w1.heap.size) o hzl
  simp only [Tree.qs]
  repeat (refine tree_q rfl rfl ?_; go_big_quiet_step (fail); refine wpQuiet_nil ?_)
  refine tree_a rfl (fun K hK => ?_)
  go_simp
  refine (refOf_any 2 (by omega) _).mono ?_
  rintro e w11 ⟨a9, c9, rfl, hn9, hb9⟩
  have HN9 := Lib.hid hn9
  have HW11 : Hid (Below w10.heap.size w10 w11) := (Below.refl _ _).drew.trans hb9
  clear hn9 hb9
  refine hK _ _ ⟨⟨⟨w11, HW11.out⟩, rfl⟩, ?_⟩
  clear hK K
  refine tree_a rfl (fun K hK => ?_)
  go_simp
  refine (refText_any 2 0 a9 c9 (by decide) (by omega) w11 HN9.out).mono ?_
  rintro e w12 ⟨rfl, hb9⟩
  have HW12 := Lib.hid (below_up HW11.out hb9)
  clear hb9
  refine hK _ _ ⟨⟨⟨w12, HW12.out⟩, rfl⟩, ?_⟩
  clear hK K
  refine tree_a rfl (fun K hK => ?_)
  go_simp
  refine (lawText_err (textS 2 0) 1 (by omega) w12).mono ?_
  rintro e w13 ⟨rfl, hb9⟩
  have HW13 := Lib.hid (below_up HW12.out hb9)
  clear hb9
  refine hK _ _ ⟨⟨⟨w13, HW13.out⟩, rfl⟩, ?_⟩
  clear hK K
  refine tree_q rfl rfl ?_
  go_big_quiet_step (fail)
  refine wpQuiet_nil ?_
  refine tree_end ?_
  have HF := Lib.hid (below_up HB.out HW13.out)
  clear hov
  go_wp2_with fail
  go_ret
  exact ⟨rfl, HF.out⟩

theorem groupTells_any (k : Int) (w : World) : Calls Try.prog 3 #[.int .i64 k] w fun e w' => e = .returned (.bool true) ∧ Below w.heap.size w w' := by
  by_cases hk : 1 ≤ k ∧ k ≤ 3
  · obtain ⟨n, rfl⟩ : ∃ n : Nat, k = n := ⟨k.toNat, by omega⟩
    exact groupTells_some n (by omega) (by omega) w
  · exact groupTells_none k hk w

set_option maxRecDepth 100000 in
theorem groupTells_calls {H : Type} (enc : TypeId × Value → H) (W : World) (base : Nat) {v0 : Value} {d0 : DataW H} {p0 : List MemPlace}
    (h0 : DataW.Trod enc Try.prog W 0 (fun _ => true) true 3 v0 d0 p0)
    (k0 : Value.okWide Try.prog W .any base 3 v0)
    (_lt0 : ∀ x ∈ p0, x.block < W.heap.size)
    (_hsz : (DataW.weightsEach Try.prog ([3] ++ Rows.groupTellsSpec.plain.varTypes Try.prog) ([d0] ++ [])).all (· ≤ reachBytes) = true) :
    Calls Try.prog 3 #[v0] W fun e w' => e = .returned (.bool true) ∧ Below W.heap.size W w' := by
  obtain ⟨a, rfl, _, _, _⟩ := open_int Try.underlying3 k0 h0
  exact groupTells_any a W

set_option maxRecDepth 100000 in
theorem groupTells_lifted (os : Os) (started : os.Started) (H : Type) (enc : TypeId × Value → H) :
    ReturnsInHanded {} Try.checked os 3 .any (Rows.groupTellsSpec.pre6 enc Try.prog Try.f3 Rows.groupTellsRow.domain false) (Rows.groupTellsSpec.post enc Try.prog Try.f3 false true false false) := by
  refine returnsInHanded_of_change_sized (C := Try.checked) law_own started (by kernel_rfl) Try.func3
    (ChangeSpec.witness6 (enc := enc) (C := Try.checked) false ⟨#[], #[.int .i64 0], []⟩ 8 (by kernel_rfl) (by kernel_rfl) (by kernel_rfl) (by kernel_rfl)) ?_
  intro W base args ds gs before hval0 hW _ hsz0 _
  have hsz : (DataW.weightsEach Try.prog (Try.f3.params.toList ++ Rows.groupTellsSpec.plain.varTypes Try.prog) (ds ++ gs)).all (· ≤ reachBytes) = true := hsz0
  clear hsz0
  have hval : ∀ (j : Nat) t v, Try.f3.params[j]? = some t → args[j]? = some v → Value.okWide Try.prog W .any base t v := hval0
  have hW' := hW
  obtain ⟨p, q, hA0, hV, rfl, _, _⟩ := hW
  have hA : DataW.TrodAll enc Try.prog W 0 (fun _ => true) true Try.f3.params.toList args.toList ds p := hA0
  rw [Try.params3] at hA hval hsz
  obtain ⟨v0, vs0, d0, ds0, p0, q0, hargs, rfl, rfl, h0, r0⟩ := trodAll_cons hA
  obtain ⟨rfl, rfl, rfl⟩ := trodAll_nil r0
  obtain rfl : args = #[v0] := by cases args; simp_all
  obtain ⟨rfl, rfl⟩ := trodVars_none hV
  have lt0 : ∀ x ∈ p0, x.block < W.heap.size := by obtain ⟨m, hm⟩ := h0; exact DataW.trod_lt m _ _ _ hm
  clear hA0 hval0
  refine (groupTells_calls enc W base h0 (hval 0 3 v0 rfl rfl) lt0 hsz).mono fun e W' ⟨he, bel⟩ => ?_
  subst he
  exact ⟨_, rfl, _, _, _, [], _, [], hW', trodAll_mk1 (shut_bool Try.underlying4 _), (trodAll_cons_mk (Below.trod law_laidOut (by kernel_rfl) (of_decide_eq_true (by kernel_rfl)) h0 bel lt0) trodAll_mk0), rfl, bel.frame _, fun h => by cases h⟩

theorem groupTells_holds : Rows.GroupTellsSaid :=
  OpenClaim.holds_of_wide 3 Try.f3 rfl rfl rfl rfl rfl rfl rfl ⟨rfl, rfl, rfl, rfl, rfl⟩ rfl rfl rfl rfl rfl (by kernel_rfl) Try.func3 (by kernel_rfl)
    (of_decide_eq_true (by kernel_rfl)) (by unfold Func.isWrapper; first | (rw [if_pos (by decide +kernel)]; kernel_rfl) | (rw [if_neg (by decide +kernel)]; exact ⟨rfl, rfl⟩))
    (fun os started H enc _ => groupTells_lifted os started H enc)
#print axioms groupTells_holds



end Go.Proofs.Ytdmldnpadojflaa
