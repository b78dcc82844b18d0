/- GroupKnows: Scalar, Member, Number, Reduce of anything, as the document says. No condition. -/
import Derived.Test.YtdmldnpadojflaaGroupKnow
import Derived.Test.YtdmldnpadojflaaRefNumb
import Derived.Test.YtdmldnpadojflaaLawTells
namespace Go.Proofs.Ytdmldnpadojflaa
open Go.ChangeShapes Go.WideShapes Go.ChangeAt Go.RowKit


set_option maxRecDepth 100000 in
set_option maxHeartbeats 400000 in
theorem groupKnows_none (k : Int) (hk : ¬ (1 ≤ k ∧ k ≤ 3)) (s : ByteArray) (n : Int) (w : World) : Calls Try.prog 5 #[.int .i64 k, .string s, .int .i64 n] w fun e w' => e = .returned (.bool true) ∧ Below w.heap.size w w' := by
  go_enter Try.func5, Try.ntmps5
  go_wp2_with fail
  refine (refKind_none k hk w).mono ?_
  rintro e w1 ⟨rfl, hb1⟩
  have HB1 := Lib.hid hb1
  clear hb1
  go_wp2_with fail
  have hb2 : Below w.heap.size w (w1.alloc (.cells #[.int .i64 0, .slice none 0 0, .slice none 0 0] 25)) := HB1.out.alloc HB1.out.size _
  obtain ⟨W2, hW2⟩ : ∃ W9 : World, (w1.alloc (.cells #[.int .i64 0, .slice none 0 0, .slice none 0 0] 25)) = W9 := ⟨_, rfl⟩
  rw [hW2] at hb2 ⊢
  clear hW2
  have HB := Lib.hid hb2
  clear hb2
  refine (Number_none k hk n W2).mono ?_
  rintro e w3 ⟨rfl, hb9⟩
  have HB9 := Lib.hid (below_up HB.out hb9)
  clear hb9 HB
  have HB := HB9
  clear HB9
  go_wp2_with fail
  refine (Reduce_none k hk s w3).mono ?_
  rintro e w4 ⟨rfl, hb9⟩
  have HB9 := Lib.hid (below_up HB.out hb9)
  clear hb9 HB
  have HB := HB9
  clear HB9
  go_wp2_with fail
  refine (Scalar_none k hk s w4).mono ?_
  rintro e w5 ⟨rfl, hb9⟩
  have HB9 := Lib.hid (below_up HB.out hb9)
  clear hb9 HB
  have HB := HB9
  clear HB9
  go_wp2_with fail
  refine (Member_none k hk s w5).mono ?_
  rintro e w6 ⟨rfl, hb9⟩
  have HB9 := Lib.hid (below_up HB.out hb9)
  clear hb9 HB
  have HB := HB9
  clear HB9
  go_wp2_with fail
  refine (lawText_err ⟨#[]⟩ 1 (by omega) w6).mono ?_
  rintro e w7 ⟨rfl, hb9⟩
  have HB9 := Lib.hid (below_up HB.out hb9)
  clear hb9 HB
  have HB := HB9
  clear HB9
  go_wp2_with fail
  refine (lawText_err ⟨#[]⟩ 1 (by omega) w7).mono ?_
  rintro e w8 ⟨rfl, hb9⟩
  have HB9 := Lib.hid (below_up HB.out hb9)
  clear hb9 HB
  have HB := HB9
  clear HB9
  go_wp2_with fail
  go_ret
  exact ⟨rfl, HB.out⟩



set_option maxRecDepth 100000 in
set_option maxHeartbeats 1000000 in
theorem groupKnows_some (k : Nat) (h1 : 1 ≤ k) (h3 : k ≤ 3) (s : ByteArray) (n : Int) (hn1 : -9223372036854775808 ≤ n) (hn2 : n ≤ 9223372036854775807) (w : World) : Calls Try.prog 5 #[.int .i64 (k : Int), .string s, .int .i64 n] w fun e w' => e = .returned (.bool true) ∧ Below w.heap.size w w' := by
  obtain ⟨hlq, hlp⟩ := grp_small k h1 h3
  have hsz : (grp k).size ≤ 32 := (grp_ok k h1 h3).size_le
  have hq0 : 0 < (grp k).q.m := (grp_ok k h1 h3).q.pos
  have hq16 : (grp k).q.m < DD ^ 16 := (grp_ok k h1 h3).q.lt4
  have hs0 : (((grp k).size : Int) == 0) = false := by
    obtain rfl | rfl | rfl : k = 1 ∨ k = 2 ∨ k = 3 := by omega
    all_goals rfl
  obtain ⟨bs, hbs⟩ : ∃ b, isSc (grp k).q.m (grp k).size s = b := ⟨_, rfl⟩
  obtain ⟨be, hbe⟩ : ∃ b, isEl (grp k).q.m (grp k).size s = b := ⟨_, rfl⟩
  have HBS := Lib.hid hbs
  have HBE := Lib.hid hbe
  have hxs : (bs != bs) = false := by simp
  have hxe : (be != be) = false := by simp
  have HN1 := Lib.hid hn1
  have HN2 := Lib.hid hn2
  clear hbs hbe hn1 hn2
  go_enter Try.func5, Try.ntmps5
  go_wp2_with fail
  refine (refKind_some k h1 h3 w).mono ?_
  rintro e w1 ⟨aq, cq, ap, cp, rfl, hq, hp, hb1⟩
  have hb2 : Below w.heap.size w (w1.alloc (.cells #[.int .i64 ((grp k).size : Int), .slice aq (dl (grp k).q.m) cq, .slice ap (dl (grp k).p.m) cp] 25)) := hb1.alloc hb1.size _
  have hz2 : Bx (w1.alloc (.cells #[.int .i64 ((grp k).size : Int), .slice aq (dl (grp k).q.m) cq, .slice ap (dl (grp k).p.m) cp] 25)) w1.heap.size 25 [.int .i64 ((grp k).size : Int), .slice aq (dl (grp k).q.m) cq, .slice ap (dl (grp k).p.m) cp] := Bx.new w1 _ _ _ rfl
  have hq2 := hq.up ((Below.refl w1.heap.size w1).alloc (Nat.le_refl _) (.cells #[.int .i64 ((grp k).size : Int), .slice aq (dl (grp k).q.m) cq, .slice ap (dl (grp k).p.m) cp] 25))
  obtain ⟨W2, hW2⟩ : ∃ W9 : World, (w1.alloc (.cells #[.int .i64 ((grp k).size : Int), .slice aq (dl (grp k).q.m) cq, .slice ap (dl (grp k).p.m) cp] 25)) = W9 := ⟨_, rfl⟩
  rw [hW2] at hb2 hz2 hq2
  have HZ := Lib.hid hz2
  have HB := Lib.hid hb2
  have HQ := Lib.hid hq2
  clear hb2 hz2 hq2 hq hp hb1
  have hz_0 := HZ.out.cell (i := 0) rfl
  have hz_1 := HZ.out.cell (i := 1) rfl
  have hz_2 := HZ.out.cell (i := 2) rfl
  go_wp2_with fail
  have HW0 : Hid (Below W2.heap.size W2 W2.drew) := (Below.refl _ _).drew
  have hzl := HZ.out.lt
  refine wp_region_tree (fun w' => ∃ E : Over W2, w' = E.w) (.qs [0, 1, 3, 4] (.a 2 (.a 5 (.q 6 (.q 7 (.q 8 (.q 9 (.q 11 (.q 12 (.a 10 (.a 13 (.q 14 (.q 15 .done))))))))))))) (by kernel_rfl) (by kernel_rfl) (fun _ _ d _ _ h => by cases d <;> exact h) ⟨⟨_, HW0.out⟩, rfl⟩ ?_
  have hov := fun (E : Over W2) o => E.cell (b := w1.heap.size) o hzl
  simp only [Tree.qs]
  repeat (refine tree_q rfl rfl ?_; go_big_quiet_step (fail); refine wpQuiet_nil ?_)
  refine tree_a rfl (fun K hK => ?_)
  go_simp
  refine ((HBS.out ▸ Scalar_some k h1 h3 s W2.drew)).mono ?_
  rintro e w3 ⟨rfl, hb9⟩
  have HW3 := Lib.hid (below_up HW0.out hb9)
  clear hb9
  refine hK _ _ ⟨⟨⟨w3, HW3.out⟩, rfl⟩, ?_⟩
  clear hK K
  repeat (refine tree_q rfl rfl ?_; go_big_quiet_step (fail); refine wpQuiet_nil ?_)
  refine tree_a rfl (fun K hK => ?_)
  go_simp
  refine ((HBS.out ▸ refIsScalar_any s (grp k).size (grp k).q.m (grp k).p.m aq ap cq cp hsz w3 (HQ.out.up HW3.out))).mono ?_
  rintro e w4 ⟨rfl, hb9⟩
  have HW4 := Lib.hid (below_up HW3.out hb9)
  clear hb9
  refine hK _ _ ⟨⟨⟨w4, HW4.out⟩, rfl⟩, ?_⟩
  clear hK K
  repeat (refine tree_q rfl rfl ?_; go_big_quiet_step (fail); refine wpQuiet_nil ?_)
  refine tree_a rfl (fun K hK => ?_)
  go_simp
  refine ((HBE.out ▸ Member_some k h1 h3 s w4)).mono ?_
  rintro e w5 ⟨rfl, hb9⟩
  have HW5 := Lib.hid (below_up HW4.out hb9)
  clear hb9
  refine hK _ _ ⟨⟨⟨w5, HW5.out⟩, rfl⟩, ?_⟩
  clear hK K
  repeat (refine tree_q rfl rfl ?_; go_big_quiet_step (fail); refine wpQuiet_nil ?_)
  refine tree_a rfl (fun K hK => ?_)
  go_simp
  refine ((HBE.out ▸ refIsElem_any s (grp k).size (grp k).q.m (grp k).p.m aq ap cq cp hsz w5 (HQ.out.up HW5.out))).mono ?_
  rintro e w6 ⟨rfl, hb9⟩
  have HW6 := Lib.hid (below_up HW5.out hb9)
  clear hb9
  refine hK _ _ ⟨⟨⟨w6, HW6.out⟩, rfl⟩, ?_⟩
  clear hK K
  repeat (refine tree_q rfl rfl ?_; go_big_quiet_step (fail); refine wpQuiet_nil ?_)
  refine tree_end ?_
  have HZ9 := Lib.hid (HZ.out.up HW6.out)
  have HB9 := Lib.hid (below_up HB.out HW6.out)
  have HQ9 := Lib.hid (HQ.out.up HW6.out)
  clear hov hzl HZ HB HQ hz_0 hz_1 hz_2
  have HZ := HZ9
  have HB := HB9
  have HQ := HQ9
  clear HZ9 HB9 HQ9
  have hz_0 := HZ.out.cell (i := 0) rfl
  have hz_1 := HZ.out.cell (i := 1) rfl
  have hz_2 := HZ.out.cell (i := 2) rfl
  go_wp2_with fail
  have hmi : Hid (dl (modI (grp k).q.m n) ≤ 1048576) := small_dl _ (Nat.lt_trans (modI_lt _ hq0 n) hq16)
  refine (Number_some k h1 h3 n HN1.out HN2.out w6).mono ?_
  rintro e w7 ⟨rfl, hb9⟩
  have HZ9 := Lib.hid (HZ.out.up hb9)
  have HB9 := Lib.hid (below_up HB.out hb9)
  have HQ9 := Lib.hid (HQ.out.up hb9)
  clear hb9 HZ HB HQ hz_0 hz_1 hz_2
  have HZ := HZ9
  have HB := HB9
  have HQ := HQ9
  clear HZ9 HB9 HQ9
  have hz_0 := HZ.out.cell (i := 0) rfl
  have hz_1 := HZ.out.cell (i := 1) rfl
  have hz_2 := HZ.out.cell (i := 2) rfl
  go_wp2_with fail
  have HW0 : Hid (Below w7.heap.size w7 w7.drew) := (Below.refl _ _).drew
  have hzl := HZ.out.lt
  refine wp_region_tree (fun w' => ∃ E : Over w7, w' = E.w) (.qs [0, 1, 2, 3, 5, 6] (.a 4 (.a 7 (.a 8 (.q 9 .done))))) (by kernel_rfl) (by kernel_rfl) (fun _ _ d _ _ h => by cases d <;> exact h) ⟨⟨_, HW0.out⟩, rfl⟩ ?_
  have hov := fun (E : Over w7) o => E.cell (b := w1.heap.size) o hzl
  simp only [Tree.qs]
  repeat (refine tree_q rfl rfl ?_; go_big_quiet_step (fail); refine wpQuiet_nil ?_)
  refine tree_a rfl (fun K hK => ?_)
  go_simp
  refine (refNumber_any n (grp k).size (grp k).q.m (grp k).p.m aq ap cq cp HN1.out HN2.out hq0 hq16 _ (HQ.out.up HW0.out)).mono ?_
  rintro e w8 ⟨a8, c8, rfl, hn9, hb9⟩
  have HN8 := Lib.hid hn9
  have HW8 := Lib.hid (below_up HW0.out hb9)
  clear hn9 hb9
  refine hK _ _ ⟨⟨⟨w8, HW8.out⟩, rfl⟩, ?_⟩
  clear hK K
  refine tree_a rfl (fun K hK => ?_)
  go_simp
  refine (refText_any (modI (grp k).q.m n) (grp k).size a8 c8 hmi.out (by omega) w8 HN8.out).mono ?_
  rintro e w9 ⟨rfl, hb9⟩
  have HW9 := Lib.hid (below_up HW8.out hb9)
  clear hb9
  refine hK _ _ ⟨⟨⟨w9, HW9.out⟩, rfl⟩, ?_⟩
  clear hK K
  repeat (refine tree_q rfl rfl ?_; go_big_quiet_step (fail); refine wpQuiet_nil ?_)
  refine tree_a rfl (fun K hK => ?_)
  go_simp
  refine (lawText_ok (textS (modI (grp k).q.m n) (grp k).size) w9).mono ?_
  rintro e w10 ⟨rfl, hb9⟩
  have HW10 := Lib.hid (below_up HW9.out hb9)
  clear hb9
  refine hK _ _ ⟨⟨⟨w10, HW10.out⟩, rfl⟩, ?_⟩
  clear hK K
  repeat (refine tree_q rfl rfl ?_; go_big_quiet_step (fail); refine wpQuiet_nil ?_)
  refine tree_end ?_
  have HZ9 := Lib.hid (HZ.out.up HW10.out)
  have HB9 := Lib.hid (below_up HB.out HW10.out)
  have HQ9 := Lib.hid (HQ.out.up HW10.out)
  clear hov hzl HZ HB HQ hz_0 hz_1 hz_2
  have HZ := HZ9
  have HB := HB9
  have HQ := HQ9
  clear HZ9 HB9 HQ9
  have hz_0 := HZ.out.cell (i := 0) rfl
  have hz_1 := HZ.out.cell (i := 1) rfl
  have hz_2 := HZ.out.cell (i := 2) rfl
  go_wp2_with fail
  have hR := fun W => Reduce_some k h1 h3 s W
  by_cases hl : 1024 < s.size
  · have hd : decide ((s.size : Int) > 1024) = true := by simp; omega
    simp only [redV, redE, if_pos hl] at hR
    have HR := Lib.hid hR
    clear hR hl
    refine (HR.out w10).mono ?_
    rintro e w11 ⟨rfl, hb9⟩
    have HZ9 := Lib.hid (HZ.out.up hb9)
    have HB9 := Lib.hid (below_up HB.out hb9)
    have HQ9 := Lib.hid (HQ.out.up hb9)
    clear hb9 HZ HB HQ hz_0 hz_1 hz_2
    have HZ := HZ9
    have HB := HB9
    have HQ := HQ9
    clear HZ9 HB9 HQ9
    have hz_0 := HZ.out.cell (i := 0) rfl
    have hz_1 := HZ.out.cell (i := 1) rfl
    have hz_2 := HZ.out.cell (i := 2) rfl
    go_wp2_with fail
    refine (lawText_err ⟨#[]⟩ 3 (by omega) w11).mono ?_
    rintro e w12 ⟨rfl, hb9⟩
    have HB9 := Lib.hid (below_up HB.out hb9)
    clear hb9
    go_wp2_with fail
    go_ret
    exact ⟨rfl, HB9.out⟩
  · have hd : decide ((s.size : Int) > 1024) = false := by simp; omega
    simp only [redV, redE, if_neg hl] at hR
    have HR := Lib.hid hR
    have hdn : Hid (dl (numOf s) ≤ 1048576) := by
      show _ ≤ _
      refine Nat.le_trans (dl_of_lt (numOf s) s.size ?_) (by omega)
      exact Nat.lt_of_lt_of_le (numL_lt s.data.toList) (Nat.pow_le_pow_left (by decide) _)
    have hdm : Hid (dl (numOf s % (grp k).q.m) ≤ 1048576) := small_dl _ (Nat.lt_trans (Nat.mod_lt _ hq0) hq16)
    have hss : s.size ≤ 1048576 := by omega
    clear hR hl
    refine (HR.out w10).mono ?_
    rintro e w11 ⟨rfl, hb9⟩
    have HZ9 := Lib.hid (HZ.out.up hb9)
    have HB9 := Lib.hid (below_up HB.out hb9)
    have HQ9 := Lib.hid (HQ.out.up hb9)
    clear hb9 HZ HB HQ hz_0 hz_1 hz_2
    have HZ := HZ9
    have HB := HB9
    have HQ := HQ9
    clear HZ9 HB9 HQ9
    have hz_0 := HZ.out.cell (i := 0) rfl
    have hz_1 := HZ.out.cell (i := 1) rfl
    have hz_2 := HZ.out.cell (i := 2) rfl
    go_wp2_with fail
    have HW0 : Hid (Below w11.heap.size w11 w11.drew) := (Below.refl _ _).drew
    have hzl := HZ.out.lt
    refine wp_region_tree (fun w' => ∃ E : Over w11, w' = E.w) (.qs [0, 1, 2, 4, 5, 7, 8] (.a 3 (.a 6 (.a 9 (.a 10 (.q 11 .done)))))) (by kernel_rfl) (by kernel_rfl) (fun _ _ d _ _ h => by cases d <;> exact h) ⟨⟨_, HW0.out⟩, rfl⟩ ?_
    have hov := fun (E : Over w11) o => E.cell (b := w1.heap.size) o hzl
    simp only [Tree.qs]
    repeat (refine tree_q rfl rfl ?_; go_big_quiet_step (fail); refine wpQuiet_nil ?_)
    refine tree_a rfl (fun K hK => ?_)
    go_simp
    refine (refRead_any s hss _).mono ?_
    rintro e w12 ⟨a12, c12, rfl, hn9, hb9⟩
    have HN12 := Lib.hid hn9
    have HW12 := Lib.hid (below_up HW0.out hb9)
    clear hn9 hb9
    refine hK _ _ ⟨⟨⟨w12, HW12.out⟩, rfl⟩, ?_⟩
    clear hK K
    refine tree_a rfl (fun K hK => ?_)
    go_simp
    refine (refMod_any (numOf s) (grp k).q.m a12 aq c12 cq hdn.out hq0 w12 HN12.out (HQ.out.up HW12.out)).mono ?_
    rintro e w13 ⟨a13, c13, rfl, hn9, hb9⟩
    have HN13 := Lib.hid hn9
    have HW13 := Lib.hid (below_up HW12.out hb9)
    clear hn9 hb9
    refine hK _ _ ⟨⟨⟨w13, HW13.out⟩, rfl⟩, ?_⟩
    clear hK K
    refine tree_a rfl (fun K hK => ?_)
    go_simp
    refine (refText_any (numOf s % (grp k).q.m) (grp k).size a13 c13 hdm.out (by omega) w13 HN13.out).mono ?_
    rintro e w14 ⟨rfl, hb9⟩
    have HW14 := Lib.hid (below_up HW13.out hb9)
    clear hb9
    refine hK _ _ ⟨⟨⟨w14, HW14.out⟩, rfl⟩, ?_⟩
    clear hK K
    repeat (refine tree_q rfl rfl ?_; go_big_quiet_step (fail); refine wpQuiet_nil ?_)
    refine tree_a rfl (fun K hK => ?_)
    go_simp
    refine (lawText_ok (textS (numOf s % (grp k).q.m) (grp k).size) w14).mono ?_
    rintro e w15 ⟨rfl, hb9⟩
    have HW15 := Lib.hid (below_up HW14.out hb9)
    clear hb9
    refine hK _ _ ⟨⟨⟨w15, HW15.out⟩, rfl⟩, ?_⟩
    clear hK K
    repeat (refine tree_q rfl rfl ?_; go_big_quiet_step (fail); refine wpQuiet_nil ?_)
    refine tree_end ?_
    have HZ9 := Lib.hid (HZ.out.up HW15.out)
    have HB9 := Lib.hid (below_up HB.out HW15.out)
    have HQ9 := Lib.hid (HQ.out.up HW15.out)
    clear hov hzl HZ HB HQ hz_0 hz_1 hz_2
    have HZ := HZ9
    have HB := HB9
    have HQ := HQ9
    clear HZ9 HB9 HQ9
    have hz_0 := HZ.out.cell (i := 0) rfl
    have hz_1 := HZ.out.cell (i := 1) rfl
    have hz_2 := HZ.out.cell (i := 2) rfl
    go_wp2_with fail
    go_ret
    exact ⟨rfl, HB.out⟩

theorem groupKnows_any (k : Int) (s : ByteArray) (n : Int) (hn1 : -9223372036854775808 ≤ n) (hn2 : n ≤ 9223372036854775807) (w : World) : Calls Try.prog 5 #[.int .i64 k, .string s, .int .i64 n] w fun e w' => e = .returned (.bool true) ∧ Below w.heap.size w w' := by
  by_cases hk : 1 ≤ k ∧ k ≤ 3
  · obtain ⟨j, rfl⟩ : ∃ j : Nat, k = j := ⟨k.toNat, by omega⟩
    exact groupKnows_some j (by omega) (by omega) s n hn1 hn2 w
  · exact groupKnows_none k hk s n w

set_option maxRecDepth 100000 in
theorem groupKnows_calls {H : Type} (enc : TypeId × Value → H) (W : World) (base : Nat) {v0 v1 v2 : Value} {d0 d1 d2 : DataW H} {p0 p1 p2 : List MemPlace}
    (h0 : DataW.Trod enc Try.prog W 0 (fun _ => true) true 3 v0 d0 p0) (h1 : DataW.Trod enc Try.prog W 0 (fun _ => true) true 9 v1 d1 p1) (h2 : DataW.Trod enc Try.prog W 0 (fun _ => true) true 3 v2 d2 p2)
    (k0 : Value.okWide Try.prog W .any base 3 v0) (k1 : Value.okWide Try.prog W .any base 9 v1) (k2 : Value.okWide Try.prog W .any base 3 v2)
    (_lt0 : ∀ x ∈ p0, x.block < W.heap.size) (_lt1 : ∀ x ∈ p1, x.block < W.heap.size) (_lt2 : ∀ x ∈ p2, x.block < W.heap.size)
    (_hsz : (DataW.weightsEach Try.prog ([3, 9, 3] ++ Rows.groupKnowsSpec.plain.varTypes Try.prog) ([d0, d1, d2] ++ [])).all (· ≤ reachBytes) = true) :
    Calls Try.prog 5 #[v0, v1, v2] W fun e w' => e = .returned (.bool true) ∧ Below W.heap.size W w' := by
  obtain ⟨a, rfl, _, _, _⟩ := open_int Try.underlying3 k0 h0
  obtain ⟨s, rfl, _⟩ := Go.ChangeMaps.open_string Try.underlying9 k1 h1
  obtain ⟨n, rfl, _, _, hw⟩ := open_int Try.underlying3 k2 h2
  have hr : -9223372036854775808 ≤ n ∧ n ≤ 9223372036854775807 := by
    simp only [Lit.wf, Bool.and_eq_true, decide_eq_true_eq] at hw
    have e1 : IntKind.i64.min = -9223372036854775808 := by decide
    have e2 : IntKind.i64.max = 9223372036854775807 := by decide
    omega
  exact groupKnows_any a s n hr.1 hr.2 W

set_option maxRecDepth 100000 in
theorem groupKnows_lifted (os : Os) (started : os.Started) (H : Type) (enc : TypeId × Value → H) :
    ReturnsInHanded {} Try.checked os 5 .any (Rows.groupKnowsSpec.pre6 enc Try.prog Try.f5 Rows.groupKnowsRow.domain false) (Rows.groupKnowsSpec.post enc Try.prog Try.f5 false true false false) := by
  refine returnsInHanded_of_change_sized (C := Try.checked) law_own started (by kernel_rfl) Try.func5
    (ChangeSpec.witness6 (enc := enc) (C := Try.checked) false ⟨#[], #[.int .i64 0, .string ⟨#[]⟩, .int .i64 0], []⟩ 8 (by kernel_rfl) (by kernel_rfl) (by kernel_rfl) (by kernel_rfl)) ?_
  intro W base args ds gs before hval0 hW _ hsz0 _
  have hsz : (DataW.weightsEach Try.prog (Try.f5.params.toList ++ Rows.groupKnowsSpec.plain.varTypes Try.prog) (ds ++ gs)).all (· ≤ reachBytes) = true := hsz0
  clear hsz0
  have hval : ∀ (j : Nat) t v, Try.f5.params[j]? = some t → args[j]? = some v → Value.okWide Try.prog W .any base t v := hval0
  have hW' := hW
  obtain ⟨p, q, hA0, hV, rfl, _, _⟩ := hW
  have hA : DataW.TrodAll enc Try.prog W 0 (fun _ => true) true Try.f5.params.toList args.toList ds p := hA0
  rw [Try.params5] at hA hval hsz
  obtain ⟨v0, vs0, d0, ds0, p0, q0, hargs, rfl, rfl, h0, r0⟩ := trodAll_cons hA
  obtain ⟨v1, vs1, d1, ds1, p1, q1, rfl, rfl, rfl, h1, r1⟩ := trodAll_cons r0
  obtain ⟨v2, vs2, d2, ds2, p2, q2, rfl, rfl, rfl, h2, r2⟩ := trodAll_cons r1
  obtain ⟨rfl, rfl, rfl⟩ := trodAll_nil r2
  obtain rfl : args = #[v0, v1, v2] := by cases args; simp_all
  obtain ⟨rfl, rfl⟩ := trodVars_none hV
  have lt0 : ∀ x ∈ p0, x.block < W.heap.size := by obtain ⟨m, hm⟩ := h0; exact DataW.trod_lt m _ _ _ hm
  have lt1 : ∀ x ∈ p1, x.block < W.heap.size := by obtain ⟨m, hm⟩ := h1; exact DataW.trod_lt m _ _ _ hm
  have lt2 : ∀ x ∈ p2, x.block < W.heap.size := by obtain ⟨m, hm⟩ := h2; exact DataW.trod_lt m _ _ _ hm
  clear hA0 hval0
  refine (groupKnows_calls enc W base h0 h1 h2 (hval 0 3 v0 rfl rfl) (hval 1 9 v1 rfl rfl) (hval 2 3 v2 rfl rfl) lt0 lt1 lt2 hsz).mono fun e W' ⟨he, bel⟩ => ?_
  subst he
  exact ⟨_, rfl, _, _, _, [], _, [], hW', trodAll_mk1 (shut_bool Try.underlying4 _), (trodAll_cons_mk (Below.trod law_laidOut (by kernel_rfl) (of_decide_eq_true (by kernel_rfl)) h0 bel lt0) (trodAll_cons_mk (Below.trod law_laidOut (by kernel_rfl) (of_decide_eq_true (by kernel_rfl)) h1 bel lt1) (trodAll_cons_mk (Below.trod law_laidOut (by kernel_rfl) (of_decide_eq_true (by kernel_rfl)) h2 bel lt2) trodAll_mk0))), rfl, bel.frame _, fun h => by cases h⟩

theorem groupKnows_holds : Rows.GroupKnowsSaid :=
  OpenClaim.holds_of_wide 5 Try.f5 rfl rfl rfl rfl rfl rfl rfl ⟨rfl, rfl, rfl, rfl, rfl⟩ rfl rfl rfl rfl rfl (by kernel_rfl) Try.func5 (by kernel_rfl)
    (of_decide_eq_true (by kernel_rfl)) (by unfold Func.isWrapper; first | (rw [if_pos (by decide +kernel)]; kernel_rfl) | (rw [if_neg (by decide +kernel)]; exact ⟨rfl, rfl⟩))
    (fun os started H enc _ => groupKnows_lifted os started H enc)
#print axioms groupKnows_holds



end Go.Proofs.Ytdmldnpadojflaa
