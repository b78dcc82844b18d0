/- The document's scalars: Minus, Add, Sub, Mul. No condition. -/
import Derived.Test.YtdmldnpadojflaaRefPow
namespace Go.Proofs.Ytdmldnpadojflaa
open Go.RowKit

/-- The document's group, as a value. -/
def gR (sz q p : Nat) (aq ap : Option Addr) (cq cp : Nat) : List Value := [.int .i64 (sz : Int), .slice aq (dl q) cq, .slice ap (dl p) cp]

theorem take_minus (a b R : Nat) (h : a = R + b) : a = R + 1 * (b * DD ^ 0) := by rw [Nat.pow_zero, Nat.mul_one, Nat.one_mul]; exact h

set_option maxRecDepth 100000 in
set_option maxHeartbeats 1000000 in
theorem refMinus_any (a b R : Nat) (aa ab : Option Addr) (ca cb : Nat) (hla : dl a ≤ 1048576) (hlb : dl b ≤ 1048576) (hR : a = R + b) (w : World) (hA : NumAt w aa a) (hB : NumAt w ab b) :
    Calls Try.prog 91 #[.slice aa (dl a) ca, .slice ab (dl b) cb] w fun e w' => NumR w e w' R := by
  have hT : Calls Try.prog 87 #[.slice aa (dl a) ca, .slice ab (dl b) cb, .int .i64 1, .int .i64 0] w fun e w' => NumR w e w' R := refTake_any a b 1 0 R aa ab ca cb hla hlb (by omega) (by omega) (take_minus a b R hR) w hA hB
  have HT := Lib.hid hT
  clear hT hR
  clear hA hB
  go_enter Try.func91, Try.ntmps91
  go_wp2_with fail
  refine HT.out.mono ?_
  rintro e w1 ⟨a1, c1, rfl, hn1, hb1⟩
  have HN1 := Lib.hid hn1
  have HB1 := Lib.hid hb1
  clear hn1 hb1
  go_wp2_with fail
  go_ret
  exact ⟨a1, c1, rfl, HN1.out, HB1.out⟩





theorem plus_dl (a b : Nat) (ha : a < DD ^ 16) (hb : b < DD ^ 16) : dl (a + b) ≤ 1048576 := by
  refine Nat.le_trans (dl_of_lt (a + b) 17 ?_) (by decide)
  have : DD ^ 17 = DD ^ 16 * 65536 := Nat.pow_succ ..
  omega

set_option maxRecDepth 100000 in
set_option maxHeartbeats 2000000 in
theorem refAdd_any (a b sz q p : Nat) (aa ab aq ap : Option Addr) (ca cb cq cp : Nat) (ha : a < DD ^ 16) (hb : b < DD ^ 16) (hq : 0 < q) (w : World) (hA : NumAt w aa a) (hB : NumAt w ab b) (hQ : NumAt w aq q) :
    Calls Try.prog 38 #[.agg #[.int .i64 (sz : Int), .slice aq (dl q) cq, .slice ap (dl p) cp], .slice aa (dl a) ca, .slice ab (dl b) cb] w fun e w' => NumR w e w' ((a + b) % q) := by
  have HA := Lib.hid hA
  have HBB := Lib.hid hB
  have HQ := Lib.hid hQ
  clear hA hB hQ
  go_enter Try.func38, Try.ntmps38
  have hzz : Bx (w.alloc (.cells #[.int .i64 (sz : Int), .slice aq (dl q) cq, .slice ap (dl p) cp] 25)) w.heap.size 25 (gR sz q p aq ap cq cp) := Bx.new w _ _ _ rfl
  have hbz : Below w.heap.size w (w.alloc (.cells #[.int .i64 (sz : Int), .slice aq (dl q) cq, .slice ap (dl p) cp] 25)) := (Below.refl w.heap.size w).alloc (Nat.le_refl _) _
  obtain ⟨W2, hW2⟩ : ∃ W9 : World, (w.alloc (.cells #[.int .i64 (sz : Int), .slice aq (dl q) cq, .slice ap (dl p) cp] 25)) = W9 := ⟨_, rfl⟩
  rw [hW2] at hzz hbz
  have HZ := Lib.hid hzz
  have HBZ := Lib.hid hbz
  have hz_0 := HZ.out.cell (i := 0) rfl
  have hz_1 := HZ.out.cell (i := 1) rfl
  have hz_2 := HZ.out.cell (i := 2) rfl
  have hzl := HZ.out.lt
  clear hzz hbz
  go_wp2_with fail
  have HW0 : Hid (Below W2.heap.size W2 W2.drew) := (Below.refl _ _).drew
  refine wp_region_tree (fun w' => ∃ E : Over W2, w' = E.w) (.qs [0, 1, 3, 4] (.a 2 (.a 5 (.q 6 .done)))) (by kernel_rfl) (by kernel_rfl) (fun _ _ d _ _ h => by cases d <;> exact h) ⟨⟨_, HW0.out⟩, rfl⟩ ?_
  have hov := fun (E : Over W2) o => E.cell (b := w.heap.size) o hzl
  simp only [Tree.qs]
  repeat (refine tree_q rfl rfl ?_; go_big_quiet_step (fail); refine wpQuiet_nil ?_)
  refine tree_a rfl (fun K hK => ?_)
  go_simp
  refine (refPlus_any a b aa ab ca cb (small_dl a ha) (small_dl b hb) _ (HA.out.up (below_up HBZ.out HW0.out)) (HBB.out.up (below_up HBZ.out HW0.out))).mono ?_
  rintro e w4 ⟨a4, c4, rfl, hn9, hb9⟩
  have HN4 := Lib.hid hn9
  have HW4 := Lib.hid (below_up HW0.out hb9)
  clear hn9 hb9
  refine hK _ _ ⟨⟨⟨w4, HW4.out⟩, rfl⟩, ?_⟩
  clear hK K
  refine tree_a rfl (fun K hK => ?_)
  go_simp
  refine (refMod_any (a + b) q a4 aq c4 cq (plus_dl a b ha hb) hq w4 HN4.out (HQ.out.up (below_up HBZ.out HW4.out))).mono ?_
  rintro e w5 ⟨a5, c5, rfl, hn9, hb9⟩
  have HN5 := Lib.hid hn9
  have HW5 := Lib.hid (below_up HW4.out hb9)
  clear hn9 hb9
  refine hK _ _ ⟨⟨⟨w5, HW5.out⟩, rfl⟩, ?_⟩
  clear hK K
  refine tree_q rfl rfl ?_
  go_big_quiet_step (fail)
  refine wpQuiet_nil ?_
  refine tree_end ?_
  have HF := Lib.hid (below_up HBZ.out HW5.out)
  clear hov
  go_wp2_with fail
  go_ret
  exact ⟨a5, c5, rfl, HN5.out, HF.out⟩

set_option maxRecDepth 100000 in
set_option maxHeartbeats 2000000 in
theorem refMul_any (a b sz q p : Nat) (aa ab aq ap : Option Addr) (ca cb cq cp : Nat) (ha : a < DD ^ 16) (hb : b < DD ^ 16) (hq : 0 < q) (w : World) (hA : NumAt w aa a) (hB : NumAt w ab b) (hQ : NumAt w aq q) :
    Calls Try.prog 40 #[.agg #[.int .i64 (sz : Int), .slice aq (dl q) cq, .slice ap (dl p) cp], .slice aa (dl a) ca, .slice ab (dl b) cb] w fun e w' => NumR w e w' (a * b % q) := by
  have HA := Lib.hid hA
  have HBB := Lib.hid hB
  have HQ := Lib.hid hQ
  clear hA hB hQ
  go_enter Try.func40, Try.ntmps40
  have hzz : Bx (w.alloc (.cells #[.int .i64 (sz : Int), .slice aq (dl q) cq, .slice ap (dl p) cp] 25)) w.heap.size 25 (gR sz q p aq ap cq cp) := Bx.new w _ _ _ rfl
  have hbz : Below w.heap.size w (w.alloc (.cells #[.int .i64 (sz : Int), .slice aq (dl q) cq, .slice ap (dl p) cp] 25)) := (Below.refl w.heap.size w).alloc (Nat.le_refl _) _
  obtain ⟨W2, hW2⟩ : ∃ W9 : World, (w.alloc (.cells #[.int .i64 (sz : Int), .slice aq (dl q) cq, .slice ap (dl p) cp] 25)) = W9 := ⟨_, rfl⟩
  rw [hW2] at hzz hbz
  have HZ := Lib.hid hzz
  have HBZ := Lib.hid hbz
  have hz_0 := HZ.out.cell (i := 0) rfl
  have hz_1 := HZ.out.cell (i := 1) rfl
  have hz_2 := HZ.out.cell (i := 2) rfl
  have hzl := HZ.out.lt
  clear hzz hbz
  go_wp2_with fail
  have HW0 : Hid (Below W2.heap.size W2 W2.drew) := (Below.refl _ _).drew
  refine wp_region_tree (fun w' => ∃ E : Over W2, w' = E.w) (.qs [0, 1, 3, 4] (.a 2 (.a 5 (.q 6 .done)))) (by kernel_rfl) (by kernel_rfl) (fun _ _ d _ _ h => by cases d <;> exact h) ⟨⟨_, HW0.out⟩, rfl⟩ ?_
  have hov := fun (E : Over W2) o => E.cell (b := w.heap.size) o hzl
  simp only [Tree.qs]
  repeat (refine tree_q rfl rfl ?_; go_big_quiet_step (fail); refine wpQuiet_nil ?_)
  refine tree_a rfl (fun K hK => ?_)
  go_simp
  refine (refTimes_any a b aa ab ca cb (small_dl a ha) (small_dl b hb) _ (HA.out.up (below_up HBZ.out HW0.out)) (HBB.out.up (below_up HBZ.out HW0.out))).mono ?_
  rintro e w4 ⟨a4, c4, rfl, hn9, hb9⟩
  have HN4 := Lib.hid hn9
  have HW4 := Lib.hid (below_up HW0.out hb9)
  clear hn9 hb9
  refine hK _ _ ⟨⟨⟨w4, HW4.out⟩, rfl⟩, ?_⟩
  clear hK K
  refine tree_a rfl (fun K hK => ?_)
  go_simp
  refine (refMod_any (a * b) q a4 aq c4 cq (lt32 a b ha hb) hq w4 HN4.out (HQ.out.up (below_up HBZ.out HW4.out))).mono ?_
  rintro e w5 ⟨a5, c5, rfl, hn9, hb9⟩
  have HN5 := Lib.hid hn9
  have HW5 := Lib.hid (below_up HW4.out hb9)
  clear hn9 hb9
  refine hK _ _ ⟨⟨⟨w5, HW5.out⟩, rfl⟩, ?_⟩
  clear hK K
  refine tree_q rfl rfl ?_
  go_big_quiet_step (fail)
  refine wpQuiet_nil ?_
  refine tree_end ?_
  have HF := Lib.hid (below_up HBZ.out HW5.out)
  clear hov
  go_wp2_with fail
  go_ret
  exact ⟨a5, c5, rfl, HN5.out, HF.out⟩

set_option maxRecDepth 100000 in
set_option maxHeartbeats 2000000 in
theorem refSub_any (a b sz q p : Nat) (aa ab aq ap : Option Addr) (ca cb cq cp : Nat) (ha : a < DD ^ 16) (hb : b ≤ q) (hq : 0 < q) (hq2 : q < DD ^ 16) (w : World) (hA : NumAt w aa a) (hB : NumAt w ab b) (hQ : NumAt w aq q) :
    Calls Try.prog 39 #[.agg #[.int .i64 (sz : Int), .slice aq (dl q) cq, .slice ap (dl p) cp], .slice aa (dl a) ca, .slice ab (dl b) cb] w fun e w' => NumR w e w' ((a + q - b) % q) := by
  have hb2 : b < DD ^ 16 := Nat.lt_of_le_of_lt hb hq2
  have HA := Lib.hid hA
  have HBB := Lib.hid hB
  have HQ := Lib.hid hQ
  clear hA hB hQ
  go_enter Try.func39, Try.ntmps39
  have hzz : Bx (w.alloc (.cells #[.int .i64 (sz : Int), .slice aq (dl q) cq, .slice ap (dl p) cp] 25)) w.heap.size 25 (gR sz q p aq ap cq cp) := Bx.new w _ _ _ rfl
  have hbz : Below w.heap.size w (w.alloc (.cells #[.int .i64 (sz : Int), .slice aq (dl q) cq, .slice ap (dl p) cp] 25)) := (Below.refl w.heap.size w).alloc (Nat.le_refl _) _
  obtain ⟨W2, hW2⟩ : ∃ W9 : World, (w.alloc (.cells #[.int .i64 (sz : Int), .slice aq (dl q) cq, .slice ap (dl p) cp] 25)) = W9 := ⟨_, rfl⟩
  rw [hW2] at hzz hbz
  have HZ := Lib.hid hzz
  have HBZ := Lib.hid hbz
  have hz_0 := HZ.out.cell (i := 0) rfl
  have hz_1 := HZ.out.cell (i := 1) rfl
  have hz_2 := HZ.out.cell (i := 2) rfl
  have hzl := HZ.out.lt
  clear hzz hbz
  go_wp2_with fail
  have HW0 : Hid (Below W2.heap.size W2 W2.drew) := (Below.refl _ _).drew
  refine wp_region_tree (fun w' => ∃ E : Over W2, w' = E.w) (.qs [0, 1, 2, 4, 6, 7] (.a 3 (.a 5 (.a 8 (.q 9 .done))))) (by kernel_rfl) (by kernel_rfl) (fun _ _ d _ _ h => by cases d <;> exact h) ⟨⟨_, HW0.out⟩, rfl⟩ ?_
  have hov := fun (E : Over W2) o => E.cell (b := w.heap.size) o hzl
  simp only [Tree.qs]
  repeat (refine tree_q rfl rfl ?_; go_big_quiet_step (fail); refine wpQuiet_nil ?_)
  refine tree_a rfl (fun K hK => ?_)
  go_simp
  refine (refPlus_any a q aa aq ca cq (small_dl a ha) (small_dl q hq2) _ (HA.out.up (below_up HBZ.out HW0.out)) (HQ.out.up (below_up HBZ.out HW0.out))).mono ?_
  rintro e w4 ⟨a4, c4, rfl, hn9, hb9⟩
  have HN4 := Lib.hid hn9
  have HW4 := Lib.hid (below_up HW0.out hb9)
  clear hn9 hb9
  refine hK _ _ ⟨⟨⟨w4, HW4.out⟩, rfl⟩, ?_⟩
  clear hK K
  refine tree_a rfl (fun K hK => ?_)
  go_simp
  refine (refMinus_any (a + q) b (a + q - b) a4 ab c4 cb (plus_dl a q ha hq2) (small_dl b hb2) (by omega) w4 HN4.out (HBB.out.up (below_up HBZ.out HW4.out))).mono ?_
  rintro e w5 ⟨a5, c5, rfl, hn9, hb9⟩
  have HN5 := Lib.hid hn9
  have HW5 := Lib.hid (below_up HW4.out hb9)
  clear hn9 hb9
  refine hK _ _ ⟨⟨⟨w5, HW5.out⟩, rfl⟩, ?_⟩
  clear hK K
  refine tree_a rfl (fun K hK => ?_)
  go_simp
  refine (refMod_any (a + q - b) q a5 aq c5 cq (Nat.le_trans (dl_mono _ _ (Nat.sub_le _ _)) (plus_dl a q ha hq2)) hq w5 HN5.out (HQ.out.up (below_up HBZ.out HW5.out))).mono ?_
  rintro e w6 ⟨a6, c6, rfl, hn9, hb9⟩
  have HN6 := Lib.hid hn9
  have HW6 := Lib.hid (below_up HW5.out hb9)
  clear hn9 hb9
  refine hK _ _ ⟨⟨⟨w6, HW6.out⟩, rfl⟩, ?_⟩
  clear hK K
  refine tree_q rfl rfl ?_
  go_big_quiet_step (fail)
  refine wpQuiet_nil ?_
  refine tree_end ?_
  have HF := Lib.hid (below_up HBZ.out HW6.out)
  clear hov
  go_wp2_with fail
  go_ret
  exact ⟨a6, c6, rfl, HN6.out, HF.out⟩

end Go.Proofs.Ytdmldnpadojflaa
