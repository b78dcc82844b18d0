/- Texts of this seat, one behind the other: what SigmaExtracts leans on. No condition beyond those that each names. -/
import Derived.Test.YtipgjookfdkciaaZSigmaExtracts3

/- The document's elements: low, Product, Power, Under, Inv. No condition. -/
namespace Go.Proofs.Ytipgjookfdkciaa
open Go.RowKit

def lowR (q p x : Nat) : Nat := if q < x then p - x else x





set_option maxRecDepth 100000 in
set_option maxHeartbeats 2000000 in
theorem refLow_any (x sz q p : Nat) (ax aq ap : Option Addr) (cx cq cp : Nat) (hx : x ≤ p) (hp : p < DD ^ 16) (w : World) (hX : NumAt w ax x) (hQ : NumAt w aq q) (hP : NumAt w ap p) :
    Calls Try.prog 153 #[.agg #[.int .i64 (sz : Int), .slice aq (dl q) cq, .slice ap (dl p) cp], .slice ax (dl x) cx] w fun e w' => NumR w e w' (lowR q p x) := by
  have hx2 : x < DD ^ 16 := Nat.lt_of_le_of_lt hx hp
  have HX := Lib.hid hX
  have HQ := Lib.hid hQ
  have HP := Lib.hid hP
  clear hX hQ hP
  go_enter Try.func153, Try.ntmps153
  have hzz : Bx (w.alloc (.cells #[.int .i64 (sz : Int), .slice aq (dl q) cq, .slice ap (dl p) cp] 98)) w.heap.size 98 (gR sz q p aq ap cq cp) := Bx.new w _ _ _ rfl
  have hbz : Below w.heap.size w (w.alloc (.cells #[.int .i64 (sz : Int), .slice aq (dl q) cq, .slice ap (dl p) cp] 98)) := (Below.refl w.heap.size w).alloc (Nat.le_refl _) _
  obtain ⟨W2, hW2⟩ : ∃ W9 : World, (w.alloc (.cells #[.int .i64 (sz : Int), .slice aq (dl q) cq, .slice ap (dl p) cp] 98)) = W9 := ⟨_, rfl⟩
  rw [hW2] at hzz hbz
  have HZ := Lib.hid hzz
  have HBZ := Lib.hid hbz
  have hz_0 := HZ.out.cell (i := 0) rfl
  have hz_1 := HZ.out.cell (i := 1) rfl
  have hz_2 := HZ.out.cell (i := 2) rfl
  have hzl := HZ.out.lt
  clear hzz hbz
  go_wp2_with fail
  refine (refCompare_any x q ax aq cx cq (small_dl x hx2) W2 (HX.out.up HBZ.out) (HQ.out.up HBZ.out)).mono ?_
  rintro e w3 ⟨rfl, hb3⟩
  have HB3 := Lib.hid (below_up HBZ.out hb3)
  have HZ3 := Lib.hid (HZ.out.up hb3)
  clear hb3 hz_0 hz_1 hz_2 hzl HZ
  have hz_2 := HZ3.out.cell (i := 2) rfl
  by_cases hlow : q < x
  · have HCI : Hid (cmpI x q = 1) := by show _ = _; unfold cmpI; rw [if_neg (by omega), if_pos hlow]
    have HL : Hid (p - x = lowR q p x) := by show _ = _; unfold lowR; rw [if_pos hlow]
    rw [HCI.out]
    go_wp2_with fail
    refine (refMinus_any p x (p - x) ap ax cp cx (small_dl p hp) (small_dl x hx2) (by omega) w3 (HP.out.up HB3.out) (HX.out.up HB3.out)).mono ?_
    rintro e w4 ⟨a4, c4, rfl, hn4, hb4⟩
    rw [HL.out] at hn4 ⊢
    have HN4 := Lib.hid hn4
    have HB4 := Lib.hid (below_up HB3.out hb4)
    clear hn4 hb4
    go_wp2_with fail
    go_ret
    exact ⟨a4, c4, rfl, HN4.out, HB4.out⟩
  · have HL : Hid (x = lowR q p x) := by show _ = _; unfold lowR; rw [if_neg hlow]
    have hci : (decide (cmpI x q > 0)) = false := by unfold cmpI; simp only [decide_eq_false_iff_not]; split <;> simp <;> omega
    generalize cmpI x q = ci at *
    go_wp2_with fail
    go_ret
    exact ⟨ax, cx, by rw [← HL.out]; rfl, by rw [← HL.out]; exact HX.out.up HB3.out, HB3.out⟩

theorem lowR_le (q p x : Nat) (h : x ≤ p) : lowR q p x ≤ p := by unfold lowR; split <;> omega

set_option maxRecDepth 100000 in
set_option maxHeartbeats 2000000 in
theorem refProduct_any (a b sz q p : Nat) (aa ab aq ap : Option Addr) (ca cb cq cp : Nat) (ha : a < DD ^ 16) (hb : b < DD ^ 16) (hp0 : 0 < p) (hp : p < DD ^ 16) (w : World) (hA : NumAt w aa a) (hB : NumAt w ab b) (hQ : NumAt w aq q) (hP : NumAt w ap p) :
    Calls Try.prog 110 #[.agg #[.int .i64 (sz : Int), .slice aq (dl q) cq, .slice ap (dl p) cp], .slice aa (dl a) ca, .slice ab (dl b) cb] w fun e w' => NumR w e w' (lowR q p (a * b % p)) := by
  have HA := Lib.hid hA
  have HBB := Lib.hid hB
  have HQ := Lib.hid hQ
  have HP := Lib.hid hP
  clear hA hB hQ hP
  go_enter Try.func110, Try.ntmps110
  have hzz : Bx (w.alloc (.cells #[.int .i64 (sz : Int), .slice aq (dl q) cq, .slice ap (dl p) cp] 98)) w.heap.size 98 (gR sz q p aq ap cq cp) := Bx.new w _ _ _ rfl
  have hbz : Below w.heap.size w (w.alloc (.cells #[.int .i64 (sz : Int), .slice aq (dl q) cq, .slice ap (dl p) cp] 98)) := (Below.refl w.heap.size w).alloc (Nat.le_refl _) _
  obtain ⟨W2, hW2⟩ : ∃ W9 : World, (w.alloc (.cells #[.int .i64 (sz : Int), .slice aq (dl q) cq, .slice ap (dl p) cp] 98)) = W9 := ⟨_, rfl⟩
  rw [hW2] at hzz hbz
  have HZ := Lib.hid hzz
  have HBZ := Lib.hid hbz
  have hz_0 := HZ.out.cell (i := 0) rfl
  have hz_1 := HZ.out.cell (i := 1) rfl
  have hz_2 := HZ.out.cell (i := 2) rfl
  have hzl := HZ.out.lt
  clear hzz hbz
  go_wp2_with fail
  have HW0 : Hid (Below W2.heap.size W2 W2.drew) := (Below.refl _ _).drew
  refine wp_region_tree (fun w' => ∃ E : Over W2, w' = E.w) (.qs [0, 1, 2, 4, 5] (.a 3 (.a 6 (.a 7 (.q 8 .done))))) (by kernel_rfl) (by kernel_rfl) (fun _ _ d _ _ h => by cases d <;> exact h) ⟨⟨_, HW0.out⟩, rfl⟩ ?_
  have hov := fun (E : Over W2) o => E.cell (b := w.heap.size) o hzl
  simp only [Tree.qs]
  repeat (refine tree_q rfl rfl ?_; go_big_quiet_step (fail); refine wpQuiet_nil ?_)
  refine tree_a rfl (fun K hK => ?_)
  go_simp
  refine (refTimes_any a b aa ab ca cb (small_dl a ha) (small_dl b hb) _ (HA.out.up (below_up HBZ.out HW0.out)) (HBB.out.up (below_up HBZ.out HW0.out))).mono ?_
  rintro e w4 ⟨a4, c4, rfl, hn9, hb9⟩
  have HN4 := Lib.hid hn9
  have HW4 := Lib.hid (below_up HW0.out hb9)
  clear hn9 hb9
  refine hK _ _ ⟨⟨⟨w4, HW4.out⟩, rfl⟩, ?_⟩
  clear hK K
  refine tree_a rfl (fun K hK => ?_)
  go_simp
  refine (refMod_any (a * b) p a4 ap c4 cp (lt32 a b ha hb) hp0 w4 HN4.out (HP.out.up (below_up HBZ.out HW4.out))).mono ?_
  rintro e w5 ⟨a5, c5, rfl, hn9, hb9⟩
  have HN5 := Lib.hid hn9
  have HW5 := Lib.hid (below_up HW4.out hb9)
  clear hn9 hb9
  refine hK _ _ ⟨⟨⟨w5, HW5.out⟩, rfl⟩, ?_⟩
  clear hK K
  refine tree_a rfl (fun K hK => ?_)
  go_simp
  refine (refLow_any (a * b % p) sz q p a5 aq ap c5 cq cp (Nat.le_of_lt (Nat.mod_lt _ hp0)) hp w5 HN5.out (HQ.out.up (below_up HBZ.out HW5.out)) (HP.out.up (below_up HBZ.out HW5.out))).mono ?_
  rintro e w6 ⟨a6, c6, rfl, hn9, hb9⟩
  have HN6 := Lib.hid hn9
  have HW6 := Lib.hid (below_up HW5.out hb9)
  clear hn9 hb9
  refine hK _ _ ⟨⟨⟨w6, HW6.out⟩, rfl⟩, ?_⟩
  clear hK K
  refine tree_q rfl rfl ?_
  go_big_quiet_step (fail)
  refine wpQuiet_nil ?_
  refine tree_end ?_
  have HF := Lib.hid (below_up HBZ.out HW6.out)
  clear hov
  go_wp2_with fail
  go_ret
  exact ⟨a6, c6, rfl, HN6.out, HF.out⟩

set_option maxRecDepth 100000 in
set_option maxHeartbeats 2000000 in
theorem refPow_any (a n sz q p : Nat) (aa an aq ap : Option Addr) (ca cn cq cp : Nat) (ha : a < DD ^ 16) (hn : dl n ≤ 65536) (hp0 : 1 < p) (hp : p < DD ^ 16) (w : World) (hA : NumAt w aa a) (hN : NumAt w an n) (hQ : NumAt w aq q) (hP : NumAt w ap p) :
    Calls Try.prog 111 #[.agg #[.int .i64 (sz : Int), .slice aq (dl q) cq, .slice ap (dl p) cp], .slice aa (dl a) ca, .slice an (dl n) cn] w fun e w' => NumR w e w' (lowR q p (a ^ n % p)) := by
  have HA := Lib.hid hA
  have HNN := Lib.hid hN
  have HQ := Lib.hid hQ
  have HP := Lib.hid hP
  clear hA hN hQ hP
  go_enter Try.func111, Try.ntmps111
  have hzz : Bx (w.alloc (.cells #[.int .i64 (sz : Int), .slice aq (dl q) cq, .slice ap (dl p) cp] 98)) w.heap.size 98 (gR sz q p aq ap cq cp) := Bx.new w _ _ _ rfl
  have hbz : Below w.heap.size w (w.alloc (.cells #[.int .i64 (sz : Int), .slice aq (dl q) cq, .slice ap (dl p) cp] 98)) := (Below.refl w.heap.size w).alloc (Nat.le_refl _) _
  obtain ⟨W2, hW2⟩ : ∃ W9 : World, (w.alloc (.cells #[.int .i64 (sz : Int), .slice aq (dl q) cq, .slice ap (dl p) cp] 98)) = W9 := ⟨_, rfl⟩
  rw [hW2] at hzz hbz
  have HZ := Lib.hid hzz
  have HBZ := Lib.hid hbz
  have hz_0 := HZ.out.cell (i := 0) rfl
  have hz_1 := HZ.out.cell (i := 1) rfl
  have hz_2 := HZ.out.cell (i := 2) rfl
  have hzl := HZ.out.lt
  clear hzz hbz
  go_wp2_with fail
  have HW0 : Hid (Below W2.heap.size W2 W2.drew) := (Below.refl _ _).drew
  refine wp_region_tree (fun w' => ∃ E : Over W2, w' = E.w) (.qs [0, 1, 2, 3, 4] (.a 5 (.a 6 (.q 7 .done)))) (by kernel_rfl) (by kernel_rfl) (fun _ _ d _ _ h => by cases d <;> exact h) ⟨⟨_, HW0.out⟩, rfl⟩ ?_
  have hov := fun (E : Over W2) o => E.cell (b := w.heap.size) o hzl
  simp only [Tree.qs]
  repeat (refine tree_q rfl rfl ?_; go_big_quiet_step (fail); refine wpQuiet_nil ?_)
  refine tree_a rfl (fun K hK => ?_)
  go_simp
  refine (refPower_any a n p aa an ap ca cn cp ha hn hp0 hp _ (HA.out.up (below_up HBZ.out HW0.out)) (HNN.out.up (below_up HBZ.out HW0.out)) (HP.out.up (below_up HBZ.out HW0.out))).mono ?_
  rintro e w4 ⟨a4, c4, rfl, hn9, hb9⟩
  have HN4 := Lib.hid hn9
  have HW4 := Lib.hid (below_up HW0.out hb9)
  clear hn9 hb9
  refine hK _ _ ⟨⟨⟨w4, HW4.out⟩, rfl⟩, ?_⟩
  clear hK K
  refine tree_a rfl (fun K hK => ?_)
  go_simp
  refine (refLow_any (a ^ n % p) sz q p a4 aq ap c4 cq cp (Nat.le_of_lt (Nat.mod_lt _ (by omega))) hp w4 HN4.out (HQ.out.up (below_up HBZ.out HW4.out)) (HP.out.up (below_up HBZ.out HW4.out))).mono ?_
  rintro e w5 ⟨a5, c5, rfl, hn9, hb9⟩
  have HN5 := Lib.hid hn9
  have HW5 := Lib.hid (below_up HW4.out hb9)
  clear hn9 hb9
  refine hK _ _ ⟨⟨⟨w5, HW5.out⟩, rfl⟩, ?_⟩
  clear hK K
  refine tree_q rfl rfl ?_
  go_big_quiet_step (fail)
  refine wpQuiet_nil ?_
  refine tree_end ?_
  have HF := Lib.hid (below_up HBZ.out HW5.out)
  clear hov
  go_wp2_with fail
  go_ret
  exact ⟨a5, c5, rfl, HN5.out, HF.out⟩

set_option maxRecDepth 100000 in
set_option maxHeartbeats 2000000 in
theorem refUnder_any (a sz q p : Nat) (aa aq ap : Option Addr) (ca cq cp : Nat) (ha : a < DD ^ 16) (hq1 : 1 ≤ q) (hq : q < DD ^ 16) (hp0 : 1 < p) (hp : p < DD ^ 16) (w : World) (hA : NumAt w aa a) (hQ : NumAt w aq q) (hP : NumAt w ap p) :
    Calls Try.prog 148 #[.agg #[.int .i64 (sz : Int), .slice aq (dl q) cq, .slice ap (dl p) cp], .slice aa (dl a) ca] w fun e w' => NumR w e w' (lowR q p (a ^ (q - 1) % p)) := by
  have HA := Lib.hid hA
  have HQ := Lib.hid hQ
  have HP := Lib.hid hP
  clear hA hQ hP
  go_enter Try.func148, Try.ntmps148
  have hzz : Bx (w.alloc (.cells #[.int .i64 (sz : Int), .slice aq (dl q) cq, .slice ap (dl p) cp] 98)) w.heap.size 98 (gR sz q p aq ap cq cp) := Bx.new w _ _ _ rfl
  have hbz : Below w.heap.size w (w.alloc (.cells #[.int .i64 (sz : Int), .slice aq (dl q) cq, .slice ap (dl p) cp] 98)) := (Below.refl w.heap.size w).alloc (Nat.le_refl _) _
  obtain ⟨W2, hW2⟩ : ∃ W9 : World, (w.alloc (.cells #[.int .i64 (sz : Int), .slice aq (dl q) cq, .slice ap (dl p) cp] 98)) = W9 := ⟨_, rfl⟩
  rw [hW2] at hzz hbz
  have HZ := Lib.hid hzz
  have HBZ := Lib.hid hbz
  have hz_0 := HZ.out.cell (i := 0) rfl
  have hz_1 := HZ.out.cell (i := 1) rfl
  have hz_2 := HZ.out.cell (i := 2) rfl
  have hzl := HZ.out.lt
  clear hzz hbz
  go_wp2_with fail
  have HW0 : Hid (Below W2.heap.size W2 W2.drew) := (Below.refl _ _).drew
  refine wp_region_tree (fun w' => ∃ E : Over W2, w' = E.w) (.qs [0, 1, 2, 3] (.a 4 (.a 5 (.a 6 (.q 7 .done))))) (by kernel_rfl) (by kernel_rfl) (fun _ _ d _ _ h => by cases d <;> exact h) ⟨⟨_, HW0.out⟩, rfl⟩ ?_
  have hov := fun (E : Over W2) o => E.cell (b := w.heap.size) o hzl
  simp only [Tree.qs]
  repeat (refine tree_q rfl rfl ?_; go_big_quiet_step (fail); refine wpQuiet_nil ?_)
  refine tree_a rfl (fun K hK => ?_)
  go_simp
  refine (refOf_any 1 (by omega) _).mono ?_
  rintro e w4 ⟨a4, c4, rfl, hn9, hb9⟩
  have HN4 := Lib.hid hn9
  have HW4 := Lib.hid (below_up HW0.out hb9)
  clear hn9 hb9
  refine hK _ _ ⟨⟨⟨w4, HW4.out⟩, rfl⟩, ?_⟩
  clear hK K
  refine tree_a rfl (fun K hK => ?_)
  go_simp
  refine (refMinus_any q 1 (q - 1) aq a4 cq c4 (small_dl q hq) (by decide) (by omega) w4 (HQ.out.up (below_up HBZ.out HW4.out)) HN4.out).mono ?_
  rintro e w5 ⟨a5, c5, rfl, hn9, hb9⟩
  have HN5 := Lib.hid hn9
  have HW5 := Lib.hid (below_up HW4.out hb9)
  clear hn9 hb9
  refine hK _ _ ⟨⟨⟨w5, HW5.out⟩, rfl⟩, ?_⟩
  clear hK K
  refine tree_a rfl (fun K hK => ?_)
  go_simp
  refine (refPow_any a (q - 1) sz q p aa a5 aq ap ca c5 cq cp ha (Nat.le_trans (dl_of_lt (q - 1) 16 (by omega)) (by decide)) hp0 hp w5 (HA.out.up (below_up HBZ.out HW5.out)) HN5.out (HQ.out.up (below_up HBZ.out HW5.out)) (HP.out.up (below_up HBZ.out HW5.out))).mono ?_
  rintro e w6 ⟨a6, c6, rfl, hn9, hb9⟩
  have HN6 := Lib.hid hn9
  have HW6 := Lib.hid (below_up HW5.out hb9)
  clear hn9 hb9
  refine hK _ _ ⟨⟨⟨w6, HW6.out⟩, rfl⟩, ?_⟩
  clear hK K
  refine tree_q rfl rfl ?_
  go_big_quiet_step (fail)
  refine wpQuiet_nil ?_
  refine tree_end ?_
  have HF := Lib.hid (below_up HBZ.out HW6.out)
  clear hov
  go_wp2_with fail
  go_ret
  exact ⟨a6, c6, rfl, HN6.out, HF.out⟩

set_option maxRecDepth 100000 in
set_option maxHeartbeats 2000000 in
theorem refInv_any (a sz q p : Nat) (aa aq ap : Option Addr) (ca cq cp : Nat) (ha : a < DD ^ 16) (hq1 : 2 ≤ q) (hq : q < DD ^ 16) (w : World) (hA : NumAt w aa a) (hQ : NumAt w aq q) :
    Calls Try.prog 67 #[.agg #[.int .i64 (sz : Int), .slice aq (dl q) cq, .slice ap (dl p) cp], .slice aa (dl a) ca] w fun e w' => NumR w e w' (a ^ (q - 2) % q) := by
  have HA := Lib.hid hA
  have HQ := Lib.hid hQ
  clear hA hQ
  go_enter Try.func67, Try.ntmps67
  have hzz : Bx (w.alloc (.cells #[.int .i64 (sz : Int), .slice aq (dl q) cq, .slice ap (dl p) cp] 98)) w.heap.size 98 (gR sz q p aq ap cq cp) := Bx.new w _ _ _ rfl
  have hbz : Below w.heap.size w (w.alloc (.cells #[.int .i64 (sz : Int), .slice aq (dl q) cq, .slice ap (dl p) cp] 98)) := (Below.refl w.heap.size w).alloc (Nat.le_refl _) _
  obtain ⟨W2, hW2⟩ : ∃ W9 : World, (w.alloc (.cells #[.int .i64 (sz : Int), .slice aq (dl q) cq, .slice ap (dl p) cp] 98)) = W9 := ⟨_, rfl⟩
  rw [hW2] at hzz hbz
  have HZ := Lib.hid hzz
  have HBZ := Lib.hid hbz
  have hz_0 := HZ.out.cell (i := 0) rfl
  have hz_1 := HZ.out.cell (i := 1) rfl
  have hz_2 := HZ.out.cell (i := 2) rfl
  have hzl := HZ.out.lt
  clear hzz hbz
  go_wp2_with fail
  have HW0 : Hid (Below W2.heap.size W2 W2.drew) := (Below.refl _ _).drew
  refine wp_region_tree (fun w' => ∃ E : Over W2, w' = E.w) (.qs [0, 1, 2, 5, 6] (.a 3 (.a 4 (.a 7 (.q 8 .done))))) (by kernel_rfl) (by kernel_rfl) (fun _ _ d _ _ h => by cases d <;> exact h) ⟨⟨_, HW0.out⟩, rfl⟩ ?_
  have hov := fun (E : Over W2) o => E.cell (b := w.heap.size) o hzl
  simp only [Tree.qs]
  repeat (refine tree_q rfl rfl ?_; go_big_quiet_step (fail); refine wpQuiet_nil ?_)
  refine tree_a rfl (fun K hK => ?_)
  go_simp
  refine (refOf_any 2 (by omega) _).mono ?_
  rintro e w4 ⟨a4, c4, rfl, hn9, hb9⟩
  have HN4 := Lib.hid hn9
  have HW4 := Lib.hid (below_up HW0.out hb9)
  clear hn9 hb9
  refine hK _ _ ⟨⟨⟨w4, HW4.out⟩, rfl⟩, ?_⟩
  clear hK K
  refine tree_a rfl (fun K hK => ?_)
  go_simp
  refine (refMinus_any q 2 (q - 2) aq a4 cq c4 (small_dl q hq) (by decide) (by omega) w4 (HQ.out.up (below_up HBZ.out HW4.out)) HN4.out).mono ?_
  rintro e w5 ⟨a5, c5, rfl, hn9, hb9⟩
  have HN5 := Lib.hid hn9
  have HW5 := Lib.hid (below_up HW4.out hb9)
  clear hn9 hb9
  refine hK _ _ ⟨⟨⟨w5, HW5.out⟩, rfl⟩, ?_⟩
  clear hK K
  refine tree_a rfl (fun K hK => ?_)
  go_simp
  refine (refPower_any a (q - 2) q aa a5 aq ca c5 cq ha (Nat.le_trans (dl_of_lt (q - 2) 16 (by omega)) (by decide)) (by omega) hq w5 (HA.out.up (below_up HBZ.out HW5.out)) HN5.out (HQ.out.up (below_up HBZ.out HW5.out))).mono ?_
  rintro e w6 ⟨a6, c6, rfl, hn9, hb9⟩
  have HN6 := Lib.hid hn9
  have HW6 := Lib.hid (below_up HW5.out hb9)
  clear hn9 hb9
  refine hK _ _ ⟨⟨⟨w6, HW6.out⟩, rfl⟩, ?_⟩
  clear hK K
  refine tree_q rfl rfl ?_
  go_big_quiet_step (fail)
  refine wpQuiet_nil ?_
  refine tree_end ?_
  have HF := Lib.hid (below_up HBZ.out HW6.out)
  clear hov
  go_wp2_with fail
  go_ret
  exact ⟨a6, c6, rfl, HN6.out, HF.out⟩

end Go.Proofs.Ytipgjookfdkciaa

/- The document's IsScalar, IsElem, Number. No condition. -/
namespace Go.Proofs.Ytipgjookfdkciaa
open Go.RowKit






def isSc (q sz : Nat) (s : ByteArray) : Bool := decide (s.size = sz) && decide (numOf s < q)
def isEl (q sz : Nat) (s : ByteArray) : Bool := decide (s.size = sz) && decide (0 < numOf s) && decide (numOf s ≤ q)

theorem cmpI_lt (a b : Nat) : decide (cmpI a b < 0) = decide (a < b) := by unfold cmpI; split; · simp [*]
                                                                           · split <;> simp <;> omega
theorem cmpI_le (a b : Nat) : decide (cmpI a b ≤ 0) = decide (a ≤ b) := by
  unfold cmpI
  split
  · simp; omega
  · split <;> simp <;> omega
theorem numOf_16 (s : ByteArray) (hs : s.size ≤ 32) : numOf s < DD ^ 16 := numOf_lt s hs

set_option maxRecDepth 100000 in
set_option maxHeartbeats 2000000 in
theorem refIsScalar_any (s : ByteArray) (sz q p : Nat) (aq ap : Option Addr) (cq cp : Nat) (hsz : sz ≤ 32) (w : World) (hQ : NumAt w aq q) :
    Calls Try.prog 66 #[.agg #[.int .i64 (sz : Int), .slice aq (dl q) cq, .slice ap (dl p) cp], .string s] w fun e w' => e = .returned (.bool (isSc q sz s)) ∧ Below w.heap.size w w' := by
  have HQ := Lib.hid hQ
  clear hQ
  by_cases hl : s.size = sz
  · have HR : Hid (isSc q sz s = decide (numOf s < q)) := by show _ = _; unfold isSc; simp [hl]
    have hn := numOf_16 s (by omega)
    have hd : ((s.size : Int) == (sz : Int)) = true := by rw [hl]; simp
    have hss : s.size ≤ 1048576 := by omega
    clear hl
    go_enter Try.func66, Try.ntmps66
    have hzz : Bx (w.alloc (.cells #[.int .i64 (sz : Int), .slice aq (dl q) cq, .slice ap (dl p) cp] 98)) w.heap.size 98 (gR sz q p aq ap cq cp) := Bx.new w _ _ _ rfl
    have hbz : Below w.heap.size w (w.alloc (.cells #[.int .i64 (sz : Int), .slice aq (dl q) cq, .slice ap (dl p) cp] 98)) := (Below.refl w.heap.size w).alloc (Nat.le_refl _) _
    obtain ⟨W2, hW2⟩ : ∃ W9 : World, (w.alloc (.cells #[.int .i64 (sz : Int), .slice aq (dl q) cq, .slice ap (dl p) cp] 98)) = W9 := ⟨_, rfl⟩
    rw [hW2] at hzz hbz
    have HZ := Lib.hid hzz
    have HBZ := Lib.hid hbz
    have hz_0 := HZ.out.cell (i := 0) rfl
    have hz_1 := HZ.out.cell (i := 1) rfl
    have hz_2 := HZ.out.cell (i := 2) rfl
    have hzl := HZ.out.lt
    clear hzz hbz
    go_wp2_with fail
    have HW0 : Hid (Below W2.heap.size W2 W2.drew) := (Below.refl _ _).drew
    refine wp_region_tree (fun w' => ∃ E : Over W2, w' = E.w) (.qs [0, 1, 2, 3, 4, 5, 6, 8, 9] (.a 7 (.a 10 (.q 11 (.q 12 (.q 13 .done)))))) (by kernel_rfl) (by kernel_rfl) (fun _ _ d _ _ h => by cases d <;> exact h) ⟨⟨_, HW0.out⟩, rfl⟩ ?_
    have hov := fun (E : Over W2) o => E.cell (b := w.heap.size) o hzl
    simp only [Tree.qs]
    repeat (refine tree_q rfl rfl ?_; go_big_quiet_step (fail); refine wpQuiet_nil ?_)
    refine tree_a rfl (fun K hK => ?_)
    go_simp
    refine (refRead_any s hss _).mono ?_
    rintro e w4 ⟨a4, c4, rfl, hn9, hb9⟩
    have HN4 := Lib.hid hn9
    have HW4 := Lib.hid (below_up HW0.out hb9)
    clear hn9 hb9
    refine hK _ _ ⟨⟨⟨w4, HW4.out⟩, rfl⟩, ?_⟩
    clear hK K
    refine tree_a rfl (fun K hK => ?_)
    go_simp
    refine (refCompare_any (numOf s) q a4 aq c4 cq (small_dl _ hn) w4 HN4.out (HQ.out.up (below_up HBZ.out HW4.out))).mono ?_
    rintro e w5 ⟨rfl, hb9⟩
    have HW5 := Lib.hid (below_up HW4.out hb9)
    clear hb9
    refine hK _ _ ⟨⟨⟨w5, HW5.out⟩, rfl⟩, ?_⟩
    clear hK K
    repeat (refine tree_q rfl rfl ?_; go_big_quiet_step (fail); refine wpQuiet_nil ?_)
    refine tree_end ?_
    have HF := Lib.hid (below_up HBZ.out HW5.out)
    clear hov
    go_wp2_with fail
    go_ret
    exact ⟨by rw [HR.out, ← cmpI_lt]; rfl, HF.out⟩
  · have HR : Hid (isSc q sz s = false) := by show _ = _; unfold isSc; simp [hl]
    have hd : ((s.size : Int) == (sz : Int)) = false := by simp; omega
    clear hl
    go_enter Try.func66, Try.ntmps66
    have hzz : Bx (w.alloc (.cells #[.int .i64 (sz : Int), .slice aq (dl q) cq, .slice ap (dl p) cp] 98)) w.heap.size 98 (gR sz q p aq ap cq cp) := Bx.new w _ _ _ rfl
    have hbz : Below w.heap.size w (w.alloc (.cells #[.int .i64 (sz : Int), .slice aq (dl q) cq, .slice ap (dl p) cp] 98)) := (Below.refl w.heap.size w).alloc (Nat.le_refl _) _
    obtain ⟨W2, hW2⟩ : ∃ W9 : World, (w.alloc (.cells #[.int .i64 (sz : Int), .slice aq (dl q) cq, .slice ap (dl p) cp] 98)) = W9 := ⟨_, rfl⟩
    rw [hW2] at hzz hbz
    have HZ := Lib.hid hzz
    have HBZ := Lib.hid hbz
    have hz_0 := HZ.out.cell (i := 0) rfl
    have hz_1 := HZ.out.cell (i := 1) rfl
    have hz_2 := HZ.out.cell (i := 2) rfl
    have hzl := HZ.out.lt
    clear hzz hbz
    go_wp2_with fail
    go_quiet (fail)
    go_wp2_with fail
    go_ret
    exact ⟨by rw [HR.out]; rfl, below_up HBZ.out (below_drewN (Below.refl _ _) _)⟩


set_option maxRecDepth 100000 in
set_option maxHeartbeats 2000000 in
theorem refIsElem_any (s : ByteArray) (sz q p : Nat) (aq ap : Option Addr) (cq cp : Nat) (hsz : sz ≤ 32) (w : World) (hQ : NumAt w aq q) :
    Calls Try.prog 79 #[.agg #[.int .i64 (sz : Int), .slice aq (dl q) cq, .slice ap (dl p) cp], .string s] w fun e w' => e = .returned (.bool (isEl q sz s)) ∧ Below w.heap.size w w' := by
  have HQ := Lib.hid hQ
  clear hQ
  by_cases hl : s.size = sz
  · have hn := numOf_16 s (by omega)
    have hd : ((s.size : Int) == (sz : Int)) = true := by rw [hl]; simp
    have hss : s.size ≤ 1048576 := by omega
    by_cases h0 : 0 < numOf s
    · have HR : Hid (isEl q sz s = decide (numOf s ≤ q)) := by show _ = _; unfold isEl; simp [hl, h0]
      have hdl := dl_pos _ (Nat.ne_of_gt h0)
      have hdd : decide ((dl (numOf s) : Int) > 0) = true := by simp; omega
      clear hl h0
      go_enter Try.func79, Try.ntmps79
      have hzz : Bx (w.alloc (.cells #[.int .i64 (sz : Int), .slice aq (dl q) cq, .slice ap (dl p) cp] 98)) w.heap.size 98 (gR sz q p aq ap cq cp) := Bx.new w _ _ _ rfl
      have hbz : Below w.heap.size w (w.alloc (.cells #[.int .i64 (sz : Int), .slice aq (dl q) cq, .slice ap (dl p) cp] 98)) := (Below.refl w.heap.size w).alloc (Nat.le_refl _) _
      obtain ⟨W2, hW2⟩ : ∃ W9 : World, (w.alloc (.cells #[.int .i64 (sz : Int), .slice aq (dl q) cq, .slice ap (dl p) cp] 98)) = W9 := ⟨_, rfl⟩
      rw [hW2] at hzz hbz
      have HZ := Lib.hid hzz
      have HBZ := Lib.hid hbz
      have hz_0 := HZ.out.cell (i := 0) rfl
      have hz_1 := HZ.out.cell (i := 1) rfl
      have hz_2 := HZ.out.cell (i := 2) rfl
      have hzl := HZ.out.lt
      clear hzz hbz
      go_wp2_with fail
      have HW0 : Hid (Below W2.heap.size W2 W2.drew) := (Below.refl _ _).drew
      refine wp_region_tree (fun w' => ∃ E : Over W2, w' = E.w) (.qs [0, 1, 2, 3, 4, 5, 6] (.a 7 (.q 8 (.q 9 (.q 10 (.q 11 (.q 12 (.q 14 (.q 15 (.a 13 (.a 16 (.q 17 (.q 18 (.q 19 .done)))))))))))))) (by kernel_rfl) (by kernel_rfl) (fun _ _ d _ _ h => by cases d <;> exact h) ⟨⟨_, HW0.out⟩, rfl⟩ ?_
      have hov := fun (E : Over W2) o => E.cell (b := w.heap.size) o hzl
      simp only [Tree.qs]
      repeat (refine tree_q rfl rfl ?_; go_big_quiet_step (fail); refine wpQuiet_nil ?_)
      refine tree_a rfl (fun K hK => ?_)
      go_simp
      refine (refRead_any s hss _).mono ?_
      rintro e w4 ⟨a4, c4, rfl, hn9, hb9⟩
      have HN4 := Lib.hid hn9
      have HW4 := Lib.hid (below_up HW0.out hb9)
      clear hn9 hb9
      refine hK _ _ ⟨⟨⟨w4, HW4.out⟩, rfl⟩, ?_⟩
      clear hK K
      repeat (refine tree_q rfl rfl ?_; go_big_quiet_step (fail); refine wpQuiet_nil ?_)
      refine tree_a rfl (fun K hK => ?_)
      go_simp
      refine (refRead_any s hss _).mono ?_
      rintro e w5 ⟨a5, c5, rfl, hn9, hb9⟩
      have HN5 := Lib.hid hn9
      have HW5 := Lib.hid (below_up HW4.out hb9)
      clear hn9 hb9
      refine hK _ _ ⟨⟨⟨w5, HW5.out⟩, rfl⟩, ?_⟩
      clear hK K
      refine tree_a rfl (fun K hK => ?_)
      go_simp
      refine (refCompare_any (numOf s) q a5 aq c5 cq (small_dl _ hn) w5 HN5.out (HQ.out.up (below_up HBZ.out HW5.out))).mono ?_
      rintro e w6 ⟨rfl, hb9⟩
      have HW6 := Lib.hid (below_up HW5.out hb9)
      clear hb9
      refine hK _ _ ⟨⟨⟨w6, HW6.out⟩, rfl⟩, ?_⟩
      clear hK K
      repeat (refine tree_q rfl rfl ?_; go_big_quiet_step (fail); refine wpQuiet_nil ?_)
      refine tree_end ?_
      have HF := Lib.hid (below_up HBZ.out HW6.out)
      clear hov
      go_wp2_with fail
      go_ret
      exact ⟨by rw [HR.out, ← cmpI_le]; rfl, HF.out⟩
    · have HR : Hid (isEl q sz s = false) := by show _ = _; unfold isEl; simp [h0]
      have h00 : numOf s = 0 := by omega
      have hdl : dl (numOf s) = 0 := by rw [h00]; rfl
      clear hl h0 h00
      go_enter Try.func79, Try.ntmps79
      have hzz : Bx (w.alloc (.cells #[.int .i64 (sz : Int), .slice aq (dl q) cq, .slice ap (dl p) cp] 98)) w.heap.size 98 (gR sz q p aq ap cq cp) := Bx.new w _ _ _ rfl
      have hbz : Below w.heap.size w (w.alloc (.cells #[.int .i64 (sz : Int), .slice aq (dl q) cq, .slice ap (dl p) cp] 98)) := (Below.refl w.heap.size w).alloc (Nat.le_refl _) _
      obtain ⟨W2, hW2⟩ : ∃ W9 : World, (w.alloc (.cells #[.int .i64 (sz : Int), .slice aq (dl q) cq, .slice ap (dl p) cp] 98)) = W9 := ⟨_, rfl⟩
      rw [hW2] at hzz hbz
      have HZ := Lib.hid hzz
      have HBZ := Lib.hid hbz
      have hz_0 := HZ.out.cell (i := 0) rfl
      have hz_1 := HZ.out.cell (i := 1) rfl
      have hz_2 := HZ.out.cell (i := 2) rfl
      have hzl := HZ.out.lt
      clear hzz hbz
      go_wp2_with fail
      have HW0 : Hid (Below W2.heap.size W2 W2.drew) := (Below.refl _ _).drew
      refine wp_region_tree (fun w' => ∃ E : Over W2, w' = E.w) (.qs [0, 1, 2, 3, 4, 5, 6] (.a 7 (.q 8 (.q 9 (.q 10 (.q 11 (.q 12 (.q 14 (.q 15 (.a 13 (.a 16 (.q 17 (.q 18 (.q 19 .done)))))))))))))) (by kernel_rfl) (by kernel_rfl) (fun _ _ d _ _ h => by cases d <;> exact h) ⟨⟨_, HW0.out⟩, rfl⟩ ?_
      have hov := fun (E : Over W2) o => E.cell (b := w.heap.size) o hzl
      simp only [Tree.qs]
      repeat (refine tree_q rfl rfl ?_; go_big_quiet_step (fail); refine wpQuiet_nil ?_)
      refine tree_a rfl (fun K hK => ?_)
      go_simp
      refine (refRead_any s hss _).mono ?_
      rintro e w4 ⟨a4, c4, rfl, hn9, hb9⟩
      have HN4 := Lib.hid hn9
      have HW4 := Lib.hid (below_up HW0.out hb9)
      clear hn9 hb9
      refine hK _ _ ⟨⟨⟨w4, HW4.out⟩, rfl⟩, ?_⟩
      clear hK K
      repeat (refine tree_q rfl rfl ?_; go_big_quiet_step (fail); refine wpQuiet_nil ?_)
      refine tree_a rfl (fun K hK => ?_)
      go_simp
      refine hK _ _ ⟨⟨⟨w4, HW4.out⟩, rfl⟩, ?_⟩
      clear hK K
      refine tree_a rfl (fun K hK => ?_)
      go_simp
      refine hK _ _ ⟨⟨⟨w4, HW4.out⟩, rfl⟩, ?_⟩
      clear hK K
      repeat (refine tree_q rfl rfl ?_; go_big_quiet_step (fail); refine wpQuiet_nil ?_)
      refine tree_end ?_
      have HF := Lib.hid (below_up HBZ.out HW4.out)
      clear hov
      go_wp2_with fail
      go_ret
      exact ⟨by rw [HR.out]; rfl, HF.out⟩
  · have HR : Hid (isEl q sz s = false) := by show _ = _; unfold isEl; simp [hl]
    have hd : ((s.size : Int) == (sz : Int)) = false := by simp; omega
    clear hl
    go_enter Try.func79, Try.ntmps79
    have hzz : Bx (w.alloc (.cells #[.int .i64 (sz : Int), .slice aq (dl q) cq, .slice ap (dl p) cp] 98)) w.heap.size 98 (gR sz q p aq ap cq cp) := Bx.new w _ _ _ rfl
    have hbz : Below w.heap.size w (w.alloc (.cells #[.int .i64 (sz : Int), .slice aq (dl q) cq, .slice ap (dl p) cp] 98)) := (Below.refl w.heap.size w).alloc (Nat.le_refl _) _
    obtain ⟨W2, hW2⟩ : ∃ W9 : World, (w.alloc (.cells #[.int .i64 (sz : Int), .slice aq (dl q) cq, .slice ap (dl p) cp] 98)) = W9 := ⟨_, rfl⟩
    rw [hW2] at hzz hbz
    have HZ := Lib.hid hzz
    have HBZ := Lib.hid hbz
    have hz_0 := HZ.out.cell (i := 0) rfl
    have hz_1 := HZ.out.cell (i := 1) rfl
    have hz_2 := HZ.out.cell (i := 2) rfl
    have hzl := HZ.out.lt
    clear hzz hbz
    go_wp2_with fail
    go_quiet (fail)
    go_wp2_with fail
    go_ret
    exact ⟨by rw [HR.out]; rfl, below_up HBZ.out (below_drewN (Below.refl _ _) _)⟩

end Go.Proofs.Ytipgjookfdkciaa

/- The package group: Scalar, Member. No condition. -/
namespace Go.Proofs.Ytipgjookfdkciaa
open Go.RowKit

/-- What a reading of bytes answers: limbs, and whether it was good. -/
def ReadR (ok : Bool) (v : Value) (w : World) (e : Ending) (w' : World) : Prop := ∃ x : Nat, e = .returned (.tuple #[limbV x, .bool ok]) ∧ Below w.heap.size w w' ∧ (ok = true → limbV x = v)

theorem gScalar_any (G : GP) (ok : G.Ok) (gb : Nat) (s : ByteArray) (w : World) (hG : GroupAt w gb G) :
    Calls Try.prog 59 #[.pointer (some ⟨gb, 0, none⟩), .string s] w (ReadR (isSc G.q.m G.size s) (scV G (numOf s)) w) := by
  have no : isSc G.q.m G.size s = false → ∀ e w', (e = .returned (.tuple #[limbV 0, .bool false]) ∧ Below w.heap.size w w') → ReadR (isSc G.q.m G.size s) (scV G (numOf s)) w e w' := fun h e w' ⟨h1, h2⟩ => ⟨0, by rw [h]; exact h1, h2, fun hc => by rw [h] at hc; cases hc⟩
  by_cases h32 : 32 < s.size
  · exact (gScalar_long G ok gb s h32 w hG).mono (no (by have := ok.size_le; unfold isSc; simp; omega))
  by_cases hl : s.size = G.size
  · rcases Nat.lt_trichotomy (numOf s) G.q.m with hc | hc | hc
    · refine (gScalar_yes G ok gb s hl hc w hG).mono ?_
      rintro e w' ⟨h1, h2⟩
      exact ⟨mont G.q.m (numOf s), by rw [show isSc G.q.m G.size s = true by unfold isSc; simp [hl, hc]]; exact h1, h2, fun _ => rfl⟩
    · exact (gScalar_eq G ok gb s hl hc w hG).mono (no (by unfold isSc; simp; omega))
    · exact (gScalar_gt G ok gb s hl hc w hG).mono (no (by unfold isSc; simp; omega))
  · exact (gScalar_len G ok gb s (by omega) hl w hG).mono (no (by unfold isSc; simp [hl]))

theorem gElem_any (G : GP) (ok : G.Ok) (gb : Nat) (s : ByteArray) (w : World) (hG : GroupAt w gb G) :
    Calls Try.prog 106 #[.pointer (some ⟨gb, 0, none⟩), .string s] w (ReadR (isEl G.q.m G.size s) (elV G (numOf s)) w) := by
  have no : isEl G.q.m G.size s = false → ∀ e w', (e = .returned (.tuple #[limbV 0, .bool false]) ∧ Below w.heap.size w w') → ReadR (isEl G.q.m G.size s) (elV G (numOf s)) w e w' := fun h e w' ⟨h1, h2⟩ => ⟨0, by rw [h]; exact h1, h2, fun hc => by rw [h] at hc; cases hc⟩
  by_cases h32 : 32 < s.size
  · exact (gElem_long G ok gb s h32 w hG).mono (no (by have := ok.size_le; unfold isEl; simp; omega))
  by_cases hl : s.size = G.size
  · by_cases h0 : numOf s = 0
    · exact (gElem_zero G ok gb s hl h0 w hG).mono (no (by unfold isEl; simp [h0]))
    rcases Nat.lt_trichotomy (numOf s) G.q.m with hc | hc | hc
    · refine (gElem_lt G ok gb s hl (by omega) hc w hG).mono ?_
      rintro e w' ⟨h1, h2⟩
      exact ⟨mont G.p.m (numOf s), by rw [show isEl G.q.m G.size s = true by unfold isEl; simp [hl]; omega]; exact h1, h2, fun _ => rfl⟩
    · refine (gElem_eq G ok gb s hl (by omega) hc w hG).mono ?_
      rintro e w' ⟨h1, h2⟩
      exact ⟨mont G.p.m (numOf s), by rw [show isEl G.q.m G.size s = true by unfold isEl; simp [hl]; omega]; exact h1, h2, fun _ => rfl⟩
    · exact (gElem_gt G ok gb s hl hc w hG).mono (no (by unfold isEl; simp; omega))
  · exact (gElem_len G ok gb s (by omega) hl w hG).mono (no (by unfold isEl; simp [hl]))


set_option maxRecDepth 100000 in
set_option maxHeartbeats 1000000 in
theorem Scalar_none (k : Int) (hk : ¬ (1 ≤ k ∧ k ≤ 3)) (s : ByteArray) (w : World) : Calls Try.prog 32 #[.int .i64 k, .string s] w fun e w' => e = .returned (.bool false) ∧ Below w.heap.size w w' := by
  go_enter Try.func32, Try.ntmps32
  go_wp2_with fail
  refine (of_none k hk w).mono ?_
  rintro e w1 ⟨rfl, rfl⟩
  go_wp2_with fail
  go_ret
  exact ⟨rfl, Below.refl _ _⟩

set_option maxRecDepth 100000 in
set_option maxHeartbeats 1000000 in
theorem Scalar_some (k : Nat) (h1 : 1 ≤ k) (h3 : k ≤ 3) (s : ByteArray) (w : World) : Calls Try.prog 32 #[.int .i64 (k : Int), .string s] w fun e w' => e = .returned (.bool (isSc (grp k).q.m (grp k).size s)) ∧ Below w.heap.size w w' := by
  have OK := Lib.hid (grp_ok k h1 h3)
  go_enter Try.func32, Try.ntmps32
  go_wp2_with fail
  refine (of_some k h1 h3 w).mono ?_
  rintro e w1 ⟨rfl, hg, hb⟩
  have HG := Lib.hid hg
  have HB := Lib.hid hb
  clear hg hb
  go_wp2_with fail
  refine (gScalar_any (grp k) OK.out w.heap.size s w1 HG.out).mono ?_
  rintro e w2 ⟨x, rfl, hb2, -⟩
  have HB2 := Lib.hid (below_up HB.out hb2)
  clear hb2
  obtain ⟨b, hbb⟩ : ∃ b, isSc (grp k).q.m (grp k).size s = b := ⟨_, rfl⟩
  rw [hbb]
  have HBB := Lib.hid hbb
  clear hbb
  unfold limbV
  go_wp2_with fail
  go_ret
  exact ⟨by rw [HBB.out]; rfl, HB2.out.alloc HB2.out.size _⟩

set_option maxRecDepth 100000 in
set_option maxHeartbeats 1000000 in
theorem Member_none (k : Int) (hk : ¬ (1 ≤ k ∧ k ≤ 3)) (s : ByteArray) (w : World) : Calls Try.prog 122 #[.int .i64 k, .string s] w fun e w' => e = .returned (.bool false) ∧ Below w.heap.size w w' := by
  go_enter Try.func122, Try.ntmps122
  go_wp2_with fail
  refine (of_none k hk w).mono ?_
  rintro e w1 ⟨rfl, rfl⟩
  go_wp2_with fail
  go_ret
  exact ⟨rfl, Below.refl _ _⟩

set_option maxRecDepth 100000 in
set_option maxHeartbeats 1000000 in
theorem Member_some (k : Nat) (h1 : 1 ≤ k) (h3 : k ≤ 3) (s : ByteArray) (w : World) : Calls Try.prog 122 #[.int .i64 (k : Int), .string s] w fun e w' => e = .returned (.bool (isEl (grp k).q.m (grp k).size s)) ∧ Below w.heap.size w w' := by
  have OK := Lib.hid (grp_ok k h1 h3)
  go_enter Try.func122, Try.ntmps122
  go_wp2_with fail
  refine (of_some k h1 h3 w).mono ?_
  rintro e w1 ⟨rfl, hg, hb⟩
  have HG := Lib.hid hg
  have HB := Lib.hid hb
  clear hg hb
  go_wp2_with fail
  refine (gElem_any (grp k) OK.out w.heap.size s w1 HG.out).mono ?_
  rintro e w2 ⟨x, rfl, hb2, -⟩
  have HB2 := Lib.hid (below_up HB.out hb2)
  clear hb2
  obtain ⟨b, hbb⟩ : ∃ b, isEl (grp k).q.m (grp k).size s = b := ⟨_, rfl⟩
  rw [hbb]
  have HBB := Lib.hid hbb
  clear hbb
  unfold limbV
  go_wp2_with fail
  go_ret
  exact ⟨by rw [HBB.out]; rfl, HB2.out.alloc HB2.out.size _⟩


/-- Number's closure: it puts the number. -/
theorem number1_any (G : GP) (ok : G.Ok) (gb b : Nat) (n : Int) (h1 : -9223372036854775808 ≤ n) (h2 : n ≤ 9223372036854775807) (w : World) (hG : GroupAt w gb G) (hc : w.cell? ⟨b, 0, none⟩ = some (.int .i64 n)) :
    Calls Try.prog 120 #[.pointer (some ⟨gb, 0, none⟩), .pointer (some ⟨b, 0, none⟩)] w fun e w' => e = .returned (.string (textS (modI G.q.m n) G.size)) ∧ Below w.heap.size w w' := by
  have HG := Lib.hid hG
  have OK := Lib.hid ok
  have HL : Hid (modI G.q.m n % G.q.m = modI G.q.m n) := Nat.mod_eq_of_lt (modI_lt _ ok.q.pos n)
  clear hG ok
  go_enter Try.func120, Try.ntmps120
  go_wp2_with fail
  refine (gNumber_any G OK.out gb n h1 h2 w HG.out).mono ?_
  rintro e w1 ⟨rfl, hb1⟩
  have HB1 := Lib.hid hb1
  clear hb1
  go_wp2_with fail
  refine (gPut_any G OK.out gb (modI G.q.m n) w1 (HG.out.up HB1.out)).mono ?_
  rintro e w2 ⟨rfl, hb2⟩
  have HB2 := Lib.hid (below_up HB1.out hb2)
  clear hb2
  rw [HL.out]
  go_wp2_with fail
  go_ret
  exact ⟨rfl, HB2.out⟩

set_option maxRecDepth 100000 in
set_option maxHeartbeats 1000000 in
theorem Number_some (k : Nat) (h1 : 1 ≤ k) (h3 : k ≤ 3) (n : Int) (hn1 : -9223372036854775808 ≤ n) (hn2 : n ≤ 9223372036854775807) (w : World) : Calls Try.prog 53 #[.int .i64 (k : Int), .int .i64 n] w (Ans (.string (textS (modI (grp k).q.m n) (grp k).size)) 0 w) := by
  have hok := grp_ok k h1 h3
  have OK := Lib.hid hok
  clear hok
  have HN1 := Lib.hid hn1
  have HN2 := Lib.hid hn2
  go_enter Try.func53, Try.ntmps53
  go_wp2_with fail
  have hb0 : Below w.heap.size w (w.alloc (.cells #[.int .i64 n] 3)) := (Below.refl _ _).alloc (Nat.le_refl _) _
  have hz0 : Bx (w.alloc (.cells #[.int .i64 n] 3)) w.heap.size 3 [.int .i64 n] := Bx.new w _ _ _ rfl
  obtain ⟨W0, hW0⟩ : ∃ W9 : World, (w.alloc (.cells #[.int .i64 n] 3)) = W9 := ⟨_, rfl⟩
  rw [hW0] at hb0 hz0 ⊢
  have HB0 := Lib.hid hb0
  have HZ0 := Lib.hid hz0
  clear hW0 hb0 hz0
  refine (fixed_some k h1 h3 120 #[.pointer (some ⟨w.heap.size, 0, none⟩)] (textS (modI (grp k).q.m n) (grp k).size) (enters_of Try.func120 (by kernel_rfl) rfl) W0 (fun w1 gb hb hg => ?_)).mono ?_
  · exact number1_any (grp k) OK.out gb _ n HN1.out HN2.out w1 hg ((HZ0.out.up hb).cell (i := 0) rfl)
  · rintro e w2 ⟨rfl, hb2⟩
    have HB2 := Lib.hid (below_up HB0.out hb2)
    clear hb2
    go_wp2_with fail
    go_ret2
    exact ⟨rfl, HB2.out⟩

set_option maxRecDepth 100000 in
set_option maxHeartbeats 1000000 in
theorem Number_none (k : Int) (hk : ¬ (1 ≤ k ∧ k ≤ 3)) (n : Int) (w : World) : Calls Try.prog 53 #[.int .i64 k, .int .i64 n] w (Ans (.string ⟨#[]⟩) 1 w) := by
  go_enter Try.func53, Try.ntmps53
  go_wp2_with fail
  refine (fixed_none k hk _ _ _).mono ?_
  rintro e w1 ⟨rfl, hb⟩
  have HB := Lib.hid (((Below.refl w.heap.size w).alloc (Nat.le_refl _) _).trans (hb.mono (by simp)))
  clear hb
  go_wp2_with fail
  go_ret2
  exact ⟨rfl, HB.out⟩

def redV (G : GP) (s : ByteArray) : ByteArray := if 1024 < s.size then ⟨#[]⟩ else textS (numOf s % G.q.m) G.size
def redE (s : ByteArray) : Int := if 1024 < s.size then 3 else 0

end Go.Proofs.Ytipgjookfdkciaa

/- The package group: Add, Sub, Mul, Inv, Times, Under. No condition. -/
namespace Go.Proofs.Ytipgjookfdkciaa
open Go.RowKit

/-- What a reading answers, its limbs told when it is good. -/
def ReadM (b : Bool) (m : Nat) (w : World) (e : Ending) (w' : World) : Prop := ∃ x : Nat, e = .returned (.tuple #[limbV x, .bool b]) ∧ Below w.heap.size w w' ∧ (b = true → x = m)

theorem ReadR.m {b : Bool} {m : Nat} {w w' : World} {e : Ending} (h : ReadR b (limbV m) w e w') : ReadM b m w e w' := by
  obtain ⟨x, h1, h2, h3⟩ := h
  cases b with
  | true => exact ⟨m, by rw [h1, h3 rfl], h2, fun _ => rfl⟩
  | false => exact ⟨x, h1, h2, fun h => by cases h⟩

theorem gScalar_m (G : GP) (ok : G.Ok) (gb : Nat) (s : ByteArray) (b : Bool) (hb : isSc G.q.m G.size s = b) (w : World) (hG : GroupAt w gb G) :
    Calls Try.prog 59 #[.pointer (some ⟨gb, 0, none⟩), .string s] w (ReadM b (mont G.q.m (numOf s)) w) := by
  subst hb
  exact (gScalar_any G ok gb s w hG).mono fun e w' h => ReadR.m h
theorem gElem_m (G : GP) (ok : G.Ok) (gb : Nat) (s : ByteArray) (b : Bool) (hb : isEl G.q.m G.size s = b) (w : World) (hG : GroupAt w gb G) :
    Calls Try.prog 106 #[.pointer (some ⟨gb, 0, none⟩), .string s] w (ReadM b (mont G.p.m (numOf s)) w) := by
  subst hb
  exact (gElem_any G ok gb s w hG).mono fun e w' h => ReadR.m h


set_option maxRecDepth 100000 in
set_option maxHeartbeats 400000 in
theorem reckon1_no (G : GP) (ok : G.Ok) (gb b1 b2 b3 : Nat) (a b : ByteArray) (ba bb : Bool) (hba : isSc G.q.m G.size a = ba) (hbb : isSc G.q.m G.size b = bb) (hno : (ba && bb) = false) (w : World) (hG : GroupAt w gb G)
    (hc1 : Bx w b1 9 [.string a]) (hc2 : Bx w b2 9 [.string b]) :
    Calls Try.prog 149 #[.pointer (some ⟨gb, 0, none⟩), .pointer (some ⟨b1, 0, none⟩), .pointer (some ⟨b2, 0, none⟩), .pointer (some ⟨b3, 0, none⟩)] w (Ans (.string ⟨#[]⟩) 6 w) := by
  have HA := Lib.hid hba
  have HBB := Lib.hid hbb
  have HC2 := Lib.hid hc2
  have hk1 := hc1.cell (i := 0) rfl
  clear hba hbb hc1 hc2
  have HG := Lib.hid hG
  have OK := Lib.hid ok
  clear hG ok
  go_enter Try.func149, Try.ntmps149
  go_wp2_with fail
  refine (gScalar_m G OK.out gb a ba HA.out w HG.out).mono ?_
  rintro e w1 ⟨x, rfl, hb1, hx⟩
  have HB1 := Lib.hid hb1
  have HX := Lib.hid hx
  clear hb1 hx
  unfold limbV
  have hlb : Below w1.heap.size w1 (w1.alloc (.cells #[.int .u64 (dig x 0 : Int), .int .u64 (dig x 1 : Int), .int .u64 (dig x 2 : Int), .int .u64 (dig x 3 : Int)] 91)) := (Below.refl _ _).alloc (Nat.le_refl _) _
  have hlz : Blk (w1.alloc (.cells #[.int .u64 (dig x 0 : Int), .int .u64 (dig x 1 : Int), .int .u64 (dig x 2 : Int), .int .u64 (dig x 3 : Int)] 91)) w1.heap.size 91 (lim x) := Blk.new _ _ _ _ rfl
  obtain ⟨w2, hlw⟩ : ∃ W9 : World, (w1.alloc (.cells #[.int .u64 (dig x 0 : Int), .int .u64 (dig x 1 : Int), .int .u64 (dig x 2 : Int), .int .u64 (dig x 3 : Int)] 91)) = W9 := ⟨_, rfl⟩
  rw [hlw] at hlb hlz
  have HLw2 := Lib.hid hlb
  have HXw2 := Lib.hid hlz
  clear hlb hlz
  have HB2 := Lib.hid (below_up HB1.out HLw2.out)
  have hk2 := (HC2.out.up HB2.out).cell (i := 0) rfl
  go_wp2_with fail
  refine (gScalar_m G OK.out gb b bb HBB.out w2 (HG.out.up HB2.out)).mono ?_
  rintro e w3 ⟨y, rfl, hb3, hy⟩
  have HB3 := Lib.hid (below_up HB2.out hb3)
  have HX3 := Lib.hid (HXw2.out.below hb3 HXw2.out.lt)
  have HY := Lib.hid hy
  clear hb3 hy hk1 hk2 hlw
  unfold limbV
  have hlb : Below w3.heap.size w3 (w3.alloc (.cells #[.int .u64 (dig y 0 : Int), .int .u64 (dig y 1 : Int), .int .u64 (dig y 2 : Int), .int .u64 (dig y 3 : Int)] 91)) := (Below.refl _ _).alloc (Nat.le_refl _) _
  have hlz : Blk (w3.alloc (.cells #[.int .u64 (dig y 0 : Int), .int .u64 (dig y 1 : Int), .int .u64 (dig y 2 : Int), .int .u64 (dig y 3 : Int)] 91)) w3.heap.size 91 (lim y) := Blk.new _ _ _ _ rfl
  obtain ⟨w4, hlw⟩ : ∃ W9 : World, (w3.alloc (.cells #[.int .u64 (dig y 0 : Int), .int .u64 (dig y 1 : Int), .int .u64 (dig y 2 : Int), .int .u64 (dig y 3 : Int)] 91)) = W9 := ⟨_, rfl⟩
  rw [hlw] at hlb hlz
  have HLw4 := Lib.hid hlb
  have HXw4 := Lib.hid hlz
  clear hlb hlz
  have HB4 := Lib.hid (below_up HB3.out HLw4.out)
  have HX4 := Lib.hid (HX3.out.below HLw4.out HX3.out.lt)
  cases ba
  · go_wp2_with fail
    go_ret2
    exact ⟨rfl, HB4.out⟩
  · cases bb
    · go_wp2_with fail
      go_ret2
      exact ⟨rfl, HB4.out⟩
    · cases hno

set_option maxRecDepth 100000 in
set_option maxHeartbeats 400000 in
theorem reckon1_yes (G : GP) (ok : G.Ok) (gb b1 b2 b3 : Nat) (f : FuncId) (a b : ByteArray) (z : Nat) (hba : isSc G.q.m G.size a = true) (hbb : isSc G.q.m G.size b = true) (hent : Enters Try.prog f) (w : World) (hG : GroupAt w gb G)
    (hc1 : Bx w b1 9 [.string a]) (hc2 : Bx w b2 9 [.string b]) (hc3 : Bx w b3 140 [.func (.func f) #[] #[]])
    (hcall : ∀ w1, GroupAt w1 gb G → Calls Try.prog f #[.pointer (some ⟨gb, 0, none⟩), scV G (numOf a), scV G (numOf b)] w1 fun e w' => e = .returned (scV G z) ∧ Below w1.heap.size w1 w') :
    Calls Try.prog 149 #[.pointer (some ⟨gb, 0, none⟩), .pointer (some ⟨b1, 0, none⟩), .pointer (some ⟨b2, 0, none⟩), .pointer (some ⟨b3, 0, none⟩)] w (Ans (.string (textS (z % G.q.m) G.size)) 0 w) := by
  have HCALL := Lib.hid hcall
  clear hcall
  have hcf : ∀ (args : Array Value) (w : World), (callFunc f args).run Try.prog w = .ok (.enter f args) w := hent
  clear hent
  have HC3 := Lib.hid hc3
  clear hc3
  obtain ⟨ba, hba'⟩ : ∃ b, b = true := ⟨true, rfl⟩
  obtain ⟨bb, hbb'⟩ : ∃ b, b = true := ⟨true, rfl⟩
  have HT1 := Lib.hid hba'
  have HT2 := Lib.hid hbb'
  rw [← hba'] at hba
  rw [← hbb'] at hbb
  clear hba' hbb'
  have HA := Lib.hid hba
  have HBB := Lib.hid hbb
  have HC2 := Lib.hid hc2
  have hk1 := hc1.cell (i := 0) rfl
  clear hba hbb hc1 hc2
  have HG := Lib.hid hG
  have OK := Lib.hid ok
  clear hG ok
  go_enter Try.func149, Try.ntmps149
  go_wp2_with fail
  refine (gScalar_m G OK.out gb a ba HA.out w HG.out).mono ?_
  rintro e w1 ⟨x, rfl, hb1, hx⟩
  have HB1 := Lib.hid hb1
  have HX := Lib.hid hx
  clear hb1 hx
  unfold limbV
  have hlb : Below w1.heap.size w1 (w1.alloc (.cells #[.int .u64 (dig x 0 : Int), .int .u64 (dig x 1 : Int), .int .u64 (dig x 2 : Int), .int .u64 (dig x 3 : Int)] 91)) := (Below.refl _ _).alloc (Nat.le_refl _) _
  have hlz : Blk (w1.alloc (.cells #[.int .u64 (dig x 0 : Int), .int .u64 (dig x 1 : Int), .int .u64 (dig x 2 : Int), .int .u64 (dig x 3 : Int)] 91)) w1.heap.size 91 (lim x) := Blk.new _ _ _ _ rfl
  obtain ⟨w2, hlw⟩ : ∃ W9 : World, (w1.alloc (.cells #[.int .u64 (dig x 0 : Int), .int .u64 (dig x 1 : Int), .int .u64 (dig x 2 : Int), .int .u64 (dig x 3 : Int)] 91)) = W9 := ⟨_, rfl⟩
  rw [hlw] at hlb hlz
  have HLw2 := Lib.hid hlb
  have HXw2 := Lib.hid hlz
  clear hlb hlz
  have HB2 := Lib.hid (below_up HB1.out HLw2.out)
  have hk2 := (HC2.out.up HB2.out).cell (i := 0) rfl
  go_wp2_with fail
  refine (gScalar_m G OK.out gb b bb HBB.out w2 (HG.out.up HB2.out)).mono ?_
  rintro e w3 ⟨y, rfl, hb3, hy⟩
  have HB3 := Lib.hid (below_up HB2.out hb3)
  have HX3 := Lib.hid (HXw2.out.below hb3 HXw2.out.lt)
  have HY := Lib.hid hy
  clear hb3 hy hk1 hk2 hlw
  unfold limbV
  have hlb : Below w3.heap.size w3 (w3.alloc (.cells #[.int .u64 (dig y 0 : Int), .int .u64 (dig y 1 : Int), .int .u64 (dig y 2 : Int), .int .u64 (dig y 3 : Int)] 91)) := (Below.refl _ _).alloc (Nat.le_refl _) _
  have hlz : Blk (w3.alloc (.cells #[.int .u64 (dig y 0 : Int), .int .u64 (dig y 1 : Int), .int .u64 (dig y 2 : Int), .int .u64 (dig y 3 : Int)] 91)) w3.heap.size 91 (lim y) := Blk.new _ _ _ _ rfl
  obtain ⟨w4, hlw⟩ : ∃ W9 : World, (w3.alloc (.cells #[.int .u64 (dig y 0 : Int), .int .u64 (dig y 1 : Int), .int .u64 (dig y 2 : Int), .int .u64 (dig y 3 : Int)] 91)) = W9 := ⟨_, rfl⟩
  rw [hlw] at hlb hlz
  have HLw4 := Lib.hid hlb
  have HXw4 := Lib.hid hlz
  clear hlb hlz
  have HB4 := Lib.hid (below_up HB3.out HLw4.out)
  have HX4 := Lib.hid (HX3.out.below HLw4.out HX3.out.lt)
  obtain rfl := HT1.out
  obtain rfl := HT2.out
  have hk3 := (HC3.out.up HB4.out).cell (i := 0) rfl
  obtain rfl : x = mont G.q.m (numOf a) := HX.out rfl
  obtain rfl : y = mont G.q.m (numOf b) := HY.out rfl
  have hx_0 := HX4.out.cell (i := 0) (x := (dig (mont G.q.m (numOf a)) 0 : Int)) rfl
  have hx_1 := HX4.out.cell (i := 1) (x := (dig (mont G.q.m (numOf a)) 1 : Int)) rfl
  have hx_2 := HX4.out.cell (i := 2) (x := (dig (mont G.q.m (numOf a)) 2 : Int)) rfl
  have hx_3 := HX4.out.cell (i := 3) (x := (dig (mont G.q.m (numOf a)) 3 : Int)) rfl
  have hy_0 := HXw4.out.cell (i := 0) (x := (dig (mont G.q.m (numOf b)) 0 : Int)) rfl
  have hy_1 := HXw4.out.cell (i := 1) (x := (dig (mont G.q.m (numOf b)) 1 : Int)) rfl
  have hy_2 := HXw4.out.cell (i := 2) (x := (dig (mont G.q.m (numOf b)) 2 : Int)) rfl
  have hy_3 := HXw4.out.cell (i := 3) (x := (dig (mont G.q.m (numOf b)) 3 : Int)) rfl
  go_wp2_with fail
  refine (HCALL.out w4 (HG.out.up HB4.out)).mono ?_
  rintro e w5 ⟨rfl, hb5⟩
  have HB5 := Lib.hid (below_up HB4.out hb5)
  clear hb5
  go_wp2_with fail
  refine (gPut_any G OK.out gb z w5 (HG.out.up HB5.out)).mono ?_
  rintro e w6 ⟨rfl, hb6⟩
  have HB6 := Lib.hid (below_up HB5.out hb6)
  clear hb6
  go_wp2_with fail
  go_ret2
  exact ⟨rfl, HB6.out⟩

set_option maxRecDepth 100000 in
set_option maxHeartbeats 400000 in
theorem inv1_no (G : GP) (ok : G.Ok) (gb b1 : Nat) (a : ByteArray) (hba : isSc G.q.m G.size a = false) (w : World) (hG : GroupAt w gb G)
    (hc1 : Bx w b1 9 [.string a]) :
    Calls Try.prog 94 #[.pointer (some ⟨gb, 0, none⟩), .pointer (some ⟨b1, 0, none⟩)] w (Ans (.string ⟨#[]⟩) 6 w) := by
  have HA := Lib.hid hba
  have hk1 := hc1.cell (i := 0) rfl
  clear hba hc1
  have HG := Lib.hid hG
  have OK := Lib.hid ok
  clear hG ok
  go_enter Try.func94, Try.ntmps94
  go_wp2_with fail
  refine (gScalar_m G OK.out gb a _ HA.out w HG.out).mono ?_
  rintro e w1 ⟨x, rfl, hb1, hx⟩
  have HB1 := Lib.hid hb1
  have HX := Lib.hid hx
  clear hb1 hx
  unfold limbV
  have hlb : Below w1.heap.size w1 (w1.alloc (.cells #[.int .u64 (dig x 0 : Int), .int .u64 (dig x 1 : Int), .int .u64 (dig x 2 : Int), .int .u64 (dig x 3 : Int)] 91)) := (Below.refl _ _).alloc (Nat.le_refl _) _
  have hlz : Blk (w1.alloc (.cells #[.int .u64 (dig x 0 : Int), .int .u64 (dig x 1 : Int), .int .u64 (dig x 2 : Int), .int .u64 (dig x 3 : Int)] 91)) w1.heap.size 91 (lim x) := Blk.new _ _ _ _ rfl
  obtain ⟨w2, hlw⟩ : ∃ W9 : World, (w1.alloc (.cells #[.int .u64 (dig x 0 : Int), .int .u64 (dig x 1 : Int), .int .u64 (dig x 2 : Int), .int .u64 (dig x 3 : Int)] 91)) = W9 := ⟨_, rfl⟩
  rw [hlw] at hlb hlz
  have HLw2 := Lib.hid hlb
  have HXw2 := Lib.hid hlz
  clear hlb hlz
  have HB2 := Lib.hid (below_up HB1.out HLw2.out)
  go_wp2_with fail
  go_ret2
  exact ⟨rfl, HB2.out⟩

set_option maxRecDepth 100000 in
set_option maxHeartbeats 400000 in
theorem inv1_zero (G : GP) (ok : G.Ok) (gb b1 : Nat) (a : ByteArray) (hba : isSc G.q.m G.size a = true) (h0 : numOf a % G.q.m = 0) (w : World) (hG : GroupAt w gb G)
    (hc1 : Bx w b1 9 [.string a]) :
    Calls Try.prog 94 #[.pointer (some ⟨gb, 0, none⟩), .pointer (some ⟨b1, 0, none⟩)] w (Ans (.string ⟨#[]⟩) 5 w) := by
  have HD : Hid (decide (numOf a % G.q.m = 0) = true) := by show _ = _; simp [h0]
  clear h0
  have HA := Lib.hid hba
  have hk1 := hc1.cell (i := 0) rfl
  clear hba hc1
  have HG := Lib.hid hG
  have OK := Lib.hid ok
  clear hG ok
  go_enter Try.func94, Try.ntmps94
  go_wp2_with fail
  refine (gScalar_m G OK.out gb a _ HA.out w HG.out).mono ?_
  rintro e w1 ⟨x, rfl, hb1, hx⟩
  have HB1 := Lib.hid hb1
  have HX := Lib.hid hx
  clear hb1 hx
  unfold limbV
  have hlb : Below w1.heap.size w1 (w1.alloc (.cells #[.int .u64 (dig x 0 : Int), .int .u64 (dig x 1 : Int), .int .u64 (dig x 2 : Int), .int .u64 (dig x 3 : Int)] 91)) := (Below.refl _ _).alloc (Nat.le_refl _) _
  have hlz : Blk (w1.alloc (.cells #[.int .u64 (dig x 0 : Int), .int .u64 (dig x 1 : Int), .int .u64 (dig x 2 : Int), .int .u64 (dig x 3 : Int)] 91)) w1.heap.size 91 (lim x) := Blk.new _ _ _ _ rfl
  obtain ⟨w2, hlw⟩ : ∃ W9 : World, (w1.alloc (.cells #[.int .u64 (dig x 0 : Int), .int .u64 (dig x 1 : Int), .int .u64 (dig x 2 : Int), .int .u64 (dig x 3 : Int)] 91)) = W9 := ⟨_, rfl⟩
  rw [hlw] at hlb hlz
  have HLw2 := Lib.hid hlb
  have HXw2 := Lib.hid hlz
  clear hlb hlz
  have HB2 := Lib.hid (below_up HB1.out HLw2.out)
  obtain rfl : x = mont G.q.m (numOf a) := HX.out rfl
  have hx_0 := HXw2.out.cell (i := 0) (x := (dig (mont G.q.m (numOf a)) 0 : Int)) rfl
  have hx_1 := HXw2.out.cell (i := 1) (x := (dig (mont G.q.m (numOf a)) 1 : Int)) rfl
  have hx_2 := HXw2.out.cell (i := 2) (x := (dig (mont G.q.m (numOf a)) 2 : Int)) rfl
  have hx_3 := HXw2.out.cell (i := 3) (x := (dig (mont G.q.m (numOf a)) 3 : Int)) rfl
  go_wp2_with fail
  refine (gZero_any G OK.out (numOf a) w2).mono ?_
  rintro e w3 ⟨rfl, hb3⟩
  have HB3 := Lib.hid (below_up HB2.out hb3)
  rw [HD.out]
  go_wp2_with fail
  go_ret2
  exact ⟨rfl, HB3.out⟩

set_option maxRecDepth 100000 in
set_option maxHeartbeats 400000 in
theorem inv1_yes (G : GP) (ok : G.Ok) (gb b1 : Nat) (a : ByteArray) (hba : isSc G.q.m G.size a = true) (h0 : numOf a % G.q.m ≠ 0) (w : World) (hG : GroupAt w gb G)
    (hc1 : Bx w b1 9 [.string a]) :
    Calls Try.prog 94 #[.pointer (some ⟨gb, 0, none⟩), .pointer (some ⟨b1, 0, none⟩)] w (Ans (.string (textS (numOf a ^ (G.q.m - 2) % G.q.m) G.size)) 0 w) := by
  have HD : Hid (decide (numOf a % G.q.m = 0) = false) := by show _ = _; simp [h0]
  clear h0
  have HA := Lib.hid hba
  have hk1 := hc1.cell (i := 0) rfl
  clear hba hc1
  have HG := Lib.hid hG
  have OK := Lib.hid ok
  clear hG ok
  go_enter Try.func94, Try.ntmps94
  go_wp2_with fail
  refine (gScalar_m G OK.out gb a _ HA.out w HG.out).mono ?_
  rintro e w1 ⟨x, rfl, hb1, hx⟩
  have HB1 := Lib.hid hb1
  have HX := Lib.hid hx
  clear hb1 hx
  unfold limbV
  have hlb : Below w1.heap.size w1 (w1.alloc (.cells #[.int .u64 (dig x 0 : Int), .int .u64 (dig x 1 : Int), .int .u64 (dig x 2 : Int), .int .u64 (dig x 3 : Int)] 91)) := (Below.refl _ _).alloc (Nat.le_refl _) _
  have hlz : Blk (w1.alloc (.cells #[.int .u64 (dig x 0 : Int), .int .u64 (dig x 1 : Int), .int .u64 (dig x 2 : Int), .int .u64 (dig x 3 : Int)] 91)) w1.heap.size 91 (lim x) := Blk.new _ _ _ _ rfl
  obtain ⟨w2, hlw⟩ : ∃ W9 : World, (w1.alloc (.cells #[.int .u64 (dig x 0 : Int), .int .u64 (dig x 1 : Int), .int .u64 (dig x 2 : Int), .int .u64 (dig x 3 : Int)] 91)) = W9 := ⟨_, rfl⟩
  rw [hlw] at hlb hlz
  have HLw2 := Lib.hid hlb
  have HXw2 := Lib.hid hlz
  clear hlb hlz
  have HB2 := Lib.hid (below_up HB1.out HLw2.out)
  obtain rfl : x = mont G.q.m (numOf a) := HX.out rfl
  have HX2 := HXw2
  have hx_0 := HXw2.out.cell (i := 0) (x := (dig (mont G.q.m (numOf a)) 0 : Int)) rfl
  have hx_1 := HXw2.out.cell (i := 1) (x := (dig (mont G.q.m (numOf a)) 1 : Int)) rfl
  have hx_2 := HXw2.out.cell (i := 2) (x := (dig (mont G.q.m (numOf a)) 2 : Int)) rfl
  have hx_3 := HXw2.out.cell (i := 3) (x := (dig (mont G.q.m (numOf a)) 3 : Int)) rfl
  go_wp2_with fail
  refine (gZero_any G OK.out (numOf a) w2).mono ?_
  rintro e w3 ⟨rfl, hb3⟩
  have HB3 := Lib.hid (below_up HB2.out hb3)
  have HX3 := Lib.hid (HX2.out.below hb3 HX2.out.lt)
  clear hb3 hx_0 hx_1 hx_2 hx_3
  have hx_0 := HX3.out.cell (i := 0) (x := (dig (mont G.q.m (numOf a)) 0 : Int)) rfl
  have hx_1 := HX3.out.cell (i := 1) (x := (dig (mont G.q.m (numOf a)) 1 : Int)) rfl
  have hx_2 := HX3.out.cell (i := 2) (x := (dig (mont G.q.m (numOf a)) 2 : Int)) rfl
  have hx_3 := HX3.out.cell (i := 3) (x := (dig (mont G.q.m (numOf a)) 3 : Int)) rfl
  rw [HD.out]
  go_wp2_with fail
  refine (gInv_any G OK.out gb (numOf a) w3 (HG.out.up HB3.out)).mono ?_
  rintro e w5 ⟨rfl, hb5⟩
  have HB5 := Lib.hid (below_up HB3.out hb5)
  clear hb5
  go_wp2_with fail
  refine (gPut_any G OK.out gb _ w5 (HG.out.up HB5.out)).mono ?_
  rintro e w6 ⟨rfl, hb6⟩
  have HB6 := Lib.hid (below_up HB5.out hb6)
  clear hb6
  go_wp2_with fail
  go_ret2
  exact ⟨rfl, HB6.out⟩

end Go.Proofs.Ytipgjookfdkciaa

/- Pairs of elements, as the package ballot reckons with them. No condition. -/
namespace Go.Proofs.Ytipgjookfdkciaa
open Go.RowKit

/-- A pair of elements, and a group with a key, as values. -/
def pairV (G : GP) (x y : Nat) : Value := .agg #[.int .u64 (dig (mont G.p.m x) 0 : Int), .int .u64 (dig (mont G.p.m x) 1 : Int), .int .u64 (dig (mont G.p.m x) 2 : Int), .int .u64 (dig (mont G.p.m x) 3 : Int), .int .u64 (dig (mont G.p.m y) 0 : Int), .int .u64 (dig (mont G.p.m y) 1 : Int), .int .u64 (dig (mont G.p.m y) 2 : Int), .int .u64 (dig (mont G.p.m y) 3 : Int)]
def boxV (gb : Nat) (G : GP) (x : Nat) : Value := .agg #[.pointer (some ⟨gb, 0, none⟩), .int .u64 (dig (mont G.p.m x) 0 : Int), .int .u64 (dig (mont G.p.m x) 1 : Int), .int .u64 (dig (mont G.p.m x) 2 : Int), .int .u64 (dig (mont G.p.m x) 3 : Int)]
def ciphV (a b : ByteArray) : Value := .agg #[.string a, .string b]

/-- A call that answers v and only makes memory. -/
def Gives (v : Value) (w : World) (e : Ending) (w' : World) : Prop := e = .returned v ∧ Below w.heap.size w w'

set_option maxRecDepth 100000 in
set_option maxHeartbeats 1000000 in
theorem gRaise_any (G : GP) (ok : G.Ok) (gb x : Nat) (w : World) (hG : GroupAt w gb G) :
    Calls Try.prog 92 #[.pointer (some ⟨gb, 0, none⟩), scV G x] w (Gives (elV G (2 ^ (x % G.q.m))) w) := by
  have OK := Lib.hid ok
  clear ok
  unfold elV scV limbV Gives
  go_enter Try.func92, Try.ntmps92
  go_wp2_with fail
  obtain ⟨W0, hW0⟩ : ∃ W9 : World, ((w.alloc (Obj.cells #[.int .u64 (dig (mont G.q.m x) 0 : Int), .int .u64 (dig (mont G.q.m x) 1 : Int), .int .u64 (dig (mont G.q.m x) 2 : Int), .int .u64 (dig (mont G.q.m x) 3 : Int)] 91)).alloc (Obj.cells #[.int .u64 0, .int .u64 0, .int .u64 0, .int .u64 0] 111)) = W9 := ⟨_, rfl⟩
  rw [hW0]
  have hA : Bx W0 (w.heap.size) 91 [.int .u64 (dig (mont G.q.m x) 0 : Int), .int .u64 (dig (mont G.q.m x) 1 : Int), .int .u64 (dig (mont G.q.m x) 2 : Int), .int .u64 (dig (mont G.q.m x) 3 : Int)] := by
    rw [← hW0]
    have h := ((Bx.new w 91 [.int .u64 (dig (mont G.q.m x) 0 : Int), .int .u64 (dig (mont G.q.m x) 1 : Int), .int .u64 (dig (mont G.q.m x) 2 : Int), .int .u64 (dig (mont G.q.m x) 3 : Int)] _ rfl).alloc (Obj.cells #[.int .u64 0, .int .u64 0, .int .u64 0, .int .u64 0] 111))
    exact h
  have hC : Bx W0 (w.heap.size + 1) 111 [.int .u64 0, .int .u64 0, .int .u64 0, .int .u64 0] := by
    rw [← hW0]
    have h := (Bx.new (w.alloc (Obj.cells #[.int .u64 (dig (mont G.q.m x) 0 : Int), .int .u64 (dig (mont G.q.m x) 1 : Int), .int .u64 (dig (mont G.q.m x) 2 : Int), .int .u64 (dig (mont G.q.m x) 3 : Int)] 91)) 111 [.int .u64 0, .int .u64 0, .int .u64 0, .int .u64 0] _ rfl)
    rw [World.size_alloc] at h
    exact h
  have hBW : Below w.heap.size w W0 := by rw [← hW0]; exact (((Below.refl w.heap.size w).alloc (Nat.le_refl _) _).alloc (by simp) _)
  clear hW0
  have hG0 := hG.up hBW
  have hgl := hG0.lt
  have ha_0 := hA.cell (i := 0) rfl
  have ha_1 := hA.cell (i := 1) rfl
  have ha_2 := hA.cell (i := 2) rfl
  have ha_3 := hA.cell (i := 3) rfl
  have hla := hA.lt
  have HC := Lib.hid hC
  have HBW := Lib.hid hBW
  clear hA hC hBW hG
  refine wp_region_otail 5 (by kernel_rfl) (by kernel_rfl) ?_
  simp only [List.take_succ_cons, List.take_zero, List.drop_succ_cons, List.drop_zero]
  have hova := fun (E : Over W0) o => E.cell (b := w.heap.size) o hla
  repeat (go_big_quiet_step (first | (go_at_call 99; exact calls_over (gBase_any G OK.out gb _ (hG0.up (Over.h _)))) | (go_at_call 109; exact calls_over (gPower_any G OK.out gb _ _ _ (hG0.up (Over.h _))))))
  all_goals (try unfold elV limbV)
  repeat (go_big_quiet_step (first | (go_at_call 99; exact calls_over (gBase_any G OK.out gb _ (hG0.up (Over.h _)))) | (go_at_call 109; exact calls_over (gPower_any G OK.out gb _ _ _ (hG0.up (Over.h _))))))
  all_goals (try unfold elV limbV)
  repeat (go_big_quiet_step (first | (go_at_call 99; exact calls_over (gBase_any G OK.out gb _ (hG0.up (Over.h _)))) | (go_at_call 109; exact calls_over (gPower_any G OK.out gb _ _ _ (hG0.up (Over.h _))))))
  refine wpQuiet_nil ?_
  rintro _ ⟨E, rfl⟩
  have HZ := Lib.hid (HC.out.below E.h HC.out.lt)
  have HBB := Lib.hid (below_up HBW.out E.h)
  clear hova
  generalize E.w = w3 at *
  have HS5 : Hid (Bx ((((w3.setCell ⟨w.heap.size + 1, 0, none⟩ (.int .u64 (dig (mont G.p.m (2 ^ (x % G.q.m))) 0 : Int))).setCell ⟨w.heap.size + 1, 1, none⟩ (.int .u64 (dig (mont G.p.m (2 ^ (x % G.q.m))) 1 : Int))).setCell ⟨w.heap.size + 1, 2, none⟩ (.int .u64 (dig (mont G.p.m (2 ^ (x % G.q.m))) 2 : Int))).setCell ⟨w.heap.size + 1, 3, none⟩ (.int .u64 (dig (mont G.p.m (2 ^ (x % G.q.m))) 3 : Int))) (w.heap.size + 1) 111 [.int .u64 (dig (mont G.p.m (2 ^ (x % G.q.m))) 0 : Int), .int .u64 (dig (mont G.p.m (2 ^ (x % G.q.m))) 1 : Int), .int .u64 (dig (mont G.p.m (2 ^ (x % G.q.m))) 2 : Int), .int .u64 (dig (mont G.p.m (2 ^ (x % G.q.m))) 3 : Int)]) := ((((HZ.out.set 0 (.int .u64 (dig (mont G.p.m (2 ^ (x % G.q.m))) 0 : Int))).set 1 (.int .u64 (dig (mont G.p.m (2 ^ (x % G.q.m))) 1 : Int))).set 2 (.int .u64 (dig (mont G.p.m (2 ^ (x % G.q.m))) 2 : Int))).set 3 (.int .u64 (dig (mont G.p.m (2 ^ (x % G.q.m))) 3 : Int)))
  have HB5 : Hid (Below w.heap.size w ((((w3.setCell ⟨w.heap.size + 1, 0, none⟩ (.int .u64 (dig (mont G.p.m (2 ^ (x % G.q.m))) 0 : Int))).setCell ⟨w.heap.size + 1, 1, none⟩ (.int .u64 (dig (mont G.p.m (2 ^ (x % G.q.m))) 1 : Int))).setCell ⟨w.heap.size + 1, 2, none⟩ (.int .u64 (dig (mont G.p.m (2 ^ (x % G.q.m))) 2 : Int))).setCell ⟨w.heap.size + 1, 3, none⟩ (.int .u64 (dig (mont G.p.m (2 ^ (x % G.q.m))) 3 : Int)))) := ((((HBB.out.setCell (show w.heap.size ≤ w.heap.size + 1 by omega) _).setCell (show w.heap.size ≤ w.heap.size + 1 by omega) _).setCell (show w.heap.size ≤ w.heap.size + 1 by omega) _).setCell (show w.heap.size ≤ w.heap.size + 1 by omega) _)
  have hz_0 := HZ.out.cell (i := 0) rfl
  have hz_1 := HZ.out.cell (i := 1) rfl
  have hz_2 := HZ.out.cell (i := 2) rfl
  have hz_3 := HZ.out.cell (i := 3) rfl
  have hzf_0 := HZ.out.frozen 0
  have hzf_1 := HZ.out.frozen 1
  have hzf_2 := HZ.out.frozen 2
  have hzf_3 := HZ.out.frozen 3
  go_wp2_with fail
  generalize ((((w3.setCell ⟨w.heap.size + 1, 0, none⟩ (.int .u64 (dig (mont G.p.m (2 ^ (x % G.q.m))) 0 : Int))).setCell ⟨w.heap.size + 1, 1, none⟩ (.int .u64 (dig (mont G.p.m (2 ^ (x % G.q.m))) 1 : Int))).setCell ⟨w.heap.size + 1, 2, none⟩ (.int .u64 (dig (mont G.p.m (2 ^ (x % G.q.m))) 2 : Int))).setCell ⟨w.heap.size + 1, 3, none⟩ (.int .u64 (dig (mont G.p.m (2 ^ (x % G.q.m))) 3 : Int))) = w5 at *
  clear hz_0 hz_1 hz_2 hz_3
  have hg_0 := HS5.out.cell (i := 0) rfl
  have hg_1 := HS5.out.cell (i := 1) rfl
  have hg_2 := HS5.out.cell (i := 2) rfl
  have hg_3 := HS5.out.cell (i := 3) rfl
  simp [bodyPost, results, Try.results92, go_sem, hg_0, hg_1, hg_2, hg_3]
  exact HB5.out


set_option maxRecDepth 100000 in
set_option maxHeartbeats 1000000 in
theorem pairTimes_any (G : GP) (ok : G.Ok) (gb x y u v : Nat) (w : World) (hG : GroupAt w gb G) :
    Calls Try.prog 87 #[pairV G x y, .pointer (some ⟨gb, 0, none⟩), pairV G u v] w (Gives (pairV G (x * u) (y * v)) w) := by
  have OK := Lib.hid ok
  clear ok
  unfold pairV Gives
  go_enter Try.func87, Try.ntmps87
  go_wp2_with fail
  obtain ⟨W0, hW0⟩ : ∃ W9 : World, (((w.alloc (Obj.cells #[.int .u64 (dig (mont G.p.m x) 0 : Int), .int .u64 (dig (mont G.p.m x) 1 : Int), .int .u64 (dig (mont G.p.m x) 2 : Int), .int .u64 (dig (mont G.p.m x) 3 : Int), .int .u64 (dig (mont G.p.m y) 0 : Int), .int .u64 (dig (mont G.p.m y) 1 : Int), .int .u64 (dig (mont G.p.m y) 2 : Int), .int .u64 (dig (mont G.p.m y) 3 : Int)] 118)).alloc (Obj.cells #[.int .u64 (dig (mont G.p.m u) 0 : Int), .int .u64 (dig (mont G.p.m u) 1 : Int), .int .u64 (dig (mont G.p.m u) 2 : Int), .int .u64 (dig (mont G.p.m u) 3 : Int), .int .u64 (dig (mont G.p.m v) 0 : Int), .int .u64 (dig (mont G.p.m v) 1 : Int), .int .u64 (dig (mont G.p.m v) 2 : Int), .int .u64 (dig (mont G.p.m v) 3 : Int)] 118)).alloc (Obj.cells #[.int .u64 0, .int .u64 0, .int .u64 0, .int .u64 0, .int .u64 0, .int .u64 0, .int .u64 0, .int .u64 0] 118)) = W9 := ⟨_, rfl⟩
  rw [hW0]
  have hA : Bx W0 (w.heap.size) 118 [.int .u64 (dig (mont G.p.m x) 0 : Int), .int .u64 (dig (mont G.p.m x) 1 : Int), .int .u64 (dig (mont G.p.m x) 2 : Int), .int .u64 (dig (mont G.p.m x) 3 : Int), .int .u64 (dig (mont G.p.m y) 0 : Int), .int .u64 (dig (mont G.p.m y) 1 : Int), .int .u64 (dig (mont G.p.m y) 2 : Int), .int .u64 (dig (mont G.p.m y) 3 : Int)] := by
    rw [← hW0]
    have h := (((Bx.new w 118 [.int .u64 (dig (mont G.p.m x) 0 : Int), .int .u64 (dig (mont G.p.m x) 1 : Int), .int .u64 (dig (mont G.p.m x) 2 : Int), .int .u64 (dig (mont G.p.m x) 3 : Int), .int .u64 (dig (mont G.p.m y) 0 : Int), .int .u64 (dig (mont G.p.m y) 1 : Int), .int .u64 (dig (mont G.p.m y) 2 : Int), .int .u64 (dig (mont G.p.m y) 3 : Int)] _ rfl).alloc (Obj.cells #[.int .u64 (dig (mont G.p.m u) 0 : Int), .int .u64 (dig (mont G.p.m u) 1 : Int), .int .u64 (dig (mont G.p.m u) 2 : Int), .int .u64 (dig (mont G.p.m u) 3 : Int), .int .u64 (dig (mont G.p.m v) 0 : Int), .int .u64 (dig (mont G.p.m v) 1 : Int), .int .u64 (dig (mont G.p.m v) 2 : Int), .int .u64 (dig (mont G.p.m v) 3 : Int)] 118)).alloc (Obj.cells #[.int .u64 0, .int .u64 0, .int .u64 0, .int .u64 0, .int .u64 0, .int .u64 0, .int .u64 0, .int .u64 0] 118))
    exact h
  have hB : Bx W0 (w.heap.size + 1) 118 [.int .u64 (dig (mont G.p.m u) 0 : Int), .int .u64 (dig (mont G.p.m u) 1 : Int), .int .u64 (dig (mont G.p.m u) 2 : Int), .int .u64 (dig (mont G.p.m u) 3 : Int), .int .u64 (dig (mont G.p.m v) 0 : Int), .int .u64 (dig (mont G.p.m v) 1 : Int), .int .u64 (dig (mont G.p.m v) 2 : Int), .int .u64 (dig (mont G.p.m v) 3 : Int)] := by
    rw [← hW0]
    have h := ((Bx.new (w.alloc (Obj.cells #[.int .u64 (dig (mont G.p.m x) 0 : Int), .int .u64 (dig (mont G.p.m x) 1 : Int), .int .u64 (dig (mont G.p.m x) 2 : Int), .int .u64 (dig (mont G.p.m x) 3 : Int), .int .u64 (dig (mont G.p.m y) 0 : Int), .int .u64 (dig (mont G.p.m y) 1 : Int), .int .u64 (dig (mont G.p.m y) 2 : Int), .int .u64 (dig (mont G.p.m y) 3 : Int)] 118)) 118 [.int .u64 (dig (mont G.p.m u) 0 : Int), .int .u64 (dig (mont G.p.m u) 1 : Int), .int .u64 (dig (mont G.p.m u) 2 : Int), .int .u64 (dig (mont G.p.m u) 3 : Int), .int .u64 (dig (mont G.p.m v) 0 : Int), .int .u64 (dig (mont G.p.m v) 1 : Int), .int .u64 (dig (mont G.p.m v) 2 : Int), .int .u64 (dig (mont G.p.m v) 3 : Int)] _ rfl).alloc (Obj.cells #[.int .u64 0, .int .u64 0, .int .u64 0, .int .u64 0, .int .u64 0, .int .u64 0, .int .u64 0, .int .u64 0] 118))
    rw [World.size_alloc] at h
    exact h
  have hC : Bx W0 (w.heap.size + 2) 118 [.int .u64 0, .int .u64 0, .int .u64 0, .int .u64 0, .int .u64 0, .int .u64 0, .int .u64 0, .int .u64 0] := by
    rw [← hW0]
    have h := (Bx.new ((w.alloc (Obj.cells #[.int .u64 (dig (mont G.p.m x) 0 : Int), .int .u64 (dig (mont G.p.m x) 1 : Int), .int .u64 (dig (mont G.p.m x) 2 : Int), .int .u64 (dig (mont G.p.m x) 3 : Int), .int .u64 (dig (mont G.p.m y) 0 : Int), .int .u64 (dig (mont G.p.m y) 1 : Int), .int .u64 (dig (mont G.p.m y) 2 : Int), .int .u64 (dig (mont G.p.m y) 3 : Int)] 118)).alloc (Obj.cells #[.int .u64 (dig (mont G.p.m u) 0 : Int), .int .u64 (dig (mont G.p.m u) 1 : Int), .int .u64 (dig (mont G.p.m u) 2 : Int), .int .u64 (dig (mont G.p.m u) 3 : Int), .int .u64 (dig (mont G.p.m v) 0 : Int), .int .u64 (dig (mont G.p.m v) 1 : Int), .int .u64 (dig (mont G.p.m v) 2 : Int), .int .u64 (dig (mont G.p.m v) 3 : Int)] 118)) 118 [.int .u64 0, .int .u64 0, .int .u64 0, .int .u64 0, .int .u64 0, .int .u64 0, .int .u64 0, .int .u64 0] _ rfl)
    rw [World.size_alloc, World.size_alloc] at h
    exact h
  have hBW : Below w.heap.size w W0 := by rw [← hW0]; exact ((((Below.refl w.heap.size w).alloc (Nat.le_refl _) _).alloc (by simp) _).alloc (by simp; omega) _)
  clear hW0
  have hG0 := hG.up hBW
  have hgl := hG0.lt
  have ha_0 := hA.cell (i := 0) rfl
  have ha_1 := hA.cell (i := 1) rfl
  have ha_2 := hA.cell (i := 2) rfl
  have ha_3 := hA.cell (i := 3) rfl
  have ha_4 := hA.cell (i := 4) rfl
  have ha_5 := hA.cell (i := 5) rfl
  have ha_6 := hA.cell (i := 6) rfl
  have ha_7 := hA.cell (i := 7) rfl
  have hb_0 := hB.cell (i := 0) rfl
  have hb_1 := hB.cell (i := 1) rfl
  have hb_2 := hB.cell (i := 2) rfl
  have hb_3 := hB.cell (i := 3) rfl
  have hb_4 := hB.cell (i := 4) rfl
  have hb_5 := hB.cell (i := 5) rfl
  have hb_6 := hB.cell (i := 6) rfl
  have hb_7 := hB.cell (i := 7) rfl
  have hla := hA.lt
  have hlb := hB.lt
  have HC := Lib.hid hC
  have HBW := Lib.hid hBW
  clear hA hB hC hBW hG
  refine wp_region_otail 13 (by kernel_rfl) (by kernel_rfl) ?_
  simp only [List.take_succ_cons, List.take_zero, List.drop_succ_cons, List.drop_zero]
  have hova := fun (E : Over W0) o => E.cell (b := w.heap.size) o hla
  have hovb := fun (E : Over W0) o => E.cell (b := w.heap.size + 1) o hlb
  repeat (go_big_quiet_step (first | (go_at_call 108; exact calls_over (gTimes_any G OK.out gb _ _ _ (hG0.up (Over.h _))))))
  all_goals (try unfold elV limbV)
  repeat (go_big_quiet_step (first | (go_at_call 108; exact calls_over (gTimes_any G OK.out gb _ _ _ (hG0.up (Over.h _))))))
  all_goals (try unfold elV limbV)
  repeat (go_big_quiet_step (first | (go_at_call 108; exact calls_over (gTimes_any G OK.out gb _ _ _ (hG0.up (Over.h _))))))
  refine wpQuiet_nil ?_
  rintro _ ⟨E, rfl⟩
  have HZ := Lib.hid (HC.out.below E.h HC.out.lt)
  have HBB := Lib.hid (below_up HBW.out E.h)
  clear hova hovb
  generalize E.w = w3 at *
  have HS5 : Hid (Bx ((((((((w3.setCell ⟨w.heap.size + 2, 0, none⟩ (.int .u64 (dig (mont G.p.m (x * u)) 0 : Int))).setCell ⟨w.heap.size + 2, 1, none⟩ (.int .u64 (dig (mont G.p.m (x * u)) 1 : Int))).setCell ⟨w.heap.size + 2, 2, none⟩ (.int .u64 (dig (mont G.p.m (x * u)) 2 : Int))).setCell ⟨w.heap.size + 2, 3, none⟩ (.int .u64 (dig (mont G.p.m (x * u)) 3 : Int))).setCell ⟨w.heap.size + 2, 4, none⟩ (.int .u64 (dig (mont G.p.m (y * v)) 0 : Int))).setCell ⟨w.heap.size + 2, 5, none⟩ (.int .u64 (dig (mont G.p.m (y * v)) 1 : Int))).setCell ⟨w.heap.size + 2, 6, none⟩ (.int .u64 (dig (mont G.p.m (y * v)) 2 : Int))).setCell ⟨w.heap.size + 2, 7, none⟩ (.int .u64 (dig (mont G.p.m (y * v)) 3 : Int))) (w.heap.size + 2) 118 [.int .u64 (dig (mont G.p.m (x * u)) 0 : Int), .int .u64 (dig (mont G.p.m (x * u)) 1 : Int), .int .u64 (dig (mont G.p.m (x * u)) 2 : Int), .int .u64 (dig (mont G.p.m (x * u)) 3 : Int), .int .u64 (dig (mont G.p.m (y * v)) 0 : Int), .int .u64 (dig (mont G.p.m (y * v)) 1 : Int), .int .u64 (dig (mont G.p.m (y * v)) 2 : Int), .int .u64 (dig (mont G.p.m (y * v)) 3 : Int)]) := ((((((((HZ.out.set 0 (.int .u64 (dig (mont G.p.m (x * u)) 0 : Int))).set 1 (.int .u64 (dig (mont G.p.m (x * u)) 1 : Int))).set 2 (.int .u64 (dig (mont G.p.m (x * u)) 2 : Int))).set 3 (.int .u64 (dig (mont G.p.m (x * u)) 3 : Int))).set 4 (.int .u64 (dig (mont G.p.m (y * v)) 0 : Int))).set 5 (.int .u64 (dig (mont G.p.m (y * v)) 1 : Int))).set 6 (.int .u64 (dig (mont G.p.m (y * v)) 2 : Int))).set 7 (.int .u64 (dig (mont G.p.m (y * v)) 3 : Int)))
  have HB5 : Hid (Below w.heap.size w ((((((((w3.setCell ⟨w.heap.size + 2, 0, none⟩ (.int .u64 (dig (mont G.p.m (x * u)) 0 : Int))).setCell ⟨w.heap.size + 2, 1, none⟩ (.int .u64 (dig (mont G.p.m (x * u)) 1 : Int))).setCell ⟨w.heap.size + 2, 2, none⟩ (.int .u64 (dig (mont G.p.m (x * u)) 2 : Int))).setCell ⟨w.heap.size + 2, 3, none⟩ (.int .u64 (dig (mont G.p.m (x * u)) 3 : Int))).setCell ⟨w.heap.size + 2, 4, none⟩ (.int .u64 (dig (mont G.p.m (y * v)) 0 : Int))).setCell ⟨w.heap.size + 2, 5, none⟩ (.int .u64 (dig (mont G.p.m (y * v)) 1 : Int))).setCell ⟨w.heap.size + 2, 6, none⟩ (.int .u64 (dig (mont G.p.m (y * v)) 2 : Int))).setCell ⟨w.heap.size + 2, 7, none⟩ (.int .u64 (dig (mont G.p.m (y * v)) 3 : Int)))) := ((((((((HBB.out.setCell (show w.heap.size ≤ w.heap.size + 2 by omega) _).setCell (show w.heap.size ≤ w.heap.size + 2 by omega) _).setCell (show w.heap.size ≤ w.heap.size + 2 by omega) _).setCell (show w.heap.size ≤ w.heap.size + 2 by omega) _).setCell (show w.heap.size ≤ w.heap.size + 2 by omega) _).setCell (show w.heap.size ≤ w.heap.size + 2 by omega) _).setCell (show w.heap.size ≤ w.heap.size + 2 by omega) _).setCell (show w.heap.size ≤ w.heap.size + 2 by omega) _)
  have hz_0 := HZ.out.cell (i := 0) rfl
  have hz_1 := HZ.out.cell (i := 1) rfl
  have hz_2 := HZ.out.cell (i := 2) rfl
  have hz_3 := HZ.out.cell (i := 3) rfl
  have hz_4 := HZ.out.cell (i := 4) rfl
  have hz_5 := HZ.out.cell (i := 5) rfl
  have hz_6 := HZ.out.cell (i := 6) rfl
  have hz_7 := HZ.out.cell (i := 7) rfl
  have hzf_0 := HZ.out.frozen 0
  have hzf_1 := HZ.out.frozen 1
  have hzf_2 := HZ.out.frozen 2
  have hzf_3 := HZ.out.frozen 3
  have hzf_4 := HZ.out.frozen 4
  have hzf_5 := HZ.out.frozen 5
  have hzf_6 := HZ.out.frozen 6
  have hzf_7 := HZ.out.frozen 7
  go_wp2_with fail
  generalize ((((((((w3.setCell ⟨w.heap.size + 2, 0, none⟩ (.int .u64 (dig (mont G.p.m (x * u)) 0 : Int))).setCell ⟨w.heap.size + 2, 1, none⟩ (.int .u64 (dig (mont G.p.m (x * u)) 1 : Int))).setCell ⟨w.heap.size + 2, 2, none⟩ (.int .u64 (dig (mont G.p.m (x * u)) 2 : Int))).setCell ⟨w.heap.size + 2, 3, none⟩ (.int .u64 (dig (mont G.p.m (x * u)) 3 : Int))).setCell ⟨w.heap.size + 2, 4, none⟩ (.int .u64 (dig (mont G.p.m (y * v)) 0 : Int))).setCell ⟨w.heap.size + 2, 5, none⟩ (.int .u64 (dig (mont G.p.m (y * v)) 1 : Int))).setCell ⟨w.heap.size + 2, 6, none⟩ (.int .u64 (dig (mont G.p.m (y * v)) 2 : Int))).setCell ⟨w.heap.size + 2, 7, none⟩ (.int .u64 (dig (mont G.p.m (y * v)) 3 : Int))) = w5 at *
  clear hz_0 hz_1 hz_2 hz_3 hz_4 hz_5 hz_6 hz_7
  have hg_0 := HS5.out.cell (i := 0) rfl
  have hg_1 := HS5.out.cell (i := 1) rfl
  have hg_2 := HS5.out.cell (i := 2) rfl
  have hg_3 := HS5.out.cell (i := 3) rfl
  have hg_4 := HS5.out.cell (i := 4) rfl
  have hg_5 := HS5.out.cell (i := 5) rfl
  have hg_6 := HS5.out.cell (i := 6) rfl
  have hg_7 := HS5.out.cell (i := 7) rfl
  simp [bodyPost, results, Try.results87, go_sem, hg_0, hg_1, hg_2, hg_3, hg_4, hg_5, hg_6, hg_7]
  exact HB5.out

set_option maxRecDepth 100000 in
set_option maxHeartbeats 1000000 in
theorem nothing_any (G : GP) (ok : G.Ok) (gb k n : Nat) (w : World) (hG : GroupAt w gb G) :
    Calls Try.prog 88 #[boxV gb G k, scV G n] w (Gives (pairV G (2 ^ (n % G.q.m)) (k ^ (n % G.q.m))) w) := by
  have OK := Lib.hid ok
  clear ok
  unfold pairV boxV scV limbV Gives
  go_enter Try.func88, Try.ntmps88
  go_wp2_with fail
  obtain ⟨W0, hW0⟩ : ∃ W9 : World, (((w.alloc (Obj.cells #[.pointer (some ⟨gb, 0, none⟩), .int .u64 (dig (mont G.p.m k) 0 : Int), .int .u64 (dig (mont G.p.m k) 1 : Int), .int .u64 (dig (mont G.p.m k) 2 : Int), .int .u64 (dig (mont G.p.m k) 3 : Int)] 113)).alloc (Obj.cells #[.int .u64 (dig (mont G.q.m n) 0 : Int), .int .u64 (dig (mont G.q.m n) 1 : Int), .int .u64 (dig (mont G.q.m n) 2 : Int), .int .u64 (dig (mont G.q.m n) 3 : Int)] 91)).alloc (Obj.cells #[.int .u64 0, .int .u64 0, .int .u64 0, .int .u64 0, .int .u64 0, .int .u64 0, .int .u64 0, .int .u64 0] 118)) = W9 := ⟨_, rfl⟩
  rw [hW0]
  have hA : Bx W0 (w.heap.size) 113 [.pointer (some ⟨gb, 0, none⟩), .int .u64 (dig (mont G.p.m k) 0 : Int), .int .u64 (dig (mont G.p.m k) 1 : Int), .int .u64 (dig (mont G.p.m k) 2 : Int), .int .u64 (dig (mont G.p.m k) 3 : Int)] := by
    rw [← hW0]
    have h := (((Bx.new w 113 [.pointer (some ⟨gb, 0, none⟩), .int .u64 (dig (mont G.p.m k) 0 : Int), .int .u64 (dig (mont G.p.m k) 1 : Int), .int .u64 (dig (mont G.p.m k) 2 : Int), .int .u64 (dig (mont G.p.m k) 3 : Int)] _ rfl).alloc (Obj.cells #[.int .u64 (dig (mont G.q.m n) 0 : Int), .int .u64 (dig (mont G.q.m n) 1 : Int), .int .u64 (dig (mont G.q.m n) 2 : Int), .int .u64 (dig (mont G.q.m n) 3 : Int)] 91)).alloc (Obj.cells #[.int .u64 0, .int .u64 0, .int .u64 0, .int .u64 0, .int .u64 0, .int .u64 0, .int .u64 0, .int .u64 0] 118))
    exact h
  have hB : Bx W0 (w.heap.size + 1) 91 [.int .u64 (dig (mont G.q.m n) 0 : Int), .int .u64 (dig (mont G.q.m n) 1 : Int), .int .u64 (dig (mont G.q.m n) 2 : Int), .int .u64 (dig (mont G.q.m n) 3 : Int)] := by
    rw [← hW0]
    have h := ((Bx.new (w.alloc (Obj.cells #[.pointer (some ⟨gb, 0, none⟩), .int .u64 (dig (mont G.p.m k) 0 : Int), .int .u64 (dig (mont G.p.m k) 1 : Int), .int .u64 (dig (mont G.p.m k) 2 : Int), .int .u64 (dig (mont G.p.m k) 3 : Int)] 113)) 91 [.int .u64 (dig (mont G.q.m n) 0 : Int), .int .u64 (dig (mont G.q.m n) 1 : Int), .int .u64 (dig (mont G.q.m n) 2 : Int), .int .u64 (dig (mont G.q.m n) 3 : Int)] _ rfl).alloc (Obj.cells #[.int .u64 0, .int .u64 0, .int .u64 0, .int .u64 0, .int .u64 0, .int .u64 0, .int .u64 0, .int .u64 0] 118))
    rw [World.size_alloc] at h
    exact h
  have hC : Bx W0 (w.heap.size + 2) 118 [.int .u64 0, .int .u64 0, .int .u64 0, .int .u64 0, .int .u64 0, .int .u64 0, .int .u64 0, .int .u64 0] := by
    rw [← hW0]
    have h := (Bx.new ((w.alloc (Obj.cells #[.pointer (some ⟨gb, 0, none⟩), .int .u64 (dig (mont G.p.m k) 0 : Int), .int .u64 (dig (mont G.p.m k) 1 : Int), .int .u64 (dig (mont G.p.m k) 2 : Int), .int .u64 (dig (mont G.p.m k) 3 : Int)] 113)).alloc (Obj.cells #[.int .u64 (dig (mont G.q.m n) 0 : Int), .int .u64 (dig (mont G.q.m n) 1 : Int), .int .u64 (dig (mont G.q.m n) 2 : Int), .int .u64 (dig (mont G.q.m n) 3 : Int)] 91)) 118 [.int .u64 0, .int .u64 0, .int .u64 0, .int .u64 0, .int .u64 0, .int .u64 0, .int .u64 0, .int .u64 0] _ rfl)
    rw [World.size_alloc, World.size_alloc] at h
    exact h
  have hBW : Below w.heap.size w W0 := by rw [← hW0]; exact ((((Below.refl w.heap.size w).alloc (Nat.le_refl _) _).alloc (by simp) _).alloc (by simp; omega) _)
  clear hW0
  have hG0 := hG.up hBW
  have hgl := hG0.lt
  have ha_0 := hA.cell (i := 0) rfl
  have ha_1 := hA.cell (i := 1) rfl
  have ha_2 := hA.cell (i := 2) rfl
  have ha_3 := hA.cell (i := 3) rfl
  have ha_4 := hA.cell (i := 4) rfl
  have hb_0 := hB.cell (i := 0) rfl
  have hb_1 := hB.cell (i := 1) rfl
  have hb_2 := hB.cell (i := 2) rfl
  have hb_3 := hB.cell (i := 3) rfl
  have hla := hA.lt
  have hlb := hB.lt
  have HC := Lib.hid hC
  have HBW := Lib.hid hBW
  clear hA hB hC hBW hG
  refine wp_region_otail 11 (by kernel_rfl) (by kernel_rfl) ?_
  simp only [List.take_succ_cons, List.take_zero, List.drop_succ_cons, List.drop_zero]
  have hova := fun (E : Over W0) o => E.cell (b := w.heap.size) o hla
  have hovb := fun (E : Over W0) o => E.cell (b := w.heap.size + 1) o hlb
  repeat (go_big_quiet_step (first | (go_at_call 92; exact calls_over (gRaise_any G OK.out gb _ _ (hG0.up (Over.h _)))) | (go_at_call 109; exact calls_over (gPower_any G OK.out gb _ _ _ (hG0.up (Over.h _))))))
  all_goals (try unfold elV limbV)
  repeat (go_big_quiet_step (first | (go_at_call 92; exact calls_over (gRaise_any G OK.out gb _ _ (hG0.up (Over.h _)))) | (go_at_call 109; exact calls_over (gPower_any G OK.out gb _ _ _ (hG0.up (Over.h _))))))
  all_goals (try unfold elV limbV)
  repeat (go_big_quiet_step (first | (go_at_call 92; exact calls_over (gRaise_any G OK.out gb _ _ (hG0.up (Over.h _)))) | (go_at_call 109; exact calls_over (gPower_any G OK.out gb _ _ _ (hG0.up (Over.h _))))))
  refine wpQuiet_nil ?_
  rintro _ ⟨E, rfl⟩
  have HZ := Lib.hid (HC.out.below E.h HC.out.lt)
  have HBB := Lib.hid (below_up HBW.out E.h)
  clear hova hovb
  generalize E.w = w3 at *
  have HS5 : Hid (Bx ((((((((w3.setCell ⟨w.heap.size + 2, 0, none⟩ (.int .u64 (dig (mont G.p.m (2 ^ (n % G.q.m))) 0 : Int))).setCell ⟨w.heap.size + 2, 1, none⟩ (.int .u64 (dig (mont G.p.m (2 ^ (n % G.q.m))) 1 : Int))).setCell ⟨w.heap.size + 2, 2, none⟩ (.int .u64 (dig (mont G.p.m (2 ^ (n % G.q.m))) 2 : Int))).setCell ⟨w.heap.size + 2, 3, none⟩ (.int .u64 (dig (mont G.p.m (2 ^ (n % G.q.m))) 3 : Int))).setCell ⟨w.heap.size + 2, 4, none⟩ (.int .u64 (dig (mont G.p.m (k ^ (n % G.q.m))) 0 : Int))).setCell ⟨w.heap.size + 2, 5, none⟩ (.int .u64 (dig (mont G.p.m (k ^ (n % G.q.m))) 1 : Int))).setCell ⟨w.heap.size + 2, 6, none⟩ (.int .u64 (dig (mont G.p.m (k ^ (n % G.q.m))) 2 : Int))).setCell ⟨w.heap.size + 2, 7, none⟩ (.int .u64 (dig (mont G.p.m (k ^ (n % G.q.m))) 3 : Int))) (w.heap.size + 2) 118 [.int .u64 (dig (mont G.p.m (2 ^ (n % G.q.m))) 0 : Int), .int .u64 (dig (mont G.p.m (2 ^ (n % G.q.m))) 1 : Int), .int .u64 (dig (mont G.p.m (2 ^ (n % G.q.m))) 2 : Int), .int .u64 (dig (mont G.p.m (2 ^ (n % G.q.m))) 3 : Int), .int .u64 (dig (mont G.p.m (k ^ (n % G.q.m))) 0 : Int), .int .u64 (dig (mont G.p.m (k ^ (n % G.q.m))) 1 : Int), .int .u64 (dig (mont G.p.m (k ^ (n % G.q.m))) 2 : Int), .int .u64 (dig (mont G.p.m (k ^ (n % G.q.m))) 3 : Int)]) := ((((((((HZ.out.set 0 (.int .u64 (dig (mont G.p.m (2 ^ (n % G.q.m))) 0 : Int))).set 1 (.int .u64 (dig (mont G.p.m (2 ^ (n % G.q.m))) 1 : Int))).set 2 (.int .u64 (dig (mont G.p.m (2 ^ (n % G.q.m))) 2 : Int))).set 3 (.int .u64 (dig (mont G.p.m (2 ^ (n % G.q.m))) 3 : Int))).set 4 (.int .u64 (dig (mont G.p.m (k ^ (n % G.q.m))) 0 : Int))).set 5 (.int .u64 (dig (mont G.p.m (k ^ (n % G.q.m))) 1 : Int))).set 6 (.int .u64 (dig (mont G.p.m (k ^ (n % G.q.m))) 2 : Int))).set 7 (.int .u64 (dig (mont G.p.m (k ^ (n % G.q.m))) 3 : Int)))
  have HB5 : Hid (Below w.heap.size w ((((((((w3.setCell ⟨w.heap.size + 2, 0, none⟩ (.int .u64 (dig (mont G.p.m (2 ^ (n % G.q.m))) 0 : Int))).setCell ⟨w.heap.size + 2, 1, none⟩ (.int .u64 (dig (mont G.p.m (2 ^ (n % G.q.m))) 1 : Int))).setCell ⟨w.heap.size + 2, 2, none⟩ (.int .u64 (dig (mont G.p.m (2 ^ (n % G.q.m))) 2 : Int))).setCell ⟨w.heap.size + 2, 3, none⟩ (.int .u64 (dig (mont G.p.m (2 ^ (n % G.q.m))) 3 : Int))).setCell ⟨w.heap.size + 2, 4, none⟩ (.int .u64 (dig (mont G.p.m (k ^ (n % G.q.m))) 0 : Int))).setCell ⟨w.heap.size + 2, 5, none⟩ (.int .u64 (dig (mont G.p.m (k ^ (n % G.q.m))) 1 : Int))).setCell ⟨w.heap.size + 2, 6, none⟩ (.int .u64 (dig (mont G.p.m (k ^ (n % G.q.m))) 2 : Int))).setCell ⟨w.heap.size + 2, 7, none⟩ (.int .u64 (dig (mont G.p.m (k ^ (n % G.q.m))) 3 : Int)))) := ((((((((HBB.out.setCell (show w.heap.size ≤ w.heap.size + 2 by omega) _).setCell (show w.heap.size ≤ w.heap.size + 2 by omega) _).setCell (show w.heap.size ≤ w.heap.size + 2 by omega) _).setCell (show w.heap.size ≤ w.heap.size + 2 by omega) _).setCell (show w.heap.size ≤ w.heap.size + 2 by omega) _).setCell (show w.heap.size ≤ w.heap.size + 2 by omega) _).setCell (show w.heap.size ≤ w.heap.size + 2 by omega) _).setCell (show w.heap.size ≤ w.heap.size + 2 by omega) _)
  have hz_0 := HZ.out.cell (i := 0) rfl
  have hz_1 := HZ.out.cell (i := 1) rfl
  have hz_2 := HZ.out.cell (i := 2) rfl
  have hz_3 := HZ.out.cell (i := 3) rfl
  have hz_4 := HZ.out.cell (i := 4) rfl
  have hz_5 := HZ.out.cell (i := 5) rfl
  have hz_6 := HZ.out.cell (i := 6) rfl
  have hz_7 := HZ.out.cell (i := 7) rfl
  have hzf_0 := HZ.out.frozen 0
  have hzf_1 := HZ.out.frozen 1
  have hzf_2 := HZ.out.frozen 2
  have hzf_3 := HZ.out.frozen 3
  have hzf_4 := HZ.out.frozen 4
  have hzf_5 := HZ.out.frozen 5
  have hzf_6 := HZ.out.frozen 6
  have hzf_7 := HZ.out.frozen 7
  go_wp2_with fail
  generalize ((((((((w3.setCell ⟨w.heap.size + 2, 0, none⟩ (.int .u64 (dig (mont G.p.m (2 ^ (n % G.q.m))) 0 : Int))).setCell ⟨w.heap.size + 2, 1, none⟩ (.int .u64 (dig (mont G.p.m (2 ^ (n % G.q.m))) 1 : Int))).setCell ⟨w.heap.size + 2, 2, none⟩ (.int .u64 (dig (mont G.p.m (2 ^ (n % G.q.m))) 2 : Int))).setCell ⟨w.heap.size + 2, 3, none⟩ (.int .u64 (dig (mont G.p.m (2 ^ (n % G.q.m))) 3 : Int))).setCell ⟨w.heap.size + 2, 4, none⟩ (.int .u64 (dig (mont G.p.m (k ^ (n % G.q.m))) 0 : Int))).setCell ⟨w.heap.size + 2, 5, none⟩ (.int .u64 (dig (mont G.p.m (k ^ (n % G.q.m))) 1 : Int))).setCell ⟨w.heap.size + 2, 6, none⟩ (.int .u64 (dig (mont G.p.m (k ^ (n % G.q.m))) 2 : Int))).setCell ⟨w.heap.size + 2, 7, none⟩ (.int .u64 (dig (mont G.p.m (k ^ (n % G.q.m))) 3 : Int))) = w5 at *
  clear hz_0 hz_1 hz_2 hz_3 hz_4 hz_5 hz_6 hz_7
  have hg_0 := HS5.out.cell (i := 0) rfl
  have hg_1 := HS5.out.cell (i := 1) rfl
  have hg_2 := HS5.out.cell (i := 2) rfl
  have hg_3 := HS5.out.cell (i := 3) rfl
  have hg_4 := HS5.out.cell (i := 4) rfl
  have hg_5 := HS5.out.cell (i := 5) rfl
  have hg_6 := HS5.out.cell (i := 6) rfl
  have hg_7 := HS5.out.cell (i := 7) rfl
  simp [bodyPost, results, Try.results88, go_sem, hg_0, hg_1, hg_2, hg_3, hg_4, hg_5, hg_6, hg_7]
  exact HB5.out

set_option maxRecDepth 100000 in
set_option maxHeartbeats 1000000 in
theorem pairText_any (G : GP) (ok : G.Ok) (gb x y : Nat) (w : World) (hG : GroupAt w gb G) :
    Calls Try.prog 78 #[pairV G x y, .pointer (some ⟨gb, 0, none⟩)] w (Gives (ciphV (textS (lowN G x) G.size) (textS (lowN G y) G.size)) w) := by
  have OK := Lib.hid ok
  clear ok
  unfold pairV ciphV Gives
  go_enter Try.func78, Try.ntmps78
  go_wp2_with fail
  obtain ⟨W0, hW0⟩ : ∃ W9 : World, ((w.alloc (Obj.cells #[.int .u64 (dig (mont G.p.m x) 0 : Int), .int .u64 (dig (mont G.p.m x) 1 : Int), .int .u64 (dig (mont G.p.m x) 2 : Int), .int .u64 (dig (mont G.p.m x) 3 : Int), .int .u64 (dig (mont G.p.m y) 0 : Int), .int .u64 (dig (mont G.p.m y) 1 : Int), .int .u64 (dig (mont G.p.m y) 2 : Int), .int .u64 (dig (mont G.p.m y) 3 : Int)] 118)).alloc (Obj.cells #[.string ⟨#[]⟩, .string ⟨#[]⟩] 41)) = W9 := ⟨_, rfl⟩
  rw [hW0]
  have hA : Bx W0 (w.heap.size) 118 [.int .u64 (dig (mont G.p.m x) 0 : Int), .int .u64 (dig (mont G.p.m x) 1 : Int), .int .u64 (dig (mont G.p.m x) 2 : Int), .int .u64 (dig (mont G.p.m x) 3 : Int), .int .u64 (dig (mont G.p.m y) 0 : Int), .int .u64 (dig (mont G.p.m y) 1 : Int), .int .u64 (dig (mont G.p.m y) 2 : Int), .int .u64 (dig (mont G.p.m y) 3 : Int)] := by
    rw [← hW0]
    have h := ((Bx.new w 118 [.int .u64 (dig (mont G.p.m x) 0 : Int), .int .u64 (dig (mont G.p.m x) 1 : Int), .int .u64 (dig (mont G.p.m x) 2 : Int), .int .u64 (dig (mont G.p.m x) 3 : Int), .int .u64 (dig (mont G.p.m y) 0 : Int), .int .u64 (dig (mont G.p.m y) 1 : Int), .int .u64 (dig (mont G.p.m y) 2 : Int), .int .u64 (dig (mont G.p.m y) 3 : Int)] _ rfl).alloc (Obj.cells #[.string ⟨#[]⟩, .string ⟨#[]⟩] 41))
    exact h
  have hC : Bx W0 (w.heap.size + 1) 41 [.string ⟨#[]⟩, .string ⟨#[]⟩] := by
    rw [← hW0]
    have h := (Bx.new (w.alloc (Obj.cells #[.int .u64 (dig (mont G.p.m x) 0 : Int), .int .u64 (dig (mont G.p.m x) 1 : Int), .int .u64 (dig (mont G.p.m x) 2 : Int), .int .u64 (dig (mont G.p.m x) 3 : Int), .int .u64 (dig (mont G.p.m y) 0 : Int), .int .u64 (dig (mont G.p.m y) 1 : Int), .int .u64 (dig (mont G.p.m y) 2 : Int), .int .u64 (dig (mont G.p.m y) 3 : Int)] 118)) 41 [.string ⟨#[]⟩, .string ⟨#[]⟩] _ rfl)
    rw [World.size_alloc] at h
    exact h
  have hBW : Below w.heap.size w W0 := by rw [← hW0]; exact (((Below.refl w.heap.size w).alloc (Nat.le_refl _) _).alloc (by simp) _)
  clear hW0
  have hG0 := hG.up hBW
  have hgl := hG0.lt
  have ha_0 := hA.cell (i := 0) rfl
  have ha_1 := hA.cell (i := 1) rfl
  have ha_2 := hA.cell (i := 2) rfl
  have ha_3 := hA.cell (i := 3) rfl
  have ha_4 := hA.cell (i := 4) rfl
  have ha_5 := hA.cell (i := 5) rfl
  have ha_6 := hA.cell (i := 6) rfl
  have ha_7 := hA.cell (i := 7) rfl
  have hla := hA.lt
  have HC := Lib.hid hC
  have HBW := Lib.hid hBW
  clear hA hC hBW hG
  refine wp_region_otail 9 (by kernel_rfl) (by kernel_rfl) ?_
  simp only [List.take_succ_cons, List.take_zero, List.drop_succ_cons, List.drop_zero]
  have hova := fun (E : Over W0) o => E.cell (b := w.heap.size) o hla
  repeat (go_big_quiet_step (first | (go_at_call 89; exact calls_over (gText_any G OK.out gb _ _ (hG0.up (Over.h _))))))
  all_goals (try unfold elV limbV)
  repeat (go_big_quiet_step (first | (go_at_call 89; exact calls_over (gText_any G OK.out gb _ _ (hG0.up (Over.h _))))))
  all_goals (try unfold elV limbV)
  repeat (go_big_quiet_step (first | (go_at_call 89; exact calls_over (gText_any G OK.out gb _ _ (hG0.up (Over.h _))))))
  refine wpQuiet_nil ?_
  rintro _ ⟨E, rfl⟩
  have HZ := Lib.hid (HC.out.below E.h HC.out.lt)
  have HBB := Lib.hid (below_up HBW.out E.h)
  clear hova
  generalize E.w = w3 at *
  have HS5 : Hid (Bx ((w3.setCell ⟨w.heap.size + 1, 0, none⟩ (.string (textS (lowN G x) G.size))).setCell ⟨w.heap.size + 1, 1, none⟩ (.string (textS (lowN G y) G.size))) (w.heap.size + 1) 41 [.string (textS (lowN G x) G.size), .string (textS (lowN G y) G.size)]) := ((HZ.out.set 0 (.string (textS (lowN G x) G.size))).set 1 (.string (textS (lowN G y) G.size)))
  have HB5 : Hid (Below w.heap.size w ((w3.setCell ⟨w.heap.size + 1, 0, none⟩ (.string (textS (lowN G x) G.size))).setCell ⟨w.heap.size + 1, 1, none⟩ (.string (textS (lowN G y) G.size)))) := ((HBB.out.setCell (show w.heap.size ≤ w.heap.size + 1 by omega) _).setCell (show w.heap.size ≤ w.heap.size + 1 by omega) _)
  have hz_0 := HZ.out.cell (i := 0) rfl
  have hz_1 := HZ.out.cell (i := 1) rfl
  have hzf_0 := HZ.out.frozen 0
  have hzf_1 := HZ.out.frozen 1
  go_wp2_with fail
  generalize ((w3.setCell ⟨w.heap.size + 1, 0, none⟩ (.string (textS (lowN G x) G.size))).setCell ⟨w.heap.size + 1, 1, none⟩ (.string (textS (lowN G y) G.size))) = w5 at *
  clear hz_0 hz_1
  have hg_0 := HS5.out.cell (i := 0) rfl
  have hg_1 := HS5.out.cell (i := 1) rfl
  simp [bodyPost, results, Try.results78, go_sem, hg_0, hg_1]
  exact HB5.out

set_option maxRecDepth 100000 in
set_option maxHeartbeats 1000000 in
theorem shown_any (G : GP) (ok : G.Ok) (gb x y n : Nat) (w : World) (hG : GroupAt w gb G) :
    Calls Try.prog 90 #[pairV G x y, .pointer (some ⟨gb, 0, none⟩), scV G n] w (Gives (elV G (y * (x ^ (n % G.q.m)) ^ (G.p.m - 2))) w) := by
  have OK := Lib.hid ok
  clear ok
  unfold pairV scV elV limbV Gives
  go_enter Try.func90, Try.ntmps90
  go_wp2_with fail
  obtain ⟨W0, hW0⟩ : ∃ W9 : World, (((w.alloc (Obj.cells #[.int .u64 (dig (mont G.p.m x) 0 : Int), .int .u64 (dig (mont G.p.m x) 1 : Int), .int .u64 (dig (mont G.p.m x) 2 : Int), .int .u64 (dig (mont G.p.m x) 3 : Int), .int .u64 (dig (mont G.p.m y) 0 : Int), .int .u64 (dig (mont G.p.m y) 1 : Int), .int .u64 (dig (mont G.p.m y) 2 : Int), .int .u64 (dig (mont G.p.m y) 3 : Int)] 118)).alloc (Obj.cells #[.int .u64 (dig (mont G.q.m n) 0 : Int), .int .u64 (dig (mont G.q.m n) 1 : Int), .int .u64 (dig (mont G.q.m n) 2 : Int), .int .u64 (dig (mont G.q.m n) 3 : Int)] 91)).alloc (Obj.cells #[.int .u64 0, .int .u64 0, .int .u64 0, .int .u64 0] 111)) = W9 := ⟨_, rfl⟩
  rw [hW0]
  have hA : Bx W0 (w.heap.size) 118 [.int .u64 (dig (mont G.p.m x) 0 : Int), .int .u64 (dig (mont G.p.m x) 1 : Int), .int .u64 (dig (mont G.p.m x) 2 : Int), .int .u64 (dig (mont G.p.m x) 3 : Int), .int .u64 (dig (mont G.p.m y) 0 : Int), .int .u64 (dig (mont G.p.m y) 1 : Int), .int .u64 (dig (mont G.p.m y) 2 : Int), .int .u64 (dig (mont G.p.m y) 3 : Int)] := by
    rw [← hW0]
    have h := (((Bx.new w 118 [.int .u64 (dig (mont G.p.m x) 0 : Int), .int .u64 (dig (mont G.p.m x) 1 : Int), .int .u64 (dig (mont G.p.m x) 2 : Int), .int .u64 (dig (mont G.p.m x) 3 : Int), .int .u64 (dig (mont G.p.m y) 0 : Int), .int .u64 (dig (mont G.p.m y) 1 : Int), .int .u64 (dig (mont G.p.m y) 2 : Int), .int .u64 (dig (mont G.p.m y) 3 : Int)] _ rfl).alloc (Obj.cells #[.int .u64 (dig (mont G.q.m n) 0 : Int), .int .u64 (dig (mont G.q.m n) 1 : Int), .int .u64 (dig (mont G.q.m n) 2 : Int), .int .u64 (dig (mont G.q.m n) 3 : Int)] 91)).alloc (Obj.cells #[.int .u64 0, .int .u64 0, .int .u64 0, .int .u64 0] 111))
    exact h
  have hB : Bx W0 (w.heap.size + 1) 91 [.int .u64 (dig (mont G.q.m n) 0 : Int), .int .u64 (dig (mont G.q.m n) 1 : Int), .int .u64 (dig (mont G.q.m n) 2 : Int), .int .u64 (dig (mont G.q.m n) 3 : Int)] := by
    rw [← hW0]
    have h := ((Bx.new (w.alloc (Obj.cells #[.int .u64 (dig (mont G.p.m x) 0 : Int), .int .u64 (dig (mont G.p.m x) 1 : Int), .int .u64 (dig (mont G.p.m x) 2 : Int), .int .u64 (dig (mont G.p.m x) 3 : Int), .int .u64 (dig (mont G.p.m y) 0 : Int), .int .u64 (dig (mont G.p.m y) 1 : Int), .int .u64 (dig (mont G.p.m y) 2 : Int), .int .u64 (dig (mont G.p.m y) 3 : Int)] 118)) 91 [.int .u64 (dig (mont G.q.m n) 0 : Int), .int .u64 (dig (mont G.q.m n) 1 : Int), .int .u64 (dig (mont G.q.m n) 2 : Int), .int .u64 (dig (mont G.q.m n) 3 : Int)] _ rfl).alloc (Obj.cells #[.int .u64 0, .int .u64 0, .int .u64 0, .int .u64 0] 111))
    rw [World.size_alloc] at h
    exact h
  have hC : Bx W0 (w.heap.size + 2) 111 [.int .u64 0, .int .u64 0, .int .u64 0, .int .u64 0] := by
    rw [← hW0]
    have h := (Bx.new ((w.alloc (Obj.cells #[.int .u64 (dig (mont G.p.m x) 0 : Int), .int .u64 (dig (mont G.p.m x) 1 : Int), .int .u64 (dig (mont G.p.m x) 2 : Int), .int .u64 (dig (mont G.p.m x) 3 : Int), .int .u64 (dig (mont G.p.m y) 0 : Int), .int .u64 (dig (mont G.p.m y) 1 : Int), .int .u64 (dig (mont G.p.m y) 2 : Int), .int .u64 (dig (mont G.p.m y) 3 : Int)] 118)).alloc (Obj.cells #[.int .u64 (dig (mont G.q.m n) 0 : Int), .int .u64 (dig (mont G.q.m n) 1 : Int), .int .u64 (dig (mont G.q.m n) 2 : Int), .int .u64 (dig (mont G.q.m n) 3 : Int)] 91)) 111 [.int .u64 0, .int .u64 0, .int .u64 0, .int .u64 0] _ rfl)
    rw [World.size_alloc, World.size_alloc] at h
    exact h
  have hBW : Below w.heap.size w W0 := by rw [← hW0]; exact ((((Below.refl w.heap.size w).alloc (Nat.le_refl _) _).alloc (by simp) _).alloc (by simp; omega) _)
  clear hW0
  have hG0 := hG.up hBW
  have hgl := hG0.lt
  have ha_0 := hA.cell (i := 0) rfl
  have ha_1 := hA.cell (i := 1) rfl
  have ha_2 := hA.cell (i := 2) rfl
  have ha_3 := hA.cell (i := 3) rfl
  have ha_4 := hA.cell (i := 4) rfl
  have ha_5 := hA.cell (i := 5) rfl
  have ha_6 := hA.cell (i := 6) rfl
  have ha_7 := hA.cell (i := 7) rfl
  have hb_0 := hB.cell (i := 0) rfl
  have hb_1 := hB.cell (i := 1) rfl
  have hb_2 := hB.cell (i := 2) rfl
  have hb_3 := hB.cell (i := 3) rfl
  have hla := hA.lt
  have hlb := hB.lt
  have HC := Lib.hid hC
  have HBW := Lib.hid hBW
  clear hA hB hC hBW hG
  refine wp_region_otail 11 (by kernel_rfl) (by kernel_rfl) ?_
  simp only [List.take_succ_cons, List.take_zero, List.drop_succ_cons, List.drop_zero]
  have hova := fun (E : Over W0) o => E.cell (b := w.heap.size) o hla
  have hovb := fun (E : Over W0) o => E.cell (b := w.heap.size + 1) o hlb
  repeat (go_big_quiet_step (first | (go_at_call 109; exact calls_over (gPower_any G OK.out gb _ _ _ (hG0.up (Over.h _)))) | (go_at_call 147; exact calls_over (gUnder_any G OK.out gb _ _ (hG0.up (Over.h _)))) | (go_at_call 108; exact calls_over (gTimes_any G OK.out gb _ _ _ (hG0.up (Over.h _))))))
  all_goals (try unfold elV limbV)
  repeat (go_big_quiet_step (first | (go_at_call 109; exact calls_over (gPower_any G OK.out gb _ _ _ (hG0.up (Over.h _)))) | (go_at_call 147; exact calls_over (gUnder_any G OK.out gb _ _ (hG0.up (Over.h _)))) | (go_at_call 108; exact calls_over (gTimes_any G OK.out gb _ _ _ (hG0.up (Over.h _))))))
  all_goals (try unfold elV limbV)
  repeat (go_big_quiet_step (first | (go_at_call 109; exact calls_over (gPower_any G OK.out gb _ _ _ (hG0.up (Over.h _)))) | (go_at_call 147; exact calls_over (gUnder_any G OK.out gb _ _ (hG0.up (Over.h _)))) | (go_at_call 108; exact calls_over (gTimes_any G OK.out gb _ _ _ (hG0.up (Over.h _))))))
  refine wpQuiet_nil ?_
  rintro _ ⟨E, rfl⟩
  have HZ := Lib.hid (HC.out.below E.h HC.out.lt)
  have HBB := Lib.hid (below_up HBW.out E.h)
  clear hova hovb
  generalize E.w = w3 at *
  have HS5 : Hid (Bx ((((w3.setCell ⟨w.heap.size + 2, 0, none⟩ (.int .u64 (dig (mont G.p.m (y * (x ^ (n % G.q.m)) ^ (G.p.m - 2))) 0 : Int))).setCell ⟨w.heap.size + 2, 1, none⟩ (.int .u64 (dig (mont G.p.m (y * (x ^ (n % G.q.m)) ^ (G.p.m - 2))) 1 : Int))).setCell ⟨w.heap.size + 2, 2, none⟩ (.int .u64 (dig (mont G.p.m (y * (x ^ (n % G.q.m)) ^ (G.p.m - 2))) 2 : Int))).setCell ⟨w.heap.size + 2, 3, none⟩ (.int .u64 (dig (mont G.p.m (y * (x ^ (n % G.q.m)) ^ (G.p.m - 2))) 3 : Int))) (w.heap.size + 2) 111 [.int .u64 (dig (mont G.p.m (y * (x ^ (n % G.q.m)) ^ (G.p.m - 2))) 0 : Int), .int .u64 (dig (mont G.p.m (y * (x ^ (n % G.q.m)) ^ (G.p.m - 2))) 1 : Int), .int .u64 (dig (mont G.p.m (y * (x ^ (n % G.q.m)) ^ (G.p.m - 2))) 2 : Int), .int .u64 (dig (mont G.p.m (y * (x ^ (n % G.q.m)) ^ (G.p.m - 2))) 3 : Int)]) := ((((HZ.out.set 0 (.int .u64 (dig (mont G.p.m (y * (x ^ (n % G.q.m)) ^ (G.p.m - 2))) 0 : Int))).set 1 (.int .u64 (dig (mont G.p.m (y * (x ^ (n % G.q.m)) ^ (G.p.m - 2))) 1 : Int))).set 2 (.int .u64 (dig (mont G.p.m (y * (x ^ (n % G.q.m)) ^ (G.p.m - 2))) 2 : Int))).set 3 (.int .u64 (dig (mont G.p.m (y * (x ^ (n % G.q.m)) ^ (G.p.m - 2))) 3 : Int)))
  have HB5 : Hid (Below w.heap.size w ((((w3.setCell ⟨w.heap.size + 2, 0, none⟩ (.int .u64 (dig (mont G.p.m (y * (x ^ (n % G.q.m)) ^ (G.p.m - 2))) 0 : Int))).setCell ⟨w.heap.size + 2, 1, none⟩ (.int .u64 (dig (mont G.p.m (y * (x ^ (n % G.q.m)) ^ (G.p.m - 2))) 1 : Int))).setCell ⟨w.heap.size + 2, 2, none⟩ (.int .u64 (dig (mont G.p.m (y * (x ^ (n % G.q.m)) ^ (G.p.m - 2))) 2 : Int))).setCell ⟨w.heap.size + 2, 3, none⟩ (.int .u64 (dig (mont G.p.m (y * (x ^ (n % G.q.m)) ^ (G.p.m - 2))) 3 : Int)))) := ((((HBB.out.setCell (show w.heap.size ≤ w.heap.size + 2 by omega) _).setCell (show w.heap.size ≤ w.heap.size + 2 by omega) _).setCell (show w.heap.size ≤ w.heap.size + 2 by omega) _).setCell (show w.heap.size ≤ w.heap.size + 2 by omega) _)
  have hz_0 := HZ.out.cell (i := 0) rfl
  have hz_1 := HZ.out.cell (i := 1) rfl
  have hz_2 := HZ.out.cell (i := 2) rfl
  have hz_3 := HZ.out.cell (i := 3) rfl
  have hzf_0 := HZ.out.frozen 0
  have hzf_1 := HZ.out.frozen 1
  have hzf_2 := HZ.out.frozen 2
  have hzf_3 := HZ.out.frozen 3
  go_wp2_with fail
  generalize ((((w3.setCell ⟨w.heap.size + 2, 0, none⟩ (.int .u64 (dig (mont G.p.m (y * (x ^ (n % G.q.m)) ^ (G.p.m - 2))) 0 : Int))).setCell ⟨w.heap.size + 2, 1, none⟩ (.int .u64 (dig (mont G.p.m (y * (x ^ (n % G.q.m)) ^ (G.p.m - 2))) 1 : Int))).setCell ⟨w.heap.size + 2, 2, none⟩ (.int .u64 (dig (mont G.p.m (y * (x ^ (n % G.q.m)) ^ (G.p.m - 2))) 2 : Int))).setCell ⟨w.heap.size + 2, 3, none⟩ (.int .u64 (dig (mont G.p.m (y * (x ^ (n % G.q.m)) ^ (G.p.m - 2))) 3 : Int))) = w5 at *
  clear hz_0 hz_1 hz_2 hz_3
  have hg_0 := HS5.out.cell (i := 0) rfl
  have hg_1 := HS5.out.cell (i := 1) rfl
  have hg_2 := HS5.out.cell (i := 2) rfl
  have hg_3 := HS5.out.cell (i := 3) rfl
  simp [bodyPost, results, Try.results90, go_sem, hg_0, hg_1, hg_2, hg_3]
  exact HB5.out

end Go.Proofs.Ytipgjookfdkciaa

/- Ciphers: what is hidden, what is read. No condition. -/
namespace Go.Proofs.Ytipgjookfdkciaa
open Go.RowKit

set_option maxRecDepth 100000 in
set_option maxHeartbeats 2000000 in
theorem hide_any (G : GP) (ok : G.Ok) (gb k x n : Nat) (w : World) (hG : GroupAt w gb G) :
    Calls Try.prog 77 #[boxV gb G k, scV G x, scV G n] w (Gives (pairV G (2 ^ (n % G.q.m)) (k ^ (n % G.q.m) * 2 ^ (x % G.q.m))) w) := by
  have OK := Lib.hid ok
  clear ok
  have hnt := fun W h => nothing_any G OK.out gb k n W h
  have HNT := Lib.hid hnt
  clear hnt
  unfold boxV scV limbV pairV Gives
  go_enter Try.func77, Try.ntmps77
  go_wp2_with fail
  obtain ⟨W0, hW0⟩ : ∃ W9 : World, ((((w.alloc (Obj.cells #[.pointer (some ⟨gb, 0, none⟩), .int .u64 (dig (mont G.p.m k) 0 : Int), .int .u64 (dig (mont G.p.m k) 1 : Int), .int .u64 (dig (mont G.p.m k) 2 : Int), .int .u64 (dig (mont G.p.m k) 3 : Int)] 113)).alloc (Obj.cells #[.int .u64 (dig (mont G.q.m x) 0 : Int), .int .u64 (dig (mont G.q.m x) 1 : Int), .int .u64 (dig (mont G.q.m x) 2 : Int), .int .u64 (dig (mont G.q.m x) 3 : Int)] 91)).alloc (Obj.cells #[.int .u64 (dig (mont G.q.m n) 0 : Int), .int .u64 (dig (mont G.q.m n) 1 : Int), .int .u64 (dig (mont G.q.m n) 2 : Int), .int .u64 (dig (mont G.q.m n) 3 : Int)] 91)).alloc (Obj.cells #[.int .u64 0, .int .u64 0, .int .u64 0, .int .u64 0, .int .u64 0, .int .u64 0, .int .u64 0, .int .u64 0] 118)) = W9 := ⟨_, rfl⟩
  rw [hW0]
  have hA : Bx W0 (w.heap.size) 113 [.pointer (some ⟨gb, 0, none⟩), .int .u64 (dig (mont G.p.m k) 0 : Int), .int .u64 (dig (mont G.p.m k) 1 : Int), .int .u64 (dig (mont G.p.m k) 2 : Int), .int .u64 (dig (mont G.p.m k) 3 : Int)] := by
    rw [← hW0]
    have h := ((((Bx.new w 113 [.pointer (some ⟨gb, 0, none⟩), .int .u64 (dig (mont G.p.m k) 0 : Int), .int .u64 (dig (mont G.p.m k) 1 : Int), .int .u64 (dig (mont G.p.m k) 2 : Int), .int .u64 (dig (mont G.p.m k) 3 : Int)] _ rfl).alloc (Obj.cells #[.int .u64 (dig (mont G.q.m x) 0 : Int), .int .u64 (dig (mont G.q.m x) 1 : Int), .int .u64 (dig (mont G.q.m x) 2 : Int), .int .u64 (dig (mont G.q.m x) 3 : Int)] 91)).alloc (Obj.cells #[.int .u64 (dig (mont G.q.m n) 0 : Int), .int .u64 (dig (mont G.q.m n) 1 : Int), .int .u64 (dig (mont G.q.m n) 2 : Int), .int .u64 (dig (mont G.q.m n) 3 : Int)] 91)).alloc (Obj.cells #[.int .u64 0, .int .u64 0, .int .u64 0, .int .u64 0, .int .u64 0, .int .u64 0, .int .u64 0, .int .u64 0] 118))
    exact h
  have hX : Bx W0 (w.heap.size + 1) 91 [.int .u64 (dig (mont G.q.m x) 0 : Int), .int .u64 (dig (mont G.q.m x) 1 : Int), .int .u64 (dig (mont G.q.m x) 2 : Int), .int .u64 (dig (mont G.q.m x) 3 : Int)] := by
    rw [← hW0]
    have h := (((Bx.new (w.alloc (Obj.cells #[.pointer (some ⟨gb, 0, none⟩), .int .u64 (dig (mont G.p.m k) 0 : Int), .int .u64 (dig (mont G.p.m k) 1 : Int), .int .u64 (dig (mont G.p.m k) 2 : Int), .int .u64 (dig (mont G.p.m k) 3 : Int)] 113)) 91 [.int .u64 (dig (mont G.q.m x) 0 : Int), .int .u64 (dig (mont G.q.m x) 1 : Int), .int .u64 (dig (mont G.q.m x) 2 : Int), .int .u64 (dig (mont G.q.m x) 3 : Int)] _ rfl).alloc (Obj.cells #[.int .u64 (dig (mont G.q.m n) 0 : Int), .int .u64 (dig (mont G.q.m n) 1 : Int), .int .u64 (dig (mont G.q.m n) 2 : Int), .int .u64 (dig (mont G.q.m n) 3 : Int)] 91)).alloc (Obj.cells #[.int .u64 0, .int .u64 0, .int .u64 0, .int .u64 0, .int .u64 0, .int .u64 0, .int .u64 0, .int .u64 0] 118))
    rw [World.size_alloc] at h
    exact h
  have hN : Bx W0 (w.heap.size + 2) 91 [.int .u64 (dig (mont G.q.m n) 0 : Int), .int .u64 (dig (mont G.q.m n) 1 : Int), .int .u64 (dig (mont G.q.m n) 2 : Int), .int .u64 (dig (mont G.q.m n) 3 : Int)] := by
    rw [← hW0]
    have h := ((Bx.new ((w.alloc (Obj.cells #[.pointer (some ⟨gb, 0, none⟩), .int .u64 (dig (mont G.p.m k) 0 : Int), .int .u64 (dig (mont G.p.m k) 1 : Int), .int .u64 (dig (mont G.p.m k) 2 : Int), .int .u64 (dig (mont G.p.m k) 3 : Int)] 113)).alloc (Obj.cells #[.int .u64 (dig (mont G.q.m x) 0 : Int), .int .u64 (dig (mont G.q.m x) 1 : Int), .int .u64 (dig (mont G.q.m x) 2 : Int), .int .u64 (dig (mont G.q.m x) 3 : Int)] 91)) 91 [.int .u64 (dig (mont G.q.m n) 0 : Int), .int .u64 (dig (mont G.q.m n) 1 : Int), .int .u64 (dig (mont G.q.m n) 2 : Int), .int .u64 (dig (mont G.q.m n) 3 : Int)] _ rfl).alloc (Obj.cells #[.int .u64 0, .int .u64 0, .int .u64 0, .int .u64 0, .int .u64 0, .int .u64 0, .int .u64 0, .int .u64 0] 118))
    rw [World.size_alloc, World.size_alloc] at h
    exact h
  have hC : Bx W0 (w.heap.size + 3) 118 [.int .u64 0, .int .u64 0, .int .u64 0, .int .u64 0, .int .u64 0, .int .u64 0, .int .u64 0, .int .u64 0] := by
    rw [← hW0]
    have h := (Bx.new (((w.alloc (Obj.cells #[.pointer (some ⟨gb, 0, none⟩), .int .u64 (dig (mont G.p.m k) 0 : Int), .int .u64 (dig (mont G.p.m k) 1 : Int), .int .u64 (dig (mont G.p.m k) 2 : Int), .int .u64 (dig (mont G.p.m k) 3 : Int)] 113)).alloc (Obj.cells #[.int .u64 (dig (mont G.q.m x) 0 : Int), .int .u64 (dig (mont G.q.m x) 1 : Int), .int .u64 (dig (mont G.q.m x) 2 : Int), .int .u64 (dig (mont G.q.m x) 3 : Int)] 91)).alloc (Obj.cells #[.int .u64 (dig (mont G.q.m n) 0 : Int), .int .u64 (dig (mont G.q.m n) 1 : Int), .int .u64 (dig (mont G.q.m n) 2 : Int), .int .u64 (dig (mont G.q.m n) 3 : Int)] 91)) 118 [.int .u64 0, .int .u64 0, .int .u64 0, .int .u64 0, .int .u64 0, .int .u64 0, .int .u64 0, .int .u64 0] _ rfl)
    rw [World.size_alloc, World.size_alloc, World.size_alloc] at h
    exact h
  have hBW : Below w.heap.size w W0 := by rw [← hW0]; exact (((((Below.refl w.heap.size w).alloc (Nat.le_refl _) _).alloc (by simp) _).alloc (by simp; omega) _).alloc (by simp; omega) _)
  clear hW0
  have hG0 := hG.up hBW
  have HG := Lib.hid hG0
  have HA := Lib.hid hA
  have HX := Lib.hid hX
  have HC := Lib.hid hC
  have HBW := Lib.hid hBW
  have ha_0 := hA.cell (i := 0) rfl
  have ha_1 := hA.cell (i := 1) rfl
  have ha_2 := hA.cell (i := 2) rfl
  have ha_3 := hA.cell (i := 3) rfl
  have ha_4 := hA.cell (i := 4) rfl
  have hx_0 := hX.cell (i := 0) rfl
  have hx_1 := hX.cell (i := 1) rfl
  have hx_2 := hX.cell (i := 2) rfl
  have hx_3 := hX.cell (i := 3) rfl
  have hn_0 := hN.cell (i := 0) rfl
  have hn_1 := hN.cell (i := 1) rfl
  have hn_2 := hN.cell (i := 2) rfl
  have hn_3 := hN.cell (i := 3) rfl
  clear hA hX hN hC hBW hG hG0
  go_wp2_with fail
  refine (HNT.out W0 HG.out).mono ?_
  rintro e w1 ⟨rfl, hb1⟩
  have HB1 := Lib.hid hb1
  clear hb1 ha_0 ha_1 ha_2 ha_3 ha_4 hx_0 hx_1 hx_2 hx_3 hn_0 hn_1 hn_2 hn_3
  unfold pairV
  have hlb : Below w1.heap.size w1 (w1.alloc (Obj.cells #[.int .u64 (dig (mont G.p.m (2 ^ (n % G.q.m))) 0 : Int), .int .u64 (dig (mont G.p.m (2 ^ (n % G.q.m))) 1 : Int), .int .u64 (dig (mont G.p.m (2 ^ (n % G.q.m))) 2 : Int), .int .u64 (dig (mont G.p.m (2 ^ (n % G.q.m))) 3 : Int), .int .u64 (dig (mont G.p.m (k ^ (n % G.q.m))) 0 : Int), .int .u64 (dig (mont G.p.m (k ^ (n % G.q.m))) 1 : Int), .int .u64 (dig (mont G.p.m (k ^ (n % G.q.m))) 2 : Int), .int .u64 (dig (mont G.p.m (k ^ (n % G.q.m))) 3 : Int)] 118)) := (Below.refl _ _).alloc (Nat.le_refl _) _
  have hlz : Bx (w1.alloc (Obj.cells #[.int .u64 (dig (mont G.p.m (2 ^ (n % G.q.m))) 0 : Int), .int .u64 (dig (mont G.p.m (2 ^ (n % G.q.m))) 1 : Int), .int .u64 (dig (mont G.p.m (2 ^ (n % G.q.m))) 2 : Int), .int .u64 (dig (mont G.p.m (2 ^ (n % G.q.m))) 3 : Int), .int .u64 (dig (mont G.p.m (k ^ (n % G.q.m))) 0 : Int), .int .u64 (dig (mont G.p.m (k ^ (n % G.q.m))) 1 : Int), .int .u64 (dig (mont G.p.m (k ^ (n % G.q.m))) 2 : Int), .int .u64 (dig (mont G.p.m (k ^ (n % G.q.m))) 3 : Int)] 118)) w1.heap.size 118 [.int .u64 (dig (mont G.p.m (2 ^ (n % G.q.m))) 0 : Int), .int .u64 (dig (mont G.p.m (2 ^ (n % G.q.m))) 1 : Int), .int .u64 (dig (mont G.p.m (2 ^ (n % G.q.m))) 2 : Int), .int .u64 (dig (mont G.p.m (2 ^ (n % G.q.m))) 3 : Int), .int .u64 (dig (mont G.p.m (k ^ (n % G.q.m))) 0 : Int), .int .u64 (dig (mont G.p.m (k ^ (n % G.q.m))) 1 : Int), .int .u64 (dig (mont G.p.m (k ^ (n % G.q.m))) 2 : Int), .int .u64 (dig (mont G.p.m (k ^ (n % G.q.m))) 3 : Int)] := Bx.new _ _ _ _ rfl
  obtain ⟨w2, hlw⟩ : ∃ W9 : World, (w1.alloc (Obj.cells #[.int .u64 (dig (mont G.p.m (2 ^ (n % G.q.m))) 0 : Int), .int .u64 (dig (mont G.p.m (2 ^ (n % G.q.m))) 1 : Int), .int .u64 (dig (mont G.p.m (2 ^ (n % G.q.m))) 2 : Int), .int .u64 (dig (mont G.p.m (2 ^ (n % G.q.m))) 3 : Int), .int .u64 (dig (mont G.p.m (k ^ (n % G.q.m))) 0 : Int), .int .u64 (dig (mont G.p.m (k ^ (n % G.q.m))) 1 : Int), .int .u64 (dig (mont G.p.m (k ^ (n % G.q.m))) 2 : Int), .int .u64 (dig (mont G.p.m (k ^ (n % G.q.m))) 3 : Int)] 118)) = W9 := ⟨_, rfl⟩
  rw [hlw] at hlb hlz
  have HLw2 := Lib.hid hlb
  have HXw2 := Lib.hid hlz
  clear hlb hlz
  have HB2 := Lib.hid (below_up HB1.out HLw2.out)
  have hA2 := HA.out.up HB2.out
  have hX2 := HX.out.up HB2.out
  have hG2 := HG.out.up HB2.out
  have hla := hA2.lt
  have hlx := hX2.lt
  have hlp := HXw2.out.lt
  have ha_0 := hA2.cell (i := 0) rfl
  have ha_1 := hA2.cell (i := 1) rfl
  have ha_2 := hA2.cell (i := 2) rfl
  have ha_3 := hA2.cell (i := 3) rfl
  have ha_4 := hA2.cell (i := 4) rfl
  have hx_0 := hX2.cell (i := 0) rfl
  have hx_1 := hX2.cell (i := 1) rfl
  have hx_2 := hX2.cell (i := 2) rfl
  have hx_3 := hX2.cell (i := 3) rfl
  have hp_0 := HXw2.out.cell (i := 0) rfl
  have hp_1 := HXw2.out.cell (i := 1) rfl
  have hp_2 := HXw2.out.cell (i := 2) rfl
  have hp_3 := HXw2.out.cell (i := 3) rfl
  have hp_4 := HXw2.out.cell (i := 4) rfl
  have hp_5 := HXw2.out.cell (i := 5) rfl
  have hp_6 := HXw2.out.cell (i := 6) rfl
  have hp_7 := HXw2.out.cell (i := 7) rfl
  clear hA2 hX2
  go_wp2_with fail
  refine wp_region_otail 10 (by kernel_rfl) (by kernel_rfl) ?_
  simp only [List.take_succ_cons, List.take_zero, List.drop_succ_cons, List.drop_zero]
  have hova := fun (E : Over w2) o => E.cell (b := w.heap.size) o hla
  have hovx := fun (E : Over w2) o => E.cell (b := w.heap.size + 1) o hlx
  have hovp := fun (E : Over w2) o => E.cell (b := w1.heap.size) o hlp
  repeat (go_big_quiet_step (first | (go_at_call 92; exact calls_over (gRaise_any G OK.out gb _ _ (hG2.up (Over.h _)))) | (go_at_call 108; exact calls_over (gTimes_any G OK.out gb _ _ _ (hG2.up (Over.h _))))))
  all_goals (try unfold elV limbV)
  repeat (go_big_quiet_step (first | (go_at_call 92; exact calls_over (gRaise_any G OK.out gb _ _ (hG2.up (Over.h _)))) | (go_at_call 108; exact calls_over (gTimes_any G OK.out gb _ _ _ (hG2.up (Over.h _))))))
  all_goals (try unfold elV limbV)
  repeat (go_big_quiet_step (first | (go_at_call 92; exact calls_over (gRaise_any G OK.out gb _ _ (hG2.up (Over.h _)))) | (go_at_call 108; exact calls_over (gTimes_any G OK.out gb _ _ _ (hG2.up (Over.h _))))))
  refine wpQuiet_nil ?_
  rintro _ ⟨E, rfl⟩
  have HC3 := Lib.hid ((HC.out.up HB2.out).below E.h ((HC.out.up HB2.out).lt))
  have HP3 := Lib.hid (HXw2.out.below E.h hlp)
  have HBB := Lib.hid (below_up (below_up HBW.out HB2.out) E.h)
  have hsz := HB1.out.size
  have hszw := HBW.out.size
  have hc0 := HC.out.lt
  clear hova hovx hovp hlw ha_0 ha_1 ha_2 ha_3 ha_4 hx_0 hx_1 hx_2 hx_3 hp_0 hp_1 hp_2 hp_3 hp_4 hp_5 hp_6 hp_7
  generalize E.w = w3 at *
  have hz_4 := HP3.out.cell (i := 4) rfl
  have hz_5 := HP3.out.cell (i := 5) rfl
  have hz_6 := HP3.out.cell (i := 6) rfl
  have hz_7 := HP3.out.cell (i := 7) rfl
  have hzf_4 := HP3.out.frozen 4
  have hzf_5 := HP3.out.frozen 5
  have hzf_6 := HP3.out.frozen 6
  have hzf_7 := HP3.out.frozen 7
  have hs5 : Bx ((((w3.setCell ⟨w1.heap.size, 4, none⟩ (.int .u64 (dig (mont G.p.m (k ^ (n % G.q.m) * 2 ^ (x % G.q.m))) 0 : Int))).setCell ⟨w1.heap.size, 5, none⟩ (.int .u64 (dig (mont G.p.m (k ^ (n % G.q.m) * 2 ^ (x % G.q.m))) 1 : Int))).setCell ⟨w1.heap.size, 6, none⟩ (.int .u64 (dig (mont G.p.m (k ^ (n % G.q.m) * 2 ^ (x % G.q.m))) 2 : Int))).setCell ⟨w1.heap.size, 7, none⟩ (.int .u64 (dig (mont G.p.m (k ^ (n % G.q.m) * 2 ^ (x % G.q.m))) 3 : Int))) (w1.heap.size) 118 [.int .u64 (dig (mont G.p.m (2 ^ (n % G.q.m))) 0 : Int), .int .u64 (dig (mont G.p.m (2 ^ (n % G.q.m))) 1 : Int), .int .u64 (dig (mont G.p.m (2 ^ (n % G.q.m))) 2 : Int), .int .u64 (dig (mont G.p.m (2 ^ (n % G.q.m))) 3 : Int), .int .u64 (dig (mont G.p.m (k ^ (n % G.q.m) * 2 ^ (x % G.q.m))) 0 : Int), .int .u64 (dig (mont G.p.m (k ^ (n % G.q.m) * 2 ^ (x % G.q.m))) 1 : Int), .int .u64 (dig (mont G.p.m (k ^ (n % G.q.m) * 2 ^ (x % G.q.m))) 2 : Int), .int .u64 (dig (mont G.p.m (k ^ (n % G.q.m) * 2 ^ (x % G.q.m))) 3 : Int)] := ((((HP3.out.set 4 (.int .u64 (dig (mont G.p.m (k ^ (n % G.q.m) * 2 ^ (x % G.q.m))) 0 : Int))).set 5 (.int .u64 (dig (mont G.p.m (k ^ (n % G.q.m) * 2 ^ (x % G.q.m))) 1 : Int))).set 6 (.int .u64 (dig (mont G.p.m (k ^ (n % G.q.m) * 2 ^ (x % G.q.m))) 2 : Int))).set 7 (.int .u64 (dig (mont G.p.m (k ^ (n % G.q.m) * 2 ^ (x % G.q.m))) 3 : Int)))
  have hb5 : Below w.heap.size w ((((w3.setCell ⟨w1.heap.size, 4, none⟩ (.int .u64 (dig (mont G.p.m (k ^ (n % G.q.m) * 2 ^ (x % G.q.m))) 0 : Int))).setCell ⟨w1.heap.size, 5, none⟩ (.int .u64 (dig (mont G.p.m (k ^ (n % G.q.m) * 2 ^ (x % G.q.m))) 1 : Int))).setCell ⟨w1.heap.size, 6, none⟩ (.int .u64 (dig (mont G.p.m (k ^ (n % G.q.m) * 2 ^ (x % G.q.m))) 2 : Int))).setCell ⟨w1.heap.size, 7, none⟩ (.int .u64 (dig (mont G.p.m (k ^ (n % G.q.m) * 2 ^ (x % G.q.m))) 3 : Int))) := ((((HBB.out.setCell (show w.heap.size ≤ w1.heap.size by omega) _).setCell (show w.heap.size ≤ w1.heap.size by omega) _).setCell (show w.heap.size ≤ w1.heap.size by omega) _).setCell (show w.heap.size ≤ w1.heap.size by omega) _)
  have ho50 := ((((HC3.out.other (show _ ≠ w1.heap.size by omega) 4 (.int .u64 (dig (mont G.p.m (k ^ (n % G.q.m) * 2 ^ (x % G.q.m))) 0 : Int))).other (show _ ≠ w1.heap.size by omega) 5 (.int .u64 (dig (mont G.p.m (k ^ (n % G.q.m) * 2 ^ (x % G.q.m))) 1 : Int))).other (show _ ≠ w1.heap.size by omega) 6 (.int .u64 (dig (mont G.p.m (k ^ (n % G.q.m) * 2 ^ (x % G.q.m))) 2 : Int))).other (show _ ≠ w1.heap.size by omega) 7 (.int .u64 (dig (mont G.p.m (k ^ (n % G.q.m) * 2 ^ (x % G.q.m))) 3 : Int)))
  obtain ⟨w5, hw5⟩ : ∃ W9 : World, ((((w3.setCell ⟨w1.heap.size, 4, none⟩ (.int .u64 (dig (mont G.p.m (k ^ (n % G.q.m) * 2 ^ (x % G.q.m))) 0 : Int))).setCell ⟨w1.heap.size, 5, none⟩ (.int .u64 (dig (mont G.p.m (k ^ (n % G.q.m) * 2 ^ (x % G.q.m))) 1 : Int))).setCell ⟨w1.heap.size, 6, none⟩ (.int .u64 (dig (mont G.p.m (k ^ (n % G.q.m) * 2 ^ (x % G.q.m))) 2 : Int))).setCell ⟨w1.heap.size, 7, none⟩ (.int .u64 (dig (mont G.p.m (k ^ (n % G.q.m) * 2 ^ (x % G.q.m))) 3 : Int))) = W9 := ⟨_, rfl⟩
  rw [hw5] at hs5 hb5 ho50
  have HSw5 := Lib.hid hs5
  have HBw5 := Lib.hid hb5
  have HC3w5 := Lib.hid ho50
  clear hs5 hb5 ho50
  have hr_0 := HSw5.out.cell (i := 0) rfl
  have hr_1 := HSw5.out.cell (i := 1) rfl
  have hr_2 := HSw5.out.cell (i := 2) rfl
  have hr_3 := HSw5.out.cell (i := 3) rfl
  have hr_4 := HSw5.out.cell (i := 4) rfl
  have hr_5 := HSw5.out.cell (i := 5) rfl
  have hr_6 := HSw5.out.cell (i := 6) rfl
  have hr_7 := HSw5.out.cell (i := 7) rfl
  have HS5 : Hid (Bx ((((((((w5.setCell ⟨w.heap.size + 3, 0, none⟩ (.int .u64 (dig (mont G.p.m (2 ^ (n % G.q.m))) 0 : Int))).setCell ⟨w.heap.size + 3, 1, none⟩ (.int .u64 (dig (mont G.p.m (2 ^ (n % G.q.m))) 1 : Int))).setCell ⟨w.heap.size + 3, 2, none⟩ (.int .u64 (dig (mont G.p.m (2 ^ (n % G.q.m))) 2 : Int))).setCell ⟨w.heap.size + 3, 3, none⟩ (.int .u64 (dig (mont G.p.m (2 ^ (n % G.q.m))) 3 : Int))).setCell ⟨w.heap.size + 3, 4, none⟩ (.int .u64 (dig (mont G.p.m (k ^ (n % G.q.m) * 2 ^ (x % G.q.m))) 0 : Int))).setCell ⟨w.heap.size + 3, 5, none⟩ (.int .u64 (dig (mont G.p.m (k ^ (n % G.q.m) * 2 ^ (x % G.q.m))) 1 : Int))).setCell ⟨w.heap.size + 3, 6, none⟩ (.int .u64 (dig (mont G.p.m (k ^ (n % G.q.m) * 2 ^ (x % G.q.m))) 2 : Int))).setCell ⟨w.heap.size + 3, 7, none⟩ (.int .u64 (dig (mont G.p.m (k ^ (n % G.q.m) * 2 ^ (x % G.q.m))) 3 : Int))) (w.heap.size + 3) 118 [.int .u64 (dig (mont G.p.m (2 ^ (n % G.q.m))) 0 : Int), .int .u64 (dig (mont G.p.m (2 ^ (n % G.q.m))) 1 : Int), .int .u64 (dig (mont G.p.m (2 ^ (n % G.q.m))) 2 : Int), .int .u64 (dig (mont G.p.m (2 ^ (n % G.q.m))) 3 : Int), .int .u64 (dig (mont G.p.m (k ^ (n % G.q.m) * 2 ^ (x % G.q.m))) 0 : Int), .int .u64 (dig (mont G.p.m (k ^ (n % G.q.m) * 2 ^ (x % G.q.m))) 1 : Int), .int .u64 (dig (mont G.p.m (k ^ (n % G.q.m) * 2 ^ (x % G.q.m))) 2 : Int), .int .u64 (dig (mont G.p.m (k ^ (n % G.q.m) * 2 ^ (x % G.q.m))) 3 : Int)]) := ((((((((HC3w5.out.set 0 (.int .u64 (dig (mont G.p.m (2 ^ (n % G.q.m))) 0 : Int))).set 1 (.int .u64 (dig (mont G.p.m (2 ^ (n % G.q.m))) 1 : Int))).set 2 (.int .u64 (dig (mont G.p.m (2 ^ (n % G.q.m))) 2 : Int))).set 3 (.int .u64 (dig (mont G.p.m (2 ^ (n % G.q.m))) 3 : Int))).set 4 (.int .u64 (dig (mont G.p.m (k ^ (n % G.q.m) * 2 ^ (x % G.q.m))) 0 : Int))).set 5 (.int .u64 (dig (mont G.p.m (k ^ (n % G.q.m) * 2 ^ (x % G.q.m))) 1 : Int))).set 6 (.int .u64 (dig (mont G.p.m (k ^ (n % G.q.m) * 2 ^ (x % G.q.m))) 2 : Int))).set 7 (.int .u64 (dig (mont G.p.m (k ^ (n % G.q.m) * 2 ^ (x % G.q.m))) 3 : Int)))
  have HB5 : Hid (Below w.heap.size w ((((((((w5.setCell ⟨w.heap.size + 3, 0, none⟩ (.int .u64 (dig (mont G.p.m (2 ^ (n % G.q.m))) 0 : Int))).setCell ⟨w.heap.size + 3, 1, none⟩ (.int .u64 (dig (mont G.p.m (2 ^ (n % G.q.m))) 1 : Int))).setCell ⟨w.heap.size + 3, 2, none⟩ (.int .u64 (dig (mont G.p.m (2 ^ (n % G.q.m))) 2 : Int))).setCell ⟨w.heap.size + 3, 3, none⟩ (.int .u64 (dig (mont G.p.m (2 ^ (n % G.q.m))) 3 : Int))).setCell ⟨w.heap.size + 3, 4, none⟩ (.int .u64 (dig (mont G.p.m (k ^ (n % G.q.m) * 2 ^ (x % G.q.m))) 0 : Int))).setCell ⟨w.heap.size + 3, 5, none⟩ (.int .u64 (dig (mont G.p.m (k ^ (n % G.q.m) * 2 ^ (x % G.q.m))) 1 : Int))).setCell ⟨w.heap.size + 3, 6, none⟩ (.int .u64 (dig (mont G.p.m (k ^ (n % G.q.m) * 2 ^ (x % G.q.m))) 2 : Int))).setCell ⟨w.heap.size + 3, 7, none⟩ (.int .u64 (dig (mont G.p.m (k ^ (n % G.q.m) * 2 ^ (x % G.q.m))) 3 : Int)))) := ((((((((HBw5.out.setCell (show w.heap.size ≤ w.heap.size + 3 by omega) _).setCell (show w.heap.size ≤ w.heap.size + 3 by omega) _).setCell (show w.heap.size ≤ w.heap.size + 3 by omega) _).setCell (show w.heap.size ≤ w.heap.size + 3 by omega) _).setCell (show w.heap.size ≤ w.heap.size + 3 by omega) _).setCell (show w.heap.size ≤ w.heap.size + 3 by omega) _).setCell (show w.heap.size ≤ w.heap.size + 3 by omega) _).setCell (show w.heap.size ≤ w.heap.size + 3 by omega) _)
  have hz_0 := HC3w5.out.cell (i := 0) rfl
  have hz_1 := HC3w5.out.cell (i := 1) rfl
  have hz_2 := HC3w5.out.cell (i := 2) rfl
  have hz_3 := HC3w5.out.cell (i := 3) rfl
  have hz_4 := HC3w5.out.cell (i := 4) rfl
  have hz_5 := HC3w5.out.cell (i := 5) rfl
  have hz_6 := HC3w5.out.cell (i := 6) rfl
  have hz_7 := HC3w5.out.cell (i := 7) rfl
  have hzf_0 := HC3w5.out.frozen 0
  have hzf_1 := HC3w5.out.frozen 1
  have hzf_2 := HC3w5.out.frozen 2
  have hzf_3 := HC3w5.out.frozen 3
  have hzf_4 := HC3w5.out.frozen 4
  have hzf_5 := HC3w5.out.frozen 5
  have hzf_6 := HC3w5.out.frozen 6
  have hzf_7 := HC3w5.out.frozen 7
  go_wp2_with fail
  generalize ((((((((w5.setCell ⟨w.heap.size + 3, 0, none⟩ (.int .u64 (dig (mont G.p.m (2 ^ (n % G.q.m))) 0 : Int))).setCell ⟨w.heap.size + 3, 1, none⟩ (.int .u64 (dig (mont G.p.m (2 ^ (n % G.q.m))) 1 : Int))).setCell ⟨w.heap.size + 3, 2, none⟩ (.int .u64 (dig (mont G.p.m (2 ^ (n % G.q.m))) 2 : Int))).setCell ⟨w.heap.size + 3, 3, none⟩ (.int .u64 (dig (mont G.p.m (2 ^ (n % G.q.m))) 3 : Int))).setCell ⟨w.heap.size + 3, 4, none⟩ (.int .u64 (dig (mont G.p.m (k ^ (n % G.q.m) * 2 ^ (x % G.q.m))) 0 : Int))).setCell ⟨w.heap.size + 3, 5, none⟩ (.int .u64 (dig (mont G.p.m (k ^ (n % G.q.m) * 2 ^ (x % G.q.m))) 1 : Int))).setCell ⟨w.heap.size + 3, 6, none⟩ (.int .u64 (dig (mont G.p.m (k ^ (n % G.q.m) * 2 ^ (x % G.q.m))) 2 : Int))).setCell ⟨w.heap.size + 3, 7, none⟩ (.int .u64 (dig (mont G.p.m (k ^ (n % G.q.m) * 2 ^ (x % G.q.m))) 3 : Int))) = w5 at *
  clear hz_0 hz_1 hz_2 hz_3 hz_4 hz_5 hz_6 hz_7
  have hg_0 := HS5.out.cell (i := 0) rfl
  have hg_1 := HS5.out.cell (i := 1) rfl
  have hg_2 := HS5.out.cell (i := 2) rfl
  have hg_3 := HS5.out.cell (i := 3) rfl
  have hg_4 := HS5.out.cell (i := 4) rfl
  have hg_5 := HS5.out.cell (i := 5) rfl
  have hg_6 := HS5.out.cell (i := 6) rfl
  have hg_7 := HS5.out.cell (i := 7) rfl
  simp [bodyPost, results, Try.results77, go_sem, hg_0, hg_1, hg_2, hg_3, hg_4, hg_5, hg_6, hg_7]
  exact HB5.out

def pairL (x y : Nat) : Value := .agg #[.int .u64 (dig x 0 : Int), .int .u64 (dig x 1 : Int), .int .u64 (dig x 2 : Int), .int .u64 (dig x 3 : Int), .int .u64 (dig y 0 : Int), .int .u64 (dig y 1 : Int), .int .u64 (dig y 2 : Int), .int .u64 (dig y 3 : Int)]
theorem pairL_V (G : GP) (x y : Nat) : pairL (mont G.p.m x) (mont G.p.m y) = pairV G x y := rfl

/-- What reading a pair answers. -/
def ReadP (b : Bool) (m n : Nat) (w : World) (e : Ending) (w' : World) : Prop := ∃ x y : Nat, e = .returned (.tuple #[pairL x y, .bool b]) ∧ Below w.heap.size w w' ∧ (b = true → x = m ∧ y = n)

set_option maxRecDepth 100000 in
set_option maxHeartbeats 2000000 in
theorem bread_any (G : GP) (ok : G.Ok) (gb : Nat) (a b : ByteArray) (ba bb : Bool) (hba : isEl G.q.m G.size a = ba) (hbb : isEl G.q.m G.size b = bb) (w : World) (hG : GroupAt w gb G) :
    Calls Try.prog 86 #[.pointer (some ⟨gb, 0, none⟩), ciphV a b] w (ReadP (ba && bb) (mont G.p.m (numOf a)) (mont G.p.m (numOf b)) w) := by
  have OK := Lib.hid ok
  have HA := Lib.hid hba
  have HBB := Lib.hid hbb
  clear ok hba hbb
  unfold ciphV
  go_enter Try.func86, Try.ntmps86
  go_wp2_with fail
  obtain ⟨W0, hW0⟩ : ∃ W9 : World, ((w.alloc (Obj.cells #[.string a, .string b] 41)).alloc (Obj.cells #[.int .u64 0, .int .u64 0, .int .u64 0, .int .u64 0, .int .u64 0, .int .u64 0, .int .u64 0, .int .u64 0] 118)) = W9 := ⟨_, rfl⟩
  rw [hW0]
  have hC : Bx W0 (w.heap.size) 41 [.string a, .string b] := by
    rw [← hW0]
    have h := ((Bx.new w 41 [.string a, .string b] _ rfl).alloc (Obj.cells #[.int .u64 0, .int .u64 0, .int .u64 0, .int .u64 0, .int .u64 0, .int .u64 0, .int .u64 0, .int .u64 0] 118))
    exact h
  have hP : Bx W0 (w.heap.size + 1) 118 [.int .u64 0, .int .u64 0, .int .u64 0, .int .u64 0, .int .u64 0, .int .u64 0, .int .u64 0, .int .u64 0] := by
    rw [← hW0]
    have h := (Bx.new (w.alloc (Obj.cells #[.string a, .string b] 41)) 118 [.int .u64 0, .int .u64 0, .int .u64 0, .int .u64 0, .int .u64 0, .int .u64 0, .int .u64 0, .int .u64 0] _ rfl)
    rw [World.size_alloc] at h
    exact h
  have hBW : Below w.heap.size w W0 := by rw [← hW0]; exact (((Below.refl w.heap.size w).alloc (Nat.le_refl _) _).alloc (by simp) _)
  clear hW0
  have HG := Lib.hid (hG.up hBW)
  have HC := Lib.hid hC
  have HP := Lib.hid hP
  have HBW := Lib.hid hBW
  have hc_0 := hC.cell (i := 0) rfl
  have hc_1 := hC.cell (i := 1) rfl
  clear hC hP hBW hG
  go_wp2_with fail
  refine (gElem_m G OK.out gb a ba HA.out W0 HG.out).mono ?_
  rintro e w1 ⟨x, rfl, hb1, hx⟩
  have HB1 := Lib.hid hb1
  have HX := Lib.hid hx
  clear hb1 hx hc_0 hc_1
  unfold limbV
  have hlb : Below w1.heap.size w1 (w1.alloc (Obj.cells #[.int .u64 (dig (x) 0 : Int), .int .u64 (dig (x) 1 : Int), .int .u64 (dig (x) 2 : Int), .int .u64 (dig (x) 3 : Int)] 111)) := (Below.refl _ _).alloc (Nat.le_refl _) _
  have hlz : Bx (w1.alloc (Obj.cells #[.int .u64 (dig (x) 0 : Int), .int .u64 (dig (x) 1 : Int), .int .u64 (dig (x) 2 : Int), .int .u64 (dig (x) 3 : Int)] 111)) w1.heap.size 111 [.int .u64 (dig (x) 0 : Int), .int .u64 (dig (x) 1 : Int), .int .u64 (dig (x) 2 : Int), .int .u64 (dig (x) 3 : Int)] := Bx.new _ _ _ _ rfl
  obtain ⟨w2, hlw⟩ : ∃ W9 : World, (w1.alloc (Obj.cells #[.int .u64 (dig (x) 0 : Int), .int .u64 (dig (x) 1 : Int), .int .u64 (dig (x) 2 : Int), .int .u64 (dig (x) 3 : Int)] 111)) = W9 := ⟨_, rfl⟩
  rw [hlw] at hlb hlz
  have HLw2 := Lib.hid hlb
  have HXw2 := Lib.hid hlz
  clear hlb hlz
  have HB2 := Lib.hid (below_up HB1.out HLw2.out)
  have hC2 := HC.out.up HB2.out
  have hc_0 := hC2.cell (i := 0) rfl
  have hc_1 := hC2.cell (i := 1) rfl
  clear hC2
  go_wp2_with fail
  refine (gElem_m G OK.out gb b bb HBB.out w2 (HG.out.up HB2.out)).mono ?_
  rintro e w3 ⟨y, rfl, hb3, hy⟩
  have HB3 := Lib.hid (below_up HB2.out hb3)
  have HX3 := Lib.hid (HXw2.out.up hb3)
  have HY := Lib.hid hy
  clear hb3 hy hc_0 hc_1 hlw
  unfold limbV
  have hlb : Below w3.heap.size w3 (w3.alloc (Obj.cells #[.int .u64 (dig (y) 0 : Int), .int .u64 (dig (y) 1 : Int), .int .u64 (dig (y) 2 : Int), .int .u64 (dig (y) 3 : Int)] 111)) := (Below.refl _ _).alloc (Nat.le_refl _) _
  have hlz : Bx (w3.alloc (Obj.cells #[.int .u64 (dig (y) 0 : Int), .int .u64 (dig (y) 1 : Int), .int .u64 (dig (y) 2 : Int), .int .u64 (dig (y) 3 : Int)] 111)) w3.heap.size 111 [.int .u64 (dig (y) 0 : Int), .int .u64 (dig (y) 1 : Int), .int .u64 (dig (y) 2 : Int), .int .u64 (dig (y) 3 : Int)] := Bx.new _ _ _ _ rfl
  obtain ⟨w4, hlw⟩ : ∃ W9 : World, (w3.alloc (Obj.cells #[.int .u64 (dig (y) 0 : Int), .int .u64 (dig (y) 1 : Int), .int .u64 (dig (y) 2 : Int), .int .u64 (dig (y) 3 : Int)] 111)) = W9 := ⟨_, rfl⟩
  rw [hlw] at hlb hlz
  have HLw4 := Lib.hid hlb
  have HXw4 := Lib.hid hlz
  clear hlb hlz
  have HB4 := Lib.hid (below_up HB3.out HLw4.out)
  have hX4 := HX3.out.up HLw4.out
  have hx_0 := hX4.cell (i := 0) rfl
  have hx_1 := hX4.cell (i := 1) rfl
  have hx_2 := hX4.cell (i := 2) rfl
  have hx_3 := hX4.cell (i := 3) rfl
  have hy_0 := HXw4.out.cell (i := 0) rfl
  have hy_1 := HXw4.out.cell (i := 1) rfl
  have hy_2 := HXw4.out.cell (i := 2) rfl
  have hy_3 := HXw4.out.cell (i := 3) rfl
  have hP4 := HP.out.up HB4.out
  have HP4 := Lib.hid hP4
  have HBL := Lib.hid (below_up HBW.out HB4.out)
  have hszw := HBW.out.size
  have HF : Hid (∀ w', Below w.heap.size w w' → ReadP (ba && bb) (mont G.p.m (numOf a)) (mont G.p.m (numOf b)) w (.returned (.tuple #[pairL x y, .bool (ba && bb)])) w') := fun w' h =>
    ⟨x, y, rfl, h, fun hb => by
      simp only [Bool.and_eq_true] at hb
      exact ⟨HX.out hb.1, HY.out hb.2⟩⟩
  clear hX4 hP4 HX HY HA HBB
  cases ba
  · have HF1 : Hid (∀ w', Below w.heap.size w w' → ReadP false (mont G.p.m (numOf a)) (mont G.p.m (numOf b)) w (.returned (.tuple #[pairL x y, .bool false])) w') := HF.out
    clear HF
    have HS5 : Hid (Bx ((((((((w4.setCell ⟨w.heap.size + 1, 0, none⟩ (.int .u64 (dig (x) 0 : Int))).setCell ⟨w.heap.size + 1, 1, none⟩ (.int .u64 (dig (x) 1 : Int))).setCell ⟨w.heap.size + 1, 2, none⟩ (.int .u64 (dig (x) 2 : Int))).setCell ⟨w.heap.size + 1, 3, none⟩ (.int .u64 (dig (x) 3 : Int))).setCell ⟨w.heap.size + 1, 4, none⟩ (.int .u64 (dig (y) 0 : Int))).setCell ⟨w.heap.size + 1, 5, none⟩ (.int .u64 (dig (y) 1 : Int))).setCell ⟨w.heap.size + 1, 6, none⟩ (.int .u64 (dig (y) 2 : Int))).setCell ⟨w.heap.size + 1, 7, none⟩ (.int .u64 (dig (y) 3 : Int))) (w.heap.size + 1) 118 [.int .u64 (dig (x) 0 : Int), .int .u64 (dig (x) 1 : Int), .int .u64 (dig (x) 2 : Int), .int .u64 (dig (x) 3 : Int), .int .u64 (dig (y) 0 : Int), .int .u64 (dig (y) 1 : Int), .int .u64 (dig (y) 2 : Int), .int .u64 (dig (y) 3 : Int)]) := ((((((((HP4.out.set 0 (.int .u64 (dig (x) 0 : Int))).set 1 (.int .u64 (dig (x) 1 : Int))).set 2 (.int .u64 (dig (x) 2 : Int))).set 3 (.int .u64 (dig (x) 3 : Int))).set 4 (.int .u64 (dig (y) 0 : Int))).set 5 (.int .u64 (dig (y) 1 : Int))).set 6 (.int .u64 (dig (y) 2 : Int))).set 7 (.int .u64 (dig (y) 3 : Int)))
    have HB5 : Hid (Below w.heap.size w ((((((((w4.setCell ⟨w.heap.size + 1, 0, none⟩ (.int .u64 (dig (x) 0 : Int))).setCell ⟨w.heap.size + 1, 1, none⟩ (.int .u64 (dig (x) 1 : Int))).setCell ⟨w.heap.size + 1, 2, none⟩ (.int .u64 (dig (x) 2 : Int))).setCell ⟨w.heap.size + 1, 3, none⟩ (.int .u64 (dig (x) 3 : Int))).setCell ⟨w.heap.size + 1, 4, none⟩ (.int .u64 (dig (y) 0 : Int))).setCell ⟨w.heap.size + 1, 5, none⟩ (.int .u64 (dig (y) 1 : Int))).setCell ⟨w.heap.size + 1, 6, none⟩ (.int .u64 (dig (y) 2 : Int))).setCell ⟨w.heap.size + 1, 7, none⟩ (.int .u64 (dig (y) 3 : Int)))) := ((((((((HBL.out.setCell (show w.heap.size ≤ w.heap.size + 1 by omega) _).setCell (show w.heap.size ≤ w.heap.size + 1 by omega) _).setCell (show w.heap.size ≤ w.heap.size + 1 by omega) _).setCell (show w.heap.size ≤ w.heap.size + 1 by omega) _).setCell (show w.heap.size ≤ w.heap.size + 1 by omega) _).setCell (show w.heap.size ≤ w.heap.size + 1 by omega) _).setCell (show w.heap.size ≤ w.heap.size + 1 by omega) _).setCell (show w.heap.size ≤ w.heap.size + 1 by omega) _)
    have hz_0 := HP4.out.cell (i := 0) rfl
    have hz_1 := HP4.out.cell (i := 1) rfl
    have hz_2 := HP4.out.cell (i := 2) rfl
    have hz_3 := HP4.out.cell (i := 3) rfl
    have hz_4 := HP4.out.cell (i := 4) rfl
    have hz_5 := HP4.out.cell (i := 5) rfl
    have hz_6 := HP4.out.cell (i := 6) rfl
    have hz_7 := HP4.out.cell (i := 7) rfl
    have hzf_0 := HP4.out.frozen 0
    have hzf_1 := HP4.out.frozen 1
    have hzf_2 := HP4.out.frozen 2
    have hzf_3 := HP4.out.frozen 3
    have hzf_4 := HP4.out.frozen 4
    have hzf_5 := HP4.out.frozen 5
    have hzf_6 := HP4.out.frozen 6
    have hzf_7 := HP4.out.frozen 7
    go_wp2_with fail
    generalize ((((((((w4.setCell ⟨w.heap.size + 1, 0, none⟩ (.int .u64 (dig (x) 0 : Int))).setCell ⟨w.heap.size + 1, 1, none⟩ (.int .u64 (dig (x) 1 : Int))).setCell ⟨w.heap.size + 1, 2, none⟩ (.int .u64 (dig (x) 2 : Int))).setCell ⟨w.heap.size + 1, 3, none⟩ (.int .u64 (dig (x) 3 : Int))).setCell ⟨w.heap.size + 1, 4, none⟩ (.int .u64 (dig (y) 0 : Int))).setCell ⟨w.heap.size + 1, 5, none⟩ (.int .u64 (dig (y) 1 : Int))).setCell ⟨w.heap.size + 1, 6, none⟩ (.int .u64 (dig (y) 2 : Int))).setCell ⟨w.heap.size + 1, 7, none⟩ (.int .u64 (dig (y) 3 : Int))) = w5 at *
    clear hz_0 hz_1 hz_2 hz_3 hz_4 hz_5 hz_6 hz_7
    have hg_0 := HS5.out.cell (i := 0) rfl
    have hg_1 := HS5.out.cell (i := 1) rfl
    have hg_2 := HS5.out.cell (i := 2) rfl
    have hg_3 := HS5.out.cell (i := 3) rfl
    have hg_4 := HS5.out.cell (i := 4) rfl
    have hg_5 := HS5.out.cell (i := 5) rfl
    have hg_6 := HS5.out.cell (i := 6) rfl
    have hg_7 := HS5.out.cell (i := 7) rfl
    simp [bodyPost, results, Try.results86, go_sem, hg_0, hg_1, hg_2, hg_3, hg_4, hg_5, hg_6, hg_7]
    exact HF1.out _ HB5.out
  · cases bb
    · have HF1 : Hid (∀ w', Below w.heap.size w w' → ReadP false (mont G.p.m (numOf a)) (mont G.p.m (numOf b)) w (.returned (.tuple #[pairL x y, .bool false])) w') := HF.out
      clear HF
      have HS5 : Hid (Bx ((((((((w4.setCell ⟨w.heap.size + 1, 0, none⟩ (.int .u64 (dig (x) 0 : Int))).setCell ⟨w.heap.size + 1, 1, none⟩ (.int .u64 (dig (x) 1 : Int))).setCell ⟨w.heap.size + 1, 2, none⟩ (.int .u64 (dig (x) 2 : Int))).setCell ⟨w.heap.size + 1, 3, none⟩ (.int .u64 (dig (x) 3 : Int))).setCell ⟨w.heap.size + 1, 4, none⟩ (.int .u64 (dig (y) 0 : Int))).setCell ⟨w.heap.size + 1, 5, none⟩ (.int .u64 (dig (y) 1 : Int))).setCell ⟨w.heap.size + 1, 6, none⟩ (.int .u64 (dig (y) 2 : Int))).setCell ⟨w.heap.size + 1, 7, none⟩ (.int .u64 (dig (y) 3 : Int))) (w.heap.size + 1) 118 [.int .u64 (dig (x) 0 : Int), .int .u64 (dig (x) 1 : Int), .int .u64 (dig (x) 2 : Int), .int .u64 (dig (x) 3 : Int), .int .u64 (dig (y) 0 : Int), .int .u64 (dig (y) 1 : Int), .int .u64 (dig (y) 2 : Int), .int .u64 (dig (y) 3 : Int)]) := ((((((((HP4.out.set 0 (.int .u64 (dig (x) 0 : Int))).set 1 (.int .u64 (dig (x) 1 : Int))).set 2 (.int .u64 (dig (x) 2 : Int))).set 3 (.int .u64 (dig (x) 3 : Int))).set 4 (.int .u64 (dig (y) 0 : Int))).set 5 (.int .u64 (dig (y) 1 : Int))).set 6 (.int .u64 (dig (y) 2 : Int))).set 7 (.int .u64 (dig (y) 3 : Int)))
      have HB5 : Hid (Below w.heap.size w ((((((((w4.setCell ⟨w.heap.size + 1, 0, none⟩ (.int .u64 (dig (x) 0 : Int))).setCell ⟨w.heap.size + 1, 1, none⟩ (.int .u64 (dig (x) 1 : Int))).setCell ⟨w.heap.size + 1, 2, none⟩ (.int .u64 (dig (x) 2 : Int))).setCell ⟨w.heap.size + 1, 3, none⟩ (.int .u64 (dig (x) 3 : Int))).setCell ⟨w.heap.size + 1, 4, none⟩ (.int .u64 (dig (y) 0 : Int))).setCell ⟨w.heap.size + 1, 5, none⟩ (.int .u64 (dig (y) 1 : Int))).setCell ⟨w.heap.size + 1, 6, none⟩ (.int .u64 (dig (y) 2 : Int))).setCell ⟨w.heap.size + 1, 7, none⟩ (.int .u64 (dig (y) 3 : Int)))) := ((((((((HBL.out.setCell (show w.heap.size ≤ w.heap.size + 1 by omega) _).setCell (show w.heap.size ≤ w.heap.size + 1 by omega) _).setCell (show w.heap.size ≤ w.heap.size + 1 by omega) _).setCell (show w.heap.size ≤ w.heap.size + 1 by omega) _).setCell (show w.heap.size ≤ w.heap.size + 1 by omega) _).setCell (show w.heap.size ≤ w.heap.size + 1 by omega) _).setCell (show w.heap.size ≤ w.heap.size + 1 by omega) _).setCell (show w.heap.size ≤ w.heap.size + 1 by omega) _)
      have hz_0 := HP4.out.cell (i := 0) rfl
      have hz_1 := HP4.out.cell (i := 1) rfl
      have hz_2 := HP4.out.cell (i := 2) rfl
      have hz_3 := HP4.out.cell (i := 3) rfl
      have hz_4 := HP4.out.cell (i := 4) rfl
      have hz_5 := HP4.out.cell (i := 5) rfl
      have hz_6 := HP4.out.cell (i := 6) rfl
      have hz_7 := HP4.out.cell (i := 7) rfl
      have hzf_0 := HP4.out.frozen 0
      have hzf_1 := HP4.out.frozen 1
      have hzf_2 := HP4.out.frozen 2
      have hzf_3 := HP4.out.frozen 3
      have hzf_4 := HP4.out.frozen 4
      have hzf_5 := HP4.out.frozen 5
      have hzf_6 := HP4.out.frozen 6
      have hzf_7 := HP4.out.frozen 7
      go_wp2_with fail
      generalize ((((((((w4.setCell ⟨w.heap.size + 1, 0, none⟩ (.int .u64 (dig (x) 0 : Int))).setCell ⟨w.heap.size + 1, 1, none⟩ (.int .u64 (dig (x) 1 : Int))).setCell ⟨w.heap.size + 1, 2, none⟩ (.int .u64 (dig (x) 2 : Int))).setCell ⟨w.heap.size + 1, 3, none⟩ (.int .u64 (dig (x) 3 : Int))).setCell ⟨w.heap.size + 1, 4, none⟩ (.int .u64 (dig (y) 0 : Int))).setCell ⟨w.heap.size + 1, 5, none⟩ (.int .u64 (dig (y) 1 : Int))).setCell ⟨w.heap.size + 1, 6, none⟩ (.int .u64 (dig (y) 2 : Int))).setCell ⟨w.heap.size + 1, 7, none⟩ (.int .u64 (dig (y) 3 : Int))) = w5 at *
      clear hz_0 hz_1 hz_2 hz_3 hz_4 hz_5 hz_6 hz_7
      have hg_0 := HS5.out.cell (i := 0) rfl
      have hg_1 := HS5.out.cell (i := 1) rfl
      have hg_2 := HS5.out.cell (i := 2) rfl
      have hg_3 := HS5.out.cell (i := 3) rfl
      have hg_4 := HS5.out.cell (i := 4) rfl
      have hg_5 := HS5.out.cell (i := 5) rfl
      have hg_6 := HS5.out.cell (i := 6) rfl
      have hg_7 := HS5.out.cell (i := 7) rfl
      simp [bodyPost, results, Try.results86, go_sem, hg_0, hg_1, hg_2, hg_3, hg_4, hg_5, hg_6, hg_7]
      exact HF1.out _ HB5.out
    · have HF1 : Hid (∀ w', Below w.heap.size w w' → ReadP true (mont G.p.m (numOf a)) (mont G.p.m (numOf b)) w (.returned (.tuple #[pairL x y, .bool true])) w') := HF.out
      clear HF
      have HS5 : Hid (Bx ((((((((w4.setCell ⟨w.heap.size + 1, 0, none⟩ (.int .u64 (dig (x) 0 : Int))).setCell ⟨w.heap.size + 1, 1, none⟩ (.int .u64 (dig (x) 1 : Int))).setCell ⟨w.heap.size + 1, 2, none⟩ (.int .u64 (dig (x) 2 : Int))).setCell ⟨w.heap.size + 1, 3, none⟩ (.int .u64 (dig (x) 3 : Int))).setCell ⟨w.heap.size + 1, 4, none⟩ (.int .u64 (dig (y) 0 : Int))).setCell ⟨w.heap.size + 1, 5, none⟩ (.int .u64 (dig (y) 1 : Int))).setCell ⟨w.heap.size + 1, 6, none⟩ (.int .u64 (dig (y) 2 : Int))).setCell ⟨w.heap.size + 1, 7, none⟩ (.int .u64 (dig (y) 3 : Int))) (w.heap.size + 1) 118 [.int .u64 (dig (x) 0 : Int), .int .u64 (dig (x) 1 : Int), .int .u64 (dig (x) 2 : Int), .int .u64 (dig (x) 3 : Int), .int .u64 (dig (y) 0 : Int), .int .u64 (dig (y) 1 : Int), .int .u64 (dig (y) 2 : Int), .int .u64 (dig (y) 3 : Int)]) := ((((((((HP4.out.set 0 (.int .u64 (dig (x) 0 : Int))).set 1 (.int .u64 (dig (x) 1 : Int))).set 2 (.int .u64 (dig (x) 2 : Int))).set 3 (.int .u64 (dig (x) 3 : Int))).set 4 (.int .u64 (dig (y) 0 : Int))).set 5 (.int .u64 (dig (y) 1 : Int))).set 6 (.int .u64 (dig (y) 2 : Int))).set 7 (.int .u64 (dig (y) 3 : Int)))
      have HB5 : Hid (Below w.heap.size w ((((((((w4.setCell ⟨w.heap.size + 1, 0, none⟩ (.int .u64 (dig (x) 0 : Int))).setCell ⟨w.heap.size + 1, 1, none⟩ (.int .u64 (dig (x) 1 : Int))).setCell ⟨w.heap.size + 1, 2, none⟩ (.int .u64 (dig (x) 2 : Int))).setCell ⟨w.heap.size + 1, 3, none⟩ (.int .u64 (dig (x) 3 : Int))).setCell ⟨w.heap.size + 1, 4, none⟩ (.int .u64 (dig (y) 0 : Int))).setCell ⟨w.heap.size + 1, 5, none⟩ (.int .u64 (dig (y) 1 : Int))).setCell ⟨w.heap.size + 1, 6, none⟩ (.int .u64 (dig (y) 2 : Int))).setCell ⟨w.heap.size + 1, 7, none⟩ (.int .u64 (dig (y) 3 : Int)))) := ((((((((HBL.out.setCell (show w.heap.size ≤ w.heap.size + 1 by omega) _).setCell (show w.heap.size ≤ w.heap.size + 1 by omega) _).setCell (show w.heap.size ≤ w.heap.size + 1 by omega) _).setCell (show w.heap.size ≤ w.heap.size + 1 by omega) _).setCell (show w.heap.size ≤ w.heap.size + 1 by omega) _).setCell (show w.heap.size ≤ w.heap.size + 1 by omega) _).setCell (show w.heap.size ≤ w.heap.size + 1 by omega) _).setCell (show w.heap.size ≤ w.heap.size + 1 by omega) _)
      have hz_0 := HP4.out.cell (i := 0) rfl
      have hz_1 := HP4.out.cell (i := 1) rfl
      have hz_2 := HP4.out.cell (i := 2) rfl
      have hz_3 := HP4.out.cell (i := 3) rfl
      have hz_4 := HP4.out.cell (i := 4) rfl
      have hz_5 := HP4.out.cell (i := 5) rfl
      have hz_6 := HP4.out.cell (i := 6) rfl
      have hz_7 := HP4.out.cell (i := 7) rfl
      have hzf_0 := HP4.out.frozen 0
      have hzf_1 := HP4.out.frozen 1
      have hzf_2 := HP4.out.frozen 2
      have hzf_3 := HP4.out.frozen 3
      have hzf_4 := HP4.out.frozen 4
      have hzf_5 := HP4.out.frozen 5
      have hzf_6 := HP4.out.frozen 6
      have hzf_7 := HP4.out.frozen 7
      go_wp2_with fail
      generalize ((((((((w4.setCell ⟨w.heap.size + 1, 0, none⟩ (.int .u64 (dig (x) 0 : Int))).setCell ⟨w.heap.size + 1, 1, none⟩ (.int .u64 (dig (x) 1 : Int))).setCell ⟨w.heap.size + 1, 2, none⟩ (.int .u64 (dig (x) 2 : Int))).setCell ⟨w.heap.size + 1, 3, none⟩ (.int .u64 (dig (x) 3 : Int))).setCell ⟨w.heap.size + 1, 4, none⟩ (.int .u64 (dig (y) 0 : Int))).setCell ⟨w.heap.size + 1, 5, none⟩ (.int .u64 (dig (y) 1 : Int))).setCell ⟨w.heap.size + 1, 6, none⟩ (.int .u64 (dig (y) 2 : Int))).setCell ⟨w.heap.size + 1, 7, none⟩ (.int .u64 (dig (y) 3 : Int))) = w5 at *
      clear hz_0 hz_1 hz_2 hz_3 hz_4 hz_5 hz_6 hz_7
      have hg_0 := HS5.out.cell (i := 0) rfl
      have hg_1 := HS5.out.cell (i := 1) rfl
      have hg_2 := HS5.out.cell (i := 2) rfl
      have hg_3 := HS5.out.cell (i := 3) rfl
      have hg_4 := HS5.out.cell (i := 4) rfl
      have hg_5 := HS5.out.cell (i := 5) rfl
      have hg_6 := HS5.out.cell (i := 6) rfl
      have hg_7 := HS5.out.cell (i := 7) rfl
      simp [bodyPost, results, Try.results86, go_sem, hg_0, hg_1, hg_2, hg_3, hg_4, hg_5, hg_6, hg_7]
      exact HF1.out _ HB5.out

end Go.Proofs.Ytipgjookfdkciaa

/- Encrypt, Renew, Decrypt of the package ballot. No condition. -/
namespace Go.Proofs.Ytipgjookfdkciaa
open Go.RowKit

theorem GroupAt.other {W : World} {gb c : Nat} {G : GP} (h : GroupAt W gb G) (hne : gb ≠ c) (i : Nat) (v : Value) : GroupAt (W.setCell ⟨c, i, none⟩ v) gb G := by
  have hc : ∀ o, (W.setCell ⟨c, i, none⟩ v).cell? ⟨gb, o, none⟩ = W.cell? ⟨gb, o, none⟩ := fun o => World.cell?_setCell_other _ _ _ _ (by intro e; exact hne (congrArg Addr.block e).symm)
  have hl : (W.setCell ⟨c, i, none⟩ v).heap.size = W.heap.size := by simp [World.setCell]
  exact ⟨by rw [hl]; exact h.lt, by rw [hc]; exact h.kind, by rw [hc]; exact h.size, ⟨by rw [hl]; exact h.p.lt, fun i x hx => by rw [hc]; exact h.p.cell i x hx⟩, ⟨by rw [hl]; exact h.q.lt, fun i x hx => by rw [hc]; exact h.q.cell i x hx⟩⟩

def box0 : Value := .agg #[.pointer none, .int .u64 0, .int .u64 0, .int .u64 0, .int .u64 0]

set_option maxRecDepth 100000 in
set_option maxHeartbeats 1000000 in
theorem bopen_none (k : Int) (hk : ¬ (1 ≤ k ∧ k ≤ 3)) (key : ByteArray) (w : World) : Calls Try.prog 76 #[.int .i64 k, .string key] w (Ans box0 1 w) := by
  unfold Ans box0
  go_enter Try.func76, Try.ntmps76
  go_wp2_with fail
  obtain ⟨W0, hW0⟩ : ∃ W9 : World, (w.alloc (Obj.cells #[.pointer none, .int .u64 0, .int .u64 0, .int .u64 0, .int .u64 0] 113)) = W9 := ⟨_, rfl⟩
  rw [hW0]
  have hC : Bx W0 (w.heap.size) 113 [.pointer none, .int .u64 0, .int .u64 0, .int .u64 0, .int .u64 0] := by
    rw [← hW0]
    have h := (Bx.new w 113 [.pointer none, .int .u64 0, .int .u64 0, .int .u64 0, .int .u64 0] _ rfl)
    exact h
  have hBW : Below w.heap.size w W0 := by rw [← hW0]; exact ((Below.refl w.heap.size w).alloc (Nat.le_refl _) _)
  clear hW0
  have HC := Lib.hid hC
  have HBW := Lib.hid hBW
  clear hC hBW
  go_wp2_with fail
  refine (of_none k hk W0).mono ?_
  rintro e w1 ⟨rfl, rfl⟩
  have HS5 : Hid (Bx (((((W0.setCell ⟨w.heap.size, 0, none⟩ (.pointer none)).setCell ⟨w.heap.size, 1, none⟩ (.int .u64 0)).setCell ⟨w.heap.size, 2, none⟩ (.int .u64 0)).setCell ⟨w.heap.size, 3, none⟩ (.int .u64 0)).setCell ⟨w.heap.size, 4, none⟩ (.int .u64 0)) (w.heap.size) 113 [.pointer none, .int .u64 0, .int .u64 0, .int .u64 0, .int .u64 0]) := (((((HC.out.set 0 (.pointer none)).set 1 (.int .u64 0)).set 2 (.int .u64 0)).set 3 (.int .u64 0)).set 4 (.int .u64 0))
  have HB5 : Hid (Below w.heap.size w (((((W0.setCell ⟨w.heap.size, 0, none⟩ (.pointer none)).setCell ⟨w.heap.size, 1, none⟩ (.int .u64 0)).setCell ⟨w.heap.size, 2, none⟩ (.int .u64 0)).setCell ⟨w.heap.size, 3, none⟩ (.int .u64 0)).setCell ⟨w.heap.size, 4, none⟩ (.int .u64 0))) := (((((HBW.out.setCell (show w.heap.size ≤ w.heap.size by omega) _).setCell (show w.heap.size ≤ w.heap.size by omega) _).setCell (show w.heap.size ≤ w.heap.size by omega) _).setCell (show w.heap.size ≤ w.heap.size by omega) _).setCell (show w.heap.size ≤ w.heap.size by omega) _)
  have hz_0 := HC.out.cell (i := 0) rfl
  have hz_1 := HC.out.cell (i := 1) rfl
  have hz_2 := HC.out.cell (i := 2) rfl
  have hz_3 := HC.out.cell (i := 3) rfl
  have hz_4 := HC.out.cell (i := 4) rfl
  have hzf_0 := HC.out.frozen 0
  have hzf_1 := HC.out.frozen 1
  have hzf_2 := HC.out.frozen 2
  have hzf_3 := HC.out.frozen 3
  have hzf_4 := HC.out.frozen 4
  go_wp2_with fail
  generalize (((((W0.setCell ⟨w.heap.size, 0, none⟩ (.pointer none)).setCell ⟨w.heap.size, 1, none⟩ (.int .u64 0)).setCell ⟨w.heap.size, 2, none⟩ (.int .u64 0)).setCell ⟨w.heap.size, 3, none⟩ (.int .u64 0)).setCell ⟨w.heap.size, 4, none⟩ (.int .u64 0)) = w5 at *
  clear hz_0 hz_1 hz_2 hz_3 hz_4
  have hg_0 := HS5.out.cell (i := 0) rfl
  have hg_1 := HS5.out.cell (i := 1) rfl
  have hg_2 := HS5.out.cell (i := 2) rfl
  have hg_3 := HS5.out.cell (i := 3) rfl
  have hg_4 := HS5.out.cell (i := 4) rfl
  simp [bodyPost, results, Try.results76, go_sem, hg_0, hg_1, hg_2, hg_3, hg_4]
  exact HB5.out

/-- A group that was opened with a key. -/
def OpenP (G : GP) (v : Nat → Value) (w : World) (e : Ending) (w' : World) : Prop := ∃ gb, e = .returned (.tuple #[v gb, .int .i64 0]) ∧ GroupAt w' gb G ∧ Below w.heap.size w w' ∧ w.heap.size ≤ gb

set_option maxRecDepth 100000 in
set_option maxHeartbeats 1000000 in
theorem bopen_no (k : Nat) (h1 : 1 ≤ k) (h3 : k ≤ 3) (key : ByteArray) (hk : isEl (grp k).q.m (grp k).size key = false) (w : World) : Calls Try.prog 76 #[.int .i64 (k : Int), .string key] w (Ans box0 7 w) := by
  have HK := Lib.hid hk
  clear hk
  unfold Ans box0
  go_enter Try.func76, Try.ntmps76
  go_wp2_with fail
  obtain ⟨W0, hW0⟩ : ∃ W9 : World, (w.alloc (Obj.cells #[.pointer none, .int .u64 0, .int .u64 0, .int .u64 0, .int .u64 0] 113)) = W9 := ⟨_, rfl⟩
  rw [hW0]
  have hC : Bx W0 (w.heap.size) 113 [.pointer none, .int .u64 0, .int .u64 0, .int .u64 0, .int .u64 0] := by
    rw [← hW0]
    have h := (Bx.new w 113 [.pointer none, .int .u64 0, .int .u64 0, .int .u64 0, .int .u64 0] _ rfl)
    exact h
  have hBW : Below w.heap.size w W0 := by rw [← hW0]; exact ((Below.refl w.heap.size w).alloc (Nat.le_refl _) _)
  clear hW0
  have HC := Lib.hid hC
  have HBW := Lib.hid hBW
  clear hC hBW
  go_wp2_with fail
  refine (of_some k h1 h3 W0).mono ?_
  rintro e w1 ⟨rfl, hg, hb1⟩
  have HG := Lib.hid hg
  have HB1 := Lib.hid hb1
  clear hg hb1
  go_wp2_with fail
  refine (gElem_m (grp k) (grp_ok k h1 h3) _ key false HK.out w1 HG.out).mono ?_
  rintro e w2 ⟨x, rfl, hb2, -⟩
  have HB2 := Lib.hid (below_up HB1.out hb2)
  clear hb2
  unfold limbV
  have hlb : Below w2.heap.size w2 (w2.alloc (Obj.cells #[.int .u64 (dig (x) 0 : Int), .int .u64 (dig (x) 1 : Int), .int .u64 (dig (x) 2 : Int), .int .u64 (dig (x) 3 : Int)] 111)) := (Below.refl _ _).alloc (Nat.le_refl _) _
  have hlz : Bx (w2.alloc (Obj.cells #[.int .u64 (dig (x) 0 : Int), .int .u64 (dig (x) 1 : Int), .int .u64 (dig (x) 2 : Int), .int .u64 (dig (x) 3 : Int)] 111)) w2.heap.size 111 [.int .u64 (dig (x) 0 : Int), .int .u64 (dig (x) 1 : Int), .int .u64 (dig (x) 2 : Int), .int .u64 (dig (x) 3 : Int)] := Bx.new _ _ _ _ rfl
  obtain ⟨w3, hlw⟩ : ∃ W9 : World, (w2.alloc (Obj.cells #[.int .u64 (dig (x) 0 : Int), .int .u64 (dig (x) 1 : Int), .int .u64 (dig (x) 2 : Int), .int .u64 (dig (x) 3 : Int)] 111)) = W9 := ⟨_, rfl⟩
  rw [hlw] at hlb hlz
  have HLw3 := Lib.hid hlb
  have HXw3 := Lib.hid hlz
  clear hlb hlz
  have HB3 := Lib.hid (below_up HB2.out HLw3.out)
  have HC3 := Lib.hid (HC.out.up HB3.out)
  have HBB := Lib.hid (below_up HBW.out HB3.out)
  have HS5 : Hid (Bx (((((w3.setCell ⟨w.heap.size, 0, none⟩ (.pointer none)).setCell ⟨w.heap.size, 1, none⟩ (.int .u64 0)).setCell ⟨w.heap.size, 2, none⟩ (.int .u64 0)).setCell ⟨w.heap.size, 3, none⟩ (.int .u64 0)).setCell ⟨w.heap.size, 4, none⟩ (.int .u64 0)) (w.heap.size) 113 [.pointer none, .int .u64 0, .int .u64 0, .int .u64 0, .int .u64 0]) := (((((HC3.out.set 0 (.pointer none)).set 1 (.int .u64 0)).set 2 (.int .u64 0)).set 3 (.int .u64 0)).set 4 (.int .u64 0))
  have HB5 : Hid (Below w.heap.size w (((((w3.setCell ⟨w.heap.size, 0, none⟩ (.pointer none)).setCell ⟨w.heap.size, 1, none⟩ (.int .u64 0)).setCell ⟨w.heap.size, 2, none⟩ (.int .u64 0)).setCell ⟨w.heap.size, 3, none⟩ (.int .u64 0)).setCell ⟨w.heap.size, 4, none⟩ (.int .u64 0))) := (((((HBB.out.setCell (show w.heap.size ≤ w.heap.size by omega) _).setCell (show w.heap.size ≤ w.heap.size by omega) _).setCell (show w.heap.size ≤ w.heap.size by omega) _).setCell (show w.heap.size ≤ w.heap.size by omega) _).setCell (show w.heap.size ≤ w.heap.size by omega) _)
  have hz_0 := HC3.out.cell (i := 0) rfl
  have hz_1 := HC3.out.cell (i := 1) rfl
  have hz_2 := HC3.out.cell (i := 2) rfl
  have hz_3 := HC3.out.cell (i := 3) rfl
  have hz_4 := HC3.out.cell (i := 4) rfl
  have hzf_0 := HC3.out.frozen 0
  have hzf_1 := HC3.out.frozen 1
  have hzf_2 := HC3.out.frozen 2
  have hzf_3 := HC3.out.frozen 3
  have hzf_4 := HC3.out.frozen 4
  go_wp2_with fail
  generalize (((((w3.setCell ⟨w.heap.size, 0, none⟩ (.pointer none)).setCell ⟨w.heap.size, 1, none⟩ (.int .u64 0)).setCell ⟨w.heap.size, 2, none⟩ (.int .u64 0)).setCell ⟨w.heap.size, 3, none⟩ (.int .u64 0)).setCell ⟨w.heap.size, 4, none⟩ (.int .u64 0)) = w5 at *
  clear hz_0 hz_1 hz_2 hz_3 hz_4
  have hg_0 := HS5.out.cell (i := 0) rfl
  have hg_1 := HS5.out.cell (i := 1) rfl
  have hg_2 := HS5.out.cell (i := 2) rfl
  have hg_3 := HS5.out.cell (i := 3) rfl
  have hg_4 := HS5.out.cell (i := 4) rfl
  simp [bodyPost, results, Try.results76, go_sem, hg_0, hg_1, hg_2, hg_3, hg_4]
  exact HB5.out

set_option maxRecDepth 100000 in
set_option maxHeartbeats 1000000 in
theorem bopen_yes (k : Nat) (h1 : 1 ≤ k) (h3 : k ≤ 3) (key : ByteArray) (hk : isEl (grp k).q.m (grp k).size key = true) (w : World) : Calls Try.prog 76 #[.int .i64 (k : Int), .string key] w (OpenP (grp k) (fun gb => boxV gb (grp k) (numOf key)) w) := by
  have HK := Lib.hid hk
  clear hk
  go_enter Try.func76, Try.ntmps76
  go_wp2_with fail
  obtain ⟨W0, hW0⟩ : ∃ W9 : World, (w.alloc (Obj.cells #[.pointer none, .int .u64 0, .int .u64 0, .int .u64 0, .int .u64 0] 113)) = W9 := ⟨_, rfl⟩
  rw [hW0]
  have hC : Bx W0 (w.heap.size) 113 [.pointer none, .int .u64 0, .int .u64 0, .int .u64 0, .int .u64 0] := by
    rw [← hW0]
    have h := (Bx.new w 113 [.pointer none, .int .u64 0, .int .u64 0, .int .u64 0, .int .u64 0] _ rfl)
    exact h
  have hBW : Below w.heap.size w W0 := by rw [← hW0]; exact ((Below.refl w.heap.size w).alloc (Nat.le_refl _) _)
  clear hW0
  have HC := Lib.hid hC
  have HBW := Lib.hid hBW
  clear hC hBW
  go_wp2_with fail
  refine (of_some k h1 h3 W0).mono ?_
  rintro e w1 ⟨rfl, hg, hb1⟩
  have HG := Lib.hid hg
  have HB1 := Lib.hid hb1
  clear hg hb1
  go_wp2_with fail
  refine (gElem_m (grp k) (grp_ok k h1 h3) _ key true HK.out w1 HG.out).mono ?_
  rintro e w2 ⟨x, rfl, hb2, hx⟩
  obtain rfl := hx rfl
  have HB2 := Lib.hid (below_up HB1.out hb2)
  have HG2 := Lib.hid (HG.out.up hb2)
  clear hb2
  unfold limbV
  have hlb : Below w2.heap.size w2 (w2.alloc (Obj.cells #[.int .u64 (dig (mont (grp k).p.m (numOf key)) 0 : Int), .int .u64 (dig (mont (grp k).p.m (numOf key)) 1 : Int), .int .u64 (dig (mont (grp k).p.m (numOf key)) 2 : Int), .int .u64 (dig (mont (grp k).p.m (numOf key)) 3 : Int)] 111)) := (Below.refl _ _).alloc (Nat.le_refl _) _
  have hlz : Bx (w2.alloc (Obj.cells #[.int .u64 (dig (mont (grp k).p.m (numOf key)) 0 : Int), .int .u64 (dig (mont (grp k).p.m (numOf key)) 1 : Int), .int .u64 (dig (mont (grp k).p.m (numOf key)) 2 : Int), .int .u64 (dig (mont (grp k).p.m (numOf key)) 3 : Int)] 111)) w2.heap.size 111 [.int .u64 (dig (mont (grp k).p.m (numOf key)) 0 : Int), .int .u64 (dig (mont (grp k).p.m (numOf key)) 1 : Int), .int .u64 (dig (mont (grp k).p.m (numOf key)) 2 : Int), .int .u64 (dig (mont (grp k).p.m (numOf key)) 3 : Int)] := Bx.new _ _ _ _ rfl
  obtain ⟨w3, hlw⟩ : ∃ W9 : World, (w2.alloc (Obj.cells #[.int .u64 (dig (mont (grp k).p.m (numOf key)) 0 : Int), .int .u64 (dig (mont (grp k).p.m (numOf key)) 1 : Int), .int .u64 (dig (mont (grp k).p.m (numOf key)) 2 : Int), .int .u64 (dig (mont (grp k).p.m (numOf key)) 3 : Int)] 111)) = W9 := ⟨_, rfl⟩
  rw [hlw] at hlb hlz
  have HLw3 := Lib.hid hlb
  have HXw3 := Lib.hid hlz
  clear hlb hlz
  have HB3 := Lib.hid (below_up HB2.out HLw3.out)
  have HC3 := Lib.hid (HC.out.up HB3.out)
  have HBB := Lib.hid (below_up HBW.out HB3.out)
  have HG3 := Lib.hid (HG2.out.up HLw3.out)
  have hszw := HBW.out.size
  have hc0 := HC.out.lt
  have HF : Hid (∀ w', Below w.heap.size w w' → GroupAt w' W0.heap.size (grp k) → OpenP (grp k) (fun gb => boxV gb (grp k) (numOf key)) w (.returned (.tuple #[boxV W0.heap.size (grp k) (numOf key), .int .i64 0])) w') := fun w' h hg => ⟨_, rfl, hg, h, hszw⟩
  have hx_0 := HXw3.out.cell (i := 0) rfl
  have hx_1 := HXw3.out.cell (i := 1) rfl
  have hx_2 := HXw3.out.cell (i := 2) rfl
  have hx_3 := HXw3.out.cell (i := 3) rfl
  have HG5 := Lib.hid (((((HG3.out.other (show _ ≠ w.heap.size by omega) 0 (.pointer (some ⟨W0.heap.size, 0, none⟩))).other (show _ ≠ w.heap.size by omega) 1 (.int .u64 (dig (mont (grp k).p.m (numOf key)) 0 : Int))).other (show _ ≠ w.heap.size by omega) 2 (.int .u64 (dig (mont (grp k).p.m (numOf key)) 1 : Int))).other (show _ ≠ w.heap.size by omega) 3 (.int .u64 (dig (mont (grp k).p.m (numOf key)) 2 : Int))).other (show _ ≠ w.heap.size by omega) 4 (.int .u64 (dig (mont (grp k).p.m (numOf key)) 3 : Int)))
  have HS5 : Hid (Bx (((((w3.setCell ⟨w.heap.size, 0, none⟩ (.pointer (some ⟨W0.heap.size, 0, none⟩))).setCell ⟨w.heap.size, 1, none⟩ (.int .u64 (dig (mont (grp k).p.m (numOf key)) 0 : Int))).setCell ⟨w.heap.size, 2, none⟩ (.int .u64 (dig (mont (grp k).p.m (numOf key)) 1 : Int))).setCell ⟨w.heap.size, 3, none⟩ (.int .u64 (dig (mont (grp k).p.m (numOf key)) 2 : Int))).setCell ⟨w.heap.size, 4, none⟩ (.int .u64 (dig (mont (grp k).p.m (numOf key)) 3 : Int))) (w.heap.size) 113 [.pointer (some ⟨W0.heap.size, 0, none⟩), .int .u64 (dig (mont (grp k).p.m (numOf key)) 0 : Int), .int .u64 (dig (mont (grp k).p.m (numOf key)) 1 : Int), .int .u64 (dig (mont (grp k).p.m (numOf key)) 2 : Int), .int .u64 (dig (mont (grp k).p.m (numOf key)) 3 : Int)]) := (((((HC3.out.set 0 (.pointer (some ⟨W0.heap.size, 0, none⟩))).set 1 (.int .u64 (dig (mont (grp k).p.m (numOf key)) 0 : Int))).set 2 (.int .u64 (dig (mont (grp k).p.m (numOf key)) 1 : Int))).set 3 (.int .u64 (dig (mont (grp k).p.m (numOf key)) 2 : Int))).set 4 (.int .u64 (dig (mont (grp k).p.m (numOf key)) 3 : Int)))
  have HB5 : Hid (Below w.heap.size w (((((w3.setCell ⟨w.heap.size, 0, none⟩ (.pointer (some ⟨W0.heap.size, 0, none⟩))).setCell ⟨w.heap.size, 1, none⟩ (.int .u64 (dig (mont (grp k).p.m (numOf key)) 0 : Int))).setCell ⟨w.heap.size, 2, none⟩ (.int .u64 (dig (mont (grp k).p.m (numOf key)) 1 : Int))).setCell ⟨w.heap.size, 3, none⟩ (.int .u64 (dig (mont (grp k).p.m (numOf key)) 2 : Int))).setCell ⟨w.heap.size, 4, none⟩ (.int .u64 (dig (mont (grp k).p.m (numOf key)) 3 : Int)))) := (((((HBB.out.setCell (show w.heap.size ≤ w.heap.size by omega) _).setCell (show w.heap.size ≤ w.heap.size by omega) _).setCell (show w.heap.size ≤ w.heap.size by omega) _).setCell (show w.heap.size ≤ w.heap.size by omega) _).setCell (show w.heap.size ≤ w.heap.size by omega) _)
  have hz_0 := HC3.out.cell (i := 0) rfl
  have hz_1 := HC3.out.cell (i := 1) rfl
  have hz_2 := HC3.out.cell (i := 2) rfl
  have hz_3 := HC3.out.cell (i := 3) rfl
  have hz_4 := HC3.out.cell (i := 4) rfl
  have hzf_0 := HC3.out.frozen 0
  have hzf_1 := HC3.out.frozen 1
  have hzf_2 := HC3.out.frozen 2
  have hzf_3 := HC3.out.frozen 3
  have hzf_4 := HC3.out.frozen 4
  go_wp2_with fail
  generalize (((((w3.setCell ⟨w.heap.size, 0, none⟩ (.pointer (some ⟨W0.heap.size, 0, none⟩))).setCell ⟨w.heap.size, 1, none⟩ (.int .u64 (dig (mont (grp k).p.m (numOf key)) 0 : Int))).setCell ⟨w.heap.size, 2, none⟩ (.int .u64 (dig (mont (grp k).p.m (numOf key)) 1 : Int))).setCell ⟨w.heap.size, 3, none⟩ (.int .u64 (dig (mont (grp k).p.m (numOf key)) 2 : Int))).setCell ⟨w.heap.size, 4, none⟩ (.int .u64 (dig (mont (grp k).p.m (numOf key)) 3 : Int))) = w5 at *
  clear hz_0 hz_1 hz_2 hz_3 hz_4
  have hg_0 := HS5.out.cell (i := 0) rfl
  have hg_1 := HS5.out.cell (i := 1) rfl
  have hg_2 := HS5.out.cell (i := 2) rfl
  have hg_3 := HS5.out.cell (i := 3) rfl
  have hg_4 := HS5.out.cell (i := 4) rfl
  simp [bodyPost, results, Try.results76, go_sem, hg_0, hg_1, hg_2, hg_3, hg_4]
  exact HF.out _ HB5.out HG5.out

end Go.Proofs.Ytipgjookfdkciaa
