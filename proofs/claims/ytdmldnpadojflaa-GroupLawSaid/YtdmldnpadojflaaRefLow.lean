/- The document's elements: low, Product, Power, Under, Inv. No condition. -/
import Derived.Test.YtdmldnpadojflaaRefGrp
namespace Go.Proofs.Ytdmldnpadojflaa
open Go.RowKit

def lowR (q p x : Nat) : Nat := if q < x then p - x else x





set_option maxRecDepth 100000 in
set_option maxHeartbeats 2000000 in
theorem refLow_any (x sz q p : Nat) (ax aq ap : Option Addr) (cx cq cp : Nat) (hx : x ≤ p) (hp : p < DD ^ 16) (w : World) (hX : NumAt w ax x) (hQ : NumAt w aq q) (hP : NumAt w ap p) :
    Calls Try.prog 78 #[.agg #[.int .i64 (sz : Int), .slice aq (dl q) cq, .slice ap (dl p) cp], .slice ax (dl x) cx] w fun e w' => NumR w e w' (lowR q p x) := by
  have hx2 : x < DD ^ 16 := Nat.lt_of_le_of_lt hx hp
  have HX := Lib.hid hX
  have HQ := Lib.hid hQ
  have HP := Lib.hid hP
  clear hX hQ hP
  go_enter Try.func78, Try.ntmps78
  have hzz : Bx (w.alloc (.cells #[.int .i64 (sz : Int), .slice aq (dl q) cq, .slice ap (dl p) cp] 25)) w.heap.size 25 (gR sz q p aq ap cq cp) := Bx.new w _ _ _ rfl
  have hbz : Below w.heap.size w (w.alloc (.cells #[.int .i64 (sz : Int), .slice aq (dl q) cq, .slice ap (dl p) cp] 25)) := (Below.refl w.heap.size w).alloc (Nat.le_refl _) _
  obtain ⟨W2, hW2⟩ : ∃ W9 : World, (w.alloc (.cells #[.int .i64 (sz : Int), .slice aq (dl q) cq, .slice ap (dl p) cp] 25)) = W9 := ⟨_, rfl⟩
  rw [hW2] at hzz hbz
  have HZ := Lib.hid hzz
  have HBZ := Lib.hid hbz
  have hz_0 := HZ.out.cell (i := 0) rfl
  have hz_1 := HZ.out.cell (i := 1) rfl
  have hz_2 := HZ.out.cell (i := 2) rfl
  have hzl := HZ.out.lt
  clear hzz hbz
  go_wp2_with fail
  refine (refCompare_any x q ax aq cx cq (small_dl x hx2) W2 (HX.out.up HBZ.out) (HQ.out.up HBZ.out)).mono ?_
  rintro e w3 ⟨rfl, hb3⟩
  have HB3 := Lib.hid (below_up HBZ.out hb3)
  have HZ3 := Lib.hid (HZ.out.up hb3)
  clear hb3 hz_0 hz_1 hz_2 hzl HZ
  have hz_2 := HZ3.out.cell (i := 2) rfl
  by_cases hlow : q < x
  · have HCI : Hid (cmpI x q = 1) := by show _ = _; unfold cmpI; rw [if_neg (by omega), if_pos hlow]
    have HL : Hid (p - x = lowR q p x) := by show _ = _; unfold lowR; rw [if_pos hlow]
    rw [HCI.out]
    go_wp2_with fail
    refine (refMinus_any p x (p - x) ap ax cp cx (small_dl p hp) (small_dl x hx2) (by omega) w3 (HP.out.up HB3.out) (HX.out.up HB3.out)).mono ?_
    rintro e w4 ⟨a4, c4, rfl, hn4, hb4⟩
    rw [HL.out] at hn4 ⊢
    have HN4 := Lib.hid hn4
    have HB4 := Lib.hid (below_up HB3.out hb4)
    clear hn4 hb4
    go_wp2_with fail
    go_ret
    exact ⟨a4, c4, rfl, HN4.out, HB4.out⟩
  · have HL : Hid (x = lowR q p x) := by show _ = _; unfold lowR; rw [if_neg hlow]
    have hci : (decide (cmpI x q > 0)) = false := by unfold cmpI; simp only [decide_eq_false_iff_not]; split <;> simp <;> omega
    generalize cmpI x q = ci at *
    go_wp2_with fail
    go_ret
    exact ⟨ax, cx, by rw [← HL.out]; rfl, by rw [← HL.out]; exact HX.out.up HB3.out, HB3.out⟩

theorem lowR_le (q p x : Nat) (h : x ≤ p) : lowR q p x ≤ p := by unfold lowR; split <;> omega

set_option maxRecDepth 100000 in
set_option maxHeartbeats 2000000 in
theorem refProduct_any (a b sz q p : Nat) (aa ab aq ap : Option Addr) (ca cb cq cp : Nat) (ha : a < DD ^ 16) (hb : b < DD ^ 16) (hp0 : 0 < p) (hp : p < DD ^ 16) (w : World) (hA : NumAt w aa a) (hB : NumAt w ab b) (hQ : NumAt w aq q) (hP : NumAt w ap p) :
    Calls Try.prog 24 #[.agg #[.int .i64 (sz : Int), .slice aq (dl q) cq, .slice ap (dl p) cp], .slice aa (dl a) ca, .slice ab (dl b) cb] w fun e w' => NumR w e w' (lowR q p (a * b % p)) := by
  have HA := Lib.hid hA
  have HBB := Lib.hid hB
  have HQ := Lib.hid hQ
  have HP := Lib.hid hP
  clear hA hB hQ hP
  go_enter Try.func24, Try.ntmps24
  have hzz : Bx (w.alloc (.cells #[.int .i64 (sz : Int), .slice aq (dl q) cq, .slice ap (dl p) cp] 25)) w.heap.size 25 (gR sz q p aq ap cq cp) := Bx.new w _ _ _ rfl
  have hbz : Below w.heap.size w (w.alloc (.cells #[.int .i64 (sz : Int), .slice aq (dl q) cq, .slice ap (dl p) cp] 25)) := (Below.refl w.heap.size w).alloc (Nat.le_refl _) _
  obtain ⟨W2, hW2⟩ : ∃ W9 : World, (w.alloc (.cells #[.int .i64 (sz : Int), .slice aq (dl q) cq, .slice ap (dl p) cp] 25)) = W9 := ⟨_, rfl⟩
  rw [hW2] at hzz hbz
  have HZ := Lib.hid hzz
  have HBZ := Lib.hid hbz
  have hz_0 := HZ.out.cell (i := 0) rfl
  have hz_1 := HZ.out.cell (i := 1) rfl
  have hz_2 := HZ.out.cell (i := 2) rfl
  have hzl := HZ.out.lt
  clear hzz hbz
  go_wp2_with fail
  have HW0 : Hid (Below W2.heap.size W2 W2.drew) := (Below.refl _ _).drew
  refine wp_region_tree (fun w' => ∃ E : Over W2, w' = E.w) (.qs [0, 1, 2, 4, 5] (.a 3 (.a 6 (.a 7 (.q 8 .done))))) (by kernel_rfl) (by kernel_rfl) (fun _ _ d _ _ h => by cases d <;> exact h) ⟨⟨_, HW0.out⟩, rfl⟩ ?_
  have hov := fun (E : Over W2) o => E.cell (b := w.heap.size) o hzl
  simp only [Tree.qs]
  repeat (refine tree_q rfl rfl ?_; go_big_quiet_step (fail); refine wpQuiet_nil ?_)
  refine tree_a rfl (fun K hK => ?_)
  go_simp
  refine (refTimes_any a b aa ab ca cb (small_dl a ha) (small_dl b hb) _ (HA.out.up (below_up HBZ.out HW0.out)) (HBB.out.up (below_up HBZ.out HW0.out))).mono ?_
  rintro e w4 ⟨a4, c4, rfl, hn9, hb9⟩
  have HN4 := Lib.hid hn9
  have HW4 := Lib.hid (below_up HW0.out hb9)
  clear hn9 hb9
  refine hK _ _ ⟨⟨⟨w4, HW4.out⟩, rfl⟩, ?_⟩
  clear hK K
  refine tree_a rfl (fun K hK => ?_)
  go_simp
  refine (refMod_any (a * b) p a4 ap c4 cp (lt32 a b ha hb) hp0 w4 HN4.out (HP.out.up (below_up HBZ.out HW4.out))).mono ?_
  rintro e w5 ⟨a5, c5, rfl, hn9, hb9⟩
  have HN5 := Lib.hid hn9
  have HW5 := Lib.hid (below_up HW4.out hb9)
  clear hn9 hb9
  refine hK _ _ ⟨⟨⟨w5, HW5.out⟩, rfl⟩, ?_⟩
  clear hK K
  refine tree_a rfl (fun K hK => ?_)
  go_simp
  refine (refLow_any (a * b % p) sz q p a5 aq ap c5 cq cp (Nat.le_of_lt (Nat.mod_lt _ hp0)) hp w5 HN5.out (HQ.out.up (below_up HBZ.out HW5.out)) (HP.out.up (below_up HBZ.out HW5.out))).mono ?_
  rintro e w6 ⟨a6, c6, rfl, hn9, hb9⟩
  have HN6 := Lib.hid hn9
  have HW6 := Lib.hid (below_up HW5.out hb9)
  clear hn9 hb9
  refine hK _ _ ⟨⟨⟨w6, HW6.out⟩, rfl⟩, ?_⟩
  clear hK K
  refine tree_q rfl rfl ?_
  go_big_quiet_step (fail)
  refine wpQuiet_nil ?_
  refine tree_end ?_
  have HF := Lib.hid (below_up HBZ.out HW6.out)
  clear hov
  go_wp2_with fail
  go_ret
  exact ⟨a6, c6, rfl, HN6.out, HF.out⟩

set_option maxRecDepth 100000 in
set_option maxHeartbeats 2000000 in
theorem refPow_any (a n sz q p : Nat) (aa an aq ap : Option Addr) (ca cn cq cp : Nat) (ha : a < DD ^ 16) (hn : dl n ≤ 65536) (hp0 : 1 < p) (hp : p < DD ^ 16) (w : World) (hA : NumAt w aa a) (hN : NumAt w an n) (hQ : NumAt w aq q) (hP : NumAt w ap p) :
    Calls Try.prog 25 #[.agg #[.int .i64 (sz : Int), .slice aq (dl q) cq, .slice ap (dl p) cp], .slice aa (dl a) ca, .slice an (dl n) cn] w fun e w' => NumR w e w' (lowR q p (a ^ n % p)) := by
  have HA := Lib.hid hA
  have HNN := Lib.hid hN
  have HQ := Lib.hid hQ
  have HP := Lib.hid hP
  clear hA hN hQ hP
  go_enter Try.func25, Try.ntmps25
  have hzz : Bx (w.alloc (.cells #[.int .i64 (sz : Int), .slice aq (dl q) cq, .slice ap (dl p) cp] 25)) w.heap.size 25 (gR sz q p aq ap cq cp) := Bx.new w _ _ _ rfl
  have hbz : Below w.heap.size w (w.alloc (.cells #[.int .i64 (sz : Int), .slice aq (dl q) cq, .slice ap (dl p) cp] 25)) := (Below.refl w.heap.size w).alloc (Nat.le_refl _) _
  obtain ⟨W2, hW2⟩ : ∃ W9 : World, (w.alloc (.cells #[.int .i64 (sz : Int), .slice aq (dl q) cq, .slice ap (dl p) cp] 25)) = W9 := ⟨_, rfl⟩
  rw [hW2] at hzz hbz
  have HZ := Lib.hid hzz
  have HBZ := Lib.hid hbz
  have hz_0 := HZ.out.cell (i := 0) rfl
  have hz_1 := HZ.out.cell (i := 1) rfl
  have hz_2 := HZ.out.cell (i := 2) rfl
  have hzl := HZ.out.lt
  clear hzz hbz
  go_wp2_with fail
  have HW0 : Hid (Below W2.heap.size W2 W2.drew) := (Below.refl _ _).drew
  refine wp_region_tree (fun w' => ∃ E : Over W2, w' = E.w) (.qs [0, 1, 2, 3, 4] (.a 5 (.a 6 (.q 7 .done)))) (by kernel_rfl) (by kernel_rfl) (fun _ _ d _ _ h => by cases d <;> exact h) ⟨⟨_, HW0.out⟩, rfl⟩ ?_
  have hov := fun (E : Over W2) o => E.cell (b := w.heap.size) o hzl
  simp only [Tree.qs]
  repeat (refine tree_q rfl rfl ?_; go_big_quiet_step (fail); refine wpQuiet_nil ?_)
  refine tree_a rfl (fun K hK => ?_)
  go_simp
  refine (refPower_any a n p aa an ap ca cn cp ha hn hp0 hp _ (HA.out.up (below_up HBZ.out HW0.out)) (HNN.out.up (below_up HBZ.out HW0.out)) (HP.out.up (below_up HBZ.out HW0.out))).mono ?_
  rintro e w4 ⟨a4, c4, rfl, hn9, hb9⟩
  have HN4 := Lib.hid hn9
  have HW4 := Lib.hid (below_up HW0.out hb9)
  clear hn9 hb9
  refine hK _ _ ⟨⟨⟨w4, HW4.out⟩, rfl⟩, ?_⟩
  clear hK K
  refine tree_a rfl (fun K hK => ?_)
  go_simp
  refine (refLow_any (a ^ n % p) sz q p a4 aq ap c4 cq cp (Nat.le_of_lt (Nat.mod_lt _ (by omega))) hp w4 HN4.out (HQ.out.up (below_up HBZ.out HW4.out)) (HP.out.up (below_up HBZ.out HW4.out))).mono ?_
  rintro e w5 ⟨a5, c5, rfl, hn9, hb9⟩
  have HN5 := Lib.hid hn9
  have HW5 := Lib.hid (below_up HW4.out hb9)
  clear hn9 hb9
  refine hK _ _ ⟨⟨⟨w5, HW5.out⟩, rfl⟩, ?_⟩
  clear hK K
  refine tree_q rfl rfl ?_
  go_big_quiet_step (fail)
  refine wpQuiet_nil ?_
  refine tree_end ?_
  have HF := Lib.hid (below_up HBZ.out HW5.out)
  clear hov
  go_wp2_with fail
  go_ret
  exact ⟨a5, c5, rfl, HN5.out, HF.out⟩

set_option maxRecDepth 100000 in
set_option maxHeartbeats 2000000 in
theorem refUnder_any (a sz q p : Nat) (aa aq ap : Option Addr) (ca cq cp : Nat) (ha : a < DD ^ 16) (hq1 : 1 ≤ q) (hq : q < DD ^ 16) (hp0 : 1 < p) (hp : p < DD ^ 16) (w : World) (hA : NumAt w aa a) (hQ : NumAt w aq q) (hP : NumAt w ap p) :
    Calls Try.prog 43 #[.agg #[.int .i64 (sz : Int), .slice aq (dl q) cq, .slice ap (dl p) cp], .slice aa (dl a) ca] w fun e w' => NumR w e w' (lowR q p (a ^ (q - 1) % p)) := by
  have HA := Lib.hid hA
  have HQ := Lib.hid hQ
  have HP := Lib.hid hP
  clear hA hQ hP
  go_enter Try.func43, Try.ntmps43
  have hzz : Bx (w.alloc (.cells #[.int .i64 (sz : Int), .slice aq (dl q) cq, .slice ap (dl p) cp] 25)) w.heap.size 25 (gR sz q p aq ap cq cp) := Bx.new w _ _ _ rfl
  have hbz : Below w.heap.size w (w.alloc (.cells #[.int .i64 (sz : Int), .slice aq (dl q) cq, .slice ap (dl p) cp] 25)) := (Below.refl w.heap.size w).alloc (Nat.le_refl _) _
  obtain ⟨W2, hW2⟩ : ∃ W9 : World, (w.alloc (.cells #[.int .i64 (sz : Int), .slice aq (dl q) cq, .slice ap (dl p) cp] 25)) = W9 := ⟨_, rfl⟩
  rw [hW2] at hzz hbz
  have HZ := Lib.hid hzz
  have HBZ := Lib.hid hbz
  have hz_0 := HZ.out.cell (i := 0) rfl
  have hz_1 := HZ.out.cell (i := 1) rfl
  have hz_2 := HZ.out.cell (i := 2) rfl
  have hzl := HZ.out.lt
  clear hzz hbz
  go_wp2_with fail
  have HW0 : Hid (Below W2.heap.size W2 W2.drew) := (Below.refl _ _).drew
  refine wp_region_tree (fun w' => ∃ E : Over W2, w' = E.w) (.qs [0, 1, 2, 3] (.a 4 (.a 5 (.a 6 (.q 7 .done))))) (by kernel_rfl) (by kernel_rfl) (fun _ _ d _ _ h => by cases d <;> exact h) ⟨⟨_, HW0.out⟩, rfl⟩ ?_
  have hov := fun (E : Over W2) o => E.cell (b := w.heap.size) o hzl
  simp only [Tree.qs]
  repeat (refine tree_q rfl rfl ?_; go_big_quiet_step (fail); refine wpQuiet_nil ?_)
  refine tree_a rfl (fun K hK => ?_)
  go_simp
  refine (refOf_any 1 (by omega) _).mono ?_
  rintro e w4 ⟨a4, c4, rfl, hn9, hb9⟩
  have HN4 := Lib.hid hn9
  have HW4 := Lib.hid (below_up HW0.out hb9)
  clear hn9 hb9
  refine hK _ _ ⟨⟨⟨w4, HW4.out⟩, rfl⟩, ?_⟩
  clear hK K
  refine tree_a rfl (fun K hK => ?_)
  go_simp
  refine (refMinus_any q 1 (q - 1) aq a4 cq c4 (small_dl q hq) (by decide) (by omega) w4 (HQ.out.up (below_up HBZ.out HW4.out)) HN4.out).mono ?_
  rintro e w5 ⟨a5, c5, rfl, hn9, hb9⟩
  have HN5 := Lib.hid hn9
  have HW5 := Lib.hid (below_up HW4.out hb9)
  clear hn9 hb9
  refine hK _ _ ⟨⟨⟨w5, HW5.out⟩, rfl⟩, ?_⟩
  clear hK K
  refine tree_a rfl (fun K hK => ?_)
  go_simp
  refine (refPow_any a (q - 1) sz q p aa a5 aq ap ca c5 cq cp ha (Nat.le_trans (dl_of_lt (q - 1) 16 (by omega)) (by decide)) hp0 hp w5 (HA.out.up (below_up HBZ.out HW5.out)) HN5.out (HQ.out.up (below_up HBZ.out HW5.out)) (HP.out.up (below_up HBZ.out HW5.out))).mono ?_
  rintro e w6 ⟨a6, c6, rfl, hn9, hb9⟩
  have HN6 := Lib.hid hn9
  have HW6 := Lib.hid (below_up HW5.out hb9)
  clear hn9 hb9
  refine hK _ _ ⟨⟨⟨w6, HW6.out⟩, rfl⟩, ?_⟩
  clear hK K
  refine tree_q rfl rfl ?_
  go_big_quiet_step (fail)
  refine wpQuiet_nil ?_
  refine tree_end ?_
  have HF := Lib.hid (below_up HBZ.out HW6.out)
  clear hov
  go_wp2_with fail
  go_ret
  exact ⟨a6, c6, rfl, HN6.out, HF.out⟩

set_option maxRecDepth 100000 in
set_option maxHeartbeats 2000000 in
theorem refInv_any (a sz q p : Nat) (aa aq ap : Option Addr) (ca cq cp : Nat) (ha : a < DD ^ 16) (hq1 : 2 ≤ q) (hq : q < DD ^ 16) (w : World) (hA : NumAt w aa a) (hQ : NumAt w aq q) :
    Calls Try.prog 34 #[.agg #[.int .i64 (sz : Int), .slice aq (dl q) cq, .slice ap (dl p) cp], .slice aa (dl a) ca] w fun e w' => NumR w e w' (a ^ (q - 2) % q) := by
  have HA := Lib.hid hA
  have HQ := Lib.hid hQ
  clear hA hQ
  go_enter Try.func34, Try.ntmps34
  have hzz : Bx (w.alloc (.cells #[.int .i64 (sz : Int), .slice aq (dl q) cq, .slice ap (dl p) cp] 25)) w.heap.size 25 (gR sz q p aq ap cq cp) := Bx.new w _ _ _ rfl
  have hbz : Below w.heap.size w (w.alloc (.cells #[.int .i64 (sz : Int), .slice aq (dl q) cq, .slice ap (dl p) cp] 25)) := (Below.refl w.heap.size w).alloc (Nat.le_refl _) _
  obtain ⟨W2, hW2⟩ : ∃ W9 : World, (w.alloc (.cells #[.int .i64 (sz : Int), .slice aq (dl q) cq, .slice ap (dl p) cp] 25)) = W9 := ⟨_, rfl⟩
  rw [hW2] at hzz hbz
  have HZ := Lib.hid hzz
  have HBZ := Lib.hid hbz
  have hz_0 := HZ.out.cell (i := 0) rfl
  have hz_1 := HZ.out.cell (i := 1) rfl
  have hz_2 := HZ.out.cell (i := 2) rfl
  have hzl := HZ.out.lt
  clear hzz hbz
  go_wp2_with fail
  have HW0 : Hid (Below W2.heap.size W2 W2.drew) := (Below.refl _ _).drew
  refine wp_region_tree (fun w' => ∃ E : Over W2, w' = E.w) (.qs [0, 1, 2, 5, 6] (.a 3 (.a 4 (.a 7 (.q 8 .done))))) (by kernel_rfl) (by kernel_rfl) (fun _ _ d _ _ h => by cases d <;> exact h) ⟨⟨_, HW0.out⟩, rfl⟩ ?_
  have hov := fun (E : Over W2) o => E.cell (b := w.heap.size) o hzl
  simp only [Tree.qs]
  repeat (refine tree_q rfl rfl ?_; go_big_quiet_step (fail); refine wpQuiet_nil ?_)
  refine tree_a rfl (fun K hK => ?_)
  go_simp
  refine (refOf_any 2 (by omega) _).mono ?_
  rintro e w4 ⟨a4, c4, rfl, hn9, hb9⟩
  have HN4 := Lib.hid hn9
  have HW4 := Lib.hid (below_up HW0.out hb9)
  clear hn9 hb9
  refine hK _ _ ⟨⟨⟨w4, HW4.out⟩, rfl⟩, ?_⟩
  clear hK K
  refine tree_a rfl (fun K hK => ?_)
  go_simp
  refine (refMinus_any q 2 (q - 2) aq a4 cq c4 (small_dl q hq) (by decide) (by omega) w4 (HQ.out.up (below_up HBZ.out HW4.out)) HN4.out).mono ?_
  rintro e w5 ⟨a5, c5, rfl, hn9, hb9⟩
  have HN5 := Lib.hid hn9
  have HW5 := Lib.hid (below_up HW4.out hb9)
  clear hn9 hb9
  refine hK _ _ ⟨⟨⟨w5, HW5.out⟩, rfl⟩, ?_⟩
  clear hK K
  refine tree_a rfl (fun K hK => ?_)
  go_simp
  refine (refPower_any a (q - 2) q aa a5 aq ca c5 cq ha (Nat.le_trans (dl_of_lt (q - 2) 16 (by omega)) (by decide)) (by omega) hq w5 (HA.out.up (below_up HBZ.out HW5.out)) HN5.out (HQ.out.up (below_up HBZ.out HW5.out))).mono ?_
  rintro e w6 ⟨a6, c6, rfl, hn9, hb9⟩
  have HN6 := Lib.hid hn9
  have HW6 := Lib.hid (below_up HW5.out hb9)
  clear hn9 hb9
  refine hK _ _ ⟨⟨⟨w6, HW6.out⟩, rfl⟩, ?_⟩
  clear hK K
  refine tree_q rfl rfl ?_
  go_big_quiet_step (fail)
  refine wpQuiet_nil ?_
  refine tree_end ?_
  have HF := Lib.hid (below_up HBZ.out HW6.out)
  clear hov
  go_wp2_with fail
  go_ret
  exact ⟨a6, c6, rfl, HN6.out, HF.out⟩

end Go.Proofs.Ytdmldnpadojflaa
