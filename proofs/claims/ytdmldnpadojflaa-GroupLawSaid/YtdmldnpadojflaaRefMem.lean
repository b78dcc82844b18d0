/- The document's IsScalar, IsElem, Number. No condition. -/
import Derived.Test.YtdmldnpadojflaaRefLow
namespace Go.Proofs.Ytdmldnpadojflaa
open Go.RowKit






def isSc (q sz : Nat) (s : ByteArray) : Bool := decide (s.size = sz) && decide (numOf s < q)
def isEl (q sz : Nat) (s : ByteArray) : Bool := decide (s.size = sz) && decide (0 < numOf s) && decide (numOf s ≤ q)

theorem cmpI_lt (a b : Nat) : decide (cmpI a b < 0) = decide (a < b) := by unfold cmpI; split; · simp [*]
                                                                           · split <;> simp <;> omega
theorem cmpI_le (a b : Nat) : decide (cmpI a b ≤ 0) = decide (a ≤ b) := by
  unfold cmpI
  split
  · simp; omega
  · split <;> simp <;> omega
theorem numOf_16 (s : ByteArray) (hs : s.size ≤ 32) : numOf s < DD ^ 16 := numOf_lt s hs

set_option maxRecDepth 100000 in
set_option maxHeartbeats 2000000 in
theorem refIsScalar_any (s : ByteArray) (sz q p : Nat) (aq ap : Option Addr) (cq cp : Nat) (hsz : sz ≤ 32) (w : World) (hQ : NumAt w aq q) :
    Calls Try.prog 23 #[.agg #[.int .i64 (sz : Int), .slice aq (dl q) cq, .slice ap (dl p) cp], .string s] w fun e w' => e = .returned (.bool (isSc q sz s)) ∧ Below w.heap.size w w' := by
  have HQ := Lib.hid hQ
  clear hQ
  by_cases hl : s.size = sz
  · have HR : Hid (isSc q sz s = decide (numOf s < q)) := by show _ = _; unfold isSc; simp [hl]
    have hn := numOf_16 s (by omega)
    have hd : ((s.size : Int) == (sz : Int)) = true := by rw [hl]; simp
    have hss : s.size ≤ 1048576 := by omega
    clear hl
    go_enter Try.func23, Try.ntmps23
    have hzz : Bx (w.alloc (.cells #[.int .i64 (sz : Int), .slice aq (dl q) cq, .slice ap (dl p) cp] 25)) w.heap.size 25 (gR sz q p aq ap cq cp) := Bx.new w _ _ _ rfl
    have hbz : Below w.heap.size w (w.alloc (.cells #[.int .i64 (sz : Int), .slice aq (dl q) cq, .slice ap (dl p) cp] 25)) := (Below.refl w.heap.size w).alloc (Nat.le_refl _) _
    obtain ⟨W2, hW2⟩ : ∃ W9 : World, (w.alloc (.cells #[.int .i64 (sz : Int), .slice aq (dl q) cq, .slice ap (dl p) cp] 25)) = W9 := ⟨_, rfl⟩
    rw [hW2] at hzz hbz
    have HZ := Lib.hid hzz
    have HBZ := Lib.hid hbz
    have hz_0 := HZ.out.cell (i := 0) rfl
    have hz_1 := HZ.out.cell (i := 1) rfl
    have hz_2 := HZ.out.cell (i := 2) rfl
    have hzl := HZ.out.lt
    clear hzz hbz
    go_wp2_with fail
    have HW0 : Hid (Below W2.heap.size W2 W2.drew) := (Below.refl _ _).drew
    refine wp_region_tree (fun w' => ∃ E : Over W2, w' = E.w) (.qs [0, 1, 2, 3, 4, 5, 6, 8, 9] (.a 7 (.a 10 (.q 11 (.q 12 (.q 13 .done)))))) (by kernel_rfl) (by kernel_rfl) (fun _ _ d _ _ h => by cases d <;> exact h) ⟨⟨_, HW0.out⟩, rfl⟩ ?_
    have hov := fun (E : Over W2) o => E.cell (b := w.heap.size) o hzl
    simp only [Tree.qs]
    repeat (refine tree_q rfl rfl ?_; go_big_quiet_step (fail); refine wpQuiet_nil ?_)
    refine tree_a rfl (fun K hK => ?_)
    go_simp
    refine (refRead_any s hss _).mono ?_
    rintro e w4 ⟨a4, c4, rfl, hn9, hb9⟩
    have HN4 := Lib.hid hn9
    have HW4 := Lib.hid (below_up HW0.out hb9)
    clear hn9 hb9
    refine hK _ _ ⟨⟨⟨w4, HW4.out⟩, rfl⟩, ?_⟩
    clear hK K
    refine tree_a rfl (fun K hK => ?_)
    go_simp
    refine (refCompare_any (numOf s) q a4 aq c4 cq (small_dl _ hn) w4 HN4.out (HQ.out.up (below_up HBZ.out HW4.out))).mono ?_
    rintro e w5 ⟨rfl, hb9⟩
    have HW5 := Lib.hid (below_up HW4.out hb9)
    clear hb9
    refine hK _ _ ⟨⟨⟨w5, HW5.out⟩, rfl⟩, ?_⟩
    clear hK K
    repeat (refine tree_q rfl rfl ?_; go_big_quiet_step (fail); refine wpQuiet_nil ?_)
    refine tree_end ?_
    have HF := Lib.hid (below_up HBZ.out HW5.out)
    clear hov
    go_wp2_with fail
    go_ret
    exact ⟨by rw [HR.out, ← cmpI_lt]; rfl, HF.out⟩
  · have HR : Hid (isSc q sz s = false) := by show _ = _; unfold isSc; simp [hl]
    have hd : ((s.size : Int) == (sz : Int)) = false := by simp; omega
    clear hl
    go_enter Try.func23, Try.ntmps23
    have hzz : Bx (w.alloc (.cells #[.int .i64 (sz : Int), .slice aq (dl q) cq, .slice ap (dl p) cp] 25)) w.heap.size 25 (gR sz q p aq ap cq cp) := Bx.new w _ _ _ rfl
    have hbz : Below w.heap.size w (w.alloc (.cells #[.int .i64 (sz : Int), .slice aq (dl q) cq, .slice ap (dl p) cp] 25)) := (Below.refl w.heap.size w).alloc (Nat.le_refl _) _
    obtain ⟨W2, hW2⟩ : ∃ W9 : World, (w.alloc (.cells #[.int .i64 (sz : Int), .slice aq (dl q) cq, .slice ap (dl p) cp] 25)) = W9 := ⟨_, rfl⟩
    rw [hW2] at hzz hbz
    have HZ := Lib.hid hzz
    have HBZ := Lib.hid hbz
    have hz_0 := HZ.out.cell (i := 0) rfl
    have hz_1 := HZ.out.cell (i := 1) rfl
    have hz_2 := HZ.out.cell (i := 2) rfl
    have hzl := HZ.out.lt
    clear hzz hbz
    go_wp2_with fail
    go_quiet (fail)
    go_wp2_with fail
    go_ret
    exact ⟨by rw [HR.out]; rfl, below_up HBZ.out (below_drewN (Below.refl _ _) _)⟩


set_option maxRecDepth 100000 in
set_option maxHeartbeats 2000000 in
theorem refIsElem_any (s : ByteArray) (sz q p : Nat) (aq ap : Option Addr) (cq cp : Nat) (hsz : sz ≤ 32) (w : World) (hQ : NumAt w aq q) :
    Calls Try.prog 22 #[.agg #[.int .i64 (sz : Int), .slice aq (dl q) cq, .slice ap (dl p) cp], .string s] w fun e w' => e = .returned (.bool (isEl q sz s)) ∧ Below w.heap.size w w' := by
  have HQ := Lib.hid hQ
  clear hQ
  by_cases hl : s.size = sz
  · have hn := numOf_16 s (by omega)
    have hd : ((s.size : Int) == (sz : Int)) = true := by rw [hl]; simp
    have hss : s.size ≤ 1048576 := by omega
    by_cases h0 : 0 < numOf s
    · have HR : Hid (isEl q sz s = decide (numOf s ≤ q)) := by show _ = _; unfold isEl; simp [hl, h0]
      have hdl := dl_pos _ (Nat.ne_of_gt h0)
      have hdd : decide ((dl (numOf s) : Int) > 0) = true := by simp; omega
      clear hl h0
      go_enter Try.func22, Try.ntmps22
      have hzz : Bx (w.alloc (.cells #[.int .i64 (sz : Int), .slice aq (dl q) cq, .slice ap (dl p) cp] 25)) w.heap.size 25 (gR sz q p aq ap cq cp) := Bx.new w _ _ _ rfl
      have hbz : Below w.heap.size w (w.alloc (.cells #[.int .i64 (sz : Int), .slice aq (dl q) cq, .slice ap (dl p) cp] 25)) := (Below.refl w.heap.size w).alloc (Nat.le_refl _) _
      obtain ⟨W2, hW2⟩ : ∃ W9 : World, (w.alloc (.cells #[.int .i64 (sz : Int), .slice aq (dl q) cq, .slice ap (dl p) cp] 25)) = W9 := ⟨_, rfl⟩
      rw [hW2] at hzz hbz
      have HZ := Lib.hid hzz
      have HBZ := Lib.hid hbz
      have hz_0 := HZ.out.cell (i := 0) rfl
      have hz_1 := HZ.out.cell (i := 1) rfl
      have hz_2 := HZ.out.cell (i := 2) rfl
      have hzl := HZ.out.lt
      clear hzz hbz
      go_wp2_with fail
      have HW0 : Hid (Below W2.heap.size W2 W2.drew) := (Below.refl _ _).drew
      refine wp_region_tree (fun w' => ∃ E : Over W2, w' = E.w) (.qs [0, 1, 2, 3, 4, 5, 6] (.a 7 (.q 8 (.q 9 (.q 10 (.q 11 (.q 12 (.q 14 (.q 15 (.a 13 (.a 16 (.q 17 (.q 18 (.q 19 .done)))))))))))))) (by kernel_rfl) (by kernel_rfl) (fun _ _ d _ _ h => by cases d <;> exact h) ⟨⟨_, HW0.out⟩, rfl⟩ ?_
      have hov := fun (E : Over W2) o => E.cell (b := w.heap.size) o hzl
      simp only [Tree.qs]
      repeat (refine tree_q rfl rfl ?_; go_big_quiet_step (fail); refine wpQuiet_nil ?_)
      refine tree_a rfl (fun K hK => ?_)
      go_simp
      refine (refRead_any s hss _).mono ?_
      rintro e w4 ⟨a4, c4, rfl, hn9, hb9⟩
      have HN4 := Lib.hid hn9
      have HW4 := Lib.hid (below_up HW0.out hb9)
      clear hn9 hb9
      refine hK _ _ ⟨⟨⟨w4, HW4.out⟩, rfl⟩, ?_⟩
      clear hK K
      repeat (refine tree_q rfl rfl ?_; go_big_quiet_step (fail); refine wpQuiet_nil ?_)
      refine tree_a rfl (fun K hK => ?_)
      go_simp
      refine (refRead_any s hss _).mono ?_
      rintro e w5 ⟨a5, c5, rfl, hn9, hb9⟩
      have HN5 := Lib.hid hn9
      have HW5 := Lib.hid (below_up HW4.out hb9)
      clear hn9 hb9
      refine hK _ _ ⟨⟨⟨w5, HW5.out⟩, rfl⟩, ?_⟩
      clear hK K
      refine tree_a rfl (fun K hK => ?_)
      go_simp
      refine (refCompare_any (numOf s) q a5 aq c5 cq (small_dl _ hn) w5 HN5.out (HQ.out.up (below_up HBZ.out HW5.out))).mono ?_
      rintro e w6 ⟨rfl, hb9⟩
      have HW6 := Lib.hid (below_up HW5.out hb9)
      clear hb9
      refine hK _ _ ⟨⟨⟨w6, HW6.out⟩, rfl⟩, ?_⟩
      clear hK K
      repeat (refine tree_q rfl rfl ?_; go_big_quiet_step (fail); refine wpQuiet_nil ?_)
      refine tree_end ?_
      have HF := Lib.hid (below_up HBZ.out HW6.out)
      clear hov
      go_wp2_with fail
      go_ret
      exact ⟨by rw [HR.out, ← cmpI_le]; rfl, HF.out⟩
    · have HR : Hid (isEl q sz s = false) := by show _ = _; unfold isEl; simp [h0]
      have h00 : numOf s = 0 := by omega
      have hdl : dl (numOf s) = 0 := by rw [h00]; rfl
      clear hl h0 h00
      go_enter Try.func22, Try.ntmps22
      have hzz : Bx (w.alloc (.cells #[.int .i64 (sz : Int), .slice aq (dl q) cq, .slice ap (dl p) cp] 25)) w.heap.size 25 (gR sz q p aq ap cq cp) := Bx.new w _ _ _ rfl
      have hbz : Below w.heap.size w (w.alloc (.cells #[.int .i64 (sz : Int), .slice aq (dl q) cq, .slice ap (dl p) cp] 25)) := (Below.refl w.heap.size w).alloc (Nat.le_refl _) _
      obtain ⟨W2, hW2⟩ : ∃ W9 : World, (w.alloc (.cells #[.int .i64 (sz : Int), .slice aq (dl q) cq, .slice ap (dl p) cp] 25)) = W9 := ⟨_, rfl⟩
      rw [hW2] at hzz hbz
      have HZ := Lib.hid hzz
      have HBZ := Lib.hid hbz
      have hz_0 := HZ.out.cell (i := 0) rfl
      have hz_1 := HZ.out.cell (i := 1) rfl
      have hz_2 := HZ.out.cell (i := 2) rfl
      have hzl := HZ.out.lt
      clear hzz hbz
      go_wp2_with fail
      have HW0 : Hid (Below W2.heap.size W2 W2.drew) := (Below.refl _ _).drew
      refine wp_region_tree (fun w' => ∃ E : Over W2, w' = E.w) (.qs [0, 1, 2, 3, 4, 5, 6] (.a 7 (.q 8 (.q 9 (.q 10 (.q 11 (.q 12 (.q 14 (.q 15 (.a 13 (.a 16 (.q 17 (.q 18 (.q 19 .done)))))))))))))) (by kernel_rfl) (by kernel_rfl) (fun _ _ d _ _ h => by cases d <;> exact h) ⟨⟨_, HW0.out⟩, rfl⟩ ?_
      have hov := fun (E : Over W2) o => E.cell (b := w.heap.size) o hzl
      simp only [Tree.qs]
      repeat (refine tree_q rfl rfl ?_; go_big_quiet_step (fail); refine wpQuiet_nil ?_)
      refine tree_a rfl (fun K hK => ?_)
      go_simp
      refine (refRead_any s hss _).mono ?_
      rintro e w4 ⟨a4, c4, rfl, hn9, hb9⟩
      have HN4 := Lib.hid hn9
      have HW4 := Lib.hid (below_up HW0.out hb9)
      clear hn9 hb9
      refine hK _ _ ⟨⟨⟨w4, HW4.out⟩, rfl⟩, ?_⟩
      clear hK K
      repeat (refine tree_q rfl rfl ?_; go_big_quiet_step (fail); refine wpQuiet_nil ?_)
      refine tree_a rfl (fun K hK => ?_)
      go_simp
      refine hK _ _ ⟨⟨⟨w4, HW4.out⟩, rfl⟩, ?_⟩
      clear hK K
      refine tree_a rfl (fun K hK => ?_)
      go_simp
      refine hK _ _ ⟨⟨⟨w4, HW4.out⟩, rfl⟩, ?_⟩
      clear hK K
      repeat (refine tree_q rfl rfl ?_; go_big_quiet_step (fail); refine wpQuiet_nil ?_)
      refine tree_end ?_
      have HF := Lib.hid (below_up HBZ.out HW4.out)
      clear hov
      go_wp2_with fail
      go_ret
      exact ⟨by rw [HR.out]; rfl, HF.out⟩
  · have HR : Hid (isEl q sz s = false) := by show _ = _; unfold isEl; simp [hl]
    have hd : ((s.size : Int) == (sz : Int)) = false := by simp; omega
    clear hl
    go_enter Try.func22, Try.ntmps22
    have hzz : Bx (w.alloc (.cells #[.int .i64 (sz : Int), .slice aq (dl q) cq, .slice ap (dl p) cp] 25)) w.heap.size 25 (gR sz q p aq ap cq cp) := Bx.new w _ _ _ rfl
    have hbz : Below w.heap.size w (w.alloc (.cells #[.int .i64 (sz : Int), .slice aq (dl q) cq, .slice ap (dl p) cp] 25)) := (Below.refl w.heap.size w).alloc (Nat.le_refl _) _
    obtain ⟨W2, hW2⟩ : ∃ W9 : World, (w.alloc (.cells #[.int .i64 (sz : Int), .slice aq (dl q) cq, .slice ap (dl p) cp] 25)) = W9 := ⟨_, rfl⟩
    rw [hW2] at hzz hbz
    have HZ := Lib.hid hzz
    have HBZ := Lib.hid hbz
    have hz_0 := HZ.out.cell (i := 0) rfl
    have hz_1 := HZ.out.cell (i := 1) rfl
    have hz_2 := HZ.out.cell (i := 2) rfl
    have hzl := HZ.out.lt
    clear hzz hbz
    go_wp2_with fail
    go_quiet (fail)
    go_wp2_with fail
    go_ret
    exact ⟨by rw [HR.out]; rfl, below_up HBZ.out (below_drewN (Below.refl _ _) _)⟩

end Go.Proofs.Ytdmldnpadojflaa
