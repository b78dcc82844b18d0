/- A ring's add and sub. No condition. -/
import Derived.Test.YtdmldnpadojflaaRingWalk
namespace Go.Proofs.Ytdmldnpadojflaa
open Go.RowKit

theorem grownBy_put {W w : World} {b i : Nat} {v : Value} (h : W.grownBy w (some b)) : W.grownBy (w.setCell ⟨b, i, none⟩ v) (some b) :=
  ⟨h.os, h.tape, h.output, by have := h.size; show W.heap.size ≤ (w.heap.modify _ _).size; rw [Array.size_modify]; exact this, fun k hk hr => by rw [Below.heap_setCell w ⟨b, i, none⟩ v k (fun e => hr (by rw [e]))]; exact h.block k hk hr⟩
theorem grownBy_fill {W w : World} {b n : Nat} (h : W.grownBy w (some b)) : W.grownBy (((((w).setCell ⟨b, 0, none⟩ (.int .u64 (dig (n) 0 : Int))).setCell ⟨b, 1, none⟩ (.int .u64 (dig (n) 1 : Int))).setCell ⟨b, 2, none⟩ (.int .u64 (dig (n) 2 : Int))).setCell ⟨b, 3, none⟩ (.int .u64 (dig (n) 3 : Int))) (some b) := grownBy_put (grownBy_put (grownBy_put (grownBy_put h)))

set_option maxHeartbeats 1000000 in
theorem ringAdd_any (R : RingP) (rb off a b r : Nat) (hab : a + b < BB ^ 4) (hm : R.m < BB ^ 4) (hr : r = if R.m ≤ a + b then a + b - R.m else a + b) (w : World) (hR : RingAt w rb off R) :
    Calls Try.prog 110 #[.pointer (some ⟨rb, off, none⟩), limbV a, limbV b] w fun e w' => e = .returned (limbV r) ∧ Below w.heap.size w w' := by
  have HAB := Lib.hid hab
  have HM := Lib.hid hm
  have HR := Lib.hid hr
  clear hab hm hr
  unfold limbV
  go_enter Try.func110, Try.ntmps110
  go_wp2_with fail
  generalize hW0 : ((w.alloc (Obj.cells #[.int .u64 (dig (a) 0 : Int), .int .u64 (dig (a) 1 : Int), .int .u64 (dig (a) 2 : Int), .int .u64 (dig (a) 3 : Int)] 76)).alloc (Obj.cells #[.int .u64 (dig (b) 0 : Int), .int .u64 (dig (b) 1 : Int), .int .u64 (dig (b) 2 : Int), .int .u64 (dig (b) 3 : Int)] 76)).alloc (Obj.cells #[.int .u64 0, .int .u64 0, .int .u64 0, .int .u64 0] 76) = W0 at *
  have hA : Blk W0 w.heap.size 76 (lim a) := by rw [← hW0]; exact ((Blk.new w _ (lim a) _ rfl).alloc _).alloc _
  have hB : Blk W0 (w.heap.size + 1) 76 (lim b) := by
    rw [← hW0]
    have h := (Blk.new (w.alloc (Obj.cells #[.int .u64 (dig (a) 0 : Int), .int .u64 (dig (a) 1 : Int), .int .u64 (dig (a) 2 : Int), .int .u64 (dig (a) 3 : Int)] 76)) 76 (lim b) _ rfl).alloc (Obj.cells #[.int .u64 0, .int .u64 0, .int .u64 0, .int .u64 0] 76)
    rwa [World.size_alloc] at h
  have hC : Blk W0 (w.heap.size + 2) 76 [0, 0, 0, 0] := by
    rw [← hW0]
    have h := Blk.new ((w.alloc (Obj.cells #[.int .u64 (dig (a) 0 : Int), .int .u64 (dig (a) 1 : Int), .int .u64 (dig (a) 2 : Int), .int .u64 (dig (a) 3 : Int)] 76)).alloc (Obj.cells #[.int .u64 (dig (b) 0 : Int), .int .u64 (dig (b) 1 : Int), .int .u64 (dig (b) 2 : Int), .int .u64 (dig (b) 3 : Int)] 76)) 76 [0, 0, 0, 0] _ rfl
    rw [World.size_alloc, World.size_alloc] at h
    exact h
  have hBW : Below w.heap.size w W0 := by rw [← hW0]; exact (((Below.refl _ _).alloc (Nat.le_refl _) _).alloc (by simp) _).alloc (by simp; omega) _
  clear hW0
  have hR0 := hR.up hBW
  have HC := Lib.hid hC
  have HBW := Lib.hid hBW
  have hsz := hBW.size
  clear hA hB hC hBW
  refine (plus_any a b W0).mono ?_
  rintro e w2 ⟨rfl, hb2⟩
  have hR2 := hR0.up hb2
  have HB2 := Lib.hid hb2
  clear hb2
  unfold limbV
  go_wp2_with fail
  refine (once_any R rb off (a + b) r HAB.out HM.out HR.out w2 hR2).mono ?_
  rintro e w3 ⟨rfl, hb3⟩
  unfold limbV
  have hb03 := below_up HB2.out hb3
  have HZ := Lib.hid (HC.out.below hb03 HC.out.lt)
  have HBB := Lib.hid (below_up HBW.out hb03)
  clear hb3 hb03 hR2 hR0 hR
  have HB5 := Lib.hid (below_fill (n := r) (b := w.heap.size + 1 + 1) HBB.out (by omega))
  have HS5 := Lib.hid (HZ.out.fill rfl (r))
  have hz_0 := HZ.out.cell (i := 0) (x := 0) rfl
  have hz_1 := HZ.out.cell (i := 1) (x := 0) rfl
  have hz_2 := HZ.out.cell (i := 2) (x := 0) rfl
  have hz_3 := HZ.out.cell (i := 3) (x := 0) rfl
  have hzf_0 := HZ.out.frozen 0
  have hzf_1 := HZ.out.frozen 1
  have hzf_2 := HZ.out.frozen 2
  have hzf_3 := HZ.out.frozen 3
  go_wp2_with fail
  generalize (((((w3).setCell ⟨w.heap.size + 1 + 1, 0, none⟩ (.int .u64 (dig (r) 0 : Int))).setCell ⟨w.heap.size + 1 + 1, 1, none⟩ (.int .u64 (dig (r) 1 : Int))).setCell ⟨w.heap.size + 1 + 1, 2, none⟩ (.int .u64 (dig (r) 2 : Int))).setCell ⟨w.heap.size + 1 + 1, 3, none⟩ (.int .u64 (dig (r) 3 : Int))) = w5 at *
  clear hz_0 hz_1 hz_2 hz_3
  have hg_0 := HS5.out.cell (i := 0) (x := (dig (r) 0 : Int)) rfl
  have hg_1 := HS5.out.cell (i := 1) (x := (dig (r) 1 : Int)) rfl
  have hg_2 := HS5.out.cell (i := 2) (x := (dig (r) 2 : Int)) rfl
  have hg_3 := HS5.out.cell (i := 3) (x := (dig (r) 3 : Int)) rfl
  simp [bodyPost, results, Try.results110, go_sem, hg_0, hg_1, hg_2, hg_3]
  exact HB5.out

set_option maxHeartbeats 1000000 in
theorem ringSub_any (R : RingP) (rb off a b r : Nat) (ha : a < R.m) (hb : b < R.m) (hm : R.m < BB ^ 4) (hr : r = if b ≤ a then a - b else a + R.m - b) (w : World) (hR : RingAt w rb off R) :
    Calls Try.prog 120 #[.pointer (some ⟨rb, off, none⟩), limbV a, limbV b] w fun e w' => e = .returned (limbV r) ∧ Below w.heap.size w w' := by
  have HA := Lib.hid ha
  have HB := Lib.hid hb
  have HM := Lib.hid hm
  have HR := Lib.hid hr
  clear ha hb hm hr
  unfold limbV
  go_enter Try.func120, Try.ntmps120
  go_wp2_with fail
  generalize hW0 : ((w.alloc (Obj.cells #[.int .u64 (dig (a) 0 : Int), .int .u64 (dig (a) 1 : Int), .int .u64 (dig (a) 2 : Int), .int .u64 (dig (a) 3 : Int)] 76)).alloc (Obj.cells #[.int .u64 (dig (b) 0 : Int), .int .u64 (dig (b) 1 : Int), .int .u64 (dig (b) 2 : Int), .int .u64 (dig (b) 3 : Int)] 76)).alloc (Obj.cells #[.int .u64 0, .int .u64 0, .int .u64 0, .int .u64 0] 76) = W0 at *
  have hA : Blk W0 w.heap.size 76 (lim a) := by rw [← hW0]; exact ((Blk.new w _ (lim a) _ rfl).alloc _).alloc _
  have hB : Blk W0 (w.heap.size + 1) 76 (lim b) := by
    rw [← hW0]
    have h := (Blk.new (w.alloc (Obj.cells #[.int .u64 (dig (a) 0 : Int), .int .u64 (dig (a) 1 : Int), .int .u64 (dig (a) 2 : Int), .int .u64 (dig (a) 3 : Int)] 76)) 76 (lim b) _ rfl).alloc (Obj.cells #[.int .u64 0, .int .u64 0, .int .u64 0, .int .u64 0] 76)
    rwa [World.size_alloc] at h
  have hC : Blk W0 (w.heap.size + 2) 76 [0, 0, 0, 0] := by
    rw [← hW0]
    have h := Blk.new ((w.alloc (Obj.cells #[.int .u64 (dig (a) 0 : Int), .int .u64 (dig (a) 1 : Int), .int .u64 (dig (a) 2 : Int), .int .u64 (dig (a) 3 : Int)] 76)).alloc (Obj.cells #[.int .u64 (dig (b) 0 : Int), .int .u64 (dig (b) 1 : Int), .int .u64 (dig (b) 2 : Int), .int .u64 (dig (b) 3 : Int)] 76)) 76 [0, 0, 0, 0] _ rfl
    rw [World.size_alloc, World.size_alloc] at h
    exact h
  have hBW : Below w.heap.size w W0 := by rw [← hW0]; exact (((Below.refl _ _).alloc (Nat.le_refl _) _).alloc (by simp) _).alloc (by simp; omega) _
  clear hW0
  have hR0 := hR.up hBW
  have hrl := hR.lt
  have HC := Lib.hid hC
  have HBW := Lib.hid hBW
  have hsz := hBW.size
  clear hA hB hC hBW
  refine (minus_any a b (Nat.lt_trans HB.out HM.out) W0).mono ?_
  rintro e w2 ⟨rfl, hb2⟩
  have hR2 := hR0.up hb2
  have HB2 := Lib.hid hb2
  clear hb2
  unfold limbV
  by_cases hba : b ≤ a
  · have hu : ((under a b 4 : Nat) : Int) = 0 := by rw [under_four _ _ (Nat.lt_trans HA.out HM.out) (Nat.lt_trans HB.out HM.out), if_neg (by omega)]; rfl
    have hrr : sub256 a b = r := by rw [HR.out, if_pos hba, sub256_ok _ _ (Nat.lt_trans HA.out HM.out) hba]
    rw [hrr, hu]
    clear hba hrr hu
    have HZ := Lib.hid ((HC.out.below HB2.out HC.out.lt).alloc (Obj.cells #[.int .u64 (dig (r) 0 : Int), .int .u64 (dig (r) 1 : Int), .int .u64 (dig (r) 2 : Int), .int .u64 (dig (r) 3 : Int)] 76))
    have HBB := Lib.hid ((below_up HBW.out HB2.out).alloc (by have := HB2.out.size; omega) (Obj.cells #[.int .u64 (dig (r) 0 : Int), .int .u64 (dig (r) 1 : Int), .int .u64 (dig (r) 2 : Int), .int .u64 (dig (r) 3 : Int)] 76))
    have HD : Hid (Blk (w2.alloc (Obj.cells #[.int .u64 (dig (r) 0 : Int), .int .u64 (dig (r) 1 : Int), .int .u64 (dig (r) 2 : Int), .int .u64 (dig (r) 3 : Int)] 76)) w2.heap.size 76 (lim r)) := Blk.new w2 _ (lim r) _ rfl
    have hd_0 := HD.out.cell (i := 0) (x := (dig (r) 0 : Int)) rfl
    have hd_1 := HD.out.cell (i := 1) (x := (dig (r) 1 : Int)) rfl
    have hd_2 := HD.out.cell (i := 2) (x := (dig (r) 2 : Int)) rfl
    have hd_3 := HD.out.cell (i := 3) (x := (dig (r) 3 : Int)) rfl
    clear hR2 hR0 hR
    have HB5 := Lib.hid (below_fill (n := r) (b := w.heap.size + 1 + 1) HBB.out (by omega))
    have HS5 := Lib.hid (HZ.out.fill rfl (r))
    have hz_0 := HZ.out.cell (i := 0) (x := 0) rfl
    have hz_1 := HZ.out.cell (i := 1) (x := 0) rfl
    have hz_2 := HZ.out.cell (i := 2) (x := 0) rfl
    have hz_3 := HZ.out.cell (i := 3) (x := 0) rfl
    have hzf_0 := HZ.out.frozen 0
    have hzf_1 := HZ.out.frozen 1
    have hzf_2 := HZ.out.frozen 2
    have hzf_3 := HZ.out.frozen 3
    go_wp2_with fail
    generalize (((((w2.alloc (Obj.cells #[.int .u64 (dig (r) 0 : Int), .int .u64 (dig (r) 1 : Int), .int .u64 (dig (r) 2 : Int), .int .u64 (dig (r) 3 : Int)] 76)).setCell ⟨w.heap.size + 1 + 1, 0, none⟩ (.int .u64 (dig (r) 0 : Int))).setCell ⟨w.heap.size + 1 + 1, 1, none⟩ (.int .u64 (dig (r) 1 : Int))).setCell ⟨w.heap.size + 1 + 1, 2, none⟩ (.int .u64 (dig (r) 2 : Int))).setCell ⟨w.heap.size + 1 + 1, 3, none⟩ (.int .u64 (dig (r) 3 : Int))) = w5 at *
    clear hz_0 hz_1 hz_2 hz_3
    have hg_0 := HS5.out.cell (i := 0) (x := (dig (r) 0 : Int)) rfl
    have hg_1 := HS5.out.cell (i := 1) (x := (dig (r) 1 : Int)) rfl
    have hg_2 := HS5.out.cell (i := 2) (x := (dig (r) 2 : Int)) rfl
    have hg_3 := HS5.out.cell (i := 3) (x := (dig (r) 3 : Int)) rfl
    simp [bodyPost, results, Try.results120, go_sem, hg_0, hg_1, hg_2, hg_3]
    exact HB5.out
  · have hu : ((under a b 4 : Nat) : Int) = 1 := by rw [under_four _ _ (Nat.lt_trans HA.out HM.out) (Nat.lt_trans HB.out HM.out), if_pos (by omega)]; rfl
    have hsu : sub256 a b = a + BB ^ 4 - b := sub256_under _ _ (Nat.lt_trans HB.out HM.out) (by omega)
    have hrr : sub256 a b + R.m = r + BB ^ 4 := by
      have h1 := HA.out
      have h2 := HB.out
      have h3 := HM.out
      rw [HR.out, if_neg hba, hsu]
      omega
    have HRR := Lib.hid hrr
    rw [hu]
    clear hba hrr hu hsu
    generalize sub256 a b = d at *
    have HZ2 := Lib.hid ((HC.out.below HB2.out HC.out.lt).alloc (Obj.cells #[.int .u64 (dig (d) 0 : Int), .int .u64 (dig (d) 1 : Int), .int .u64 (dig (d) 2 : Int), .int .u64 (dig (d) 3 : Int)] 76))
    have HBB2 := Lib.hid ((below_up HBW.out HB2.out).alloc (by have := HB2.out.size; omega) (Obj.cells #[.int .u64 (dig (d) 0 : Int), .int .u64 (dig (d) 1 : Int), .int .u64 (dig (d) 2 : Int), .int .u64 (dig (d) 3 : Int)] 76))
    have HD : Hid (Blk (w2.alloc (Obj.cells #[.int .u64 (dig (d) 0 : Int), .int .u64 (dig (d) 1 : Int), .int .u64 (dig (d) 2 : Int), .int .u64 (dig (d) 3 : Int)] 76)) w2.heap.size 76 (lim d)) := Blk.new w2 _ (lim d) _ rfl
    have hR3 := hR2.up ((Below.refl _ w2).alloc (Nat.le_refl _) (Obj.cells #[.int .u64 (dig (d) 0 : Int), .int .u64 (dig (d) 1 : Int), .int .u64 (dig (d) 2 : Int), .int .u64 (dig (d) 3 : Int)] 76))
    clear hR2 hR0 hR
    go_wp2_with fail
    generalize hW3 : w2.alloc (Obj.cells #[.int .u64 (dig (d) 0 : Int), .int .u64 (dig (d) 1 : Int), .int .u64 (dig (d) 2 : Int), .int .u64 (dig (d) 3 : Int)] 76) = w3 at *
    have hd_0 := HD.out.cell (i := 0) (x := (dig (d) 0 : Int)) rfl
    have hd_1 := HD.out.cell (i := 1) (x := (dig (d) 1 : Int)) rfl
    have hd_2 := HD.out.cell (i := 2) (x := (dig (d) 2 : Int)) rfl
    have hd_3 := HD.out.cell (i := 3) (x := (dig (d) 3 : Int)) rfl
    have hr0 : w3.cell? ⟨rb, off, none⟩ = some (.int .u64 (dig R.m 0 : Int)) := hR3.cell 0 (dig R.m 0 : Int) rfl
    have hr1 := hR3.cell 1 (dig R.m 1 : Int) rfl
    have hr2 := hR3.cell 2 (dig R.m 2 : Int) rfl
    have hr3 := hR3.cell 3 (dig R.m 3 : Int) rfl
    have hrb3 := hR3.lt
    have hdl := HD.out.lt
    have hz2 : w.heap.size + 2 < w2.heap.size := by have := HB2.out.size; have := HC.out.lt; omega
    refine wp_region_tree (fun w' => ∃ E : But w3 (some (w.heap.size + 2)), w' = E.w) (.qs [0, 1, 2, 3, 4] (.a 5 (.a 6 .done))) (by kernel_rfl) (by kernel_rfl) (fun _ _ d _ _ h => by cases d <;> exact h) (but_of (grownBy_drew (grownBy_refl _ _))) ?_
    have hov := fun (E : But w3 (some (w.heap.size + 2))) o => E.cell (b := w2.heap.size) o (by omega) (by simp; omega)
    have hov2 := fun (E : But w3 (some (w.heap.size + 2))) o => E.cell (b := rb) o (by omega) (by simp; omega)
    simp only [Tree.qs]
    repeat (refine tree_q rfl rfl ?_; go_big_quiet_step (fail); refine wpQuiet_nil ?_)
    refine tree_a rfl (fun K hK => ?_)
    go_simp
    refine (plus_any d R.m _).mono ?_
    rintro e w4 ⟨rfl, hb4⟩
    have e1 : limbV (d + R.m) = limbV r := by
      rw [HRR.out]
      unfold limbV
      rw [dig_wrap r 0 (by omega), dig_wrap r 1 (by omega), dig_wrap r 2 (by omega), dig_wrap r 3 (by omega)]
    rw [e1]
    unfold limbV
    have hb34 : Below w3.heap.size w3 w4 := (Below.refl _ _).drew.trans hb4
    have HB34 := Lib.hid hb34
    refine hK _ _ ⟨but_of (grownBy_below (grownBy_refl _ _) hb34), ?_⟩
    clear hK K hb4 hb34 e1
    have HZ := Lib.hid (HZ2.out.below HB34.out HZ2.out.lt)
    have HBB := Lib.hid (below_up HBB2.out HB34.out)
    have HB5 := Lib.hid (below_fill (n := r) (b := w.heap.size + 2) HBB.out (by omega))
    have HS5 := Lib.hid (HZ.out.fill rfl r)
    have hz_0 := HZ.out.cell (i := 0) (x := 0) rfl
    have hz_1 := HZ.out.cell (i := 1) (x := 0) rfl
    have hz_2 := HZ.out.cell (i := 2) (x := 0) rfl
    have hz_3 := HZ.out.cell (i := 3) (x := 0) rfl
    have hzf_0 := HZ.out.frozen 0
    have hzf_1 := HZ.out.frozen 1
    have hzf_2 := HZ.out.frozen 2
    have hzf_3 := HZ.out.frozen 3
    refine tree_a rfl (fun K hK => ?_)
    go_simp
    refine hK _ _ ⟨but_of (grownBy_fill (grownBy_below (grownBy_refl _ _) HB34.out)), ?_⟩
    clear hK K
    refine tree_end ?_
    generalize (((((w4).setCell ⟨w.heap.size + 1 + 1, 0, none⟩ (.int .u64 (dig (r) 0 : Int))).setCell ⟨w.heap.size + 1 + 1, 1, none⟩ (.int .u64 (dig (r) 1 : Int))).setCell ⟨w.heap.size + 1 + 1, 2, none⟩ (.int .u64 (dig (r) 2 : Int))).setCell ⟨w.heap.size + 1 + 1, 3, none⟩ (.int .u64 (dig (r) 3 : Int))) = w5 at *
    clear hz_0 hz_1 hz_2 hz_3 hov hov2
    go_wp2_with fail
    have hg_0 := HS5.out.cell (i := 0) (x := (dig (r) 0 : Int)) rfl
    have hg_1 := HS5.out.cell (i := 1) (x := (dig (r) 1 : Int)) rfl
    have hg_2 := HS5.out.cell (i := 2) (x := (dig (r) 2 : Int)) rfl
    have hg_3 := HS5.out.cell (i := 3) (x := (dig (r) 3 : Int)) rfl
    simp [bodyPost, results, Try.results120, go_sem, hg_0, hg_1, hg_2, hg_3]
    exact HB5.out

end Go.Proofs.Ytdmldnpadojflaa
