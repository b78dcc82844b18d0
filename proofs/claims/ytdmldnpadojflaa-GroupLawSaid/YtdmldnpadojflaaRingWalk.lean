/- A ring's once, add, sub. No condition. -/
import Derived.Test.YtdmldnpadojflaaTree
import Derived.Test.YtdmldnpadojflaaLimbWalk
namespace Go.Proofs.Ytdmldnpadojflaa
open Go.RowKit

/-- A ring's numbers. -/
structure RingP where
  m : Nat
  one : Nat
  up : Nat
  low : Nat

def RingP.cells (R : RingP) : List Int := lim R.m ++ lim R.one ++ lim R.up ++ [(R.low : Int)]

/-- A ring lies at an address. -/
structure RingAt (W : World) (rb off : Nat) (R : RingP) : Prop where
  lt : rb < W.heap.size
  cell : ∀ i x, R.cells[i]? = some x → W.cell? ⟨rb, off + i, none⟩ = some (.int .u64 x)

theorem RingAt.below {W W' : World} {rb off n : Nat} {R : RingP} (h : RingAt W rb off R) (hb : Below n W W') (hn : rb < n) : RingAt W' rb off R :=
  ⟨Nat.lt_of_lt_of_le h.lt hb.size, fun i x hx => by rw [hb.cell (p := ⟨rb, off + i, none⟩) hn]; exact h.cell i x hx⟩
theorem RingAt.up {W W' : World} {rb off : Nat} {R : RingP} (h : RingAt W rb off R) (hb : Below W.heap.size W W') : RingAt W' rb off R := h.below hb h.lt

set_option maxHeartbeats 1000000 in
theorem once_any (R : RingP) (rb off a r : Nat) (ha : a < BB ^ 4) (hm : R.m < BB ^ 4) (hr : r = if R.m ≤ a then a - R.m else a) (w : World) (hR : RingAt w rb off R) :
    Calls Try.prog 128 #[.pointer (some ⟨rb, off, none⟩), limbV a] w fun e w' => e = .returned (limbV r) ∧ Below w.heap.size w w' := by
  have HA := Lib.hid ha
  have HM := Lib.hid hm
  have HR := Lib.hid hr
  clear ha hm hr
  unfold limbV
  go_enter Try.func128, Try.ntmps128
  go_wp2_with fail
  generalize hW0 : (w.alloc (Obj.cells #[.int .u64 (dig (a) 0 : Int), .int .u64 (dig (a) 1 : Int), .int .u64 (dig (a) 2 : Int), .int .u64 (dig (a) 3 : Int)] 76)).alloc (Obj.cells #[.int .u64 0, .int .u64 0, .int .u64 0, .int .u64 0] 76) = W0 at *
  have hA : Blk W0 w.heap.size 76 (lim a) := by rw [← hW0]; exact (Blk.new w _ (lim a) _ rfl).alloc _
  have hC : Blk W0 (w.heap.size + 1) 76 [0, 0, 0, 0] := by
    rw [← hW0]
    have h := Blk.new (w.alloc (Obj.cells #[.int .u64 (dig (a) 0 : Int), .int .u64 (dig (a) 1 : Int), .int .u64 (dig (a) 2 : Int), .int .u64 (dig (a) 3 : Int)] 76)) 76 [0, 0, 0, 0] _ rfl
    rw [World.size_alloc] at h
    exact h
  have hBW : Below w.heap.size w W0 := by rw [← hW0]; exact ((Below.refl _ _).alloc (Nat.le_refl _) _).alloc (by simp) _
  clear hW0
  have hR0 := hR.up hBW
  have hrl := hR.lt
  have hr0 : W0.cell? ⟨rb, off, none⟩ = some (.int .u64 (dig R.m 0 : Int)) := hR0.cell 0 (dig R.m 0 : Int) rfl
  have hr1 := hR0.cell 1 (dig R.m 1 : Int) rfl
  have hr2 := hR0.cell 2 (dig R.m 2 : Int) rfl
  have hr3 := hR0.cell 3 (dig R.m 3 : Int) rfl
  have hx_0 := hA.cell (i := 0) (x := (dig (a) 0 : Int)) rfl
  have hx_1 := hA.cell (i := 1) (x := (dig (a) 1 : Int)) rfl
  have hx_2 := hA.cell (i := 2) (x := (dig (a) 2 : Int)) rfl
  have hx_3 := hA.cell (i := 3) (x := (dig (a) 3 : Int)) rfl
  have hsz := hBW.size
  have hlA := hA.lt
  have hrb0 := hR0.lt
  refine wp_region_tree (fun w' => ∃ E : Over W0, w' = E.w) (.qs [0, 1, 2, 3, 4] (.two 5 (.qs [6, 7, 8] (.a 9 (.a 10 (.q 11 .done)))) 9 (.a 5 (.qs [6, 7, 8] (.a 10 (.q 11 .done)))))) (by kernel_rfl) (by kernel_rfl) (fun _ _ d _ _ h => by cases d <;> exact h) ?_ ?_
  · exact ⟨⟨_, (Below.refl _ _).drew⟩, rfl⟩
  have hov := fun (E : Over W0) o => E.cell (b := w.heap.size) o (by omega)
  have hov2 := fun (E : Over W0) o => E.cell (b := rb) o (by omega)
  simp only [Tree.qs]
  repeat (refine tree_q rfl rfl ?_; go_big_quiet_step (fail); refine wpQuiet_nil ?_)
  refine tree_two rfl rfl ?call ?alloc
  case call =>
    intro K hK
    go_simp
    refine (minus_any a R.m HM.out _).mono ?_
    rintro e w2 ⟨rfl, hb2⟩
    unfold limbV
    have hb2' : Below W0.heap.size W0 w2 := (Below.refl _ _).drew.trans hb2
    have HB2 := Lib.hid hb2'
    refine hK _ _ ⟨⟨⟨w2, hb2'⟩, rfl⟩, ?_⟩
    clear hK K hb2 hb2'
    repeat (refine tree_q rfl rfl ?_; go_big_quiet_step (fail); refine wpQuiet_nil ?_)
    refine tree_a rfl (fun K hK => ?_)
    go_simp
    refine hK _ _ ⟨⟨⟨_, HB2.out.alloc HB2.out.size _⟩, rfl⟩, ?_⟩
    clear hK K
    refine tree_a rfl (fun K hK => ?_)
    go_simp
    refine hK _ _ ⟨⟨⟨_, HB2.out.alloc HB2.out.size _⟩, rfl⟩, ?_⟩
    clear hK K
    refine tree_q rfl rfl ?_
    go_big_quiet_step (fail)
    refine wpQuiet_nil ?_
    refine tree_end ?_
    have h4 := HB2.out.alloc HB2.out.size (Obj.cells #[.int .u64 (dig (sub256 a R.m) 0 : Int), .int .u64 (dig (sub256 a R.m) 1 : Int), .int .u64 (dig (sub256 a R.m) 2 : Int), .int .u64 (dig (sub256 a R.m) 3 : Int)] 76)
    have HD : Hid (Blk (w2.alloc (Obj.cells #[.int .u64 (dig (sub256 a R.m) 0 : Int), .int .u64 (dig (sub256 a R.m) 1 : Int), .int .u64 (dig (sub256 a R.m) 2 : Int), .int .u64 (dig (sub256 a R.m) 3 : Int)] 76)) w2.heap.size 76 (lim (sub256 a R.m))) := Blk.new w2 _ (lim (sub256 a R.m)) _ rfl
    have HAA := Lib.hid (hA.below h4 hlA)
    have HZ := Lib.hid (hC.below h4 hC.lt)
    have HBB := Lib.hid (below_up hBW h4)
    clear h4 hov hov2 hA hC hBW hr0 hr1 hr2 hr3 hx_0 hx_1 hx_2 hx_3 hR0 hR
    generalize w2.alloc (Obj.cells #[.int .u64 (dig (sub256 a R.m) 0 : Int), .int .u64 (dig (sub256 a R.m) 1 : Int), .int .u64 (dig (sub256 a R.m) 2 : Int), .int .u64 (dig (sub256 a R.m) 3 : Int)] 76) = w4 at *
    by_cases hma : R.m ≤ a
    · have hu : ((under a R.m 4 : Nat) : Int) = 0 := by rw [under_four _ _ HA.out HM.out, if_neg (by omega)]; rfl
      have HRR : Hid (r = sub256 a R.m) := by show _ = _; rw [HR.out, if_pos hma, sub256_ok _ _ HA.out hma]
      have HB5 := Lib.hid (below_fill (n := sub256 a R.m) (b := w.heap.size + 1) HBB.out (by omega))
      have HS5 := Lib.hid (HZ.out.fill rfl (sub256 a R.m))
      have hd_0 := HD.out.cell (i := 0) (x := (dig (sub256 a R.m) 0 : Int)) rfl
      have hd_1 := HD.out.cell (i := 1) (x := (dig (sub256 a R.m) 1 : Int)) rfl
      have hd_2 := HD.out.cell (i := 2) (x := (dig (sub256 a R.m) 2 : Int)) rfl
      have hd_3 := HD.out.cell (i := 3) (x := (dig (sub256 a R.m) 3 : Int)) rfl
      have hz_0 := HZ.out.cell (i := 0) (x := 0) rfl
      have hz_1 := HZ.out.cell (i := 1) (x := 0) rfl
      have hz_2 := HZ.out.cell (i := 2) (x := 0) rfl
      have hz_3 := HZ.out.cell (i := 3) (x := 0) rfl
      have hf_0 := HZ.out.frozen 0
      have hf_1 := HZ.out.frozen 1
      have hf_2 := HZ.out.frozen 2
      have hf_3 := HZ.out.frozen 3
      generalize sub256 a R.m = d at *
      clear hma
      go_wp2_with fail
      generalize (((((w4).setCell ⟨w.heap.size + 1, 0, none⟩ (.int .u64 (dig (d) 0 : Int))).setCell ⟨w.heap.size + 1, 1, none⟩ (.int .u64 (dig (d) 1 : Int))).setCell ⟨w.heap.size + 1, 2, none⟩ (.int .u64 (dig (d) 2 : Int))).setCell ⟨w.heap.size + 1, 3, none⟩ (.int .u64 (dig (d) 3 : Int))) = w5 at *
      clear hz_0 hz_1 hz_2 hz_3
      have hg_0 := HS5.out.cell (i := 0) (x := (dig (d) 0 : Int)) rfl
      have hg_1 := HS5.out.cell (i := 1) (x := (dig (d) 1 : Int)) rfl
      have hg_2 := HS5.out.cell (i := 2) (x := (dig (d) 2 : Int)) rfl
      have hg_3 := HS5.out.cell (i := 3) (x := (dig (d) 3 : Int)) rfl
      simp [bodyPost, results, Try.results128, go_sem, hg_0, hg_1, hg_2, hg_3, HRR.out]
      exact HB5.out
    · have hu : ((under a R.m 4 : Nat) : Int) = 1 := by rw [under_four _ _ HA.out HM.out, if_pos (by omega)]; rfl
      have HRR : Hid (r = a) := by show _ = _; rw [HR.out, if_neg hma]
      have HB5 := Lib.hid (below_fill (n := a) (b := w.heap.size + 1) HBB.out (by omega))
      have HS5 := Lib.hid (HZ.out.fill rfl a)
      have hd_0 := HAA.out.cell (i := 0) (x := (dig (a) 0 : Int)) rfl
      have hd_1 := HAA.out.cell (i := 1) (x := (dig (a) 1 : Int)) rfl
      have hd_2 := HAA.out.cell (i := 2) (x := (dig (a) 2 : Int)) rfl
      have hd_3 := HAA.out.cell (i := 3) (x := (dig (a) 3 : Int)) rfl
      have hz_0 := HZ.out.cell (i := 0) (x := 0) rfl
      have hz_1 := HZ.out.cell (i := 1) (x := 0) rfl
      have hz_2 := HZ.out.cell (i := 2) (x := 0) rfl
      have hz_3 := HZ.out.cell (i := 3) (x := 0) rfl
      have hf_0 := HZ.out.frozen 0
      have hf_1 := HZ.out.frozen 1
      have hf_2 := HZ.out.frozen 2
      have hf_3 := HZ.out.frozen 3
      clear hma
      go_wp2_with fail
      generalize (((((w4).setCell ⟨w.heap.size + 1, 0, none⟩ (.int .u64 (dig (a) 0 : Int))).setCell ⟨w.heap.size + 1, 1, none⟩ (.int .u64 (dig (a) 1 : Int))).setCell ⟨w.heap.size + 1, 2, none⟩ (.int .u64 (dig (a) 2 : Int))).setCell ⟨w.heap.size + 1, 3, none⟩ (.int .u64 (dig (a) 3 : Int))) = w5 at *
      clear hz_0 hz_1 hz_2 hz_3
      have hg_0 := HS5.out.cell (i := 0) (x := (dig (a) 0 : Int)) rfl
      have hg_1 := HS5.out.cell (i := 1) (x := (dig (a) 1 : Int)) rfl
      have hg_2 := HS5.out.cell (i := 2) (x := (dig (a) 2 : Int)) rfl
      have hg_3 := HS5.out.cell (i := 3) (x := (dig (a) 3 : Int)) rfl
      simp [bodyPost, results, Try.results128, go_sem, hg_0, hg_1, hg_2, hg_3, HRR.out]
      exact HB5.out
  case alloc =>
    intro K hK
    go_simp
    have hal : Below W0.heap.size W0 (W0.alloc (Obj.cells #[.int .u64 0, .int .u64 0, .int .u64 0, .int .u64 0] 76)).drew := ((Below.refl _ _).alloc (Nat.le_refl _) _).drew
    have hnew : Blk (W0.alloc (Obj.cells #[.int .u64 0, .int .u64 0, .int .u64 0, .int .u64 0] 76)).drew W0.heap.size 76 [0, 0, 0, 0] := Blk.new W0 _ [0, 0, 0, 0] _ rfl
    refine hK _ _ ⟨⟨⟨_, hal⟩, rfl⟩, ?_⟩
    clear hK K
    refine tree_a rfl (fun K hK => ?_)
    go_simp
    refine (minus_any a R.m HM.out _).mono ?_
    rintro e w2 ⟨rfl, hb2⟩
    unfold limbV
    have hb2' : Below W0.heap.size W0 w2 := below_up hal hb2
    have hn2 : Blk w2 W0.heap.size 76 [0, 0, 0, 0] := hnew.below hb2 hnew.lt
    have HB2 := Lib.hid hb2'
    have HN2 := Lib.hid hn2
    refine hK _ _ ⟨⟨⟨w2, hb2'⟩, rfl⟩, ?_⟩
    clear hK K hb2 hb2' hal hnew hn2
    repeat (refine tree_q rfl rfl ?_; go_big_quiet_step (fail); refine wpQuiet_nil ?_)
    refine tree_a rfl (fun K hK => ?_)
    have hy_0 := HN2.out.cell (i := 0) (x := 0) rfl
    have hy_1 := HN2.out.cell (i := 1) (x := 0) rfl
    have hy_2 := HN2.out.cell (i := 2) (x := 0) rfl
    have hy_3 := HN2.out.cell (i := 3) (x := 0) rfl
    have hyf_0 := HN2.out.frozen 0
    have hyf_1 := HN2.out.frozen 1
    have hyf_2 := HN2.out.frozen 2
    have hyf_3 := HN2.out.frozen 3
    go_simp
    have h4 : Below W0.heap.size W0 (((((w2).setCell ⟨W0.heap.size, 0, none⟩ (.int .u64 (dig (sub256 a R.m) 0 : Int))).setCell ⟨W0.heap.size, 1, none⟩ (.int .u64 (dig (sub256 a R.m) 1 : Int))).setCell ⟨W0.heap.size, 2, none⟩ (.int .u64 (dig (sub256 a R.m) 2 : Int))).setCell ⟨W0.heap.size, 3, none⟩ (.int .u64 (dig (sub256 a R.m) 3 : Int))) := below_fill HB2.out (Nat.le_refl _)
    refine hK _ _ ⟨⟨⟨_, h4⟩, rfl⟩, ?_⟩
    clear hK K
    refine tree_q rfl rfl ?_
    go_big_quiet_step (fail)
    refine wpQuiet_nil ?_
    refine tree_end ?_
    have HD : Hid (Blk (((((w2).setCell ⟨W0.heap.size, 0, none⟩ (.int .u64 (dig (sub256 a R.m) 0 : Int))).setCell ⟨W0.heap.size, 1, none⟩ (.int .u64 (dig (sub256 a R.m) 1 : Int))).setCell ⟨W0.heap.size, 2, none⟩ (.int .u64 (dig (sub256 a R.m) 2 : Int))).setCell ⟨W0.heap.size, 3, none⟩ (.int .u64 (dig (sub256 a R.m) 3 : Int))) W0.heap.size 76 (lim (sub256 a R.m))) := HN2.out.fill rfl _
    have HAA := Lib.hid (hA.below h4 hlA)
    have HZ := Lib.hid (hC.below h4 hC.lt)
    have HBB := Lib.hid (below_up hBW h4)
    clear h4 hov hov2 hA hC hBW hr0 hr1 hr2 hr3 hx_0 hx_1 hx_2 hx_3 hR0 hR hy_0 hy_1 hy_2 hy_3 hyf_0 hyf_1 hyf_2 hyf_3
    generalize (((((w2).setCell ⟨W0.heap.size, 0, none⟩ (.int .u64 (dig (sub256 a R.m) 0 : Int))).setCell ⟨W0.heap.size, 1, none⟩ (.int .u64 (dig (sub256 a R.m) 1 : Int))).setCell ⟨W0.heap.size, 2, none⟩ (.int .u64 (dig (sub256 a R.m) 2 : Int))).setCell ⟨W0.heap.size, 3, none⟩ (.int .u64 (dig (sub256 a R.m) 3 : Int))) = w4 at *
    by_cases hma : R.m ≤ a
    · have hu : ((under a R.m 4 : Nat) : Int) = 0 := by rw [under_four _ _ HA.out HM.out, if_neg (by omega)]; rfl
      have HRR : Hid (r = sub256 a R.m) := by show _ = _; rw [HR.out, if_pos hma, sub256_ok _ _ HA.out hma]
      have HB5 := Lib.hid (below_fill (n := sub256 a R.m) (b := w.heap.size + 1) HBB.out (by omega))
      have HS5 := Lib.hid (HZ.out.fill rfl (sub256 a R.m))
      have hd_0 := HD.out.cell (i := 0) (x := (dig (sub256 a R.m) 0 : Int)) rfl
      have hd_1 := HD.out.cell (i := 1) (x := (dig (sub256 a R.m) 1 : Int)) rfl
      have hd_2 := HD.out.cell (i := 2) (x := (dig (sub256 a R.m) 2 : Int)) rfl
      have hd_3 := HD.out.cell (i := 3) (x := (dig (sub256 a R.m) 3 : Int)) rfl
      have hz_0 := HZ.out.cell (i := 0) (x := 0) rfl
      have hz_1 := HZ.out.cell (i := 1) (x := 0) rfl
      have hz_2 := HZ.out.cell (i := 2) (x := 0) rfl
      have hz_3 := HZ.out.cell (i := 3) (x := 0) rfl
      have hf_0 := HZ.out.frozen 0
      have hf_1 := HZ.out.frozen 1
      have hf_2 := HZ.out.frozen 2
      have hf_3 := HZ.out.frozen 3
      generalize sub256 a R.m = d at *
      clear hma
      go_wp2_with fail
      generalize (((((w4).setCell ⟨w.heap.size + 1, 0, none⟩ (.int .u64 (dig (d) 0 : Int))).setCell ⟨w.heap.size + 1, 1, none⟩ (.int .u64 (dig (d) 1 : Int))).setCell ⟨w.heap.size + 1, 2, none⟩ (.int .u64 (dig (d) 2 : Int))).setCell ⟨w.heap.size + 1, 3, none⟩ (.int .u64 (dig (d) 3 : Int))) = w5 at *
      clear hz_0 hz_1 hz_2 hz_3
      have hg_0 := HS5.out.cell (i := 0) (x := (dig (d) 0 : Int)) rfl
      have hg_1 := HS5.out.cell (i := 1) (x := (dig (d) 1 : Int)) rfl
      have hg_2 := HS5.out.cell (i := 2) (x := (dig (d) 2 : Int)) rfl
      have hg_3 := HS5.out.cell (i := 3) (x := (dig (d) 3 : Int)) rfl
      simp [bodyPost, results, Try.results128, go_sem, hg_0, hg_1, hg_2, hg_3, HRR.out]
      exact HB5.out
    · have hu : ((under a R.m 4 : Nat) : Int) = 1 := by rw [under_four _ _ HA.out HM.out, if_pos (by omega)]; rfl
      have HRR : Hid (r = a) := by show _ = _; rw [HR.out, if_neg hma]
      have HB5 := Lib.hid (below_fill (n := a) (b := w.heap.size + 1) HBB.out (by omega))
      have HS5 := Lib.hid (HZ.out.fill rfl a)
      have hd_0 := HAA.out.cell (i := 0) (x := (dig (a) 0 : Int)) rfl
      have hd_1 := HAA.out.cell (i := 1) (x := (dig (a) 1 : Int)) rfl
      have hd_2 := HAA.out.cell (i := 2) (x := (dig (a) 2 : Int)) rfl
      have hd_3 := HAA.out.cell (i := 3) (x := (dig (a) 3 : Int)) rfl
      have hz_0 := HZ.out.cell (i := 0) (x := 0) rfl
      have hz_1 := HZ.out.cell (i := 1) (x := 0) rfl
      have hz_2 := HZ.out.cell (i := 2) (x := 0) rfl
      have hz_3 := HZ.out.cell (i := 3) (x := 0) rfl
      have hf_0 := HZ.out.frozen 0
      have hf_1 := HZ.out.frozen 1
      have hf_2 := HZ.out.frozen 2
      have hf_3 := HZ.out.frozen 3
      clear hma
      go_wp2_with fail
      generalize (((((w4).setCell ⟨w.heap.size + 1, 0, none⟩ (.int .u64 (dig (a) 0 : Int))).setCell ⟨w.heap.size + 1, 1, none⟩ (.int .u64 (dig (a) 1 : Int))).setCell ⟨w.heap.size + 1, 2, none⟩ (.int .u64 (dig (a) 2 : Int))).setCell ⟨w.heap.size + 1, 3, none⟩ (.int .u64 (dig (a) 3 : Int))) = w5 at *
      clear hz_0 hz_1 hz_2 hz_3
      have hg_0 := HS5.out.cell (i := 0) (x := (dig (a) 0 : Int)) rfl
      have hg_1 := HS5.out.cell (i := 1) (x := (dig (a) 1 : Int)) rfl
      have hg_2 := HS5.out.cell (i := 2) (x := (dig (a) 2 : Int)) rfl
      have hg_3 := HS5.out.cell (i := 3) (x := (dig (a) 3 : Int)) rfl
      simp [bodyPost, results, Try.results128, go_sem, hg_0, hg_1, hg_2, hg_3, HRR.out]
      exact HB5.out

end Go.Proofs.Ytdmldnpadojflaa
