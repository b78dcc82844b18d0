/- The group of a kind: scalars and elements are read. No condition. -/
import Derived.Test.YtdmldnpadojflaaGrpRead
namespace Go.Proofs.Ytdmldnpadojflaa
open Go.RowKit


theorem numOf_lt (s : ByteArray) (hs : s.size ≤ 32) : numOf s < BB ^ 4 := by
  have h := numL_lt s.data.toList
  have e : s.data.toList.length = s.size := rfl
  rw [e] at h
  exact Nat.lt_of_lt_of_le h (by
    have := Nat.pow_le_pow_right (n := 256) (by decide) hs
    exact Nat.le_trans this (by decide))

theorem cmp_is (a b : Nat) (c : Int) (ha : a < BB ^ 4) (hb : b < BB ^ 4) (hc : cmpI a b = c) (w : World) : Calls Try.prog 108 #[limbV a, limbV b] w fun e w' => e = .returned (.int .i64 c) ∧ Below w.heap.size w w' := by
  subst hc; exact cmp_any a b ha hb w


set_option maxHeartbeats 1000000 in
theorem gScalar_long (G : GP) (ok : G.Ok) (gb : Nat) (s : ByteArray) (hs : 32 < s.size) (w : World) (hG : GroupAt w gb G) :
    Calls Try.prog 74 #[.pointer (some ⟨gb, 0, none⟩), .string s] w fun e w' => e = .returned (.tuple #[limbV 0, .bool false]) ∧ Below w.heap.size w w' := by
  have e0 : limbV 0 = .agg #[.int .u64 0, .int .u64 0, .int .u64 0, .int .u64 0] := limbV_small 0 (by decide)
  rw [e0]
  clear e0
  have OK := Lib.hid ok
  clear ok
  go_enter Try.func74, Try.ntmps74
  go_wp2_with fail
  obtain ⟨W0, hW0⟩ : ∃ W9 : World, (w.alloc (Obj.cells #[.int .u64 0, .int .u64 0, .int .u64 0, .int .u64 0] 93)) = W9 := ⟨_, rfl⟩
  rw [hW0]
  have hC : Blk W0 (w.heap.size) 93 [0, 0, 0, 0] := by
    rw [← hW0]
    have h := (Blk.new w 93 [0, 0, 0, 0] _ rfl)
    exact h
  have hBW : Below w.heap.size w W0 := by rw [← hW0]; exact ((Below.refl w.heap.size w).alloc (Nat.le_refl _) _)
  clear hW0
  have HG0 := Lib.hid (hG.up hBW)
  have HC := Lib.hid hC
  have HBW := Lib.hid hBW
  have hcl := hC.lt
  clear hG hC hBW
  refine (read_long s hs W0).mono ?_
  rintro e w2 ⟨rfl, hb2⟩
  have hz2 := hb2.size
  have HN : Hid (Blk (w2.alloc (Obj.cells #[.int .u64 (dig (0) 0 : Int), .int .u64 (dig (0) 1 : Int), .int .u64 (dig (0) 2 : Int), .int .u64 (dig (0) 3 : Int)] 76)) w2.heap.size 76 (lim (0))) := Blk.new w2 _ _ _ rfl
  have HB3 := Lib.hid (hb2.alloc hz2 (Obj.cells #[.int .u64 (dig (0) 0 : Int), .int .u64 (dig (0) 1 : Int), .int .u64 (dig (0) 2 : Int), .int .u64 (dig (0) 3 : Int)] 76))
  clear hb2
  unfold limbV
  go_wp2_with fail
  generalize w2.alloc (Obj.cells #[.int .u64 (dig (0) 0 : Int), .int .u64 (dig (0) 1 : Int), .int .u64 (dig (0) 2 : Int), .int .u64 (dig (0) 3 : Int)] 76) = W3 at *
  have hG0 := HG0.out.up HB3.out
  have hgl := hG0.lt
  have hgk := hG0.kind
  have hgs := hG0.size
  have hpm_0 : W3.cell? ⟨gb, 2, none⟩ = some (.int .u64 (dig G.p.m 0 : Int)) := hG0.p.cell 0 _ rfl
  have hpm_1 : W3.cell? ⟨gb, 3, none⟩ = some (.int .u64 (dig G.p.m 1 : Int)) := hG0.p.cell 1 _ rfl
  have hpm_2 : W3.cell? ⟨gb, 4, none⟩ = some (.int .u64 (dig G.p.m 2 : Int)) := hG0.p.cell 2 _ rfl
  have hpm_3 : W3.cell? ⟨gb, 5, none⟩ = some (.int .u64 (dig G.p.m 3 : Int)) := hG0.p.cell 3 _ rfl
  have hpo_0 : W3.cell? ⟨gb, 6, none⟩ = some (.int .u64 (dig (mont G.p.m 1) 0 : Int)) := by rw [← OK.out.p.one']; exact hG0.p.cell 4 _ rfl
  have hpo_1 : W3.cell? ⟨gb, 7, none⟩ = some (.int .u64 (dig (mont G.p.m 1) 1 : Int)) := by rw [← OK.out.p.one']; exact hG0.p.cell 5 _ rfl
  have hpo_2 : W3.cell? ⟨gb, 8, none⟩ = some (.int .u64 (dig (mont G.p.m 1) 2 : Int)) := by rw [← OK.out.p.one']; exact hG0.p.cell 6 _ rfl
  have hpo_3 : W3.cell? ⟨gb, 9, none⟩ = some (.int .u64 (dig (mont G.p.m 1) 3 : Int)) := by rw [← OK.out.p.one']; exact hG0.p.cell 7 _ rfl
  have hqm_0 : W3.cell? ⟨gb, 15, none⟩ = some (.int .u64 (dig G.q.m 0 : Int)) := hG0.q.cell 0 _ rfl
  have hqm_1 : W3.cell? ⟨gb, 16, none⟩ = some (.int .u64 (dig G.q.m 1 : Int)) := hG0.q.cell 1 _ rfl
  have hqm_2 : W3.cell? ⟨gb, 17, none⟩ = some (.int .u64 (dig G.q.m 2 : Int)) := hG0.q.cell 2 _ rfl
  have hqm_3 : W3.cell? ⟨gb, 18, none⟩ = some (.int .u64 (dig G.q.m 3 : Int)) := hG0.q.cell 3 _ rfl
  have hqo_0 : W3.cell? ⟨gb, 19, none⟩ = some (.int .u64 (dig (mont G.q.m 1) 0 : Int)) := by rw [← OK.out.q.one']; exact hG0.q.cell 4 _ rfl
  have hqo_1 : W3.cell? ⟨gb, 20, none⟩ = some (.int .u64 (dig (mont G.q.m 1) 1 : Int)) := by rw [← OK.out.q.one']; exact hG0.q.cell 5 _ rfl
  have hqo_2 : W3.cell? ⟨gb, 21, none⟩ = some (.int .u64 (dig (mont G.q.m 1) 2 : Int)) := by rw [← OK.out.q.one']; exact hG0.q.cell 6 _ rfl
  have hqo_3 : W3.cell? ⟨gb, 22, none⟩ = some (.int .u64 (dig (mont G.q.m 1) 3 : Int)) := by rw [← OK.out.q.one']; exact hG0.q.cell 7 _ rfl
  have hn_0 := HN.out.cell (i := 0) (x := (dig (0) 0 : Int)) rfl
  have hn_1 := HN.out.cell (i := 1) (x := (dig (0) 1 : Int)) rfl
  have hn_2 := HN.out.cell (i := 2) (x := (dig (0) 2 : Int)) rfl
  have hn_3 := HN.out.cell (i := 3) (x := (dig (0) 3 : Int)) rfl
  have hln := HN.out.lt
  refine wp_region_over (by kernel_rfl) (by kernel_rfl) ?_
  repeat (go_big_quiet_step (fail))
  refine wpQuiet_nil ?_
  rintro _ ⟨E, rfl⟩
  have HZ := Lib.hid ((HC.out.below HB3.out HC.out.lt).below E.h (by have := HB3.out.size; omega))
  have HBB := Lib.hid (below_up (below_up HBW.out HB3.out) E.h)
  generalize E.w = w3 at *
  have HS5 : Hid (Blk (((((w3).setCell ⟨w.heap.size, 0, none⟩ (.int .u64 0)).setCell ⟨w.heap.size, 1, none⟩ (.int .u64 0)).setCell ⟨w.heap.size, 2, none⟩ (.int .u64 0)).setCell ⟨w.heap.size, 3, none⟩ (.int .u64 0)) (w.heap.size) 93 [0, 0, 0, 0]) := (((HZ.out.set 0 0).set 1 0).set 2 0).set 3 0
  have HB5 : Hid (Below w.heap.size w (((((w3).setCell ⟨w.heap.size, 0, none⟩ (.int .u64 0)).setCell ⟨w.heap.size, 1, none⟩ (.int .u64 0)).setCell ⟨w.heap.size, 2, none⟩ (.int .u64 0)).setCell ⟨w.heap.size, 3, none⟩ (.int .u64 0))) := below_four HBB.out (by omega) _ _ _ _
  have hz_0 := HZ.out.cell (i := 0) (x := 0) rfl
  have hz_1 := HZ.out.cell (i := 1) (x := 0) rfl
  have hz_2 := HZ.out.cell (i := 2) (x := 0) rfl
  have hz_3 := HZ.out.cell (i := 3) (x := 0) rfl
  have hzf_0 := HZ.out.frozen 0
  have hzf_1 := HZ.out.frozen 1
  have hzf_2 := HZ.out.frozen 2
  have hzf_3 := HZ.out.frozen 3
  go_wp2_with fail
  generalize (((((w3).setCell ⟨w.heap.size, 0, none⟩ (.int .u64 0)).setCell ⟨w.heap.size, 1, none⟩ (.int .u64 0)).setCell ⟨w.heap.size, 2, none⟩ (.int .u64 0)).setCell ⟨w.heap.size, 3, none⟩ (.int .u64 0)) = w5 at *
  clear hz_0 hz_1 hz_2 hz_3
  have hg_0 := HS5.out.cell (i := 0) (x := 0) rfl
  have hg_1 := HS5.out.cell (i := 1) (x := 0) rfl
  have hg_2 := HS5.out.cell (i := 2) (x := 0) rfl
  have hg_3 := HS5.out.cell (i := 3) (x := 0) rfl
  simp [bodyPost, results, Try.results74, go_sem, hg_0, hg_1, hg_2, hg_3]
  exact HB5.out

set_option maxHeartbeats 1000000 in
theorem gScalar_len (G : GP) (ok : G.Ok) (gb : Nat) (s : ByteArray) (hs : s.size ≤ 32) (hl : s.size ≠ G.size) (w : World) (hG : GroupAt w gb G) :
    Calls Try.prog 74 #[.pointer (some ⟨gb, 0, none⟩), .string s] w fun e w' => e = .returned (.tuple #[limbV 0, .bool false]) ∧ Below w.heap.size w w' := by
  have e0 : limbV 0 = .agg #[.int .u64 0, .int .u64 0, .int .u64 0, .int .u64 0] := limbV_small 0 (by decide)
  rw [e0]
  clear e0
  have OK := Lib.hid ok
  clear ok
  go_enter Try.func74, Try.ntmps74
  go_wp2_with fail
  obtain ⟨W0, hW0⟩ : ∃ W9 : World, (w.alloc (Obj.cells #[.int .u64 0, .int .u64 0, .int .u64 0, .int .u64 0] 93)) = W9 := ⟨_, rfl⟩
  rw [hW0]
  have hC : Blk W0 (w.heap.size) 93 [0, 0, 0, 0] := by
    rw [← hW0]
    have h := (Blk.new w 93 [0, 0, 0, 0] _ rfl)
    exact h
  have hBW : Below w.heap.size w W0 := by rw [← hW0]; exact ((Below.refl w.heap.size w).alloc (Nat.le_refl _) _)
  clear hW0
  have HG0 := Lib.hid (hG.up hBW)
  have HC := Lib.hid hC
  have HBW := Lib.hid hBW
  have hcl := hC.lt
  clear hG hC hBW
  refine (read_any s hs W0).mono ?_
  rintro e w2 ⟨rfl, hb2⟩
  have hz2 := hb2.size
  have HN : Hid (Blk (w2.alloc (Obj.cells #[.int .u64 (dig (numOf s) 0 : Int), .int .u64 (dig (numOf s) 1 : Int), .int .u64 (dig (numOf s) 2 : Int), .int .u64 (dig (numOf s) 3 : Int)] 76)) w2.heap.size 76 (lim (numOf s))) := Blk.new w2 _ _ _ rfl
  have HB3 := Lib.hid (hb2.alloc hz2 (Obj.cells #[.int .u64 (dig (numOf s) 0 : Int), .int .u64 (dig (numOf s) 1 : Int), .int .u64 (dig (numOf s) 2 : Int), .int .u64 (dig (numOf s) 3 : Int)] 76))
  clear hb2
  unfold limbV
  go_wp2_with fail
  generalize w2.alloc (Obj.cells #[.int .u64 (dig (numOf s) 0 : Int), .int .u64 (dig (numOf s) 1 : Int), .int .u64 (dig (numOf s) 2 : Int), .int .u64 (dig (numOf s) 3 : Int)] 76) = W3 at *
  have hG0 := HG0.out.up HB3.out
  have hgl := hG0.lt
  have hgk := hG0.kind
  have hgs := hG0.size
  have hpm_0 : W3.cell? ⟨gb, 2, none⟩ = some (.int .u64 (dig G.p.m 0 : Int)) := hG0.p.cell 0 _ rfl
  have hpm_1 : W3.cell? ⟨gb, 3, none⟩ = some (.int .u64 (dig G.p.m 1 : Int)) := hG0.p.cell 1 _ rfl
  have hpm_2 : W3.cell? ⟨gb, 4, none⟩ = some (.int .u64 (dig G.p.m 2 : Int)) := hG0.p.cell 2 _ rfl
  have hpm_3 : W3.cell? ⟨gb, 5, none⟩ = some (.int .u64 (dig G.p.m 3 : Int)) := hG0.p.cell 3 _ rfl
  have hpo_0 : W3.cell? ⟨gb, 6, none⟩ = some (.int .u64 (dig (mont G.p.m 1) 0 : Int)) := by rw [← OK.out.p.one']; exact hG0.p.cell 4 _ rfl
  have hpo_1 : W3.cell? ⟨gb, 7, none⟩ = some (.int .u64 (dig (mont G.p.m 1) 1 : Int)) := by rw [← OK.out.p.one']; exact hG0.p.cell 5 _ rfl
  have hpo_2 : W3.cell? ⟨gb, 8, none⟩ = some (.int .u64 (dig (mont G.p.m 1) 2 : Int)) := by rw [← OK.out.p.one']; exact hG0.p.cell 6 _ rfl
  have hpo_3 : W3.cell? ⟨gb, 9, none⟩ = some (.int .u64 (dig (mont G.p.m 1) 3 : Int)) := by rw [← OK.out.p.one']; exact hG0.p.cell 7 _ rfl
  have hqm_0 : W3.cell? ⟨gb, 15, none⟩ = some (.int .u64 (dig G.q.m 0 : Int)) := hG0.q.cell 0 _ rfl
  have hqm_1 : W3.cell? ⟨gb, 16, none⟩ = some (.int .u64 (dig G.q.m 1 : Int)) := hG0.q.cell 1 _ rfl
  have hqm_2 : W3.cell? ⟨gb, 17, none⟩ = some (.int .u64 (dig G.q.m 2 : Int)) := hG0.q.cell 2 _ rfl
  have hqm_3 : W3.cell? ⟨gb, 18, none⟩ = some (.int .u64 (dig G.q.m 3 : Int)) := hG0.q.cell 3 _ rfl
  have hqo_0 : W3.cell? ⟨gb, 19, none⟩ = some (.int .u64 (dig (mont G.q.m 1) 0 : Int)) := by rw [← OK.out.q.one']; exact hG0.q.cell 4 _ rfl
  have hqo_1 : W3.cell? ⟨gb, 20, none⟩ = some (.int .u64 (dig (mont G.q.m 1) 1 : Int)) := by rw [← OK.out.q.one']; exact hG0.q.cell 5 _ rfl
  have hqo_2 : W3.cell? ⟨gb, 21, none⟩ = some (.int .u64 (dig (mont G.q.m 1) 2 : Int)) := by rw [← OK.out.q.one']; exact hG0.q.cell 6 _ rfl
  have hqo_3 : W3.cell? ⟨gb, 22, none⟩ = some (.int .u64 (dig (mont G.q.m 1) 3 : Int)) := by rw [← OK.out.q.one']; exact hG0.q.cell 7 _ rfl
  have hn_0 := HN.out.cell (i := 0) (x := (dig (numOf s) 0 : Int)) rfl
  have hn_1 := HN.out.cell (i := 1) (x := (dig (numOf s) 1 : Int)) rfl
  have hn_2 := HN.out.cell (i := 2) (x := (dig (numOf s) 2 : Int)) rfl
  have hn_3 := HN.out.cell (i := 3) (x := (dig (numOf s) 3 : Int)) rfl
  have hln := HN.out.lt
  have hne : ((s.size : Int) != (G.size : Int)) = true := by simp; omega
  have hovg := fun (E : Over W3) o => E.cell (b := gb) o hgl
  refine wp_region_over (by kernel_rfl) (by kernel_rfl) ?_
  repeat (go_big_quiet_step (fail))
  refine wpQuiet_nil ?_
  rintro _ ⟨E, rfl⟩
  have HZ := Lib.hid ((HC.out.below HB3.out HC.out.lt).below E.h (by have := HB3.out.size; omega))
  have HBB := Lib.hid (below_up (below_up HBW.out HB3.out) E.h)
  clear hovg
  generalize E.w = w3 at *
  have HS5 : Hid (Blk (((((w3).setCell ⟨w.heap.size, 0, none⟩ (.int .u64 0)).setCell ⟨w.heap.size, 1, none⟩ (.int .u64 0)).setCell ⟨w.heap.size, 2, none⟩ (.int .u64 0)).setCell ⟨w.heap.size, 3, none⟩ (.int .u64 0)) (w.heap.size) 93 [0, 0, 0, 0]) := (((HZ.out.set 0 0).set 1 0).set 2 0).set 3 0
  have HB5 : Hid (Below w.heap.size w (((((w3).setCell ⟨w.heap.size, 0, none⟩ (.int .u64 0)).setCell ⟨w.heap.size, 1, none⟩ (.int .u64 0)).setCell ⟨w.heap.size, 2, none⟩ (.int .u64 0)).setCell ⟨w.heap.size, 3, none⟩ (.int .u64 0))) := below_four HBB.out (by omega) _ _ _ _
  have hz_0 := HZ.out.cell (i := 0) (x := 0) rfl
  have hz_1 := HZ.out.cell (i := 1) (x := 0) rfl
  have hz_2 := HZ.out.cell (i := 2) (x := 0) rfl
  have hz_3 := HZ.out.cell (i := 3) (x := 0) rfl
  have hzf_0 := HZ.out.frozen 0
  have hzf_1 := HZ.out.frozen 1
  have hzf_2 := HZ.out.frozen 2
  have hzf_3 := HZ.out.frozen 3
  go_wp2_with fail
  generalize (((((w3).setCell ⟨w.heap.size, 0, none⟩ (.int .u64 0)).setCell ⟨w.heap.size, 1, none⟩ (.int .u64 0)).setCell ⟨w.heap.size, 2, none⟩ (.int .u64 0)).setCell ⟨w.heap.size, 3, none⟩ (.int .u64 0)) = w5 at *
  clear hz_0 hz_1 hz_2 hz_3
  have hg_0 := HS5.out.cell (i := 0) (x := 0) rfl
  have hg_1 := HS5.out.cell (i := 1) (x := 0) rfl
  have hg_2 := HS5.out.cell (i := 2) (x := 0) rfl
  have hg_3 := HS5.out.cell (i := 3) (x := 0) rfl
  simp [bodyPost, results, Try.results74, go_sem, hg_0, hg_1, hg_2, hg_3]
  exact HB5.out

set_option maxHeartbeats 1000000 in
theorem gElem_long (G : GP) (ok : G.Ok) (gb : Nat) (s : ByteArray) (hs : 32 < s.size) (w : World) (hG : GroupAt w gb G) :
    Calls Try.prog 73 #[.pointer (some ⟨gb, 0, none⟩), .string s] w fun e w' => e = .returned (.tuple #[limbV 0, .bool false]) ∧ Below w.heap.size w w' := by
  have e0 : limbV 0 = .agg #[.int .u64 0, .int .u64 0, .int .u64 0, .int .u64 0] := limbV_small 0 (by decide)
  rw [e0]
  clear e0
  have OK := Lib.hid ok
  clear ok
  go_enter Try.func73, Try.ntmps73
  go_wp2_with fail
  obtain ⟨W0, hW0⟩ : ∃ W9 : World, (w.alloc (Obj.cells #[.int .u64 0, .int .u64 0, .int .u64 0, .int .u64 0] 88)) = W9 := ⟨_, rfl⟩
  rw [hW0]
  have hC : Blk W0 (w.heap.size) 88 [0, 0, 0, 0] := by
    rw [← hW0]
    have h := (Blk.new w 88 [0, 0, 0, 0] _ rfl)
    exact h
  have hBW : Below w.heap.size w W0 := by rw [← hW0]; exact ((Below.refl w.heap.size w).alloc (Nat.le_refl _) _)
  clear hW0
  have HG0 := Lib.hid (hG.up hBW)
  have HC := Lib.hid hC
  have HBW := Lib.hid hBW
  have hcl := hC.lt
  clear hG hC hBW
  refine (read_long s hs W0).mono ?_
  rintro e w2 ⟨rfl, hb2⟩
  have hz2 := hb2.size
  have HN : Hid (Blk (w2.alloc (Obj.cells #[.int .u64 (dig (0) 0 : Int), .int .u64 (dig (0) 1 : Int), .int .u64 (dig (0) 2 : Int), .int .u64 (dig (0) 3 : Int)] 76)) w2.heap.size 76 (lim (0))) := Blk.new w2 _ _ _ rfl
  have HB3 := Lib.hid (hb2.alloc hz2 (Obj.cells #[.int .u64 (dig (0) 0 : Int), .int .u64 (dig (0) 1 : Int), .int .u64 (dig (0) 2 : Int), .int .u64 (dig (0) 3 : Int)] 76))
  clear hb2
  unfold limbV
  go_wp2_with fail
  generalize w2.alloc (Obj.cells #[.int .u64 (dig (0) 0 : Int), .int .u64 (dig (0) 1 : Int), .int .u64 (dig (0) 2 : Int), .int .u64 (dig (0) 3 : Int)] 76) = W3 at *
  have hG0 := HG0.out.up HB3.out
  have hgl := hG0.lt
  have hgk := hG0.kind
  have hgs := hG0.size
  have hpm_0 : W3.cell? ⟨gb, 2, none⟩ = some (.int .u64 (dig G.p.m 0 : Int)) := hG0.p.cell 0 _ rfl
  have hpm_1 : W3.cell? ⟨gb, 3, none⟩ = some (.int .u64 (dig G.p.m 1 : Int)) := hG0.p.cell 1 _ rfl
  have hpm_2 : W3.cell? ⟨gb, 4, none⟩ = some (.int .u64 (dig G.p.m 2 : Int)) := hG0.p.cell 2 _ rfl
  have hpm_3 : W3.cell? ⟨gb, 5, none⟩ = some (.int .u64 (dig G.p.m 3 : Int)) := hG0.p.cell 3 _ rfl
  have hpo_0 : W3.cell? ⟨gb, 6, none⟩ = some (.int .u64 (dig (mont G.p.m 1) 0 : Int)) := by rw [← OK.out.p.one']; exact hG0.p.cell 4 _ rfl
  have hpo_1 : W3.cell? ⟨gb, 7, none⟩ = some (.int .u64 (dig (mont G.p.m 1) 1 : Int)) := by rw [← OK.out.p.one']; exact hG0.p.cell 5 _ rfl
  have hpo_2 : W3.cell? ⟨gb, 8, none⟩ = some (.int .u64 (dig (mont G.p.m 1) 2 : Int)) := by rw [← OK.out.p.one']; exact hG0.p.cell 6 _ rfl
  have hpo_3 : W3.cell? ⟨gb, 9, none⟩ = some (.int .u64 (dig (mont G.p.m 1) 3 : Int)) := by rw [← OK.out.p.one']; exact hG0.p.cell 7 _ rfl
  have hqm_0 : W3.cell? ⟨gb, 15, none⟩ = some (.int .u64 (dig G.q.m 0 : Int)) := hG0.q.cell 0 _ rfl
  have hqm_1 : W3.cell? ⟨gb, 16, none⟩ = some (.int .u64 (dig G.q.m 1 : Int)) := hG0.q.cell 1 _ rfl
  have hqm_2 : W3.cell? ⟨gb, 17, none⟩ = some (.int .u64 (dig G.q.m 2 : Int)) := hG0.q.cell 2 _ rfl
  have hqm_3 : W3.cell? ⟨gb, 18, none⟩ = some (.int .u64 (dig G.q.m 3 : Int)) := hG0.q.cell 3 _ rfl
  have hqo_0 : W3.cell? ⟨gb, 19, none⟩ = some (.int .u64 (dig (mont G.q.m 1) 0 : Int)) := by rw [← OK.out.q.one']; exact hG0.q.cell 4 _ rfl
  have hqo_1 : W3.cell? ⟨gb, 20, none⟩ = some (.int .u64 (dig (mont G.q.m 1) 1 : Int)) := by rw [← OK.out.q.one']; exact hG0.q.cell 5 _ rfl
  have hqo_2 : W3.cell? ⟨gb, 21, none⟩ = some (.int .u64 (dig (mont G.q.m 1) 2 : Int)) := by rw [← OK.out.q.one']; exact hG0.q.cell 6 _ rfl
  have hqo_3 : W3.cell? ⟨gb, 22, none⟩ = some (.int .u64 (dig (mont G.q.m 1) 3 : Int)) := by rw [← OK.out.q.one']; exact hG0.q.cell 7 _ rfl
  have hn_0 := HN.out.cell (i := 0) (x := (dig (0) 0 : Int)) rfl
  have hn_1 := HN.out.cell (i := 1) (x := (dig (0) 1 : Int)) rfl
  have hn_2 := HN.out.cell (i := 2) (x := (dig (0) 2 : Int)) rfl
  have hn_3 := HN.out.cell (i := 3) (x := (dig (0) 3 : Int)) rfl
  have hln := HN.out.lt
  refine wp_region_over (by kernel_rfl) (by kernel_rfl) ?_
  repeat (go_big_quiet_step (fail))
  refine wpQuiet_nil ?_
  rintro _ ⟨E, rfl⟩
  have HZ := Lib.hid ((HC.out.below HB3.out HC.out.lt).below E.h (by have := HB3.out.size; omega))
  have HBB := Lib.hid (below_up (below_up HBW.out HB3.out) E.h)
  generalize E.w = w3 at *
  have HS5 : Hid (Blk (((((w3).setCell ⟨w.heap.size, 0, none⟩ (.int .u64 0)).setCell ⟨w.heap.size, 1, none⟩ (.int .u64 0)).setCell ⟨w.heap.size, 2, none⟩ (.int .u64 0)).setCell ⟨w.heap.size, 3, none⟩ (.int .u64 0)) (w.heap.size) 88 [0, 0, 0, 0]) := (((HZ.out.set 0 0).set 1 0).set 2 0).set 3 0
  have HB5 : Hid (Below w.heap.size w (((((w3).setCell ⟨w.heap.size, 0, none⟩ (.int .u64 0)).setCell ⟨w.heap.size, 1, none⟩ (.int .u64 0)).setCell ⟨w.heap.size, 2, none⟩ (.int .u64 0)).setCell ⟨w.heap.size, 3, none⟩ (.int .u64 0))) := below_four HBB.out (by omega) _ _ _ _
  have hz_0 := HZ.out.cell (i := 0) (x := 0) rfl
  have hz_1 := HZ.out.cell (i := 1) (x := 0) rfl
  have hz_2 := HZ.out.cell (i := 2) (x := 0) rfl
  have hz_3 := HZ.out.cell (i := 3) (x := 0) rfl
  have hzf_0 := HZ.out.frozen 0
  have hzf_1 := HZ.out.frozen 1
  have hzf_2 := HZ.out.frozen 2
  have hzf_3 := HZ.out.frozen 3
  go_wp2_with fail
  generalize (((((w3).setCell ⟨w.heap.size, 0, none⟩ (.int .u64 0)).setCell ⟨w.heap.size, 1, none⟩ (.int .u64 0)).setCell ⟨w.heap.size, 2, none⟩ (.int .u64 0)).setCell ⟨w.heap.size, 3, none⟩ (.int .u64 0)) = w5 at *
  clear hz_0 hz_1 hz_2 hz_3
  have hg_0 := HS5.out.cell (i := 0) (x := 0) rfl
  have hg_1 := HS5.out.cell (i := 1) (x := 0) rfl
  have hg_2 := HS5.out.cell (i := 2) (x := 0) rfl
  have hg_3 := HS5.out.cell (i := 3) (x := 0) rfl
  simp [bodyPost, results, Try.results73, go_sem, hg_0, hg_1, hg_2, hg_3]
  exact HB5.out

set_option maxHeartbeats 1000000 in
theorem gElem_len (G : GP) (ok : G.Ok) (gb : Nat) (s : ByteArray) (hs : s.size ≤ 32) (hl : s.size ≠ G.size) (w : World) (hG : GroupAt w gb G) :
    Calls Try.prog 73 #[.pointer (some ⟨gb, 0, none⟩), .string s] w fun e w' => e = .returned (.tuple #[limbV 0, .bool false]) ∧ Below w.heap.size w w' := by
  have e0 : limbV 0 = .agg #[.int .u64 0, .int .u64 0, .int .u64 0, .int .u64 0] := limbV_small 0 (by decide)
  rw [e0]
  clear e0
  have OK := Lib.hid ok
  clear ok
  go_enter Try.func73, Try.ntmps73
  go_wp2_with fail
  obtain ⟨W0, hW0⟩ : ∃ W9 : World, (w.alloc (Obj.cells #[.int .u64 0, .int .u64 0, .int .u64 0, .int .u64 0] 88)) = W9 := ⟨_, rfl⟩
  rw [hW0]
  have hC : Blk W0 (w.heap.size) 88 [0, 0, 0, 0] := by
    rw [← hW0]
    have h := (Blk.new w 88 [0, 0, 0, 0] _ rfl)
    exact h
  have hBW : Below w.heap.size w W0 := by rw [← hW0]; exact ((Below.refl w.heap.size w).alloc (Nat.le_refl _) _)
  clear hW0
  have HG0 := Lib.hid (hG.up hBW)
  have HC := Lib.hid hC
  have HBW := Lib.hid hBW
  have hcl := hC.lt
  clear hG hC hBW
  refine (read_any s hs W0).mono ?_
  rintro e w2 ⟨rfl, hb2⟩
  have hz2 := hb2.size
  have HN : Hid (Blk (w2.alloc (Obj.cells #[.int .u64 (dig (numOf s) 0 : Int), .int .u64 (dig (numOf s) 1 : Int), .int .u64 (dig (numOf s) 2 : Int), .int .u64 (dig (numOf s) 3 : Int)] 76)) w2.heap.size 76 (lim (numOf s))) := Blk.new w2 _ _ _ rfl
  have HB3 := Lib.hid (hb2.alloc hz2 (Obj.cells #[.int .u64 (dig (numOf s) 0 : Int), .int .u64 (dig (numOf s) 1 : Int), .int .u64 (dig (numOf s) 2 : Int), .int .u64 (dig (numOf s) 3 : Int)] 76))
  clear hb2
  unfold limbV
  go_wp2_with fail
  generalize w2.alloc (Obj.cells #[.int .u64 (dig (numOf s) 0 : Int), .int .u64 (dig (numOf s) 1 : Int), .int .u64 (dig (numOf s) 2 : Int), .int .u64 (dig (numOf s) 3 : Int)] 76) = W3 at *
  have hG0 := HG0.out.up HB3.out
  have hgl := hG0.lt
  have hgk := hG0.kind
  have hgs := hG0.size
  have hpm_0 : W3.cell? ⟨gb, 2, none⟩ = some (.int .u64 (dig G.p.m 0 : Int)) := hG0.p.cell 0 _ rfl
  have hpm_1 : W3.cell? ⟨gb, 3, none⟩ = some (.int .u64 (dig G.p.m 1 : Int)) := hG0.p.cell 1 _ rfl
  have hpm_2 : W3.cell? ⟨gb, 4, none⟩ = some (.int .u64 (dig G.p.m 2 : Int)) := hG0.p.cell 2 _ rfl
  have hpm_3 : W3.cell? ⟨gb, 5, none⟩ = some (.int .u64 (dig G.p.m 3 : Int)) := hG0.p.cell 3 _ rfl
  have hpo_0 : W3.cell? ⟨gb, 6, none⟩ = some (.int .u64 (dig (mont G.p.m 1) 0 : Int)) := by rw [← OK.out.p.one']; exact hG0.p.cell 4 _ rfl
  have hpo_1 : W3.cell? ⟨gb, 7, none⟩ = some (.int .u64 (dig (mont G.p.m 1) 1 : Int)) := by rw [← OK.out.p.one']; exact hG0.p.cell 5 _ rfl
  have hpo_2 : W3.cell? ⟨gb, 8, none⟩ = some (.int .u64 (dig (mont G.p.m 1) 2 : Int)) := by rw [← OK.out.p.one']; exact hG0.p.cell 6 _ rfl
  have hpo_3 : W3.cell? ⟨gb, 9, none⟩ = some (.int .u64 (dig (mont G.p.m 1) 3 : Int)) := by rw [← OK.out.p.one']; exact hG0.p.cell 7 _ rfl
  have hqm_0 : W3.cell? ⟨gb, 15, none⟩ = some (.int .u64 (dig G.q.m 0 : Int)) := hG0.q.cell 0 _ rfl
  have hqm_1 : W3.cell? ⟨gb, 16, none⟩ = some (.int .u64 (dig G.q.m 1 : Int)) := hG0.q.cell 1 _ rfl
  have hqm_2 : W3.cell? ⟨gb, 17, none⟩ = some (.int .u64 (dig G.q.m 2 : Int)) := hG0.q.cell 2 _ rfl
  have hqm_3 : W3.cell? ⟨gb, 18, none⟩ = some (.int .u64 (dig G.q.m 3 : Int)) := hG0.q.cell 3 _ rfl
  have hqo_0 : W3.cell? ⟨gb, 19, none⟩ = some (.int .u64 (dig (mont G.q.m 1) 0 : Int)) := by rw [← OK.out.q.one']; exact hG0.q.cell 4 _ rfl
  have hqo_1 : W3.cell? ⟨gb, 20, none⟩ = some (.int .u64 (dig (mont G.q.m 1) 1 : Int)) := by rw [← OK.out.q.one']; exact hG0.q.cell 5 _ rfl
  have hqo_2 : W3.cell? ⟨gb, 21, none⟩ = some (.int .u64 (dig (mont G.q.m 1) 2 : Int)) := by rw [← OK.out.q.one']; exact hG0.q.cell 6 _ rfl
  have hqo_3 : W3.cell? ⟨gb, 22, none⟩ = some (.int .u64 (dig (mont G.q.m 1) 3 : Int)) := by rw [← OK.out.q.one']; exact hG0.q.cell 7 _ rfl
  have hn_0 := HN.out.cell (i := 0) (x := (dig (numOf s) 0 : Int)) rfl
  have hn_1 := HN.out.cell (i := 1) (x := (dig (numOf s) 1 : Int)) rfl
  have hn_2 := HN.out.cell (i := 2) (x := (dig (numOf s) 2 : Int)) rfl
  have hn_3 := HN.out.cell (i := 3) (x := (dig (numOf s) 3 : Int)) rfl
  have hln := HN.out.lt
  have hne : ((s.size : Int) != (G.size : Int)) = true := by simp; omega
  have hovg := fun (E : Over W3) o => E.cell (b := gb) o hgl
  refine wp_region_over (by kernel_rfl) (by kernel_rfl) ?_
  repeat (go_big_quiet_step (fail))
  refine wpQuiet_nil ?_
  rintro _ ⟨E, rfl⟩
  have HZ := Lib.hid ((HC.out.below HB3.out HC.out.lt).below E.h (by have := HB3.out.size; omega))
  have HBB := Lib.hid (below_up (below_up HBW.out HB3.out) E.h)
  clear hovg
  generalize E.w = w3 at *
  have HS5 : Hid (Blk (((((w3).setCell ⟨w.heap.size, 0, none⟩ (.int .u64 0)).setCell ⟨w.heap.size, 1, none⟩ (.int .u64 0)).setCell ⟨w.heap.size, 2, none⟩ (.int .u64 0)).setCell ⟨w.heap.size, 3, none⟩ (.int .u64 0)) (w.heap.size) 88 [0, 0, 0, 0]) := (((HZ.out.set 0 0).set 1 0).set 2 0).set 3 0
  have HB5 : Hid (Below w.heap.size w (((((w3).setCell ⟨w.heap.size, 0, none⟩ (.int .u64 0)).setCell ⟨w.heap.size, 1, none⟩ (.int .u64 0)).setCell ⟨w.heap.size, 2, none⟩ (.int .u64 0)).setCell ⟨w.heap.size, 3, none⟩ (.int .u64 0))) := below_four HBB.out (by omega) _ _ _ _
  have hz_0 := HZ.out.cell (i := 0) (x := 0) rfl
  have hz_1 := HZ.out.cell (i := 1) (x := 0) rfl
  have hz_2 := HZ.out.cell (i := 2) (x := 0) rfl
  have hz_3 := HZ.out.cell (i := 3) (x := 0) rfl
  have hzf_0 := HZ.out.frozen 0
  have hzf_1 := HZ.out.frozen 1
  have hzf_2 := HZ.out.frozen 2
  have hzf_3 := HZ.out.frozen 3
  go_wp2_with fail
  generalize (((((w3).setCell ⟨w.heap.size, 0, none⟩ (.int .u64 0)).setCell ⟨w.heap.size, 1, none⟩ (.int .u64 0)).setCell ⟨w.heap.size, 2, none⟩ (.int .u64 0)).setCell ⟨w.heap.size, 3, none⟩ (.int .u64 0)) = w5 at *
  clear hz_0 hz_1 hz_2 hz_3
  have hg_0 := HS5.out.cell (i := 0) (x := 0) rfl
  have hg_1 := HS5.out.cell (i := 1) (x := 0) rfl
  have hg_2 := HS5.out.cell (i := 2) (x := 0) rfl
  have hg_3 := HS5.out.cell (i := 3) (x := 0) rfl
  simp [bodyPost, results, Try.results73, go_sem, hg_0, hg_1, hg_2, hg_3]
  exact HB5.out


set_option maxHeartbeats 1000000 in
theorem gScalar_eq (G : GP) (ok : G.Ok) (gb : Nat) (s : ByteArray) (hl : s.size = G.size) (hc : numOf s = G.q.m) (w : World) (hG : GroupAt w gb G) :
    Calls Try.prog 74 #[.pointer (some ⟨gb, 0, none⟩), .string s] w fun e w' => e = .returned (.tuple #[limbV 0, .bool false]) ∧ Below w.heap.size w w' := by
  have e0 : limbV 0 = .agg #[.int .u64 0, .int .u64 0, .int .u64 0, .int .u64 0] := limbV_small 0 (by decide)
  rw [e0]
  clear e0
  have hs : s.size ≤ 32 := by have := ok.size_le; omega
  have HLT := Lib.hid (numOf_lt s hs)
  have HCI : Hid (cmpI (numOf s) G.q.m = 0) := by show _ = _; unfold cmpI; rw [if_neg (by omega), if_neg (by omega)]
  have HL := Lib.hid hl
  clear hl hc
  have OK := Lib.hid ok
  clear ok
  go_enter Try.func74, Try.ntmps74
  go_wp2_with fail
  obtain ⟨W0, hW0⟩ : ∃ W9 : World, (w.alloc (Obj.cells #[.int .u64 0, .int .u64 0, .int .u64 0, .int .u64 0] 93)) = W9 := ⟨_, rfl⟩
  rw [hW0]
  have hC : Blk W0 (w.heap.size) 93 [0, 0, 0, 0] := by
    rw [← hW0]
    have h := (Blk.new w 93 [0, 0, 0, 0] _ rfl)
    exact h
  have hBW : Below w.heap.size w W0 := by rw [← hW0]; exact ((Below.refl w.heap.size w).alloc (Nat.le_refl _) _)
  clear hW0
  have HG0 := Lib.hid (hG.up hBW)
  have HC := Lib.hid hC
  have HBW := Lib.hid hBW
  have hcl := hC.lt
  clear hG hC hBW
  refine (read_any s hs W0).mono ?_
  rintro e w2 ⟨rfl, hb2⟩
  have hz2 := hb2.size
  have HN : Hid (Blk (w2.alloc (Obj.cells #[.int .u64 (dig (numOf s) 0 : Int), .int .u64 (dig (numOf s) 1 : Int), .int .u64 (dig (numOf s) 2 : Int), .int .u64 (dig (numOf s) 3 : Int)] 76)) w2.heap.size 76 (lim (numOf s))) := Blk.new w2 _ _ _ rfl
  have HB3 := Lib.hid (hb2.alloc hz2 (Obj.cells #[.int .u64 (dig (numOf s) 0 : Int), .int .u64 (dig (numOf s) 1 : Int), .int .u64 (dig (numOf s) 2 : Int), .int .u64 (dig (numOf s) 3 : Int)] 76))
  clear hb2
  unfold limbV
  go_wp2_with fail
  generalize w2.alloc (Obj.cells #[.int .u64 (dig (numOf s) 0 : Int), .int .u64 (dig (numOf s) 1 : Int), .int .u64 (dig (numOf s) 2 : Int), .int .u64 (dig (numOf s) 3 : Int)] 76) = W3 at *
  have hG0 := HG0.out.up HB3.out
  have hgl := hG0.lt
  have hgk := hG0.kind
  have hgs := hG0.size
  have hpm_0 : W3.cell? ⟨gb, 2, none⟩ = some (.int .u64 (dig G.p.m 0 : Int)) := hG0.p.cell 0 _ rfl
  have hpm_1 : W3.cell? ⟨gb, 3, none⟩ = some (.int .u64 (dig G.p.m 1 : Int)) := hG0.p.cell 1 _ rfl
  have hpm_2 : W3.cell? ⟨gb, 4, none⟩ = some (.int .u64 (dig G.p.m 2 : Int)) := hG0.p.cell 2 _ rfl
  have hpm_3 : W3.cell? ⟨gb, 5, none⟩ = some (.int .u64 (dig G.p.m 3 : Int)) := hG0.p.cell 3 _ rfl
  have hpo_0 : W3.cell? ⟨gb, 6, none⟩ = some (.int .u64 (dig (mont G.p.m 1) 0 : Int)) := by rw [← OK.out.p.one']; exact hG0.p.cell 4 _ rfl
  have hpo_1 : W3.cell? ⟨gb, 7, none⟩ = some (.int .u64 (dig (mont G.p.m 1) 1 : Int)) := by rw [← OK.out.p.one']; exact hG0.p.cell 5 _ rfl
  have hpo_2 : W3.cell? ⟨gb, 8, none⟩ = some (.int .u64 (dig (mont G.p.m 1) 2 : Int)) := by rw [← OK.out.p.one']; exact hG0.p.cell 6 _ rfl
  have hpo_3 : W3.cell? ⟨gb, 9, none⟩ = some (.int .u64 (dig (mont G.p.m 1) 3 : Int)) := by rw [← OK.out.p.one']; exact hG0.p.cell 7 _ rfl
  have hqm_0 : W3.cell? ⟨gb, 15, none⟩ = some (.int .u64 (dig G.q.m 0 : Int)) := hG0.q.cell 0 _ rfl
  have hqm_1 : W3.cell? ⟨gb, 16, none⟩ = some (.int .u64 (dig G.q.m 1 : Int)) := hG0.q.cell 1 _ rfl
  have hqm_2 : W3.cell? ⟨gb, 17, none⟩ = some (.int .u64 (dig G.q.m 2 : Int)) := hG0.q.cell 2 _ rfl
  have hqm_3 : W3.cell? ⟨gb, 18, none⟩ = some (.int .u64 (dig G.q.m 3 : Int)) := hG0.q.cell 3 _ rfl
  have hqo_0 : W3.cell? ⟨gb, 19, none⟩ = some (.int .u64 (dig (mont G.q.m 1) 0 : Int)) := by rw [← OK.out.q.one']; exact hG0.q.cell 4 _ rfl
  have hqo_1 : W3.cell? ⟨gb, 20, none⟩ = some (.int .u64 (dig (mont G.q.m 1) 1 : Int)) := by rw [← OK.out.q.one']; exact hG0.q.cell 5 _ rfl
  have hqo_2 : W3.cell? ⟨gb, 21, none⟩ = some (.int .u64 (dig (mont G.q.m 1) 2 : Int)) := by rw [← OK.out.q.one']; exact hG0.q.cell 6 _ rfl
  have hqo_3 : W3.cell? ⟨gb, 22, none⟩ = some (.int .u64 (dig (mont G.q.m 1) 3 : Int)) := by rw [← OK.out.q.one']; exact hG0.q.cell 7 _ rfl
  have hn_0 := HN.out.cell (i := 0) (x := (dig (numOf s) 0 : Int)) rfl
  have hn_1 := HN.out.cell (i := 1) (x := (dig (numOf s) 1 : Int)) rfl
  have hn_2 := HN.out.cell (i := 2) (x := (dig (numOf s) 2 : Int)) rfl
  have hn_3 := HN.out.cell (i := 3) (x := (dig (numOf s) 3 : Int)) rfl
  have hln := HN.out.lt
  have hne : ((s.size : Int) != (G.size : Int)) = false := by simp [HL.out]
  have hovg := fun (E : Over W3) o => E.cell (b := gb) o hgl
  have hovn := fun (E : Over W3) o => E.cell (b := w2.heap.size) o hln
  refine wp_region_over (by kernel_rfl) (by kernel_rfl) ?_
  repeat (go_big_quiet_step (first | (go_at_call 108; exact calls_over (cmp_is (numOf s) G.q.m 0 HLT.out OK.out.q.lt4 HCI.out _))))
  refine wpQuiet_nil ?_
  rintro _ ⟨E, rfl⟩
  have HZ := Lib.hid ((HC.out.below HB3.out HC.out.lt).below E.h (by have := HB3.out.size; omega))
  have HBB := Lib.hid (below_up (below_up HBW.out HB3.out) E.h)
  clear hovg hovn
  generalize E.w = w3 at *
  have HS5 : Hid (Blk (((((w3).setCell ⟨w.heap.size, 0, none⟩ (.int .u64 0)).setCell ⟨w.heap.size, 1, none⟩ (.int .u64 0)).setCell ⟨w.heap.size, 2, none⟩ (.int .u64 0)).setCell ⟨w.heap.size, 3, none⟩ (.int .u64 0)) (w.heap.size) 93 [0, 0, 0, 0]) := (((HZ.out.set 0 0).set 1 0).set 2 0).set 3 0
  have HB5 : Hid (Below w.heap.size w (((((w3).setCell ⟨w.heap.size, 0, none⟩ (.int .u64 0)).setCell ⟨w.heap.size, 1, none⟩ (.int .u64 0)).setCell ⟨w.heap.size, 2, none⟩ (.int .u64 0)).setCell ⟨w.heap.size, 3, none⟩ (.int .u64 0))) := below_four HBB.out (by omega) _ _ _ _
  have hz_0 := HZ.out.cell (i := 0) (x := 0) rfl
  have hz_1 := HZ.out.cell (i := 1) (x := 0) rfl
  have hz_2 := HZ.out.cell (i := 2) (x := 0) rfl
  have hz_3 := HZ.out.cell (i := 3) (x := 0) rfl
  have hzf_0 := HZ.out.frozen 0
  have hzf_1 := HZ.out.frozen 1
  have hzf_2 := HZ.out.frozen 2
  have hzf_3 := HZ.out.frozen 3
  go_wp2_with fail
  generalize (((((w3).setCell ⟨w.heap.size, 0, none⟩ (.int .u64 0)).setCell ⟨w.heap.size, 1, none⟩ (.int .u64 0)).setCell ⟨w.heap.size, 2, none⟩ (.int .u64 0)).setCell ⟨w.heap.size, 3, none⟩ (.int .u64 0)) = w5 at *
  clear hz_0 hz_1 hz_2 hz_3
  have hg_0 := HS5.out.cell (i := 0) (x := 0) rfl
  have hg_1 := HS5.out.cell (i := 1) (x := 0) rfl
  have hg_2 := HS5.out.cell (i := 2) (x := 0) rfl
  have hg_3 := HS5.out.cell (i := 3) (x := 0) rfl
  simp [bodyPost, results, Try.results74, go_sem, hg_0, hg_1, hg_2, hg_3]
  exact HB5.out

set_option maxHeartbeats 1000000 in
theorem gScalar_gt (G : GP) (ok : G.Ok) (gb : Nat) (s : ByteArray) (hl : s.size = G.size) (hc : G.q.m < numOf s) (w : World) (hG : GroupAt w gb G) :
    Calls Try.prog 74 #[.pointer (some ⟨gb, 0, none⟩), .string s] w fun e w' => e = .returned (.tuple #[limbV 0, .bool false]) ∧ Below w.heap.size w w' := by
  have e0 : limbV 0 = .agg #[.int .u64 0, .int .u64 0, .int .u64 0, .int .u64 0] := limbV_small 0 (by decide)
  rw [e0]
  clear e0
  have hs : s.size ≤ 32 := by have := ok.size_le; omega
  have HLT := Lib.hid (numOf_lt s hs)
  have HCI : Hid (cmpI (numOf s) G.q.m = 1) := by show _ = _; unfold cmpI; rw [if_neg (by omega), if_pos (by omega)]
  have HL := Lib.hid hl
  clear hl hc
  have OK := Lib.hid ok
  clear ok
  go_enter Try.func74, Try.ntmps74
  go_wp2_with fail
  obtain ⟨W0, hW0⟩ : ∃ W9 : World, (w.alloc (Obj.cells #[.int .u64 0, .int .u64 0, .int .u64 0, .int .u64 0] 93)) = W9 := ⟨_, rfl⟩
  rw [hW0]
  have hC : Blk W0 (w.heap.size) 93 [0, 0, 0, 0] := by
    rw [← hW0]
    have h := (Blk.new w 93 [0, 0, 0, 0] _ rfl)
    exact h
  have hBW : Below w.heap.size w W0 := by rw [← hW0]; exact ((Below.refl w.heap.size w).alloc (Nat.le_refl _) _)
  clear hW0
  have HG0 := Lib.hid (hG.up hBW)
  have HC := Lib.hid hC
  have HBW := Lib.hid hBW
  have hcl := hC.lt
  clear hG hC hBW
  refine (read_any s hs W0).mono ?_
  rintro e w2 ⟨rfl, hb2⟩
  have hz2 := hb2.size
  have HN : Hid (Blk (w2.alloc (Obj.cells #[.int .u64 (dig (numOf s) 0 : Int), .int .u64 (dig (numOf s) 1 : Int), .int .u64 (dig (numOf s) 2 : Int), .int .u64 (dig (numOf s) 3 : Int)] 76)) w2.heap.size 76 (lim (numOf s))) := Blk.new w2 _ _ _ rfl
  have HB3 := Lib.hid (hb2.alloc hz2 (Obj.cells #[.int .u64 (dig (numOf s) 0 : Int), .int .u64 (dig (numOf s) 1 : Int), .int .u64 (dig (numOf s) 2 : Int), .int .u64 (dig (numOf s) 3 : Int)] 76))
  clear hb2
  unfold limbV
  go_wp2_with fail
  generalize w2.alloc (Obj.cells #[.int .u64 (dig (numOf s) 0 : Int), .int .u64 (dig (numOf s) 1 : Int), .int .u64 (dig (numOf s) 2 : Int), .int .u64 (dig (numOf s) 3 : Int)] 76) = W3 at *
  have hG0 := HG0.out.up HB3.out
  have hgl := hG0.lt
  have hgk := hG0.kind
  have hgs := hG0.size
  have hpm_0 : W3.cell? ⟨gb, 2, none⟩ = some (.int .u64 (dig G.p.m 0 : Int)) := hG0.p.cell 0 _ rfl
  have hpm_1 : W3.cell? ⟨gb, 3, none⟩ = some (.int .u64 (dig G.p.m 1 : Int)) := hG0.p.cell 1 _ rfl
  have hpm_2 : W3.cell? ⟨gb, 4, none⟩ = some (.int .u64 (dig G.p.m 2 : Int)) := hG0.p.cell 2 _ rfl
  have hpm_3 : W3.cell? ⟨gb, 5, none⟩ = some (.int .u64 (dig G.p.m 3 : Int)) := hG0.p.cell 3 _ rfl
  have hpo_0 : W3.cell? ⟨gb, 6, none⟩ = some (.int .u64 (dig (mont G.p.m 1) 0 : Int)) := by rw [← OK.out.p.one']; exact hG0.p.cell 4 _ rfl
  have hpo_1 : W3.cell? ⟨gb, 7, none⟩ = some (.int .u64 (dig (mont G.p.m 1) 1 : Int)) := by rw [← OK.out.p.one']; exact hG0.p.cell 5 _ rfl
  have hpo_2 : W3.cell? ⟨gb, 8, none⟩ = some (.int .u64 (dig (mont G.p.m 1) 2 : Int)) := by rw [← OK.out.p.one']; exact hG0.p.cell 6 _ rfl
  have hpo_3 : W3.cell? ⟨gb, 9, none⟩ = some (.int .u64 (dig (mont G.p.m 1) 3 : Int)) := by rw [← OK.out.p.one']; exact hG0.p.cell 7 _ rfl
  have hqm_0 : W3.cell? ⟨gb, 15, none⟩ = some (.int .u64 (dig G.q.m 0 : Int)) := hG0.q.cell 0 _ rfl
  have hqm_1 : W3.cell? ⟨gb, 16, none⟩ = some (.int .u64 (dig G.q.m 1 : Int)) := hG0.q.cell 1 _ rfl
  have hqm_2 : W3.cell? ⟨gb, 17, none⟩ = some (.int .u64 (dig G.q.m 2 : Int)) := hG0.q.cell 2 _ rfl
  have hqm_3 : W3.cell? ⟨gb, 18, none⟩ = some (.int .u64 (dig G.q.m 3 : Int)) := hG0.q.cell 3 _ rfl
  have hqo_0 : W3.cell? ⟨gb, 19, none⟩ = some (.int .u64 (dig (mont G.q.m 1) 0 : Int)) := by rw [← OK.out.q.one']; exact hG0.q.cell 4 _ rfl
  have hqo_1 : W3.cell? ⟨gb, 20, none⟩ = some (.int .u64 (dig (mont G.q.m 1) 1 : Int)) := by rw [← OK.out.q.one']; exact hG0.q.cell 5 _ rfl
  have hqo_2 : W3.cell? ⟨gb, 21, none⟩ = some (.int .u64 (dig (mont G.q.m 1) 2 : Int)) := by rw [← OK.out.q.one']; exact hG0.q.cell 6 _ rfl
  have hqo_3 : W3.cell? ⟨gb, 22, none⟩ = some (.int .u64 (dig (mont G.q.m 1) 3 : Int)) := by rw [← OK.out.q.one']; exact hG0.q.cell 7 _ rfl
  have hn_0 := HN.out.cell (i := 0) (x := (dig (numOf s) 0 : Int)) rfl
  have hn_1 := HN.out.cell (i := 1) (x := (dig (numOf s) 1 : Int)) rfl
  have hn_2 := HN.out.cell (i := 2) (x := (dig (numOf s) 2 : Int)) rfl
  have hn_3 := HN.out.cell (i := 3) (x := (dig (numOf s) 3 : Int)) rfl
  have hln := HN.out.lt
  have hne : ((s.size : Int) != (G.size : Int)) = false := by simp [HL.out]
  have hovg := fun (E : Over W3) o => E.cell (b := gb) o hgl
  have hovn := fun (E : Over W3) o => E.cell (b := w2.heap.size) o hln
  refine wp_region_over (by kernel_rfl) (by kernel_rfl) ?_
  repeat (go_big_quiet_step (first | (go_at_call 108; exact calls_over (cmp_is (numOf s) G.q.m 1 HLT.out OK.out.q.lt4 HCI.out _))))
  refine wpQuiet_nil ?_
  rintro _ ⟨E, rfl⟩
  have HZ := Lib.hid ((HC.out.below HB3.out HC.out.lt).below E.h (by have := HB3.out.size; omega))
  have HBB := Lib.hid (below_up (below_up HBW.out HB3.out) E.h)
  clear hovg hovn
  generalize E.w = w3 at *
  have HS5 : Hid (Blk (((((w3).setCell ⟨w.heap.size, 0, none⟩ (.int .u64 0)).setCell ⟨w.heap.size, 1, none⟩ (.int .u64 0)).setCell ⟨w.heap.size, 2, none⟩ (.int .u64 0)).setCell ⟨w.heap.size, 3, none⟩ (.int .u64 0)) (w.heap.size) 93 [0, 0, 0, 0]) := (((HZ.out.set 0 0).set 1 0).set 2 0).set 3 0
  have HB5 : Hid (Below w.heap.size w (((((w3).setCell ⟨w.heap.size, 0, none⟩ (.int .u64 0)).setCell ⟨w.heap.size, 1, none⟩ (.int .u64 0)).setCell ⟨w.heap.size, 2, none⟩ (.int .u64 0)).setCell ⟨w.heap.size, 3, none⟩ (.int .u64 0))) := below_four HBB.out (by omega) _ _ _ _
  have hz_0 := HZ.out.cell (i := 0) (x := 0) rfl
  have hz_1 := HZ.out.cell (i := 1) (x := 0) rfl
  have hz_2 := HZ.out.cell (i := 2) (x := 0) rfl
  have hz_3 := HZ.out.cell (i := 3) (x := 0) rfl
  have hzf_0 := HZ.out.frozen 0
  have hzf_1 := HZ.out.frozen 1
  have hzf_2 := HZ.out.frozen 2
  have hzf_3 := HZ.out.frozen 3
  go_wp2_with fail
  generalize (((((w3).setCell ⟨w.heap.size, 0, none⟩ (.int .u64 0)).setCell ⟨w.heap.size, 1, none⟩ (.int .u64 0)).setCell ⟨w.heap.size, 2, none⟩ (.int .u64 0)).setCell ⟨w.heap.size, 3, none⟩ (.int .u64 0)) = w5 at *
  clear hz_0 hz_1 hz_2 hz_3
  have hg_0 := HS5.out.cell (i := 0) (x := 0) rfl
  have hg_1 := HS5.out.cell (i := 1) (x := 0) rfl
  have hg_2 := HS5.out.cell (i := 2) (x := 0) rfl
  have hg_3 := HS5.out.cell (i := 3) (x := 0) rfl
  simp [bodyPost, results, Try.results74, go_sem, hg_0, hg_1, hg_2, hg_3]
  exact HB5.out

set_option maxHeartbeats 1000000 in
theorem gScalar_yes (G : GP) (ok : G.Ok) (gb : Nat) (s : ByteArray) (hl : s.size = G.size) (hc : numOf s < G.q.m) (w : World) (hG : GroupAt w gb G) :
    Calls Try.prog 74 #[.pointer (some ⟨gb, 0, none⟩), .string s] w fun e w' => e = .returned (.tuple #[scV G (numOf s), .bool true]) ∧ Below w.heap.size w w' := by
  have hs : s.size ≤ 32 := by have := ok.size_le; omega
  have HLT := Lib.hid (numOf_lt s hs)
  have HCI : Hid (cmpI (numOf s) G.q.m = -1) := by show _ = _; unfold cmpI; rw [if_pos hc]
  have HL := Lib.hid hl
  clear hl hc
  unfold scV limbV
  have OK := Lib.hid ok
  clear ok
  go_enter Try.func74, Try.ntmps74
  go_wp2_with fail
  obtain ⟨W0, hW0⟩ : ∃ W9 : World, (w.alloc (Obj.cells #[.int .u64 0, .int .u64 0, .int .u64 0, .int .u64 0] 93)) = W9 := ⟨_, rfl⟩
  rw [hW0]
  have hC : Blk W0 (w.heap.size) 93 [0, 0, 0, 0] := by
    rw [← hW0]
    have h := (Blk.new w 93 [0, 0, 0, 0] _ rfl)
    exact h
  have hBW : Below w.heap.size w W0 := by rw [← hW0]; exact ((Below.refl w.heap.size w).alloc (Nat.le_refl _) _)
  clear hW0
  have HG0 := Lib.hid (hG.up hBW)
  have HC := Lib.hid hC
  have HBW := Lib.hid hBW
  have hcl := hC.lt
  clear hG hC hBW
  refine (read_any s hs W0).mono ?_
  rintro e w2 ⟨rfl, hb2⟩
  have hz2 := hb2.size
  have HN : Hid (Blk (w2.alloc (Obj.cells #[.int .u64 (dig (numOf s) 0 : Int), .int .u64 (dig (numOf s) 1 : Int), .int .u64 (dig (numOf s) 2 : Int), .int .u64 (dig (numOf s) 3 : Int)] 76)) w2.heap.size 76 (lim (numOf s))) := Blk.new w2 _ _ _ rfl
  have HB3 := Lib.hid (hb2.alloc hz2 (Obj.cells #[.int .u64 (dig (numOf s) 0 : Int), .int .u64 (dig (numOf s) 1 : Int), .int .u64 (dig (numOf s) 2 : Int), .int .u64 (dig (numOf s) 3 : Int)] 76))
  clear hb2
  unfold limbV
  go_wp2_with fail
  generalize w2.alloc (Obj.cells #[.int .u64 (dig (numOf s) 0 : Int), .int .u64 (dig (numOf s) 1 : Int), .int .u64 (dig (numOf s) 2 : Int), .int .u64 (dig (numOf s) 3 : Int)] 76) = W3 at *
  have hG0 := HG0.out.up HB3.out
  have hgl := hG0.lt
  have hgk := hG0.kind
  have hgs := hG0.size
  have hpm_0 : W3.cell? ⟨gb, 2, none⟩ = some (.int .u64 (dig G.p.m 0 : Int)) := hG0.p.cell 0 _ rfl
  have hpm_1 : W3.cell? ⟨gb, 3, none⟩ = some (.int .u64 (dig G.p.m 1 : Int)) := hG0.p.cell 1 _ rfl
  have hpm_2 : W3.cell? ⟨gb, 4, none⟩ = some (.int .u64 (dig G.p.m 2 : Int)) := hG0.p.cell 2 _ rfl
  have hpm_3 : W3.cell? ⟨gb, 5, none⟩ = some (.int .u64 (dig G.p.m 3 : Int)) := hG0.p.cell 3 _ rfl
  have hpo_0 : W3.cell? ⟨gb, 6, none⟩ = some (.int .u64 (dig (mont G.p.m 1) 0 : Int)) := by rw [← OK.out.p.one']; exact hG0.p.cell 4 _ rfl
  have hpo_1 : W3.cell? ⟨gb, 7, none⟩ = some (.int .u64 (dig (mont G.p.m 1) 1 : Int)) := by rw [← OK.out.p.one']; exact hG0.p.cell 5 _ rfl
  have hpo_2 : W3.cell? ⟨gb, 8, none⟩ = some (.int .u64 (dig (mont G.p.m 1) 2 : Int)) := by rw [← OK.out.p.one']; exact hG0.p.cell 6 _ rfl
  have hpo_3 : W3.cell? ⟨gb, 9, none⟩ = some (.int .u64 (dig (mont G.p.m 1) 3 : Int)) := by rw [← OK.out.p.one']; exact hG0.p.cell 7 _ rfl
  have hqm_0 : W3.cell? ⟨gb, 15, none⟩ = some (.int .u64 (dig G.q.m 0 : Int)) := hG0.q.cell 0 _ rfl
  have hqm_1 : W3.cell? ⟨gb, 16, none⟩ = some (.int .u64 (dig G.q.m 1 : Int)) := hG0.q.cell 1 _ rfl
  have hqm_2 : W3.cell? ⟨gb, 17, none⟩ = some (.int .u64 (dig G.q.m 2 : Int)) := hG0.q.cell 2 _ rfl
  have hqm_3 : W3.cell? ⟨gb, 18, none⟩ = some (.int .u64 (dig G.q.m 3 : Int)) := hG0.q.cell 3 _ rfl
  have hqo_0 : W3.cell? ⟨gb, 19, none⟩ = some (.int .u64 (dig (mont G.q.m 1) 0 : Int)) := by rw [← OK.out.q.one']; exact hG0.q.cell 4 _ rfl
  have hqo_1 : W3.cell? ⟨gb, 20, none⟩ = some (.int .u64 (dig (mont G.q.m 1) 1 : Int)) := by rw [← OK.out.q.one']; exact hG0.q.cell 5 _ rfl
  have hqo_2 : W3.cell? ⟨gb, 21, none⟩ = some (.int .u64 (dig (mont G.q.m 1) 2 : Int)) := by rw [← OK.out.q.one']; exact hG0.q.cell 6 _ rfl
  have hqo_3 : W3.cell? ⟨gb, 22, none⟩ = some (.int .u64 (dig (mont G.q.m 1) 3 : Int)) := by rw [← OK.out.q.one']; exact hG0.q.cell 7 _ rfl
  have hn_0 := HN.out.cell (i := 0) (x := (dig (numOf s) 0 : Int)) rfl
  have hn_1 := HN.out.cell (i := 1) (x := (dig (numOf s) 1 : Int)) rfl
  have hn_2 := HN.out.cell (i := 2) (x := (dig (numOf s) 2 : Int)) rfl
  have hn_3 := HN.out.cell (i := 3) (x := (dig (numOf s) 3 : Int)) rfl
  have hln := HN.out.lt
  have hne : ((s.size : Int) != (G.size : Int)) = false := by simp [HL.out]
  have hovg := fun (E : Over W3) o => E.cell (b := gb) o hgl
  have hovn := fun (E : Over W3) o => E.cell (b := w2.heap.size) o hln
  refine wp_region_over (by kernel_rfl) (by kernel_rfl) ?_
  repeat (go_big_quiet_step (first | (go_at_call 108; exact calls_over (cmp_is (numOf s) G.q.m (-1) HLT.out OK.out.q.lt4 HCI.out _))))
  refine wpQuiet_nil ?_
  rintro _ ⟨E, rfl⟩
  have HC3 := Lib.hid ((HC.out.below HB3.out HC.out.lt).below E.h (by have := HB3.out.size; omega))
  have HB33 := Lib.hid (below_up (below_up HBW.out HB3.out) E.h)
  have HN3 := Lib.hid (HN.out.below E.h HN.out.lt)
  have hG3 := hG0.up E.h
  clear hovg hovn hG0 hn_0 hn_1 hn_2 hn_3 hln HC HBW HB3 HN
  generalize E.w = w3 at *
  have hn_0 := HN3.out.cell (i := 0) (x := (dig (numOf s) 0 : Int)) rfl
  have hn_1 := HN3.out.cell (i := 1) (x := (dig (numOf s) 1 : Int)) rfl
  have hn_2 := HN3.out.cell (i := 2) (x := (dig (numOf s) 2 : Int)) rfl
  have hn_3 := HN3.out.cell (i := 3) (x := (dig (numOf s) 3 : Int)) rfl
  have hln := HN3.out.lt
  go_wp2_with fail
  refine wp_region_otail 6 (by kernel_rfl) (by kernel_rfl) ?_
  simp only [List.take_succ_cons, List.take_zero, List.drop_succ_cons, List.drop_zero]
  have hovn := fun (E : Over w3) o => E.cell (b := w2.heap.size) o hln
  repeat (go_big_quiet_step (first | (go_at_call 112; exact calls_over (in_any G.q OK.out.q gb 15 (numOf s) HLT.out _ (hG3.up (Over.h _)).q))))
  all_goals (try unfold limbV)
  repeat (go_big_quiet_step (first | (go_at_call 112; exact calls_over (in_any G.q OK.out.q gb 15 (numOf s) HLT.out _ (hG3.up (Over.h _)).q))))
  all_goals (try unfold limbV)
  repeat (go_big_quiet_step (first | (go_at_call 112; exact calls_over (in_any G.q OK.out.q gb 15 (numOf s) HLT.out _ (hG3.up (Over.h _)).q))))
  refine wpQuiet_nil ?_
  rintro _ ⟨E, rfl⟩
  have HZ := Lib.hid (HC3.out.below E.h HC3.out.lt)
  have HBB := Lib.hid (below_up HB33.out E.h)
  clear hovn
  generalize E.w = w4 at *
  have HB5 := Lib.hid (below_fill (n := mont G.q.m (numOf s)) (b := w.heap.size) HBB.out (by omega))
  have HS5 := Lib.hid (HZ.out.fill rfl (mont G.q.m (numOf s)))
  have hz_0 := HZ.out.cell (i := 0) (x := 0) rfl
  have hz_1 := HZ.out.cell (i := 1) (x := 0) rfl
  have hz_2 := HZ.out.cell (i := 2) (x := 0) rfl
  have hz_3 := HZ.out.cell (i := 3) (x := 0) rfl
  have hzf_0 := HZ.out.frozen 0
  have hzf_1 := HZ.out.frozen 1
  have hzf_2 := HZ.out.frozen 2
  have hzf_3 := HZ.out.frozen 3
  go_wp2_with fail
  generalize (((((w4).setCell ⟨w.heap.size, 0, none⟩ (.int .u64 (dig (mont G.q.m (numOf s)) 0 : Int))).setCell ⟨w.heap.size, 1, none⟩ (.int .u64 (dig (mont G.q.m (numOf s)) 1 : Int))).setCell ⟨w.heap.size, 2, none⟩ (.int .u64 (dig (mont G.q.m (numOf s)) 2 : Int))).setCell ⟨w.heap.size, 3, none⟩ (.int .u64 (dig (mont G.q.m (numOf s)) 3 : Int))) = w5 at *
  clear hz_0 hz_1 hz_2 hz_3
  have hg_0 := HS5.out.cell (i := 0) (x := (dig (mont G.q.m (numOf s)) 0 : Int)) rfl
  have hg_1 := HS5.out.cell (i := 1) (x := (dig (mont G.q.m (numOf s)) 1 : Int)) rfl
  have hg_2 := HS5.out.cell (i := 2) (x := (dig (mont G.q.m (numOf s)) 2 : Int)) rfl
  have hg_3 := HS5.out.cell (i := 3) (x := (dig (mont G.q.m (numOf s)) 3 : Int)) rfl
  simp [bodyPost, results, Try.results74, go_sem, hg_0, hg_1, hg_2, hg_3]
  exact HB5.out


set_option maxRecDepth 10000 in
set_option maxHeartbeats 1000000 in
theorem gElem_zero (G : GP) (ok : G.Ok) (gb : Nat) (s : ByteArray) (hl : s.size = G.size) (hc : numOf s = 0) (w : World) (hG : GroupAt w gb G) :
    Calls Try.prog 73 #[.pointer (some ⟨gb, 0, none⟩), .string s] w fun e w' => e = .returned (.tuple #[limbV 0, .bool false]) ∧ Below w.heap.size w w' := by
  have e0 : limbV 0 = .agg #[.int .u64 0, .int .u64 0, .int .u64 0, .int .u64 0] := limbV_small 0 (by decide)
  rw [e0]
  clear e0
  have hs : s.size ≤ 32 := by have := ok.size_le; omega
  have hq := ok.odd
  have HLT := Lib.hid (numOf_lt s hs)
  have HCI : Hid (cmpI (numOf s) G.q.m = -1) := by show _ = _; unfold cmpI; rw [if_pos (by omega)]
  have HEQ : Hid (∀ W, (Op.equalIn 10000 76 (.agg #[.int .u64 (dig (numOf s) 0 : Int), .int .u64 (dig (numOf s) 1 : Int), .int .u64 (dig (numOf s) 2 : Int), .int .u64 (dig (numOf s) 3 : Int)]) (.agg #[.int .u64 0, .int .u64 0, .int .u64 0, .int .u64 0])).run Try.prog W = .ok true W) :=
  fun W => eqZero (numOf s) (numOf_lt s hs) W true (by simp; omega)
  have HL := Lib.hid hl
  clear hl hc hq
  have OK := Lib.hid ok
  clear ok
  go_enter Try.func73, Try.ntmps73
  go_wp2_with fail
  obtain ⟨W0, hW0⟩ : ∃ W9 : World, (w.alloc (Obj.cells #[.int .u64 0, .int .u64 0, .int .u64 0, .int .u64 0] 88)) = W9 := ⟨_, rfl⟩
  rw [hW0]
  have hC : Blk W0 (w.heap.size) 88 [0, 0, 0, 0] := by
    rw [← hW0]
    have h := (Blk.new w 88 [0, 0, 0, 0] _ rfl)
    exact h
  have hBW : Below w.heap.size w W0 := by rw [← hW0]; exact ((Below.refl w.heap.size w).alloc (Nat.le_refl _) _)
  clear hW0
  have HG0 := Lib.hid (hG.up hBW)
  have HC := Lib.hid hC
  have HBW := Lib.hid hBW
  have hcl := hC.lt
  clear hG hC hBW
  refine (read_any s hs W0).mono ?_
  rintro e w2 ⟨rfl, hb2⟩
  have hz2 := hb2.size
  have HN : Hid (Blk (w2.alloc (Obj.cells #[.int .u64 (dig (numOf s) 0 : Int), .int .u64 (dig (numOf s) 1 : Int), .int .u64 (dig (numOf s) 2 : Int), .int .u64 (dig (numOf s) 3 : Int)] 76)) w2.heap.size 76 (lim (numOf s))) := Blk.new w2 _ _ _ rfl
  have HB3 := Lib.hid (hb2.alloc hz2 (Obj.cells #[.int .u64 (dig (numOf s) 0 : Int), .int .u64 (dig (numOf s) 1 : Int), .int .u64 (dig (numOf s) 2 : Int), .int .u64 (dig (numOf s) 3 : Int)] 76))
  clear hb2
  unfold limbV
  go_wp2_with fail
  generalize w2.alloc (Obj.cells #[.int .u64 (dig (numOf s) 0 : Int), .int .u64 (dig (numOf s) 1 : Int), .int .u64 (dig (numOf s) 2 : Int), .int .u64 (dig (numOf s) 3 : Int)] 76) = W3 at *
  have hG0 := HG0.out.up HB3.out
  have hgl := hG0.lt
  have hgk := hG0.kind
  have hgs := hG0.size
  have hpm_0 : W3.cell? ⟨gb, 2, none⟩ = some (.int .u64 (dig G.p.m 0 : Int)) := hG0.p.cell 0 _ rfl
  have hpm_1 : W3.cell? ⟨gb, 3, none⟩ = some (.int .u64 (dig G.p.m 1 : Int)) := hG0.p.cell 1 _ rfl
  have hpm_2 : W3.cell? ⟨gb, 4, none⟩ = some (.int .u64 (dig G.p.m 2 : Int)) := hG0.p.cell 2 _ rfl
  have hpm_3 : W3.cell? ⟨gb, 5, none⟩ = some (.int .u64 (dig G.p.m 3 : Int)) := hG0.p.cell 3 _ rfl
  have hpo_0 : W3.cell? ⟨gb, 6, none⟩ = some (.int .u64 (dig (mont G.p.m 1) 0 : Int)) := by rw [← OK.out.p.one']; exact hG0.p.cell 4 _ rfl
  have hpo_1 : W3.cell? ⟨gb, 7, none⟩ = some (.int .u64 (dig (mont G.p.m 1) 1 : Int)) := by rw [← OK.out.p.one']; exact hG0.p.cell 5 _ rfl
  have hpo_2 : W3.cell? ⟨gb, 8, none⟩ = some (.int .u64 (dig (mont G.p.m 1) 2 : Int)) := by rw [← OK.out.p.one']; exact hG0.p.cell 6 _ rfl
  have hpo_3 : W3.cell? ⟨gb, 9, none⟩ = some (.int .u64 (dig (mont G.p.m 1) 3 : Int)) := by rw [← OK.out.p.one']; exact hG0.p.cell 7 _ rfl
  have hqm_0 : W3.cell? ⟨gb, 15, none⟩ = some (.int .u64 (dig G.q.m 0 : Int)) := hG0.q.cell 0 _ rfl
  have hqm_1 : W3.cell? ⟨gb, 16, none⟩ = some (.int .u64 (dig G.q.m 1 : Int)) := hG0.q.cell 1 _ rfl
  have hqm_2 : W3.cell? ⟨gb, 17, none⟩ = some (.int .u64 (dig G.q.m 2 : Int)) := hG0.q.cell 2 _ rfl
  have hqm_3 : W3.cell? ⟨gb, 18, none⟩ = some (.int .u64 (dig G.q.m 3 : Int)) := hG0.q.cell 3 _ rfl
  have hqo_0 : W3.cell? ⟨gb, 19, none⟩ = some (.int .u64 (dig (mont G.q.m 1) 0 : Int)) := by rw [← OK.out.q.one']; exact hG0.q.cell 4 _ rfl
  have hqo_1 : W3.cell? ⟨gb, 20, none⟩ = some (.int .u64 (dig (mont G.q.m 1) 1 : Int)) := by rw [← OK.out.q.one']; exact hG0.q.cell 5 _ rfl
  have hqo_2 : W3.cell? ⟨gb, 21, none⟩ = some (.int .u64 (dig (mont G.q.m 1) 2 : Int)) := by rw [← OK.out.q.one']; exact hG0.q.cell 6 _ rfl
  have hqo_3 : W3.cell? ⟨gb, 22, none⟩ = some (.int .u64 (dig (mont G.q.m 1) 3 : Int)) := by rw [← OK.out.q.one']; exact hG0.q.cell 7 _ rfl
  have hn_0 := HN.out.cell (i := 0) (x := (dig (numOf s) 0 : Int)) rfl
  have hn_1 := HN.out.cell (i := 1) (x := (dig (numOf s) 1 : Int)) rfl
  have hn_2 := HN.out.cell (i := 2) (x := (dig (numOf s) 2 : Int)) rfl
  have hn_3 := HN.out.cell (i := 3) (x := (dig (numOf s) 3 : Int)) rfl
  have hln := HN.out.lt
  have hne : ((s.size : Int) != (G.size : Int)) = false := by simp [HL.out]
  have hovg := fun (E : Over W3) o => E.cell (b := gb) o hgl
  have hovn := fun (E : Over W3) o => E.cell (b := w2.heap.size) o hln
  refine wp_region_over (by kernel_rfl) (by kernel_rfl) ?_
  iterate 14 (go_big_quiet_step (fail))
  refine wpQuiet_bin rfl .eql _ _ 76 _ rfl _ _ (.bool true) rfl rfl (fun _ => guardLimbs _ _ _ _ _ _) (fun _ => binLimbs (HEQ.out _)) ?_
  simp only [Act.put, List.setIfInBounds_toArray, List.set_cons_succ, List.set_cons_zero]
  repeat (go_big_quiet_step (first | (go_at_call 108; exact calls_over (cmp_is (numOf s) G.q.m (-1) HLT.out OK.out.q.lt4 HCI.out _))))
  refine wpQuiet_nil ?_
  rintro _ ⟨E, rfl⟩
  have HZ := Lib.hid ((HC.out.below HB3.out HC.out.lt).below E.h (by have := HB3.out.size; omega))
  have HBB := Lib.hid (below_up (below_up HBW.out HB3.out) E.h)
  clear hovg hovn
  generalize E.w = w3 at *
  have HS5 : Hid (Blk (((((w3).setCell ⟨w.heap.size, 0, none⟩ (.int .u64 0)).setCell ⟨w.heap.size, 1, none⟩ (.int .u64 0)).setCell ⟨w.heap.size, 2, none⟩ (.int .u64 0)).setCell ⟨w.heap.size, 3, none⟩ (.int .u64 0)) (w.heap.size) 88 [0, 0, 0, 0]) := (((HZ.out.set 0 0).set 1 0).set 2 0).set 3 0
  have HB5 : Hid (Below w.heap.size w (((((w3).setCell ⟨w.heap.size, 0, none⟩ (.int .u64 0)).setCell ⟨w.heap.size, 1, none⟩ (.int .u64 0)).setCell ⟨w.heap.size, 2, none⟩ (.int .u64 0)).setCell ⟨w.heap.size, 3, none⟩ (.int .u64 0))) := below_four HBB.out (by omega) _ _ _ _
  have hz_0 := HZ.out.cell (i := 0) (x := 0) rfl
  have hz_1 := HZ.out.cell (i := 1) (x := 0) rfl
  have hz_2 := HZ.out.cell (i := 2) (x := 0) rfl
  have hz_3 := HZ.out.cell (i := 3) (x := 0) rfl
  have hzf_0 := HZ.out.frozen 0
  have hzf_1 := HZ.out.frozen 1
  have hzf_2 := HZ.out.frozen 2
  have hzf_3 := HZ.out.frozen 3
  go_wp2_with fail
  generalize (((((w3).setCell ⟨w.heap.size, 0, none⟩ (.int .u64 0)).setCell ⟨w.heap.size, 1, none⟩ (.int .u64 0)).setCell ⟨w.heap.size, 2, none⟩ (.int .u64 0)).setCell ⟨w.heap.size, 3, none⟩ (.int .u64 0)) = w5 at *
  clear hz_0 hz_1 hz_2 hz_3
  have hg_0 := HS5.out.cell (i := 0) (x := 0) rfl
  have hg_1 := HS5.out.cell (i := 1) (x := 0) rfl
  have hg_2 := HS5.out.cell (i := 2) (x := 0) rfl
  have hg_3 := HS5.out.cell (i := 3) (x := 0) rfl
  simp [bodyPost, results, Try.results73, go_sem, hg_0, hg_1, hg_2, hg_3]
  exact HB5.out

set_option maxRecDepth 10000 in
set_option maxHeartbeats 1000000 in
theorem gElem_gt (G : GP) (ok : G.Ok) (gb : Nat) (s : ByteArray) (hl : s.size = G.size) (hc : G.q.m < numOf s) (w : World) (hG : GroupAt w gb G) :
    Calls Try.prog 73 #[.pointer (some ⟨gb, 0, none⟩), .string s] w fun e w' => e = .returned (.tuple #[limbV 0, .bool false]) ∧ Below w.heap.size w w' := by
  have e0 : limbV 0 = .agg #[.int .u64 0, .int .u64 0, .int .u64 0, .int .u64 0] := limbV_small 0 (by decide)
  rw [e0]
  clear e0
  have hs : s.size ≤ 32 := by have := ok.size_le; omega
  have hq := ok.odd
  have HLT := Lib.hid (numOf_lt s hs)
  have HCI : Hid (cmpI (numOf s) G.q.m = 1) := by show _ = _; unfold cmpI; rw [if_neg (by omega), if_pos (by omega)]
  have HEQ : Hid (∀ W, (Op.equalIn 10000 76 (.agg #[.int .u64 (dig (numOf s) 0 : Int), .int .u64 (dig (numOf s) 1 : Int), .int .u64 (dig (numOf s) 2 : Int), .int .u64 (dig (numOf s) 3 : Int)]) (.agg #[.int .u64 0, .int .u64 0, .int .u64 0, .int .u64 0])).run Try.prog W = .ok false W) :=
  fun W => eqZero (numOf s) (numOf_lt s hs) W false (by simp; omega)
  have HL := Lib.hid hl
  clear hl hc hq
  have OK := Lib.hid ok
  clear ok
  go_enter Try.func73, Try.ntmps73
  go_wp2_with fail
  obtain ⟨W0, hW0⟩ : ∃ W9 : World, (w.alloc (Obj.cells #[.int .u64 0, .int .u64 0, .int .u64 0, .int .u64 0] 88)) = W9 := ⟨_, rfl⟩
  rw [hW0]
  have hC : Blk W0 (w.heap.size) 88 [0, 0, 0, 0] := by
    rw [← hW0]
    have h := (Blk.new w 88 [0, 0, 0, 0] _ rfl)
    exact h
  have hBW : Below w.heap.size w W0 := by rw [← hW0]; exact ((Below.refl w.heap.size w).alloc (Nat.le_refl _) _)
  clear hW0
  have HG0 := Lib.hid (hG.up hBW)
  have HC := Lib.hid hC
  have HBW := Lib.hid hBW
  have hcl := hC.lt
  clear hG hC hBW
  refine (read_any s hs W0).mono ?_
  rintro e w2 ⟨rfl, hb2⟩
  have hz2 := hb2.size
  have HN : Hid (Blk (w2.alloc (Obj.cells #[.int .u64 (dig (numOf s) 0 : Int), .int .u64 (dig (numOf s) 1 : Int), .int .u64 (dig (numOf s) 2 : Int), .int .u64 (dig (numOf s) 3 : Int)] 76)) w2.heap.size 76 (lim (numOf s))) := Blk.new w2 _ _ _ rfl
  have HB3 := Lib.hid (hb2.alloc hz2 (Obj.cells #[.int .u64 (dig (numOf s) 0 : Int), .int .u64 (dig (numOf s) 1 : Int), .int .u64 (dig (numOf s) 2 : Int), .int .u64 (dig (numOf s) 3 : Int)] 76))
  clear hb2
  unfold limbV
  go_wp2_with fail
  generalize w2.alloc (Obj.cells #[.int .u64 (dig (numOf s) 0 : Int), .int .u64 (dig (numOf s) 1 : Int), .int .u64 (dig (numOf s) 2 : Int), .int .u64 (dig (numOf s) 3 : Int)] 76) = W3 at *
  have hG0 := HG0.out.up HB3.out
  have hgl := hG0.lt
  have hgk := hG0.kind
  have hgs := hG0.size
  have hpm_0 : W3.cell? ⟨gb, 2, none⟩ = some (.int .u64 (dig G.p.m 0 : Int)) := hG0.p.cell 0 _ rfl
  have hpm_1 : W3.cell? ⟨gb, 3, none⟩ = some (.int .u64 (dig G.p.m 1 : Int)) := hG0.p.cell 1 _ rfl
  have hpm_2 : W3.cell? ⟨gb, 4, none⟩ = some (.int .u64 (dig G.p.m 2 : Int)) := hG0.p.cell 2 _ rfl
  have hpm_3 : W3.cell? ⟨gb, 5, none⟩ = some (.int .u64 (dig G.p.m 3 : Int)) := hG0.p.cell 3 _ rfl
  have hpo_0 : W3.cell? ⟨gb, 6, none⟩ = some (.int .u64 (dig (mont G.p.m 1) 0 : Int)) := by rw [← OK.out.p.one']; exact hG0.p.cell 4 _ rfl
  have hpo_1 : W3.cell? ⟨gb, 7, none⟩ = some (.int .u64 (dig (mont G.p.m 1) 1 : Int)) := by rw [← OK.out.p.one']; exact hG0.p.cell 5 _ rfl
  have hpo_2 : W3.cell? ⟨gb, 8, none⟩ = some (.int .u64 (dig (mont G.p.m 1) 2 : Int)) := by rw [← OK.out.p.one']; exact hG0.p.cell 6 _ rfl
  have hpo_3 : W3.cell? ⟨gb, 9, none⟩ = some (.int .u64 (dig (mont G.p.m 1) 3 : Int)) := by rw [← OK.out.p.one']; exact hG0.p.cell 7 _ rfl
  have hqm_0 : W3.cell? ⟨gb, 15, none⟩ = some (.int .u64 (dig G.q.m 0 : Int)) := hG0.q.cell 0 _ rfl
  have hqm_1 : W3.cell? ⟨gb, 16, none⟩ = some (.int .u64 (dig G.q.m 1 : Int)) := hG0.q.cell 1 _ rfl
  have hqm_2 : W3.cell? ⟨gb, 17, none⟩ = some (.int .u64 (dig G.q.m 2 : Int)) := hG0.q.cell 2 _ rfl
  have hqm_3 : W3.cell? ⟨gb, 18, none⟩ = some (.int .u64 (dig G.q.m 3 : Int)) := hG0.q.cell 3 _ rfl
  have hqo_0 : W3.cell? ⟨gb, 19, none⟩ = some (.int .u64 (dig (mont G.q.m 1) 0 : Int)) := by rw [← OK.out.q.one']; exact hG0.q.cell 4 _ rfl
  have hqo_1 : W3.cell? ⟨gb, 20, none⟩ = some (.int .u64 (dig (mont G.q.m 1) 1 : Int)) := by rw [← OK.out.q.one']; exact hG0.q.cell 5 _ rfl
  have hqo_2 : W3.cell? ⟨gb, 21, none⟩ = some (.int .u64 (dig (mont G.q.m 1) 2 : Int)) := by rw [← OK.out.q.one']; exact hG0.q.cell 6 _ rfl
  have hqo_3 : W3.cell? ⟨gb, 22, none⟩ = some (.int .u64 (dig (mont G.q.m 1) 3 : Int)) := by rw [← OK.out.q.one']; exact hG0.q.cell 7 _ rfl
  have hn_0 := HN.out.cell (i := 0) (x := (dig (numOf s) 0 : Int)) rfl
  have hn_1 := HN.out.cell (i := 1) (x := (dig (numOf s) 1 : Int)) rfl
  have hn_2 := HN.out.cell (i := 2) (x := (dig (numOf s) 2 : Int)) rfl
  have hn_3 := HN.out.cell (i := 3) (x := (dig (numOf s) 3 : Int)) rfl
  have hln := HN.out.lt
  have hne : ((s.size : Int) != (G.size : Int)) = false := by simp [HL.out]
  have hovg := fun (E : Over W3) o => E.cell (b := gb) o hgl
  have hovn := fun (E : Over W3) o => E.cell (b := w2.heap.size) o hln
  refine wp_region_over (by kernel_rfl) (by kernel_rfl) ?_
  iterate 14 (go_big_quiet_step (fail))
  refine wpQuiet_bin rfl .eql _ _ 76 _ rfl _ _ (.bool false) rfl rfl (fun _ => guardLimbs _ _ _ _ _ _) (fun _ => binLimbs (HEQ.out _)) ?_
  simp only [Act.put, List.setIfInBounds_toArray, List.set_cons_succ, List.set_cons_zero]
  repeat (go_big_quiet_step (first | (go_at_call 108; exact calls_over (cmp_is (numOf s) G.q.m (1) HLT.out OK.out.q.lt4 HCI.out _))))
  refine wpQuiet_nil ?_
  rintro _ ⟨E, rfl⟩
  have HZ := Lib.hid ((HC.out.below HB3.out HC.out.lt).below E.h (by have := HB3.out.size; omega))
  have HBB := Lib.hid (below_up (below_up HBW.out HB3.out) E.h)
  clear hovg hovn
  generalize E.w = w3 at *
  have HS5 : Hid (Blk (((((w3).setCell ⟨w.heap.size, 0, none⟩ (.int .u64 0)).setCell ⟨w.heap.size, 1, none⟩ (.int .u64 0)).setCell ⟨w.heap.size, 2, none⟩ (.int .u64 0)).setCell ⟨w.heap.size, 3, none⟩ (.int .u64 0)) (w.heap.size) 88 [0, 0, 0, 0]) := (((HZ.out.set 0 0).set 1 0).set 2 0).set 3 0
  have HB5 : Hid (Below w.heap.size w (((((w3).setCell ⟨w.heap.size, 0, none⟩ (.int .u64 0)).setCell ⟨w.heap.size, 1, none⟩ (.int .u64 0)).setCell ⟨w.heap.size, 2, none⟩ (.int .u64 0)).setCell ⟨w.heap.size, 3, none⟩ (.int .u64 0))) := below_four HBB.out (by omega) _ _ _ _
  have hz_0 := HZ.out.cell (i := 0) (x := 0) rfl
  have hz_1 := HZ.out.cell (i := 1) (x := 0) rfl
  have hz_2 := HZ.out.cell (i := 2) (x := 0) rfl
  have hz_3 := HZ.out.cell (i := 3) (x := 0) rfl
  have hzf_0 := HZ.out.frozen 0
  have hzf_1 := HZ.out.frozen 1
  have hzf_2 := HZ.out.frozen 2
  have hzf_3 := HZ.out.frozen 3
  go_wp2_with fail
  generalize (((((w3).setCell ⟨w.heap.size, 0, none⟩ (.int .u64 0)).setCell ⟨w.heap.size, 1, none⟩ (.int .u64 0)).setCell ⟨w.heap.size, 2, none⟩ (.int .u64 0)).setCell ⟨w.heap.size, 3, none⟩ (.int .u64 0)) = w5 at *
  clear hz_0 hz_1 hz_2 hz_3
  have hg_0 := HS5.out.cell (i := 0) (x := 0) rfl
  have hg_1 := HS5.out.cell (i := 1) (x := 0) rfl
  have hg_2 := HS5.out.cell (i := 2) (x := 0) rfl
  have hg_3 := HS5.out.cell (i := 3) (x := 0) rfl
  simp [bodyPost, results, Try.results73, go_sem, hg_0, hg_1, hg_2, hg_3]
  exact HB5.out


set_option maxRecDepth 10000 in
set_option maxHeartbeats 1000000 in
theorem gElem_lt (G : GP) (ok : G.Ok) (gb : Nat) (s : ByteArray) (hl : s.size = G.size) (h0 : 0 < numOf s) (hc : numOf s < G.q.m) (w : World) (hG : GroupAt w gb G) :
    Calls Try.prog 73 #[.pointer (some ⟨gb, 0, none⟩), .string s] w fun e w' => e = .returned (.tuple #[elV G (numOf s), .bool true]) ∧ Below w.heap.size w w' := by
  have hs : s.size ≤ 32 := by have := ok.size_le; omega
  have HLT := Lib.hid (numOf_lt s hs)
  have HCI : Hid (cmpI (numOf s) G.q.m = -1) := by show _ = _; unfold cmpI; rw [if_pos (by omega)]
  have HEQ : Hid (∀ W, (Op.equalIn 10000 76 (.agg #[.int .u64 (dig (numOf s) 0 : Int), .int .u64 (dig (numOf s) 1 : Int), .int .u64 (dig (numOf s) 2 : Int), .int .u64 (dig (numOf s) 3 : Int)]) (.agg #[.int .u64 0, .int .u64 0, .int .u64 0, .int .u64 0])).run Try.prog W = .ok false W) :=
  fun W => eqZero (numOf s) (numOf_lt s hs) W false (by simp; omega)
  have HL := Lib.hid hl
  clear hl hc h0
  unfold elV limbV
  have OK := Lib.hid ok
  clear ok
  go_enter Try.func73, Try.ntmps73
  go_wp2_with fail
  obtain ⟨W0, hW0⟩ : ∃ W9 : World, (w.alloc (Obj.cells #[.int .u64 0, .int .u64 0, .int .u64 0, .int .u64 0] 88)) = W9 := ⟨_, rfl⟩
  rw [hW0]
  have hC : Blk W0 (w.heap.size) 88 [0, 0, 0, 0] := by
    rw [← hW0]
    have h := (Blk.new w 88 [0, 0, 0, 0] _ rfl)
    exact h
  have hBW : Below w.heap.size w W0 := by rw [← hW0]; exact ((Below.refl w.heap.size w).alloc (Nat.le_refl _) _)
  clear hW0
  have HG0 := Lib.hid (hG.up hBW)
  have HC := Lib.hid hC
  have HBW := Lib.hid hBW
  have hcl := hC.lt
  clear hG hC hBW
  refine (read_any s hs W0).mono ?_
  rintro e w2 ⟨rfl, hb2⟩
  have hz2 := hb2.size
  have HN : Hid (Blk (w2.alloc (Obj.cells #[.int .u64 (dig (numOf s) 0 : Int), .int .u64 (dig (numOf s) 1 : Int), .int .u64 (dig (numOf s) 2 : Int), .int .u64 (dig (numOf s) 3 : Int)] 76)) w2.heap.size 76 (lim (numOf s))) := Blk.new w2 _ _ _ rfl
  have HB3 := Lib.hid (hb2.alloc hz2 (Obj.cells #[.int .u64 (dig (numOf s) 0 : Int), .int .u64 (dig (numOf s) 1 : Int), .int .u64 (dig (numOf s) 2 : Int), .int .u64 (dig (numOf s) 3 : Int)] 76))
  clear hb2
  unfold limbV
  go_wp2_with fail
  generalize w2.alloc (Obj.cells #[.int .u64 (dig (numOf s) 0 : Int), .int .u64 (dig (numOf s) 1 : Int), .int .u64 (dig (numOf s) 2 : Int), .int .u64 (dig (numOf s) 3 : Int)] 76) = W3 at *
  have hG0 := HG0.out.up HB3.out
  have hgl := hG0.lt
  have hgk := hG0.kind
  have hgs := hG0.size
  have hpm_0 : W3.cell? ⟨gb, 2, none⟩ = some (.int .u64 (dig G.p.m 0 : Int)) := hG0.p.cell 0 _ rfl
  have hpm_1 : W3.cell? ⟨gb, 3, none⟩ = some (.int .u64 (dig G.p.m 1 : Int)) := hG0.p.cell 1 _ rfl
  have hpm_2 : W3.cell? ⟨gb, 4, none⟩ = some (.int .u64 (dig G.p.m 2 : Int)) := hG0.p.cell 2 _ rfl
  have hpm_3 : W3.cell? ⟨gb, 5, none⟩ = some (.int .u64 (dig G.p.m 3 : Int)) := hG0.p.cell 3 _ rfl
  have hpo_0 : W3.cell? ⟨gb, 6, none⟩ = some (.int .u64 (dig (mont G.p.m 1) 0 : Int)) := by rw [← OK.out.p.one']; exact hG0.p.cell 4 _ rfl
  have hpo_1 : W3.cell? ⟨gb, 7, none⟩ = some (.int .u64 (dig (mont G.p.m 1) 1 : Int)) := by rw [← OK.out.p.one']; exact hG0.p.cell 5 _ rfl
  have hpo_2 : W3.cell? ⟨gb, 8, none⟩ = some (.int .u64 (dig (mont G.p.m 1) 2 : Int)) := by rw [← OK.out.p.one']; exact hG0.p.cell 6 _ rfl
  have hpo_3 : W3.cell? ⟨gb, 9, none⟩ = some (.int .u64 (dig (mont G.p.m 1) 3 : Int)) := by rw [← OK.out.p.one']; exact hG0.p.cell 7 _ rfl
  have hqm_0 : W3.cell? ⟨gb, 15, none⟩ = some (.int .u64 (dig G.q.m 0 : Int)) := hG0.q.cell 0 _ rfl
  have hqm_1 : W3.cell? ⟨gb, 16, none⟩ = some (.int .u64 (dig G.q.m 1 : Int)) := hG0.q.cell 1 _ rfl
  have hqm_2 : W3.cell? ⟨gb, 17, none⟩ = some (.int .u64 (dig G.q.m 2 : Int)) := hG0.q.cell 2 _ rfl
  have hqm_3 : W3.cell? ⟨gb, 18, none⟩ = some (.int .u64 (dig G.q.m 3 : Int)) := hG0.q.cell 3 _ rfl
  have hqo_0 : W3.cell? ⟨gb, 19, none⟩ = some (.int .u64 (dig (mont G.q.m 1) 0 : Int)) := by rw [← OK.out.q.one']; exact hG0.q.cell 4 _ rfl
  have hqo_1 : W3.cell? ⟨gb, 20, none⟩ = some (.int .u64 (dig (mont G.q.m 1) 1 : Int)) := by rw [← OK.out.q.one']; exact hG0.q.cell 5 _ rfl
  have hqo_2 : W3.cell? ⟨gb, 21, none⟩ = some (.int .u64 (dig (mont G.q.m 1) 2 : Int)) := by rw [← OK.out.q.one']; exact hG0.q.cell 6 _ rfl
  have hqo_3 : W3.cell? ⟨gb, 22, none⟩ = some (.int .u64 (dig (mont G.q.m 1) 3 : Int)) := by rw [← OK.out.q.one']; exact hG0.q.cell 7 _ rfl
  have hn_0 := HN.out.cell (i := 0) (x := (dig (numOf s) 0 : Int)) rfl
  have hn_1 := HN.out.cell (i := 1) (x := (dig (numOf s) 1 : Int)) rfl
  have hn_2 := HN.out.cell (i := 2) (x := (dig (numOf s) 2 : Int)) rfl
  have hn_3 := HN.out.cell (i := 3) (x := (dig (numOf s) 3 : Int)) rfl
  have hln := HN.out.lt
  have hne : ((s.size : Int) != (G.size : Int)) = false := by simp [HL.out]
  have hovg := fun (E : Over W3) o => E.cell (b := gb) o hgl
  have hovn := fun (E : Over W3) o => E.cell (b := w2.heap.size) o hln
  refine wp_region_over (by kernel_rfl) (by kernel_rfl) ?_
  iterate 14 (go_big_quiet_step (fail))
  refine wpQuiet_bin rfl .eql _ _ 76 _ rfl _ _ (.bool false) rfl rfl (fun _ => guardLimbs _ _ _ _ _ _) (fun _ => binLimbs (HEQ.out _)) ?_
  simp only [Act.put, List.setIfInBounds_toArray, List.set_cons_succ, List.set_cons_zero]
  repeat (go_big_quiet_step (first | (go_at_call 108; exact calls_over (cmp_is (numOf s) G.q.m (-1) HLT.out OK.out.q.lt4 HCI.out _))))
  refine wpQuiet_nil ?_
  rintro _ ⟨E, rfl⟩
  have HC3 := Lib.hid ((HC.out.below HB3.out HC.out.lt).below E.h (by have := HB3.out.size; omega))
  have HB33 := Lib.hid (below_up (below_up HBW.out HB3.out) E.h)
  have HN3 := Lib.hid (HN.out.below E.h HN.out.lt)
  have hG3 := hG0.up E.h
  clear hovg hovn hG0 hn_0 hn_1 hn_2 hn_3 hln HC HBW HB3 HN
  generalize E.w = w3 at *
  have hn_0 := HN3.out.cell (i := 0) (x := (dig (numOf s) 0 : Int)) rfl
  have hn_1 := HN3.out.cell (i := 1) (x := (dig (numOf s) 1 : Int)) rfl
  have hn_2 := HN3.out.cell (i := 2) (x := (dig (numOf s) 2 : Int)) rfl
  have hn_3 := HN3.out.cell (i := 3) (x := (dig (numOf s) 3 : Int)) rfl
  have hln := HN3.out.lt
  go_wp2_with fail
  refine wp_region_otail 6 (by kernel_rfl) (by kernel_rfl) ?_
  simp only [List.take_succ_cons, List.take_zero, List.drop_succ_cons, List.drop_zero]
  have hovn := fun (E : Over w3) o => E.cell (b := w2.heap.size) o hln
  repeat (go_big_quiet_step (first | (go_at_call 112; exact calls_over (in_any G.p OK.out.p gb 2 (numOf s) HLT.out _ (hG3.up (Over.h _)).p))))
  all_goals (try unfold limbV)
  repeat (go_big_quiet_step (first | (go_at_call 112; exact calls_over (in_any G.p OK.out.p gb 2 (numOf s) HLT.out _ (hG3.up (Over.h _)).p))))
  all_goals (try unfold limbV)
  repeat (go_big_quiet_step (first | (go_at_call 112; exact calls_over (in_any G.p OK.out.p gb 2 (numOf s) HLT.out _ (hG3.up (Over.h _)).p))))
  refine wpQuiet_nil ?_
  rintro _ ⟨E, rfl⟩
  have HZ := Lib.hid (HC3.out.below E.h HC3.out.lt)
  have HBB := Lib.hid (below_up HB33.out E.h)
  clear hovn
  generalize E.w = w4 at *
  have HB5 := Lib.hid (below_fill (n := mont G.p.m (numOf s)) (b := w.heap.size) HBB.out (by omega))
  have HS5 := Lib.hid (HZ.out.fill rfl (mont G.p.m (numOf s)))
  have hz_0 := HZ.out.cell (i := 0) (x := 0) rfl
  have hz_1 := HZ.out.cell (i := 1) (x := 0) rfl
  have hz_2 := HZ.out.cell (i := 2) (x := 0) rfl
  have hz_3 := HZ.out.cell (i := 3) (x := 0) rfl
  have hzf_0 := HZ.out.frozen 0
  have hzf_1 := HZ.out.frozen 1
  have hzf_2 := HZ.out.frozen 2
  have hzf_3 := HZ.out.frozen 3
  go_wp2_with fail
  generalize (((((w4).setCell ⟨w.heap.size, 0, none⟩ (.int .u64 (dig (mont G.p.m (numOf s)) 0 : Int))).setCell ⟨w.heap.size, 1, none⟩ (.int .u64 (dig (mont G.p.m (numOf s)) 1 : Int))).setCell ⟨w.heap.size, 2, none⟩ (.int .u64 (dig (mont G.p.m (numOf s)) 2 : Int))).setCell ⟨w.heap.size, 3, none⟩ (.int .u64 (dig (mont G.p.m (numOf s)) 3 : Int))) = w5 at *
  clear hz_0 hz_1 hz_2 hz_3
  have hg_0 := HS5.out.cell (i := 0) (x := (dig (mont G.p.m (numOf s)) 0 : Int)) rfl
  have hg_1 := HS5.out.cell (i := 1) (x := (dig (mont G.p.m (numOf s)) 1 : Int)) rfl
  have hg_2 := HS5.out.cell (i := 2) (x := (dig (mont G.p.m (numOf s)) 2 : Int)) rfl
  have hg_3 := HS5.out.cell (i := 3) (x := (dig (mont G.p.m (numOf s)) 3 : Int)) rfl
  simp [bodyPost, results, Try.results73, go_sem, hg_0, hg_1, hg_2, hg_3]
  exact HB5.out

set_option maxRecDepth 10000 in
set_option maxHeartbeats 1000000 in
theorem gElem_eq (G : GP) (ok : G.Ok) (gb : Nat) (s : ByteArray) (hl : s.size = G.size) (h0 : 0 < numOf s) (hc : numOf s = G.q.m) (w : World) (hG : GroupAt w gb G) :
    Calls Try.prog 73 #[.pointer (some ⟨gb, 0, none⟩), .string s] w fun e w' => e = .returned (.tuple #[elV G (numOf s), .bool true]) ∧ Below w.heap.size w w' := by
  have hs : s.size ≤ 32 := by have := ok.size_le; omega
  have HLT := Lib.hid (numOf_lt s hs)
  have HCI : Hid (cmpI (numOf s) G.q.m = 0) := by show _ = _; unfold cmpI; rw [if_neg (by omega), if_neg (by omega)]
  have HEQ : Hid (∀ W, (Op.equalIn 10000 76 (.agg #[.int .u64 (dig (numOf s) 0 : Int), .int .u64 (dig (numOf s) 1 : Int), .int .u64 (dig (numOf s) 2 : Int), .int .u64 (dig (numOf s) 3 : Int)]) (.agg #[.int .u64 0, .int .u64 0, .int .u64 0, .int .u64 0])).run Try.prog W = .ok false W) :=
  fun W => eqZero (numOf s) (numOf_lt s hs) W false (by simp; omega)
  have HL := Lib.hid hl
  clear hl hc h0
  unfold elV limbV
  have OK := Lib.hid ok
  clear ok
  go_enter Try.func73, Try.ntmps73
  go_wp2_with fail
  obtain ⟨W0, hW0⟩ : ∃ W9 : World, (w.alloc (Obj.cells #[.int .u64 0, .int .u64 0, .int .u64 0, .int .u64 0] 88)) = W9 := ⟨_, rfl⟩
  rw [hW0]
  have hC : Blk W0 (w.heap.size) 88 [0, 0, 0, 0] := by
    rw [← hW0]
    have h := (Blk.new w 88 [0, 0, 0, 0] _ rfl)
    exact h
  have hBW : Below w.heap.size w W0 := by rw [← hW0]; exact ((Below.refl w.heap.size w).alloc (Nat.le_refl _) _)
  clear hW0
  have HG0 := Lib.hid (hG.up hBW)
  have HC := Lib.hid hC
  have HBW := Lib.hid hBW
  have hcl := hC.lt
  clear hG hC hBW
  refine (read_any s hs W0).mono ?_
  rintro e w2 ⟨rfl, hb2⟩
  have hz2 := hb2.size
  have HN : Hid (Blk (w2.alloc (Obj.cells #[.int .u64 (dig (numOf s) 0 : Int), .int .u64 (dig (numOf s) 1 : Int), .int .u64 (dig (numOf s) 2 : Int), .int .u64 (dig (numOf s) 3 : Int)] 76)) w2.heap.size 76 (lim (numOf s))) := Blk.new w2 _ _ _ rfl
  have HB3 := Lib.hid (hb2.alloc hz2 (Obj.cells #[.int .u64 (dig (numOf s) 0 : Int), .int .u64 (dig (numOf s) 1 : Int), .int .u64 (dig (numOf s) 2 : Int), .int .u64 (dig (numOf s) 3 : Int)] 76))
  clear hb2
  unfold limbV
  go_wp2_with fail
  generalize w2.alloc (Obj.cells #[.int .u64 (dig (numOf s) 0 : Int), .int .u64 (dig (numOf s) 1 : Int), .int .u64 (dig (numOf s) 2 : Int), .int .u64 (dig (numOf s) 3 : Int)] 76) = W3 at *
  have hG0 := HG0.out.up HB3.out
  have hgl := hG0.lt
  have hgk := hG0.kind
  have hgs := hG0.size
  have hpm_0 : W3.cell? ⟨gb, 2, none⟩ = some (.int .u64 (dig G.p.m 0 : Int)) := hG0.p.cell 0 _ rfl
  have hpm_1 : W3.cell? ⟨gb, 3, none⟩ = some (.int .u64 (dig G.p.m 1 : Int)) := hG0.p.cell 1 _ rfl
  have hpm_2 : W3.cell? ⟨gb, 4, none⟩ = some (.int .u64 (dig G.p.m 2 : Int)) := hG0.p.cell 2 _ rfl
  have hpm_3 : W3.cell? ⟨gb, 5, none⟩ = some (.int .u64 (dig G.p.m 3 : Int)) := hG0.p.cell 3 _ rfl
  have hpo_0 : W3.cell? ⟨gb, 6, none⟩ = some (.int .u64 (dig (mont G.p.m 1) 0 : Int)) := by rw [← OK.out.p.one']; exact hG0.p.cell 4 _ rfl
  have hpo_1 : W3.cell? ⟨gb, 7, none⟩ = some (.int .u64 (dig (mont G.p.m 1) 1 : Int)) := by rw [← OK.out.p.one']; exact hG0.p.cell 5 _ rfl
  have hpo_2 : W3.cell? ⟨gb, 8, none⟩ = some (.int .u64 (dig (mont G.p.m 1) 2 : Int)) := by rw [← OK.out.p.one']; exact hG0.p.cell 6 _ rfl
  have hpo_3 : W3.cell? ⟨gb, 9, none⟩ = some (.int .u64 (dig (mont G.p.m 1) 3 : Int)) := by rw [← OK.out.p.one']; exact hG0.p.cell 7 _ rfl
  have hqm_0 : W3.cell? ⟨gb, 15, none⟩ = some (.int .u64 (dig G.q.m 0 : Int)) := hG0.q.cell 0 _ rfl
  have hqm_1 : W3.cell? ⟨gb, 16, none⟩ = some (.int .u64 (dig G.q.m 1 : Int)) := hG0.q.cell 1 _ rfl
  have hqm_2 : W3.cell? ⟨gb, 17, none⟩ = some (.int .u64 (dig G.q.m 2 : Int)) := hG0.q.cell 2 _ rfl
  have hqm_3 : W3.cell? ⟨gb, 18, none⟩ = some (.int .u64 (dig G.q.m 3 : Int)) := hG0.q.cell 3 _ rfl
  have hqo_0 : W3.cell? ⟨gb, 19, none⟩ = some (.int .u64 (dig (mont G.q.m 1) 0 : Int)) := by rw [← OK.out.q.one']; exact hG0.q.cell 4 _ rfl
  have hqo_1 : W3.cell? ⟨gb, 20, none⟩ = some (.int .u64 (dig (mont G.q.m 1) 1 : Int)) := by rw [← OK.out.q.one']; exact hG0.q.cell 5 _ rfl
  have hqo_2 : W3.cell? ⟨gb, 21, none⟩ = some (.int .u64 (dig (mont G.q.m 1) 2 : Int)) := by rw [← OK.out.q.one']; exact hG0.q.cell 6 _ rfl
  have hqo_3 : W3.cell? ⟨gb, 22, none⟩ = some (.int .u64 (dig (mont G.q.m 1) 3 : Int)) := by rw [← OK.out.q.one']; exact hG0.q.cell 7 _ rfl
  have hn_0 := HN.out.cell (i := 0) (x := (dig (numOf s) 0 : Int)) rfl
  have hn_1 := HN.out.cell (i := 1) (x := (dig (numOf s) 1 : Int)) rfl
  have hn_2 := HN.out.cell (i := 2) (x := (dig (numOf s) 2 : Int)) rfl
  have hn_3 := HN.out.cell (i := 3) (x := (dig (numOf s) 3 : Int)) rfl
  have hln := HN.out.lt
  have hne : ((s.size : Int) != (G.size : Int)) = false := by simp [HL.out]
  have hovg := fun (E : Over W3) o => E.cell (b := gb) o hgl
  have hovn := fun (E : Over W3) o => E.cell (b := w2.heap.size) o hln
  refine wp_region_over (by kernel_rfl) (by kernel_rfl) ?_
  iterate 14 (go_big_quiet_step (fail))
  refine wpQuiet_bin rfl .eql _ _ 76 _ rfl _ _ (.bool false) rfl rfl (fun _ => guardLimbs _ _ _ _ _ _) (fun _ => binLimbs (HEQ.out _)) ?_
  simp only [Act.put, List.setIfInBounds_toArray, List.set_cons_succ, List.set_cons_zero]
  repeat (go_big_quiet_step (first | (go_at_call 108; exact calls_over (cmp_is (numOf s) G.q.m (0) HLT.out OK.out.q.lt4 HCI.out _))))
  refine wpQuiet_nil ?_
  rintro _ ⟨E, rfl⟩
  have HC3 := Lib.hid ((HC.out.below HB3.out HC.out.lt).below E.h (by have := HB3.out.size; omega))
  have HB33 := Lib.hid (below_up (below_up HBW.out HB3.out) E.h)
  have HN3 := Lib.hid (HN.out.below E.h HN.out.lt)
  have hG3 := hG0.up E.h
  clear hovg hovn hG0 hn_0 hn_1 hn_2 hn_3 hln HC HBW HB3 HN
  generalize E.w = w3 at *
  have hn_0 := HN3.out.cell (i := 0) (x := (dig (numOf s) 0 : Int)) rfl
  have hn_1 := HN3.out.cell (i := 1) (x := (dig (numOf s) 1 : Int)) rfl
  have hn_2 := HN3.out.cell (i := 2) (x := (dig (numOf s) 2 : Int)) rfl
  have hn_3 := HN3.out.cell (i := 3) (x := (dig (numOf s) 3 : Int)) rfl
  have hln := HN3.out.lt
  go_wp2_with fail
  refine wp_region_otail 6 (by kernel_rfl) (by kernel_rfl) ?_
  simp only [List.take_succ_cons, List.take_zero, List.drop_succ_cons, List.drop_zero]
  have hovn := fun (E : Over w3) o => E.cell (b := w2.heap.size) o hln
  repeat (go_big_quiet_step (first | (go_at_call 112; exact calls_over (in_any G.p OK.out.p gb 2 (numOf s) HLT.out _ (hG3.up (Over.h _)).p))))
  all_goals (try unfold limbV)
  repeat (go_big_quiet_step (first | (go_at_call 112; exact calls_over (in_any G.p OK.out.p gb 2 (numOf s) HLT.out _ (hG3.up (Over.h _)).p))))
  all_goals (try unfold limbV)
  repeat (go_big_quiet_step (first | (go_at_call 112; exact calls_over (in_any G.p OK.out.p gb 2 (numOf s) HLT.out _ (hG3.up (Over.h _)).p))))
  refine wpQuiet_nil ?_
  rintro _ ⟨E, rfl⟩
  have HZ := Lib.hid (HC3.out.below E.h HC3.out.lt)
  have HBB := Lib.hid (below_up HB33.out E.h)
  clear hovn
  generalize E.w = w4 at *
  have HB5 := Lib.hid (below_fill (n := mont G.p.m (numOf s)) (b := w.heap.size) HBB.out (by omega))
  have HS5 := Lib.hid (HZ.out.fill rfl (mont G.p.m (numOf s)))
  have hz_0 := HZ.out.cell (i := 0) (x := 0) rfl
  have hz_1 := HZ.out.cell (i := 1) (x := 0) rfl
  have hz_2 := HZ.out.cell (i := 2) (x := 0) rfl
  have hz_3 := HZ.out.cell (i := 3) (x := 0) rfl
  have hzf_0 := HZ.out.frozen 0
  have hzf_1 := HZ.out.frozen 1
  have hzf_2 := HZ.out.frozen 2
  have hzf_3 := HZ.out.frozen 3
  go_wp2_with fail
  generalize (((((w4).setCell ⟨w.heap.size, 0, none⟩ (.int .u64 (dig (mont G.p.m (numOf s)) 0 : Int))).setCell ⟨w.heap.size, 1, none⟩ (.int .u64 (dig (mont G.p.m (numOf s)) 1 : Int))).setCell ⟨w.heap.size, 2, none⟩ (.int .u64 (dig (mont G.p.m (numOf s)) 2 : Int))).setCell ⟨w.heap.size, 3, none⟩ (.int .u64 (dig (mont G.p.m (numOf s)) 3 : Int))) = w5 at *
  clear hz_0 hz_1 hz_2 hz_3
  have hg_0 := HS5.out.cell (i := 0) (x := (dig (mont G.p.m (numOf s)) 0 : Int)) rfl
  have hg_1 := HS5.out.cell (i := 1) (x := (dig (mont G.p.m (numOf s)) 1 : Int)) rfl
  have hg_2 := HS5.out.cell (i := 2) (x := (dig (mont G.p.m (numOf s)) 2 : Int)) rfl
  have hg_3 := HS5.out.cell (i := 3) (x := (dig (mont G.p.m (numOf s)) 3 : Int)) rfl
  simp [bodyPost, results, Try.results73, go_sem, hg_0, hg_1, hg_2, hg_3]
  exact HB5.out

end Go.Proofs.Ytdmldnpadojflaa
