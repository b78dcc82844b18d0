/- Texts of this seat, one behind the other: what TrustHides leans on. No condition beyond those that each names. -/
import Derived.Test.YtjmeakfjfpnciaaZTrustHides1
import Derived.Deep.CutRange
import Derived.IntWalk
import Derived.WalkKit
import Derived.Test.YtjmeakfjfpnciaaProg
import Derived.Deep.MidRow
import Derived.Deep.WholeRow
import Derived.Laws.CopyOwn
import Derived.Lib.BufferWrite
import Derived.BigQuiet
import Derived.Lib.SliceRun
import Derived.Shelf.Abstract
import Derived.Deep.LoopGhost
import Derived.Test.YtjmeakfjfpnciaaRows
import Derived.ProofKit
import Derived.SizedLaws
import Derived.Lib.SmallJoins
import Derived.Deep.Slices
import Derived.Deep.Fields

set_option maxRecDepth 100000
set_option maxHeartbeats 4000000
set_option linter.unusedVariables false
set_option linter.unusedSimpArgs false
namespace Go.Proofs.Ytjmeakfjfpnciaa
open Go.RowKit
theorem numOf_lt (s : ByteArray) (hs : s.size ≤ 32) : numOf s < BB ^ 4 := by
 have h := numL_lt s.data.toList
 have e : s.data.toList.length = s.size := rfl
 rw [e] at h
 exact Nat.lt_of_lt_of_le h (by
  have := Nat.pow_le_pow_right (n := 256) (by decide) hs
  exact Nat.le_trans this (by decide))
theorem cmp_is (a b : Nat) (c : Int) (ha : a < BB ^ 4) (hb : b < BB ^ 4) (hc : cmpI a b = c) (w : World) : Calls Try.prog 110 #[limbV a, limbV b] w fun e w' => e = .returned (.int .i64 c) ∧ Below w.heap.size w w' := by
 subst hc; exact cmp_any a b ha hb w
theorem gScalar_long (G : GP) (ok : G.Ok) (gb : Nat) (s : ByteArray) (hs : 32 < s.size) (w : World) (hG : GroupAt w gb G) :
  Calls Try.prog 52 #[.pointer (some ⟨gb, 0, none⟩), .string s] w fun e w' => e = .returned (.tuple #[limbV 0, .bool false]) ∧ Below w.heap.size w w' := by
 have e0 : limbV 0 = .agg #[.int .u64 0, .int .u64 0, .int .u64 0, .int .u64 0] := limbV_small 0 (by decide)
 rw [e0]
 clear e0
 have OK := Lib.hid ok
 clear ok
 go_enter Try.func52, Try.ntmps52
 go_wp2_with fail
 obtain ⟨W0, hW0, hBW, hC⟩ := boxZ w 98
 rw [hW0]
 clear hW0
 have HG0 := Lib.hid (hG.up hBW)
 have HC := Lib.hid hC
 have HBW := Lib.hid hBW
 have hcl := hC.lt
 clear hG hC hBW
 refine (read_long s hs W0).mono ?_
 rintro e w2 ⟨rfl, hb2⟩
 have hz2 := hb2.size
 have HN : Hid (Blk (w2.alloc (Obj.cells #[.int .u64 (dig (0) 0 : Int), .int .u64 (dig (0) 1 : Int), .int .u64 (dig (0) 2 : Int), .int .u64 (dig (0) 3 : Int)] 96)) w2.heap.size 96 (lim (0))) := Blk.new w2 _ _ _ rfl
 have HB3 := Lib.hid (hb2.alloc hz2 (Obj.cells #[.int .u64 (dig (0) 0 : Int), .int .u64 (dig (0) 1 : Int), .int .u64 (dig (0) 2 : Int), .int .u64 (dig (0) 3 : Int)] 96))
 clear hb2
 unfold limbV
 go_wp2_with fail
 generalize w2.alloc (Obj.cells #[.int .u64 (dig (0) 0 : Int), .int .u64 (dig (0) 1 : Int), .int .u64 (dig (0) 2 : Int), .int .u64 (dig (0) 3 : Int)] 96) = W3 at *
 have hG0 := HG0.out.up HB3.out
 have hgl := hG0.lt
 have hga := hG0.all OK.out
 have hn_ := Blk.l4 (0) HN.out
 have hln := HN.out.lt
 refine wp_region_over (by kernel_rfl) (by kernel_rfl) ?_
 repeat (go_big_quiet_step (fail))
 refine wpQuiet_nil ?_
 rintro _ ⟨E, rfl⟩
 have HZ := Lib.hid ((HC.out.below HB3.out HC.out.lt).below E.h (by have := HB3.out.size; omega))
 have HBB := Lib.hid (below_up (below_up HBW.out HB3.out) E.h)
 generalize E.w = w3 at *
 have HS5 : Hid (Blk (((((w3).setCell ⟨w.heap.size, 0, none⟩ (.int .u64 0)).setCell ⟨w.heap.size, 1, none⟩ (.int .u64 0)).setCell ⟨w.heap.size, 2, none⟩ (.int .u64 0)).setCell ⟨w.heap.size, 3, none⟩ (.int .u64 0)) (w.heap.size) 98 [0, 0, 0, 0]) := (((HZ.out.set 0 0).set 1 0).set 2 0).set 3 0
 have HB5 : Hid (Below w.heap.size w (((((w3).setCell ⟨w.heap.size, 0, none⟩ (.int .u64 0)).setCell ⟨w.heap.size, 1, none⟩ (.int .u64 0)).setCell ⟨w.heap.size, 2, none⟩ (.int .u64 0)).setCell ⟨w.heap.size, 3, none⟩ (.int .u64 0))) := below_four HBB.out (by omega) _ _ _ _
 have hz_ := Blk.z4 HZ.out
 have hzf_ := HZ.out.frozen
 go_wp2_with fail
 generalize (((((w3).setCell ⟨w.heap.size, 0, none⟩ (.int .u64 0)).setCell ⟨w.heap.size, 1, none⟩ (.int .u64 0)).setCell ⟨w.heap.size, 2, none⟩ (.int .u64 0)).setCell ⟨w.heap.size, 3, none⟩ (.int .u64 0)) = w5 at *
 clear hz_
 have hg_ := Blk.z4 HS5.out
 simp [bodyPost, results, Try.results52, go_sem, hg_]
 exact HB5.out
theorem gScalar_len (G : GP) (ok : G.Ok) (gb : Nat) (s : ByteArray) (hs : s.size ≤ 32) (hl : s.size ≠ G.size) (w : World) (hG : GroupAt w gb G) :
  Calls Try.prog 52 #[.pointer (some ⟨gb, 0, none⟩), .string s] w fun e w' => e = .returned (.tuple #[limbV 0, .bool false]) ∧ Below w.heap.size w w' := by
 have e0 : limbV 0 = .agg #[.int .u64 0, .int .u64 0, .int .u64 0, .int .u64 0] := limbV_small 0 (by decide)
 rw [e0]
 clear e0
 have OK := Lib.hid ok
 clear ok
 go_enter Try.func52, Try.ntmps52
 go_wp2_with fail
 obtain ⟨W0, hW0, hBW, hC⟩ := boxZ w 98
 rw [hW0]
 clear hW0
 have HG0 := Lib.hid (hG.up hBW)
 have HC := Lib.hid hC
 have HBW := Lib.hid hBW
 have hcl := hC.lt
 clear hG hC hBW
 refine (read_any s hs W0).mono ?_
 rintro e w2 ⟨rfl, hb2⟩
 have hz2 := hb2.size
 have HN : Hid (Blk (w2.alloc (Obj.cells #[.int .u64 (dig (numOf s) 0 : Int), .int .u64 (dig (numOf s) 1 : Int), .int .u64 (dig (numOf s) 2 : Int), .int .u64 (dig (numOf s) 3 : Int)] 96)) w2.heap.size 96 (lim (numOf s))) := Blk.new w2 _ _ _ rfl
 have HB3 := Lib.hid (hb2.alloc hz2 (Obj.cells #[.int .u64 (dig (numOf s) 0 : Int), .int .u64 (dig (numOf s) 1 : Int), .int .u64 (dig (numOf s) 2 : Int), .int .u64 (dig (numOf s) 3 : Int)] 96))
 clear hb2
 unfold limbV
 go_wp2_with fail
 generalize w2.alloc (Obj.cells #[.int .u64 (dig (numOf s) 0 : Int), .int .u64 (dig (numOf s) 1 : Int), .int .u64 (dig (numOf s) 2 : Int), .int .u64 (dig (numOf s) 3 : Int)] 96) = W3 at *
 have hG0 := HG0.out.up HB3.out
 have hgl := hG0.lt
 have hga := hG0.all OK.out
 have hn_ := Blk.l4 (numOf s) HN.out
 have hln := HN.out.lt
 have hne : ((s.size : Int) != (G.size : Int)) = true := by simp; omega
 have hovg := fun (E : Over W3) o => E.cell (b := gb) o hgl
 refine wp_region_over (by kernel_rfl) (by kernel_rfl) ?_
 repeat (go_big_quiet_step (fail))
 refine wpQuiet_nil ?_
 rintro _ ⟨E, rfl⟩
 have HZ := Lib.hid ((HC.out.below HB3.out HC.out.lt).below E.h (by have := HB3.out.size; omega))
 have HBB := Lib.hid (below_up (below_up HBW.out HB3.out) E.h)
 clear hovg
 generalize E.w = w3 at *
 have HS5 : Hid (Blk (((((w3).setCell ⟨w.heap.size, 0, none⟩ (.int .u64 0)).setCell ⟨w.heap.size, 1, none⟩ (.int .u64 0)).setCell ⟨w.heap.size, 2, none⟩ (.int .u64 0)).setCell ⟨w.heap.size, 3, none⟩ (.int .u64 0)) (w.heap.size) 98 [0, 0, 0, 0]) := (((HZ.out.set 0 0).set 1 0).set 2 0).set 3 0
 have HB5 : Hid (Below w.heap.size w (((((w3).setCell ⟨w.heap.size, 0, none⟩ (.int .u64 0)).setCell ⟨w.heap.size, 1, none⟩ (.int .u64 0)).setCell ⟨w.heap.size, 2, none⟩ (.int .u64 0)).setCell ⟨w.heap.size, 3, none⟩ (.int .u64 0))) := below_four HBB.out (by omega) _ _ _ _
 have hz_ := Blk.z4 HZ.out
 have hzf_ := HZ.out.frozen
 go_wp2_with fail
 generalize (((((w3).setCell ⟨w.heap.size, 0, none⟩ (.int .u64 0)).setCell ⟨w.heap.size, 1, none⟩ (.int .u64 0)).setCell ⟨w.heap.size, 2, none⟩ (.int .u64 0)).setCell ⟨w.heap.size, 3, none⟩ (.int .u64 0)) = w5 at *
 clear hz_
 have hg_ := Blk.z4 HS5.out
 simp [bodyPost, results, Try.results52, go_sem, hg_]
 exact HB5.out
theorem gScalar_eq (G : GP) (ok : G.Ok) (gb : Nat) (s : ByteArray) (hl : s.size = G.size) (hc : numOf s = G.q.m) (w : World) (hG : GroupAt w gb G) :
  Calls Try.prog 52 #[.pointer (some ⟨gb, 0, none⟩), .string s] w fun e w' => e = .returned (.tuple #[limbV 0, .bool false]) ∧ Below w.heap.size w w' := by
 have e0 : limbV 0 = .agg #[.int .u64 0, .int .u64 0, .int .u64 0, .int .u64 0] := limbV_small 0 (by decide)
 rw [e0]
 clear e0
 have hs : s.size ≤ 32 := by have := ok.size_le; omega
 have HLT := Lib.hid (numOf_lt s hs)
 have HCI : Hid (cmpI (numOf s) G.q.m = 0) := by show _ = _; unfold cmpI; rw [if_neg (by omega), if_neg (by omega)]
 have HL := Lib.hid hl
 clear hl hc
 have OK := Lib.hid ok
 clear ok
 go_enter Try.func52, Try.ntmps52
 go_wp2_with fail
 obtain ⟨W0, hW0, hBW, hC⟩ := boxZ w 98
 rw [hW0]
 clear hW0
 have HG0 := Lib.hid (hG.up hBW)
 have HC := Lib.hid hC
 have HBW := Lib.hid hBW
 have hcl := hC.lt
 clear hG hC hBW
 refine (read_any s hs W0).mono ?_
 rintro e w2 ⟨rfl, hb2⟩
 have hz2 := hb2.size
 have HN : Hid (Blk (w2.alloc (Obj.cells #[.int .u64 (dig (numOf s) 0 : Int), .int .u64 (dig (numOf s) 1 : Int), .int .u64 (dig (numOf s) 2 : Int), .int .u64 (dig (numOf s) 3 : Int)] 96)) w2.heap.size 96 (lim (numOf s))) := Blk.new w2 _ _ _ rfl
 have HB3 := Lib.hid (hb2.alloc hz2 (Obj.cells #[.int .u64 (dig (numOf s) 0 : Int), .int .u64 (dig (numOf s) 1 : Int), .int .u64 (dig (numOf s) 2 : Int), .int .u64 (dig (numOf s) 3 : Int)] 96))
 clear hb2
 unfold limbV
 go_wp2_with fail
 generalize w2.alloc (Obj.cells #[.int .u64 (dig (numOf s) 0 : Int), .int .u64 (dig (numOf s) 1 : Int), .int .u64 (dig (numOf s) 2 : Int), .int .u64 (dig (numOf s) 3 : Int)] 96) = W3 at *
 have hG0 := HG0.out.up HB3.out
 have hgl := hG0.lt
 have hga := hG0.all OK.out
 have hn_ := Blk.l4 (numOf s) HN.out
 have hln := HN.out.lt
 have hne : ((s.size : Int) != (G.size : Int)) = false := by simp [HL.out]
 have hovg := fun (E : Over W3) o => E.cell (b := gb) o hgl
 have hovn := fun (E : Over W3) o => E.cell (b := w2.heap.size) o hln
 refine wp_region_over (by kernel_rfl) (by kernel_rfl) ?_
 repeat (go_big_quiet_step (first | (go_at_call 110; exact calls_over (cmp_is (numOf s) G.q.m 0 HLT.out OK.out.q.lt4 HCI.out _))))
 refine wpQuiet_nil ?_
 rintro _ ⟨E, rfl⟩
 have HZ := Lib.hid ((HC.out.below HB3.out HC.out.lt).below E.h (by have := HB3.out.size; omega))
 have HBB := Lib.hid (below_up (below_up HBW.out HB3.out) E.h)
 clear hovg hovn
 generalize E.w = w3 at *
 have HS5 : Hid (Blk (((((w3).setCell ⟨w.heap.size, 0, none⟩ (.int .u64 0)).setCell ⟨w.heap.size, 1, none⟩ (.int .u64 0)).setCell ⟨w.heap.size, 2, none⟩ (.int .u64 0)).setCell ⟨w.heap.size, 3, none⟩ (.int .u64 0)) (w.heap.size) 98 [0, 0, 0, 0]) := (((HZ.out.set 0 0).set 1 0).set 2 0).set 3 0
 have HB5 : Hid (Below w.heap.size w (((((w3).setCell ⟨w.heap.size, 0, none⟩ (.int .u64 0)).setCell ⟨w.heap.size, 1, none⟩ (.int .u64 0)).setCell ⟨w.heap.size, 2, none⟩ (.int .u64 0)).setCell ⟨w.heap.size, 3, none⟩ (.int .u64 0))) := below_four HBB.out (by omega) _ _ _ _
 have hz_ := Blk.z4 HZ.out
 have hzf_ := HZ.out.frozen
 go_wp2_with fail
 generalize (((((w3).setCell ⟨w.heap.size, 0, none⟩ (.int .u64 0)).setCell ⟨w.heap.size, 1, none⟩ (.int .u64 0)).setCell ⟨w.heap.size, 2, none⟩ (.int .u64 0)).setCell ⟨w.heap.size, 3, none⟩ (.int .u64 0)) = w5 at *
 clear hz_
 have hg_ := Blk.z4 HS5.out
 simp [bodyPost, results, Try.results52, go_sem, hg_]
 exact HB5.out
theorem gScalar_gt (G : GP) (ok : G.Ok) (gb : Nat) (s : ByteArray) (hl : s.size = G.size) (hc : G.q.m < numOf s) (w : World) (hG : GroupAt w gb G) :
  Calls Try.prog 52 #[.pointer (some ⟨gb, 0, none⟩), .string s] w fun e w' => e = .returned (.tuple #[limbV 0, .bool false]) ∧ Below w.heap.size w w' := by
 have e0 : limbV 0 = .agg #[.int .u64 0, .int .u64 0, .int .u64 0, .int .u64 0] := limbV_small 0 (by decide)
 rw [e0]
 clear e0
 have hs : s.size ≤ 32 := by have := ok.size_le; omega
 have HLT := Lib.hid (numOf_lt s hs)
 have HCI : Hid (cmpI (numOf s) G.q.m = 1) := by show _ = _; unfold cmpI; rw [if_neg (by omega), if_pos (by omega)]
 have HL := Lib.hid hl
 clear hl hc
 have OK := Lib.hid ok
 clear ok
 go_enter Try.func52, Try.ntmps52
 go_wp2_with fail
 obtain ⟨W0, hW0, hBW, hC⟩ := boxZ w 98
 rw [hW0]
 clear hW0
 have HG0 := Lib.hid (hG.up hBW)
 have HC := Lib.hid hC
 have HBW := Lib.hid hBW
 have hcl := hC.lt
 clear hG hC hBW
 refine (read_any s hs W0).mono ?_
 rintro e w2 ⟨rfl, hb2⟩
 have hz2 := hb2.size
 have HN : Hid (Blk (w2.alloc (Obj.cells #[.int .u64 (dig (numOf s) 0 : Int), .int .u64 (dig (numOf s) 1 : Int), .int .u64 (dig (numOf s) 2 : Int), .int .u64 (dig (numOf s) 3 : Int)] 96)) w2.heap.size 96 (lim (numOf s))) := Blk.new w2 _ _ _ rfl
 have HB3 := Lib.hid (hb2.alloc hz2 (Obj.cells #[.int .u64 (dig (numOf s) 0 : Int), .int .u64 (dig (numOf s) 1 : Int), .int .u64 (dig (numOf s) 2 : Int), .int .u64 (dig (numOf s) 3 : Int)] 96))
 clear hb2
 unfold limbV
 go_wp2_with fail
 generalize w2.alloc (Obj.cells #[.int .u64 (dig (numOf s) 0 : Int), .int .u64 (dig (numOf s) 1 : Int), .int .u64 (dig (numOf s) 2 : Int), .int .u64 (dig (numOf s) 3 : Int)] 96) = W3 at *
 have hG0 := HG0.out.up HB3.out
 have hgl := hG0.lt
 have hga := hG0.all OK.out
 have hn_ := Blk.l4 (numOf s) HN.out
 have hln := HN.out.lt
 have hne : ((s.size : Int) != (G.size : Int)) = false := by simp [HL.out]
 have hovg := fun (E : Over W3) o => E.cell (b := gb) o hgl
 have hovn := fun (E : Over W3) o => E.cell (b := w2.heap.size) o hln
 refine wp_region_over (by kernel_rfl) (by kernel_rfl) ?_
 repeat (go_big_quiet_step (first | (go_at_call 110; exact calls_over (cmp_is (numOf s) G.q.m 1 HLT.out OK.out.q.lt4 HCI.out _))))
 refine wpQuiet_nil ?_
 rintro _ ⟨E, rfl⟩
 have HZ := Lib.hid ((HC.out.below HB3.out HC.out.lt).below E.h (by have := HB3.out.size; omega))
 have HBB := Lib.hid (below_up (below_up HBW.out HB3.out) E.h)
 clear hovg hovn
 generalize E.w = w3 at *
 have HS5 : Hid (Blk (((((w3).setCell ⟨w.heap.size, 0, none⟩ (.int .u64 0)).setCell ⟨w.heap.size, 1, none⟩ (.int .u64 0)).setCell ⟨w.heap.size, 2, none⟩ (.int .u64 0)).setCell ⟨w.heap.size, 3, none⟩ (.int .u64 0)) (w.heap.size) 98 [0, 0, 0, 0]) := (((HZ.out.set 0 0).set 1 0).set 2 0).set 3 0
 have HB5 : Hid (Below w.heap.size w (((((w3).setCell ⟨w.heap.size, 0, none⟩ (.int .u64 0)).setCell ⟨w.heap.size, 1, none⟩ (.int .u64 0)).setCell ⟨w.heap.size, 2, none⟩ (.int .u64 0)).setCell ⟨w.heap.size, 3, none⟩ (.int .u64 0))) := below_four HBB.out (by omega) _ _ _ _
 have hz_ := Blk.z4 HZ.out
 have hzf_ := HZ.out.frozen
 go_wp2_with fail
 generalize (((((w3).setCell ⟨w.heap.size, 0, none⟩ (.int .u64 0)).setCell ⟨w.heap.size, 1, none⟩ (.int .u64 0)).setCell ⟨w.heap.size, 2, none⟩ (.int .u64 0)).setCell ⟨w.heap.size, 3, none⟩ (.int .u64 0)) = w5 at *
 clear hz_
 have hg_ := Blk.z4 HS5.out
 simp [bodyPost, results, Try.results52, go_sem, hg_]
 exact HB5.out
theorem gScalar_yes (G : GP) (ok : G.Ok) (gb : Nat) (s : ByteArray) (hl : s.size = G.size) (hc : numOf s < G.q.m) (w : World) (hG : GroupAt w gb G) :
  Calls Try.prog 52 #[.pointer (some ⟨gb, 0, none⟩), .string s] w fun e w' => e = .returned (.tuple #[scV G (numOf s), .bool true]) ∧ Below w.heap.size w w' := by
 have hs : s.size ≤ 32 := by have := ok.size_le; omega
 have HLT := Lib.hid (numOf_lt s hs)
 have HCI : Hid (cmpI (numOf s) G.q.m = -1) := by show _ = _; unfold cmpI; rw [if_pos hc]
 have HL := Lib.hid hl
 clear hl hc
 unfold scV limbV
 have OK := Lib.hid ok
 clear ok
 go_enter Try.func52, Try.ntmps52
 go_wp2_with fail
 obtain ⟨W0, hW0, hBW, hC⟩ := boxZ w 98
 rw [hW0]
 clear hW0
 have HG0 := Lib.hid (hG.up hBW)
 have HC := Lib.hid hC
 have HBW := Lib.hid hBW
 have hcl := hC.lt
 clear hG hC hBW
 refine (read_any s hs W0).mono ?_
 rintro e w2 ⟨rfl, hb2⟩
 have hz2 := hb2.size
 have HN : Hid (Blk (w2.alloc (Obj.cells #[.int .u64 (dig (numOf s) 0 : Int), .int .u64 (dig (numOf s) 1 : Int), .int .u64 (dig (numOf s) 2 : Int), .int .u64 (dig (numOf s) 3 : Int)] 96)) w2.heap.size 96 (lim (numOf s))) := Blk.new w2 _ _ _ rfl
 have HB3 := Lib.hid (hb2.alloc hz2 (Obj.cells #[.int .u64 (dig (numOf s) 0 : Int), .int .u64 (dig (numOf s) 1 : Int), .int .u64 (dig (numOf s) 2 : Int), .int .u64 (dig (numOf s) 3 : Int)] 96))
 clear hb2
 unfold limbV
 go_wp2_with fail
 generalize w2.alloc (Obj.cells #[.int .u64 (dig (numOf s) 0 : Int), .int .u64 (dig (numOf s) 1 : Int), .int .u64 (dig (numOf s) 2 : Int), .int .u64 (dig (numOf s) 3 : Int)] 96) = W3 at *
 have hG0 := HG0.out.up HB3.out
 have hgl := hG0.lt
 have hga := hG0.all OK.out
 have hn_ := Blk.l4 (numOf s) HN.out
 have hln := HN.out.lt
 have hne : ((s.size : Int) != (G.size : Int)) = false := by simp [HL.out]
 have hovg := fun (E : Over W3) o => E.cell (b := gb) o hgl
 have hovn := fun (E : Over W3) o => E.cell (b := w2.heap.size) o hln
 refine wp_region_over (by kernel_rfl) (by kernel_rfl) ?_
 repeat (go_big_quiet_step (first | (go_at_call 110; exact calls_over (cmp_is (numOf s) G.q.m (-1) HLT.out OK.out.q.lt4 HCI.out _))))
 refine wpQuiet_nil ?_
 rintro _ ⟨E, rfl⟩
 have HC3 := Lib.hid ((HC.out.below HB3.out HC.out.lt).below E.h (by have := HB3.out.size; omega))
 have HB33 := Lib.hid (below_up (below_up HBW.out HB3.out) E.h)
 have HN3 := Lib.hid (HN.out.below E.h HN.out.lt)
 have hG3 := hG0.up E.h
 clear hovg hovn hG0 hn_ hln HC HBW HB3 HN
 generalize E.w = w3 at *
 have hn_ := Blk.l4 (numOf s) HN3.out
 have hln := HN3.out.lt
 go_wp2_with fail
 refine wp_region_otail 6 (by kernel_rfl) (by kernel_rfl) ?_
 simp only [List.take_succ_cons, List.take_zero, List.drop_succ_cons, List.drop_zero]
 have hovn := fun (E : Over w3) o => E.cell (b := w2.heap.size) o hln
 repeat (go_big_quiet_step (first | (go_at_call 111; exact calls_over (in_any G.q OK.out.q gb 15 (numOf s) HLT.out _ (hG3.up (Over.h _)).q))))
 all_goals (try unfold limbV)
 repeat (go_big_quiet_step (first | (go_at_call 111; exact calls_over (in_any G.q OK.out.q gb 15 (numOf s) HLT.out _ (hG3.up (Over.h _)).q))))
 all_goals (try unfold limbV)
 repeat (go_big_quiet_step (first | (go_at_call 111; exact calls_over (in_any G.q OK.out.q gb 15 (numOf s) HLT.out _ (hG3.up (Over.h _)).q))))
 refine wpQuiet_nil ?_
 rintro _ ⟨E, rfl⟩
 have HZ := Lib.hid (HC3.out.below E.h HC3.out.lt)
 have HBB := Lib.hid (below_up HB33.out E.h)
 clear hovn
 generalize E.w = w4 at *
 obtain ⟨w5, hq5, HB5, HS5⟩ := fillE HBB HZ (by omega) (mont G.q.m (numOf s))
 have hz_ := Blk.z4 HZ.out
 have hzf_ := HZ.out.frozen
 go_wp2_with fail
 clear hz_
 have hg_ := Blk.l4 (mont G.q.m (numOf s)) HS5.out
 simp [bodyPost, results, Try.results52, go_sem, hg_]
 exact HB5.out
end Go.Proofs.Ytjmeakfjfpnciaa
namespace Go.Proofs.Ytjmeakfjfpnciaa
open Go.RowKit
theorem numL_snoc (c : UInt8) : ∀ l : List UInt8, numL (l ++ [c]) = numL l * 256 + c.toNat
 | [] => by simp [numL]
 | d :: t => by
  rw [List.cons_append, numL, numL, numL_snoc c t, List.length_append, List.length_singleton, Nat.pow_succ, Nat.add_mul, Nat.mul_assoc, Nat.add_assoc]
def numHead (s : ByteArray) (k : Nat) : Nat := numL (s.data.toList.take k)
theorem numHead_zero (s : ByteArray) : numHead s 0 = 0 := by simp [numHead, numL]
theorem numHead_all (s : ByteArray) : numHead s s.size = numOf s := by
 have : s.data.toList.take s.size = s.data.toList := List.take_of_length_le (Nat.le_refl _)
 simp only [numHead, this, numOf]
theorem numHead_succ (s : ByteArray) (k : Nat) (hk : k < s.size) : numHead s (k + 1) = numHead s k * 256 + s[k].toNat := by
 have h : s.data.toList.take (k + 1) = s.data.toList.take k ++ [s[k]] := by
  rw [List.take_succ_eq_append_getElem (by simpa using hk)]; rfl
 rw [numHead, h, numL_snoc, numHead]
theorem numL_bytes (a : Nat) : ∀ size, numL ((textL a size size).map fun n => UInt8.ofNat n.toNat) = a % 256 ^ size
 | 0 => by simp [textL, numL, Nat.mod_one]
 | size + 1 => by
  have e : textL a (size + 1) (size + 1) = (byteAt a size : Int) :: textL a size size := by
   unfold textL
   rw [List.range_succ_eq_map, List.map_cons, List.map_map]
   congr 1
   ·simp
   ·refine List.map_congr_left fun p hp => ?_
    have hp' : p < size := by simpa using hp
    simp only [Function.comp_apply]
    rw [if_pos (by omega), if_pos (by omega), show size + 1 - 1 - (p + 1) = size - 1 - p by omega]
  rw [e, List.map_cons, numL, numL_bytes a size, List.length_map, textL_length]
  have hb : (UInt8.ofNat ((byteAt a size : Nat) : Int).toNat).toNat = a / 256 ^ size % 256 := by
   rw [Int.toNat_natCast, UInt8.toNat_ofNat']
   unfold byteAt
   omega
  rw [hb, Nat.pow_succ, Nat.mod_mul, Nat.add_comm, Nat.mul_comm]
theorem numOf_textS (a size : Nat) : numOf (textS a size) = a % 256 ^ size := numL_bytes a size
theorem textS_size (a size : Nat) : (textS a size).size = size := by rw [textS, strOfNums_size, textL_length]
theorem scV_mod (G : GP) (x : Nat) : scV G (x % G.q.m) = scV G x := by unfold scV; rw [mont_mod]
theorem scV_eq (G : GP) {x y : Nat} (h : x % G.q.m = y % G.q.m) : scV G x = scV G y := by rw [← scV_mod G x, ← scV_mod G y, h]
theorem gByte_any (G : GP) (ok : G.Ok) (gb c : Nat) (hc : c < 256) (w : World) (hG : GroupAt w gb G) :
  Calls Try.prog 199 #[.pointer (some ⟨gb, 0, none⟩), .int .u8 (c : Int)] w fun e w' => e = .returned (scV G c) ∧ Below w.heap.size w w' := by
 have OK := Lib.hid ok
 clear ok
 unfold scV limbV
 go_enter Try.func199, Try.ntmps199
 go_wp2_with fail
 obtain ⟨W0, hW0, hBW, hC⟩ := boxZ w 98
 rw [hW0]
 clear hW0
 have hG0 := hG.up hBW
 have HC := Lib.hid hC
 have HBW := Lib.hid hBW
 clear hC hBW hG
 refine wp_region_otail 12 (by kernel_rfl) (by kernel_rfl) ?_
 simp only [List.take_succ_cons, List.take_zero, List.drop_succ_cons, List.drop_zero]
 repeat (go_big_quiet_step (first | (go_at_call 165; exact calls_over (onceSmall G.q OK.out.q gb 15 c hc OK.out.odd _ (hG0.up (Over.h _)).q)) | (go_at_call 111; exact calls_over (inSmall G.q OK.out.q gb 15 c (by simp only [BB]; omega) _ (hG0.up (Over.h _)).q))))
 all_goals (try unfold limbV)
 repeat (go_big_quiet_step (first | (go_at_call 165; exact calls_over (onceSmall G.q OK.out.q gb 15 c hc OK.out.odd _ (hG0.up (Over.h _)).q)) | (go_at_call 111; exact calls_over (inSmall G.q OK.out.q gb 15 c (by simp only [BB]; omega) _ (hG0.up (Over.h _)).q))))
 all_goals (try unfold limbV)
 repeat (go_big_quiet_step (first | (go_at_call 165; exact calls_over (onceSmall G.q OK.out.q gb 15 c hc OK.out.odd _ (hG0.up (Over.h _)).q)) | (go_at_call 111; exact calls_over (inSmall G.q OK.out.q gb 15 c (by simp only [BB]; omega) _ (hG0.up (Over.h _)).q))))
 refine wpQuiet_nil ?_
 rintro _ ⟨E, rfl⟩
 have HZ := Lib.hid (HC.out.below E.h HC.out.lt)
 have HBB := Lib.hid (below_up HBW.out E.h)
 generalize E.w = w3 at *
 obtain ⟨w5, hq5, HB5, HS5⟩ := fillE HBB HZ (by omega) (mont G.q.m c)
 have hz_ := Blk.z4 HZ.out
 have hzf_ := HZ.out.frozen
 go_wp2_with fail
 clear hz_
 have hg_ := Blk.l4 (mont G.q.m c) HS5.out
 simp [bodyPost, results, Try.results199, go_sem, hg_]
 exact HB5.out
theorem boxZZZ (w : World) (t0 t1 t2 : TypeId) : ∃ W, ((w.alloc (Obj.cells #[.int .u64 0, .int .u64 0, .int .u64 0, .int .u64 0] t0)).alloc (Obj.cells #[.int .u64 0, .int .u64 0, .int .u64 0, .int .u64 0] t1)).alloc (Obj.cells #[.int .u64 0, .int .u64 0, .int .u64 0, .int .u64 0] t2) = W ∧ Below w.heap.size w W ∧ Blk W w.heap.size t0 [0, 0, 0, 0] ∧ Blk W (w.heap.size + 1) t1 [0, 0, 0, 0] ∧ Blk W (w.heap.size + 2) t2 [0, 0, 0, 0] := by
 refine ⟨_, rfl, (((Below.refl _ _).alloc (Nat.le_refl _) _).alloc (by simp) _).alloc (by simp; omega) _, ?_, ?_, ?_⟩
 ·have h := (((Blk.new w t0 [0, 0, 0, 0] _ rfl).alloc (Obj.cells #[.int .u64 0, .int .u64 0, .int .u64 0, .int .u64 0] t1)).alloc (Obj.cells #[.int .u64 0, .int .u64 0, .int .u64 0, .int .u64 0] t2))
  exact h
 ·have h := ((Blk.new (w.alloc (Obj.cells #[.int .u64 0, .int .u64 0, .int .u64 0, .int .u64 0] t0)) t1 [0, 0, 0, 0] _ rfl).alloc (Obj.cells #[.int .u64 0, .int .u64 0, .int .u64 0, .int .u64 0] t2))
  rw [World.size_alloc] at h
  exact h
 ·have h := (Blk.new ((w.alloc (Obj.cells #[.int .u64 0, .int .u64 0, .int .u64 0, .int .u64 0] t0)).alloc (Obj.cells #[.int .u64 0, .int .u64 0, .int .u64 0, .int .u64 0] t1)) t2 [0, 0, 0, 0] _ rfl)
  rw [World.size_alloc, World.size_alloc] at h
  exact h
theorem Blk.fillOther {W : World} {b c : Nat} {t : TypeId} {xs : List Int} (h : Blk W b t xs) (hne : b ≠ c) (n : Nat) : Blk (((((W).setCell ⟨c, 0, none⟩ (.int .u64 (dig (n) 0 : Int))).setCell ⟨c, 1, none⟩ (.int .u64 (dig (n) 1 : Int))).setCell ⟨c, 2, none⟩ (.int .u64 (dig (n) 2 : Int))).setCell ⟨c, 3, none⟩ (.int .u64 (dig (n) 3 : Int))) b t xs :=
 (((h.other hne _ _).other hne _ _).other hne _ _).other hne _ _
theorem gReduce_any (G : GP) (ok : G.Ok) (gb : Nat) (s : ByteArray) (hs : s.size ≤ maxLen) (w : World) (hG : GroupAt w gb G) :
  Calls Try.prog 164 #[.pointer (some ⟨gb, 0, none⟩), .string s] w fun e w' => e = .returned (scV G (numOf s)) ∧ Below w.heap.size w w' := by
 unfold maxLen at hs
 have OK := Lib.hid ok
 clear ok
 unfold scV limbV
 go_enter Try.func164, Try.ntmps164
 go_wp2_with fail
 obtain ⟨W0, hW0, hBW, hC, hO, hS⟩ := boxZZZ w 98 98 98
 rw [hW0]
 clear hW0
 have HG := Lib.hid hG
 have HC := Lib.hid hC
 have HO := Lib.hid hO
 have HS := Lib.hid hS
 have HBW := Lib.hid hBW
 clear hG hC hO hS hBW
 refine (inSmall G.q OK.out.q gb 15 256 (by decide) W0 (HG.out.below HBW.out HG.out.lt).q).mono ?_
 rintro e w2 ⟨rfl, hb2⟩
 have HS2 := Lib.hid (HS.out.below hb2 HS.out.lt)
 have HB2 := Lib.hid (below_up HBW.out hb2)
 have HO3 : Hid (Blk (((((w2).setCell ⟨w.heap.size + 2, 0, none⟩ (.int .u64 (dig (mont G.q.m 256) 0 : Int))).setCell ⟨w.heap.size + 2, 1, none⟩ (.int .u64 (dig (mont G.q.m 256) 1 : Int))).setCell ⟨w.heap.size + 2, 2, none⟩ (.int .u64 (dig (mont G.q.m 256) 2 : Int))).setCell ⟨w.heap.size + 2, 3, none⟩ (.int .u64 (dig (mont G.q.m 256) 3 : Int))) (w.heap.size + 1) 98 (lim (mont G.q.m (numHead s 0)))) := by
  rw [numHead_zero, mont_zero]
  exact (HO.out.below hb2 HO.out.lt).fillOther (by omega) _
 have HC3 : Hid (Blk (((((w2).setCell ⟨w.heap.size + 2, 0, none⟩ (.int .u64 (dig (mont G.q.m 256) 0 : Int))).setCell ⟨w.heap.size + 2, 1, none⟩ (.int .u64 (dig (mont G.q.m 256) 1 : Int))).setCell ⟨w.heap.size + 2, 2, none⟩ (.int .u64 (dig (mont G.q.m 256) 2 : Int))).setCell ⟨w.heap.size + 2, 3, none⟩ (.int .u64 (dig (mont G.q.m 256) 3 : Int))) w.heap.size 98 [0, 0, 0, 0]) := (HC.out.below hb2 HC.out.lt).fillOther (by omega) _
 clear hb2 HO HS HC HBW
 unfold limbV
 have HS3 := Lib.hid (HS2.out.fill rfl (mont G.q.m 256))
 have HB3 := Lib.hid (below_fill (n := mont G.q.m 256) (b := w.heap.size + 2) HB2.out (by omega))
 have hz_ := Blk.z4 HS2.out
 have hzf_ := HS2.out.frozen
 go_wp2_with fail
 generalize (((((w2).setCell ⟨w.heap.size + 1 + 1, 0, none⟩ (.int .u64 (dig (mont G.q.m 256) 0 : Int))).setCell ⟨w.heap.size + 1 + 1, 1, none⟩ (.int .u64 (dig (mont G.q.m 256) 1 : Int))).setCell ⟨w.heap.size + 1 + 1, 2, none⟩ (.int .u64 (dig (mont G.q.m 256) 2 : Int))).setCell ⟨w.heap.size + 1 + 1, 3, none⟩ (.int .u64 (dig (mont G.q.m 256) 3 : Int))) = W3 at *
 clear hz_ hzf_ HS2 HB2
 go_loopw [7, 16] (fun _ i wr => ∃ k : Nat, k ≤ s.size ∧ i = .int .i64 k ∧ Hid (Blk wr (w.heap.size + 1) 98 (lim (mont G.q.m (numHead s k)))) ∧ Hid (Blk wr (w.heap.size + 2) 98 (lim (mont G.q.m 256))) ∧ Hid (Blk wr w.heap.size 98 [0, 0, 0, 0]) ∧ Hid (Below w.heap.size w wr)) (fun _ i _ => s.size - (intOf i).toNat)
 case atStart => exact ⟨0, Nat.zero_le _, rfl, HO3.out, HS3.out, HC3.out, HB3.out⟩
 case round =>
  clear HO3 HS3 HC3 HB3
  obtain ⟨k, hk, rfl, HO, HS, HC, HB⟩ := hrel
  have ho_ := Blk.l4 (mont G.q.m (numHead s k)) HO.out
  have hlo := HO.out.lt
  by_cases hkl : k < s.size
  ·have hs_ := Blk.l4 (mont G.q.m 256) HS.out
   have hls := HS.out.lt
   have hG0 := HG.out.below HB.out HG.out.lt
   have hc256 := (s[k]'hkl).toNat_lt
   go_wp2_with fail
   refine wp_region_otail 11 (by kernel_rfl) (by kernel_rfl) ?_
   simp only [List.take_succ_cons, List.take_zero, List.drop_succ_cons, List.drop_zero]
   have hov0 := fun (E : Over wr) o => E.cell (b := w.heap.size + 1) o hlo
   have hov1 := fun (E : Over wr) o => E.cell (b := w.heap.size + 2) o hls
   repeat (go_big_quiet_step (first | (go_at_call 55; exact calls_over (gMul_any G OK.out gb (numHead s k) 256 _ (hG0.up (Over.h _)))) | (go_at_call 199; exact calls_over (gByte_any G OK.out gb (s[k]'hkl).toNat hc256 _ (hG0.up (Over.h _)))) | (go_at_call 54; exact calls_over (gAdd_any G OK.out gb (numHead s k * 256) (s[k]'hkl).toNat _ (hG0.up (Over.h _))))))
   all_goals (try unfold limbV)
   repeat (go_big_quiet_step (first | (go_at_call 55; exact calls_over (gMul_any G OK.out gb (numHead s k) 256 _ (hG0.up (Over.h _)))) | (go_at_call 199; exact calls_over (gByte_any G OK.out gb (s[k]'hkl).toNat hc256 _ (hG0.up (Over.h _)))) | (go_at_call 54; exact calls_over (gAdd_any G OK.out gb (numHead s k * 256) (s[k]'hkl).toNat _ (hG0.up (Over.h _))))))
   all_goals (try unfold limbV)
   repeat (go_big_quiet_step (first | (go_at_call 55; exact calls_over (gMul_any G OK.out gb (numHead s k) 256 _ (hG0.up (Over.h _)))) | (go_at_call 199; exact calls_over (gByte_any G OK.out gb (s[k]'hkl).toNat hc256 _ (hG0.up (Over.h _)))) | (go_at_call 54; exact calls_over (gAdd_any G OK.out gb (numHead s k * 256) (s[k]'hkl).toNat _ (hG0.up (Over.h _))))))
   refine wpQuiet_nil ?_
   rintro _ ⟨E, rfl⟩
   have HO2 := Lib.hid (HO.out.below E.h HO.out.lt)
   have HS2 := Lib.hid (HS.out.below E.h HS.out.lt)
   have HC2 := Lib.hid (HC.out.below E.h HC.out.lt)
   have HB2 := Lib.hid (HB.out.trans (E.h.mono HB.out.size))
   clear hov0 hov1 ho_ hs_ hG0
   generalize E.w = w3 at *
   rw [← numHead_succ s k hkl]
   unfold scV limbV
   have ho_ := Blk.l4 (mont G.q.m (numHead s k)) HO2.out
   have hof_ := HO2.out.frozen
   have HO4 := Lib.hid (HO2.out.fill rfl (mont G.q.m (numHead s (k + 1))))
   have HS4 := Lib.hid (HS2.out.fillOther (c := w.heap.size + 1) (by omega) (mont G.q.m (numHead s (k + 1))))
   have HC4 := Lib.hid (HC2.out.fillOther (c := w.heap.size + 1) (by omega) (mont G.q.m (numHead s (k + 1))))
   have HB4 := Lib.hid (below_fill (n := mont G.q.m (numHead s (k + 1))) (b := w.heap.size + 1) HB2.out (by omega))
   go_wp2_with fail
   go_roundw
   case rel => exact ⟨k + 1, by omega, by go_num, HO4.out, HS4.out, HC4.out, HB4.out⟩
   case measure => simp [intOf]; omega
  ·have hks : k = s.size := by omega
   subst hks
   rw [numHead_all] at ho_
   have HZ := HC
   have HBB := HB
   obtain ⟨w5, hq5, HB5, HS5⟩ := fillE HBB HZ (by omega) (mont G.q.m (numOf s))
   have hz_ := Blk.z4 HZ.out
   have hzf_ := HZ.out.frozen
   go_wp2_with fail
   clear hz_
   have hg_ := Blk.l4 (mont G.q.m (numOf s)) HS5.out
   simp [bodyPost, results, Try.results164, go_sem, hg_]
   exact HB5.out
end Go.Proofs.Ytjmeakfjfpnciaa
namespace Go.Proofs.Ytjmeakfjfpnciaa
open Go.RowKit
theorem text8 (n : Nat) (hn : n < BB) (w : World) : Calls Try.prog 117 #[.agg #[.int .u64 (n : Int), .int .u64 0, .int .u64 0, .int .u64 0], .int .i64 8] w fun e w' => e = .returned (.string (textS n 8)) ∧ Below w.heap.size w w' := by
 have h := text_any n 8 (by decide) w
 rwa [limbV_small n hn] at h
theorem gNumber_pos (G : GP) (ok : G.Ok) (gb n : Nat) (hn : n ≤ 9223372036854775807) (w : World) (hG : GroupAt w gb G) :
  Calls Try.prog 112 #[.pointer (some ⟨gb, 0, none⟩), .int .i64 (n : Int)] w fun e w' => e = .returned (scV G n) ∧ Below w.heap.size w w' := by
 have OK := Lib.hid ok
 clear ok
 have hn2 : (n : Int) < 18446744073709551616 := by omega
 have hneg : ¬ (n : Int) < 0 := by omega
 have HNUM : Hid (numOf (textS n 8) = n) := by
  show _ = _
  rw [numOf_textS]
  exact Nat.mod_eq_of_lt (by omega)
 have hw : IntKind.u64.wrap (n : Int) = (n : Int) := wraps_u64 _ (by omega) (by omega)
 unfold scV limbV
 go_enter Try.func112, Try.ntmps112
 go_wp2_with fail
 obtain ⟨W0, hW0, hBW, hC⟩ := boxZ w 98
 rw [hW0]
 clear hW0
 have HG := Lib.hid hG
 have HC := Lib.hid hC
 have HBW := Lib.hid hBW
 clear hG hC hBW
 refine (text8 n (by simp only [BB]; omega) W0).mono ?_
 rintro e w2 ⟨rfl, hb2⟩
 have HB2 := Lib.hid (below_up HBW.out hb2)
 have HC2 := Lib.hid (HC.out.below hb2 HC.out.lt)
 clear hb2 HC HBW
 go_wp2_with fail
 refine (gReduce_any G OK.out gb (textS n 8) (by rw [textS_size]; unfold maxLen; omega) w2 (HG.out.below HB2.out HG.out.lt)).mono ?_
 rintro e w3 ⟨rfl, hb3⟩
 have HBB := Lib.hid (HB2.out.trans (hb3.mono HB2.out.size))
 have HZ := Lib.hid (HC2.out.below hb3 HC2.out.lt)
 clear hb3 HC2 HB2
 rw [HNUM.out]
 unfold scV limbV
 obtain ⟨w5, hq5, HB5, HS5⟩ := fillE HBB HZ (by omega) (mont G.q.m n)
 have hz_ := Blk.z4 HZ.out
 have hzf_ := HZ.out.frozen
 go_wp2_with fail
 clear hz_
 have hg_ := Blk.l4 (mont G.q.m n) HS5.out
 simp [bodyPost, results, Try.results112, go_sem, hg_]
 exact HB5.out
def modI (q : Nat) (n : Int) : Nat := (n % (q : Int)).toNat
theorem modI_pos (q n : Nat) : modI q (n : Int) = n % q := by
 unfold modI; rw [← Int.natCast_emod]; rfl
theorem modI_neg (q m : Nat) (hq : 0 < q) : (q - (m + 1) % q) % q = modI q (-(m : Int) - 1) := by
 unfold modI
 have hr := Nat.mod_lt (m + 1) hq
 have hd := Nat.div_add_mod (m + 1) q
 generalize (m + 1) % q = r at *
 generalize (m + 1) / q = d at *
 have e : (-(m : Int) - 1) = ((q - r : Nat) : Int) + (q : Int) * (-(d : Int) - 1) := by
  rw [Int.mul_sub, Int.mul_one, Int.mul_neg]
  have : (q : Int) * (d : Int) = ((q * d : Nat) : Int) := by simp
  rw [this]; omega
 rw [e, Int.add_mul_emod_self_left, ← Int.natCast_emod]
 rfl
theorem gNumber_neg (G : GP) (ok : G.Ok) (gb m : Nat) (hm : m ≤ 9223372036854775807) (w : World) (hG : GroupAt w gb G) :
  Calls Try.prog 112 #[.pointer (some ⟨gb, 0, none⟩), .int .i64 (-(m : Int) - 1)] w fun e w' => e = .returned (scV G (modI G.q.m (-(m : Int) - 1))) ∧ Below w.heap.size w w' := by
 have OK := Lib.hid ok
 clear ok
 obtain ⟨n, hn⟩ : ∃ n : Int, n = -(m : Int) - 1 := ⟨_, rfl⟩
 rw [← hn]
 have hneg : n < 0 := by omega
 have e1 : IntKind.i64.wrap (n + 1) = n + 1 := IntWalk.i64_in _ (by omega)
 have e2 : IntKind.i64.wrap (-(n + 1)) = (m : Int) := by rw [IntWalk.i64_in _ (by omega)]; omega
 have HRES : Hid (scV G (modI G.q.m n) = scV G (G.q.m - (m + 1) % G.q.m)) := scV_eq G (by
  rw [hn, ← modI_neg _ _ OK.out.q.pos, Nat.mod_mod])
 have HM := Lib.hid hn
 clear hn
 rw [HRES.out]
 unfold scV limbV
 go_enter Try.func112, Try.ntmps112
 go_wp2_with fail
 obtain ⟨W0, hW0, hBW, hC⟩ := boxZ w 98
 rw [hW0]
 clear hW0
 have HG := Lib.hid hG
 have HC := Lib.hid hC
 have HBW := Lib.hid hBW
 clear hG hC hBW
 refine (gNumber_pos G OK.out gb m hm W0 (HG.out.below HBW.out HG.out.lt)).mono ?_
 rintro e w2 ⟨rfl, hb2⟩
 have HB2 := Lib.hid (below_up HBW.out hb2)
 have HC2 := Lib.hid (HC.out.below hb2 HC.out.lt)
 clear hb2 HC HBW
 go_wp2_with fail
 refine (gPlusOne_any G OK.out gb m w2 (HG.out.below HB2.out HG.out.lt)).mono ?_
 rintro e w3 ⟨rfl, hb3⟩
 have HB3 := Lib.hid (HB2.out.trans (hb3.mono HB2.out.size))
 have HC3 := Lib.hid (HC2.out.below hb3 HC2.out.lt)
 clear hb3 HC2 HB2
 rw [← scV_mod G (m + 1)]
 go_wp2_with fail
 refine (gNeg_any G OK.out gb ((m + 1) % G.q.m) (Nat.le_of_lt (Nat.mod_lt _ OK.out.q.pos)) w3 (HG.out.below HB3.out HG.out.lt)).mono ?_
 rintro e w4 ⟨rfl, hb4⟩
 have HBB := Lib.hid (HB3.out.trans (hb4.mono HB3.out.size))
 have HZ := Lib.hid (HC3.out.below hb4 HC3.out.lt)
 clear hb4 HC3 HB3
 unfold scV limbV
 obtain ⟨w5, hq5, HB5, HS5⟩ := fillE HBB HZ (by omega) (mont G.q.m (G.q.m - (m + 1) % G.q.m))
 have hz_ := Blk.z4 HZ.out
 have hzf_ := HZ.out.frozen
 go_wp2_with fail
 clear hz_
 have hg_ := Blk.l4 (mont G.q.m (G.q.m - (m + 1) % G.q.m)) HS5.out
 simp [bodyPost, results, Try.results112, go_sem, hg_]
 exact HB5.out
theorem gNumber_any (G : GP) (ok : G.Ok) (gb : Nat) (n : Int) (h1 : -9223372036854775808 ≤ n) (h2 : n ≤ 9223372036854775807) (w : World) (hG : GroupAt w gb G) :
  Calls Try.prog 112 #[.pointer (some ⟨gb, 0, none⟩), .int .i64 n] w fun e w' => e = .returned (scV G (modI G.q.m n)) ∧ Below w.heap.size w w' := by
 rcases Int.lt_or_le n 0 with h | h
 ·obtain ⟨m, hm⟩ : ∃ m : Nat, n = -(m : Int) - 1 := ⟨(-n - 1).toNat, by omega⟩
  subst hm
  exact gNumber_neg G ok gb m (by omega) w hG
 ·obtain ⟨m, rfl⟩ := Int.eq_ofNat_of_zero_le h
  rw [modI_pos, scV_mod]
  exact gNumber_pos G ok gb m (by omega) w hG
end Go.Proofs.Ytjmeakfjfpnciaa
namespace Go.Proofs.Ytjmeakfjfpnciaa
open Go.RowKit
def of4 (a b c d : Nat) : Nat := a + BB * b + BB ^ 2 * c + BB ^ 3 * d
def grp : Nat → GP
 | 1 => ⟨1, 2, ⟨1283, 1100, 131, 690135397925220949⟩, ⟨641, 1, 1, 28778071877862015⟩⟩
 | 2 => ⟨2, 8, ⟨1152930863340584963, 576503707391577365, 1074843801509405873, 2177741659672237397⟩, ⟨576465431670292481, 354135386165974715, 178479071281353849, 14411523486952456191⟩⟩
 | _ => ⟨3, 32, ⟨of4 0x3 0x0 0x237f 0x2000000000000000, of4 0xffffffffffffffeb 0xffffffffffffffff 0xffffffffffff0786 0x1fffffffffffffff, of4 0xffffffe27829fc43 0xffffffffffffffff 0xfffea297c8e063fe 0x1fffffffffffffff, 0x5555555555555555⟩,
   ⟨of4 0x1 0x8000000000000000 0x11bf 0x1000000000000000, of4 0xfffffffffffffff1 0x7fffffffffffffff 0xfffffffffffef5c7 0xfffffffffffffff, of4 0xffffffec501bfd01 0x7fffffffffffffff 0xfffea297c8ce92bf 0xfffffffffffffff, 0xffffffffffffffff⟩⟩
theorem grp_ok (k : Nat) (h1 : 1 ≤ k) (h3 : k ≤ 3) : (grp k).Ok := by
 obtain rfl | rfl | rfl : k = 1 ∨ k = 2 ∨ k = 3 := by omega
 all_goals exact ⟨⟨by decide, by decide, by decide, by decide, by decide, by decide⟩, ⟨by decide, by decide, by decide, by decide, by decide, by decide⟩, by decide, by decide, by decide, by decide⟩
def GP.cells (G : GP) : List Value := .int .i64 G.kind :: .int .i64 G.size :: (G.p.cells ++ G.q.cells).map (Value.int .u64)
theorem cells_length (R : RingP) : R.cells.length = 13 := rfl
theorem groupAt_of {W : World} {b : Nat} {t : TypeId} {G : GP} (h : W.heap[b]? = some (.cells G.cells.toArray t (0, 0))) : GroupAt W b G := by
 have hc : ∀ i v, G.cells[i]? = some v → W.cell? ⟨b, i, none⟩ = some v := fun i v hv => by
  simp only [World.cell?, h]
  simpa using hv
 refine ⟨(Array.getElem?_eq_some_iff.1 h).1, hc 0 _ rfl, hc 1 _ rfl, ⟨(Array.getElem?_eq_some_iff.1 h).1, fun i x hx => hc (2 + i) _ ?_⟩, ⟨(Array.getElem?_eq_some_iff.1 h).1, fun i x hx => hc (15 + i) _ ?_⟩⟩
 ·rw [show 2 + i = i + 1 + 1 by omega]
  simp only [GP.cells, List.getElem?_cons_succ, List.getElem?_map]
  rw [List.getElem?_append_left (by have := (List.getElem?_eq_some_iff.1 hx).1; exact this), hx]
  rfl
 ·rw [show 15 + i = 13 + i + 1 + 1 by omega]
  simp only [GP.cells, List.getElem?_cons_succ, List.getElem?_map]
  rw [List.getElem?_append_right (by rw [cells_length]; omega), cells_length, show 13 + i - 13 = i by omega, hx]
  rfl
theorem of_none (k : Int) (hk : ¬ (1 ≤ k ∧ k ≤ 3)) (w : World) : Calls Try.prog 57 #[.int .i64 k] w fun e w' => e = .returned (.pointer none) ∧ w = w' := by
 have h1 : (k == 1) = false := by simp; omega
 have h2 : (k == 2) = false := by simp; omega
 have h3 : (k == 3) = false := by simp; omega
 go_enter Try.func57, Try.ntmps57
 go_wp2_with fail
 go_ret
 exact ⟨rfl, rfl⟩
theorem of_some (k : Nat) (h1 : 1 ≤ k) (h3 : k ≤ 3) (w : World) : Calls Try.prog 57 #[.int .i64 k] w fun e w' => e = .returned (.pointer (some ⟨w.heap.size, 0, none⟩)) ∧ GroupAt w' w.heap.size (grp k) ∧ Below w.heap.size w w' := by
 obtain rfl | rfl | rfl : k = 1 ∨ k = 2 ∨ k = 3 := by omega
 all_goals
  go_enter Try.func57, Try.ntmps57
  go_wp2_with fail
  go_ret
  refine ⟨rfl, groupAt_of (t := 181) ?_, (Below.refl _ _).alloc (Nat.le_refl _) _⟩
  rw [heap_alloc_new]
  exact congrArg (fun l => some (Obj.cells l 181 (0, 0))) (by kernel_rfl)
end Go.Proofs.Ytjmeakfjfpnciaa
namespace Go.Proofs.Ytjmeakfjfpnciaa
section
variable {B : Nat}
end
end Go.Proofs.Ytjmeakfjfpnciaa
namespace Go.Proofs.Ytjmeakfjfpnciaa
open Go.RowKit
end Go.Proofs.Ytjmeakfjfpnciaa
namespace Go.Proofs.Ytjmeakfjfpnciaa
open Go.RowKit
theorem own_form3 {w : World} {base e k n : Nat} {v : Value} {xs : List Value} (h : w.ownsRow base e k v n xs) : ∃ a c, v = .slice a n c ∧ (n = 0 ∨ ∃ g, a = some ⟨g, 0, none⟩ ∧ g < w.heap.size) := by
 rcases h.2 with ⟨hv, h0⟩ | ⟨g, cap, cur, hv, _, hg, _⟩
 ·subst h0; exact ⟨none, 0, hv, Or.inl rfl⟩
 ·exact ⟨_, cap, hv, Or.inr ⟨g, rfl, (Array.getElem?_eq_some_iff.1 hg).1⟩⟩
end Go.Proofs.Ytjmeakfjfpnciaa
namespace Go.Proofs.Ytjmeakfjfpnciaa
open Go.RowKit
end Go.Proofs.Ytjmeakfjfpnciaa
namespace Go.Proofs.Ytjmeakfjfpnciaa
open Go.RowKit
def Bx (W : World) (b : Nat) (t : TypeId) (cs : List Value) : Prop := W.heap[b]? = some (.cells cs.toArray t (0, 0))
section
variable {W W' : World} {b c i n : Nat} {t : TypeId} {cs : List Value} {v : Value}
theorem Bx.lt (h : Bx W b t cs) : b < W.heap.size := (Array.getElem?_eq_some_iff.1 h).1
theorem Bx.cell (h : Bx W b t cs) (hx : cs[i]? = some v) : W.cell? ⟨b, i, none⟩ = some v := by
 simp [World.cell?, show W.heap[b]? = _ from h, hx]
theorem Bx.frozen (h : Bx W b t cs) (i : Nat) : W.frozen? ⟨b, i, none⟩ = false := by
 simp [World.frozen?, show W.heap[b]? = _ from h]
theorem Bx.below (h : Bx W b t cs) (hb : Below n W W') (hn : b < n) : Bx W' b t cs := (hb.block b hn).trans h
theorem Bx.up (h : Bx W b t cs) (hb : Below W.heap.size W W') : Bx W' b t cs := h.below hb h.lt
theorem Bx.alloc (h : Bx W b t cs) (o : Obj) : Bx (W.alloc o) b t cs := (Below.heap_alloc W o b h.lt).trans h
theorem Bx.new (W : World) (t : TypeId) (cs : List Value) (ar : Array Value) (har : ar = cs.toArray) : Bx (W.alloc (.cells ar t)) W.heap.size t cs := by
 subst har; exact heap_alloc_new W _
theorem Bx.set (h : Bx W b t cs) (i : Nat) (v : Value) : Bx (W.setCell ⟨b, i, none⟩ v) b t (cs.set i v) := by
 obtain ⟨hlt, hk⟩ := Array.getElem?_eq_some_iff.1 h
 show (W.heap.modify b _)[b]? = _
 rw [Array.getElem?_eq_getElem (by rw [Array.size_modify]; exact hlt), Array.getElem_modify_self, hk]
 simp
end
end Go.Proofs.Ytjmeakfjfpnciaa
namespace Go.Proofs.Ytjmeakfjfpnciaa
open Go.RowKit
def RowO (N : Nat) (w : World) (e : TypeId) (size : Nat) (v : Value) (n : Nat) (xs : List Value) : Prop := w.ownsRow N e size v n xs
section
variable {w w1 : World} {e : TypeId} {N size n m g c : Nat} {v : Value} {xs ys : List Value} {r : Option Nat}
theorem RowO.nil : RowO N w e size (.slice none 0 0) 0 [] := World.ownsRow_nil _ _ _ _
theorem RowO.grown (h : RowO N w e size v n xs) (hg : w.grownBy w1 r) (hne : ∀ q, v.ownBlock = some q → r ≠ some q) : RowO N w1 e size v n xs :=
 World.ownsRow.kept h hg (by cases h9 : v.ownBlock with
  | none => exact Or.inl rfl
  | some q => exact Or.inr (fun e => hne q h9 e.symm))
theorem RowO.up (h : RowO N w e size v n xs) (hb : Below w.heap.size w w1) : RowO N w1 e size v n xs := h.grown (below_grown hb) (fun q _ => by simp)
theorem RowO.lt (h : RowO N w e size v n xs) (q : Nat) (hq : v.ownBlock = some q) : N ≤ q ∧ q < w.heap.size := World.ownsRow.lt h q hq
theorem RowO.form (h : RowO N w e size v n xs) : ∃ a c, v = .slice a n c := let ⟨a, c, h1, _⟩ := own_form3 h; ⟨a, c, h1⟩
theorem RowO.eq (h : RowO N w e size v n xs) (hx : xs = ys) (hn : n = m) : RowO N w e size v m ys := by subst hx; subst hn; exact h
theorem RowO.sl {a : Option Addr} {k : Nat} (h : RowO N w e size (.slice a k c) n xs) : Sl w w.heap.size a xs := by
 rcases h.2 with ⟨hv, h0⟩ | ⟨g, cap, cur, hv, hb, hg, hr⟩
 ·have := h.1; subst h0; left; exact List.length_eq_zero_iff.1 (by simpa using this)
 ·simp only [Value.slice.injEq] at hv
  obtain ⟨rfl, rfl, rfl⟩ := hv
  refine Or.inr ⟨g, 0, rfl, (Array.getElem?_eq_some_iff.1 hg).1, fun i u hu => ?_⟩
  have hi : i < k * size := by have := (List.getElem?_eq_some_iff.1 hu).1; rw [h.1] at this; exact this
  rw [Nat.zero_add, World.ownsRow.cellAt h i hi]; exact hu
theorem Bx.grown {t : TypeId} {b : Nat} {cs : List Value} (h : Bx w b t cs) (hg : w.grownBy w1 r) (hne : r ≠ some b) : Bx w1 b t cs := (hg.block b h.lt (fun e => hne e.symm)).trans h
theorem cell_of_block {b : Nat} (h : w1.heap[b]? = w.heap[b]?) (o : Nat) : w1.cell? ⟨b, o, none⟩ = w.cell? ⟨b, o, none⟩ := by
 simp only [World.cell?, h]
theorem GroupAt.grown {gb : Nat} {G : GP} (h : GroupAt w gb G) (hg : w.grownBy w1 r) (hne : r ≠ some gb) : GroupAt w1 gb G := by
 have hc := cell_of_block (hg.block gb h.lt (fun e => hne e.symm))
 have hl := hg.size
 exact ⟨Nat.lt_of_lt_of_le h.lt hl, by rw [hc]; exact h.kind, by rw [hc]; exact h.size, ⟨Nat.lt_of_lt_of_le h.p.lt hl, fun i x hx => by rw [hc]; exact h.p.cell i x hx⟩, ⟨Nat.lt_of_lt_of_le h.q.lt hl, fun i x hx => by rw [hc]; exact h.q.cell i x hx⟩⟩
theorem grown_set (w : World) (b i : Nat) (u : Value) : w.grownBy (w.setCell ⟨b, i, none⟩ u) (some b) :=
 ⟨rfl, rfl, rfl, by simp [World.setCell], fun k _ hk => Below.heap_setCell w ⟨b, i, none⟩ u k (by intro e; exact hk (by rw [e]))⟩
end
theorem wpList_pushR {P : Program} (N : Nat) (w0 : World) (hN : N ≤ w0.heap.size) {ops : Array Oper} {rest : List Oper} {o : Oper} {a : Act} {Q : Exit → Act → World → Prop} (hgd : o.guard = none) (s x : Operand) (t : TypeId)
  (ho : o.op = .call { callee := .builtin .append, args := #[s, x], argTypes := #[t, t] })
  (e : TypeId) (i : TypeInfo) (z : Value) (size bytes : Nat) (ht : P.underlying t = some (.slice e)) (hi : P.info? e = some i) (hz : i.zero = some z)
  (hsize : i.size = size) (hby : i.bytes = bytes) (hzs : z.cells.size = size) (hsz : 0 < size)
  (v : Value) (n : Nat) (xs : List Value) (hs : a.eval s = v) (hown : RowO N w0 e size v n xs)
  (news : Array Value) (e2 : TypeId) (b : Nat) (hb : w0.heap.size = b) (hx : a.eval x = .slice (some ⟨b, 0, none⟩) 1 1) (hl : news.size = size) (h1 : ∀ u ∈ news.toList, u.oneCell' = true)
  (h63 : (n + 1) * bytes ≤ 140737488355328) (hn : n + 1 ≤ maxLen)
  (h : ∀ g cap w', RowO N w' e size (.slice (some ⟨g, 0, none⟩) (n + 1) cap) (n + 1) (xs ++ news.toList) → w0.grownBy w' v.ownBlock → wpList P ops Q rest (a.put o.dst (.slice (some ⟨g, 0, none⟩) (n + 1) cap)) w') :
  wpList P ops Q (o :: rest) a (w0.alloc (.cells news e2)) := by
 subst hb
 refine wpList_append_lies _ hgd s x t ho N e i z size bytes ht hi hz hsize hby hzs hsz v n xs hs (World.ownsRow.alloc hown _) ⟨w0.heap.size, 0, none⟩ 1 1 news.toList hx (by simpa using hl)
  (World.news_of_block (heap_alloc_new w0 _)) h1 (by omega) hn h63 (by simp; omega) _ rfl ?_
 intro g cap w' hown' hg _ _
 refine h g cap w' hown' ⟨hg.os, hg.tape, hg.output, ?_, ?_⟩
 ·have := hg.size; simp at this; omega
 ·intro k hk hne
  rw [hg.block k (by simp; omega) hne]
  exact Below.heap_alloc _ _ _ hk
theorem flat_at {α : Type} (f : α → List Value) (k : Nat) (hk : ∀ x, (f x).length = k) : ∀ (l : List α) (i j : Nat) (hi : i < l.length) (_ : j < k), (l.flatMap f)[i * k + j]? = (f l[i])[j]?
 | [], i, _, hi, _ => absurd hi (by simp)
 | x :: l, 0, j, _, hj => by
  rw [List.flatMap_cons, Nat.zero_mul, Nat.zero_add, List.getElem?_append_left (by rw [hk]; exact hj)]
  rfl
 | x :: l, i + 1, j, hi, hj => by
  rw [List.flatMap_cons, List.getElem?_append_right (by rw [hk, Nat.add_mul]; omega), hk, show (i + 1) * k + j - k = i * k + j by rw [Nat.add_mul]; omega]
  exact flat_at f k hk l i j (by simpa using hi) hj
theorem flat_len {α : Type} (f : α → List Value) (k : Nat) (hk : ∀ x, (f x).length = k) (l : List α) : (l.flatMap f).length = l.length * k := by
 induction l with
 | nil => simp
 | cons x l ih => rw [List.flatMap_cons, List.length_append, hk, ih, List.length_cons, Nat.add_mul]; omega
theorem flat_snoc {α : Type} (f : α → List Value) (l : List α) (i : Nat) (hi : i < l.length) : (l.take (i + 1)).flatMap f = (l.take i).flatMap f ++ f l[i] := by
 rw [List.take_succ_eq_append_getElem hi, List.flatMap_append]
 simp
theorem Sl.elem {w : World} {B : Nat} {a : Option Addr} {α : Type} {f : α → List Value} {k : Nat} {l : List α} (h : Sl w B a (l.flatMap f)) (hk : ∀ x, (f x).length = k) (h0 : 0 < k) (i : Nat) (hi : i < l.length) :
  ∃ b off, a = some ⟨b, off, none⟩ ∧ b < B ∧ ∀ j v, (f l[i])[j]? = some v → w.cell? ⟨b, off + i * k + j, none⟩ = some v := by
 rcases h with h | ⟨b, off, rfl, hb, hc⟩
 ·have := flat_len f k hk l
  rw [h, List.length_nil] at this
  have : 0 < l.length * k := Nat.mul_pos (by omega) h0
  omega
 ·exact ⟨b, off, rfl, hb, fun j v hv => by rw [Nat.add_assoc]; exact hc _ _ (by rw [flat_at f k hk l i j hi (by have := (List.getElem?_eq_some_iff.1 hv).1; rw [hk] at this; exact this)]; exact hv)⟩
end Go.Proofs.Ytjmeakfjfpnciaa
namespace Go.Proofs.Ytjmeakfjfpnciaa
open Go.RowKit
section
variable {W w0 : World} {b n : Nat} {t : TypeId} {cs cs' : List Value} {a0 a1 a2 a3 a4 a5 a6 a7 : Value}
theorem Bx.c1 (h : Bx W b t [a0]) : W.cell? ⟨b, 0, none⟩ = some a0 := h.cell (i := 0) rfl
theorem Bx.c4 (h : Bx W b t [a0, a1, a2, a3]) : W.cell? ⟨b, 0, none⟩ = some a0 ∧ W.cell? ⟨b, 1, none⟩ = some a1 ∧ W.cell? ⟨b, 2, none⟩ = some a2 ∧ W.cell? ⟨b, 3, none⟩ = some a3 := ⟨h.cell (i := 0) rfl, h.cell (i := 1) rfl, h.cell (i := 2) rfl, h.cell (i := 3) rfl⟩
theorem sz {p q : Prop} (a : Hid p) (b : q) : Hid (p ∧ q) := Lib.hid ⟨a.out, b⟩
theorem sne {a b : Nat} (h : b ≠ a) : some a ≠ some b := fun e => h (Option.some.inj e).symm
theorem hbu {W w w1 : World} (h : Hid (Below W.heap.size W w)) (g : Below w.heap.size w w1) : Hid (Below W.heap.size W w1) := Lib.hid (below_up h.out g)
theorem hbg {W w w1 : World} {b : Nat} (h : Hid (Below W.heap.size W w)) (g : Hid (w.grownBy w1 (some b))) (hb : W.heap.size ≤ b) : Hid (Below W.heap.size W w1) := Lib.hid (Below.grown h.out g.out h.out.size (fun _ e => (Option.some.inj e) ▸ hb))
theorem new1 (w : World) (t0 : TypeId) (c0 : List Value) : ∃ W, w.alloc (Obj.cells c0.toArray t0) = W ∧ Below w.heap.size w W ∧ Hid (W.heap.size = w.heap.size + 1) ∧ Hid (Bx W w.heap.size t0 c0) := by
 refine ⟨_, rfl, ((Below.refl _ _).alloc (Nat.le_refl _) _), Lib.hid (by simp), ?_⟩
 ·have h := (Bx.new w t0 c0 _ rfl)
  exact Lib.hid h
theorem new2 (w : World) (t0 : TypeId) (c0 : List Value) (t1 : TypeId) (c1 : List Value) : ∃ W, (w.alloc (Obj.cells c0.toArray t0)).alloc (Obj.cells c1.toArray t1) = W ∧ Below w.heap.size w W ∧ Hid (W.heap.size = w.heap.size + 2) ∧ Hid (Bx W w.heap.size t0 c0) ∧ Hid (Bx W (w.heap.size + 1) t1 c1) := by
 refine ⟨_, rfl, (((Below.refl _ _).alloc (Nat.le_refl _) _).alloc (by simp) _), Lib.hid (by simp), ?_, ?_⟩
 ·have h := ((Bx.new w t0 c0 _ rfl).alloc (Obj.cells c1.toArray t1))
  exact Lib.hid h
 ·have h := (Bx.new (w.alloc (Obj.cells c0.toArray t0)) t1 c1 _ rfl)
  rw [World.size_alloc] at h
  exact Lib.hid h
theorem put1 (h : Hid (Bx W b t cs)) (o0 : Nat) (v0 : Value) (cs' : List Value) (hc : (cs.set o0 v0) = cs') : ∃ W', (W.setCell ⟨b, o0, none⟩ v0) = W' ∧ Hid (W.grownBy W' (some b)) ∧ Hid (W'.heap.size = W.heap.size) ∧ Hid (Bx W' b t cs') :=
 ⟨_, rfl, Lib.hid (grown_set W b o0 v0), Lib.hid (by simp [World.setCell]), Lib.hid (hc ▸ (h.out.set o0 v0))⟩
theorem put4 (h : Hid (Bx W b t cs)) (o0 : Nat) (v0 : Value) (o1 : Nat) (v1 : Value) (o2 : Nat) (v2 : Value) (o3 : Nat) (v3 : Value) (cs' : List Value) (hc : ((((cs.set o0 v0).set o1 v1).set o2 v2).set o3 v3) = cs') : ∃ W', ((((W.setCell ⟨b, o0, none⟩ v0).setCell ⟨b, o1, none⟩ v1).setCell ⟨b, o2, none⟩ v2).setCell ⟨b, o3, none⟩ v3) = W' ∧ Hid (W.grownBy W' (some b)) ∧ Hid (W'.heap.size = W.heap.size) ∧ Hid (Bx W' b t cs') :=
 ⟨_, rfl, Lib.hid ((((grown_set W b o0 v0).trans (grown_set (W.setCell ⟨b, o0, none⟩ v0) b o1 v1)).trans (grown_set ((W.setCell ⟨b, o0, none⟩ v0).setCell ⟨b, o1, none⟩ v1) b o2 v2)).trans (grown_set (((W.setCell ⟨b, o0, none⟩ v0).setCell ⟨b, o1, none⟩ v1).setCell ⟨b, o2, none⟩ v2) b o3 v3)), Lib.hid (by simp [World.setCell]), Lib.hid (hc ▸ ((((h.out.set o0 v0).set o1 v1).set o2 v2).set o3 v3))⟩
end
end Go.Proofs.Ytjmeakfjfpnciaa
namespace Go.Proofs.Ytjmeakfjfpnciaa
def IsPrime (p : Nat) : Prop := 2 ≤ p ∧ ∀ d, d ∣ p → d = 1 ∨ d = p
theorem IsPrime.coprime_of_not_dvd {p a : Nat} (hp : IsPrime p) (h : ¬ p ∣ a) : Nat.Coprime p a := by
 rcases hp.2 (Nat.gcd p a) (Nat.gcd_dvd_left p a) with h1 | h1
 ·exact h1
 ·exact absurd (h1 ▸ Nat.gcd_dvd_right p a) h
theorem IsPrime.dvd_mul {p a b : Nat} (hp : IsPrime p) (h : p ∣ a * b) : p ∣ a ∨ p ∣ b := by
 by_cases ha : p ∣ a
 ·exact Or.inl ha
 ·exact Or.inr ((hp.coprime_of_not_dvd ha).dvd_of_dvd_mul_left h)
theorem exists_prime_dvd : ∀ n : Nat, 2 ≤ n → ∃ p, IsPrime p ∧ p ∣ n := by
 intro n
 induction n using Nat.strongRecOn with
 | ind n ih =>
  intro hn
  by_cases h : ∃ d, d ∣ n ∧ d ≠ 1 ∧ d ≠ n
  ·obtain ⟨d, hd, h1, h2⟩ := h
   have hd0 : d ≠ 0 := by
    intro e; subst e; have := Nat.eq_zero_of_zero_dvd hd; omega
   have hle := Nat.le_of_dvd (by omega) hd
   obtain ⟨p, hp, hpd⟩ := ih d (by omega) (by omega)
   exact ⟨p, hp, Nat.dvd_trans hpd hd⟩
  ·refine ⟨n, ⟨hn, fun d hd => ?_⟩, Nat.dvd_refl n⟩
   by_cases h1 : d = 1
   ·exact Or.inl h1
   ·by_cases h2 : d = n
    ·exact Or.inr h2
    ·exact absurd ⟨d, hd, h1, h2⟩ h
theorem exists_small_prime {n : Nat} (hn : 2 ≤ n) (h : ¬ IsPrime n) : ∃ p, IsPrime p ∧ p ∣ n ∧ p * p ≤ n := by
 have : ∃ d, d ∣ n ∧ d ≠ 1 ∧ d ≠ n := by
  apply Classical.byContradiction
  intro hc
  apply h
  refine ⟨hn, fun d hd => ?_⟩
  by_cases h1 : d = 1
  ·exact Or.inl h1
  ·by_cases h2 : d = n
   ·exact Or.inr h2
   ·exact absurd ⟨d, hd, h1, h2⟩ hc
 obtain ⟨d, ⟨c, hc⟩, h1, h2⟩ := this
 have hd0 : d ≠ 0 := by intro e; subst e; simp at hc; omega
 have hc0 : c ≠ 0 := by intro e; subst e; simp at hc; omega
 have hc1 : c ≠ 1 := by intro e; subst e; simp at hc; omega
 rcases Nat.le_total d c with hdc | hdc
 ·obtain ⟨p, hp, hpd⟩ := exists_prime_dvd d (by omega)
  refine ⟨p, hp, Nat.dvd_trans hpd ⟨c, hc⟩, ?_⟩
  have := Nat.le_of_dvd (by omega) hpd
  calc p * p ≤ d * d := Nat.mul_le_mul this this
   _ ≤ d * c := Nat.mul_le_mul_left d hdc
   _ = n := hc.symm
 ·obtain ⟨p, hp, hpd⟩ := exists_prime_dvd c (by omega)
  refine ⟨p, hp, Nat.dvd_trans hpd ⟨d, by rw [hc, Nat.mul_comm]⟩, ?_⟩
  have := Nat.le_of_dvd (by omega) hpd
  calc p * p ≤ c * c := Nat.mul_le_mul this this
   _ ≤ d * c := Nat.mul_le_mul_right c hdc
   _ = n := hc.symm
def choose : Nat → Nat → Nat
 | _, 0 => 1
 | 0, _ + 1 => 0
 | n + 1, k + 1 => choose n k + choose n (k + 1)
theorem choose_zero (n : Nat) : choose n 0 = 1 := by cases n <;> rfl
theorem choose_big : ∀ n k, n < k → choose n k = 0
 | 0, _ + 1, _ => rfl
 | n + 1, k + 1, h => by rw [choose, choose_big n k (by omega), choose_big n (k + 1) (by omega)]
theorem choose_self : ∀ n, choose n n = 1
 | 0 => rfl
 | n + 1 => by rw [choose, choose_self n, choose_big n (n + 1) (by omega)]
theorem choose_mul : ∀ n k, choose (n + 1) (k + 1) * (k + 1) = (n + 1) * choose n k
 | 0, 0 => rfl
 | 0, k + 1 => by simp [choose]
 | n + 1, 0 => by
  have h := choose_mul n 0
  have e : choose (n + 1 + 1) (0 + 1) = choose (n + 1) 0 + choose (n + 1) (0 + 1) := rfl
  rw [e]
  simp only [choose_zero, Nat.mul_one, Nat.zero_add] at h ⊢
  omega
 | n + 1, k + 1 => by
  have h1 := choose_mul n k
  have h2 := choose_mul n (k + 1)
  have e : choose (n + 1) (k + 1) = choose n k + choose n (k + 1) := rfl
  have e2 : choose (n + 1 + 1) (k + 1 + 1) = choose (n + 1) (k + 1) + choose (n + 1) (k + 1 + 1) := rfl
  rw [e2, Nat.add_mul, h2]
  have : choose (n + 1) (k + 1) * (k + 1 + 1) = choose (n + 1) (k + 1) * (k + 1) + choose (n + 1) (k + 1) := by
   rw [Nat.mul_add, Nat.mul_one]
  rw [this, h1]
  have : (n + 1 + 1) * choose (n + 1) (k + 1) = (n + 1) * choose (n + 1) (k + 1) + choose (n + 1) (k + 1) := by
   rw [Nat.add_mul (n + 1) 1, Nat.one_mul]
  rw [this, e, Nat.mul_add]
  omega
def binom (a n : Nat) : Nat → Nat
 | 0 => 0
 | m + 1 => binom a n m + choose n m * a ^ m
theorem binom_succ (a n : Nat) : ∀ m, binom a (n + 1) (m + 1) = binom a n (m + 1) + a * binom a n m
 | 0 => by simp [binom, choose_zero]
 | m + 1 => by
  have ih := binom_succ a n m
  rw [binom, ih]
  have e : choose (n + 1) (m + 1) = choose n m + choose n (m + 1) := rfl
  rw [e]
  have e1 : binom a n (m + 1 + 1) = binom a n (m + 1) + choose n (m + 1) * a ^ (m + 1) := rfl
  have e2 : binom a n (m + 1) = binom a n m + choose n m * a ^ m := rfl
  rw [e1, Nat.add_mul]
  have e3 : a * binom a n (m + 1) = a * binom a n m + choose n m * a ^ (m + 1) := by
   rw [e2, Nat.mul_add, Nat.pow_succ]
   have : a * (choose n m * a ^ m) = choose n m * (a ^ m * a) := by
    rw [Nat.mul_left_comm, Nat.mul_comm a]
   rw [this]
  rw [e3]
  omega
theorem binom_all (a : Nat) : ∀ n, (a + 1) ^ n = binom a n (n + 1)
 | 0 => by simp [binom, choose]
 | n + 1 => by
  rw [binom_succ, Nat.pow_succ, binom_all a n]
  have e : binom a n (n + 1 + 1) = binom a n (n + 1) := by
   show binom a n (n + 1) + choose n (n + 1) * a ^ (n + 1) = _
   rw [choose_big n (n + 1) (by omega)]; simp
  rw [e, Nat.mul_add, Nat.mul_one, Nat.mul_comm, Nat.add_comm]
theorem prime_dvd_choose {p : Nat} (hp : IsPrime p) {k : Nat} (h0 : 0 < k) (h1 : k < p) : p ∣ choose p k := by
 obtain ⟨n, rfl⟩ : ∃ n, p = n + 1 := ⟨p - 1, by have := hp.1; omega⟩
 obtain ⟨j, rfl⟩ : ∃ j, k = j + 1 := ⟨k - 1, by omega⟩
 have h := choose_mul n j
 have : (n + 1) ∣ choose (n + 1) (j + 1) * (j + 1) := ⟨choose n j, h⟩
 rcases hp.dvd_mul this with h | h
 ·exact h
 ·have := Nat.le_of_dvd (by omega) h; omega
theorem binom_mod {p : Nat} (hp : IsPrime p) (a : Nat) : ∀ m, m < p → binom a p (m + 1) % p = 1 % p
 | 0, _ => by simp [binom, choose_zero]
 | m + 1, h => by
  rw [binom, Nat.add_mod, binom_mod hp a m (by omega)]
  have : choose p (m + 1) * a ^ (m + 1) % p = 0 :=
   Nat.mod_eq_zero_of_dvd (Nat.dvd_trans (prime_dvd_choose hp (by omega) h) ⟨_, rfl⟩)
  rw [this]; simp
theorem succ_pow_mod {p : Nat} (hp : IsPrime p) (a : Nat) : (a + 1) ^ p % p = (a ^ p + 1) % p := by
 have h2 := hp.1
 rw [binom_all]
 show (binom a p p + choose p p * a ^ p) % p = _
 have e := binom_mod hp a (p - 1) (by omega)
 rw [show p - 1 + 1 = p by omega] at e
 rw [choose_self, Nat.one_mul, Nat.add_mod, e, ← Nat.add_mod, Nat.add_comm]
theorem pow_prime_mod {p : Nat} (hp : IsPrime p) : ∀ a : Nat, a ^ p % p = a % p
 | 0 => by rw [Nat.zero_pow (by have := hp.1; omega)]
 | a + 1 => by rw [succ_pow_mod hp, Nat.add_mod, pow_prime_mod hp a, ← Nat.add_mod]
theorem mod_eq_iff_dvd_sub {a b n : Nat} (h : b ≤ a) : a % n = b % n ↔ n ∣ a - b := by
 constructor
 ·intro e
  exact Nat.dvd_of_mod_eq_zero (Nat.sub_mod_eq_zero_of_mod_eq e)
 ·rintro ⟨c, hc⟩
  have : a = b + n * c := by omega
  rw [this, Nat.add_mul_mod_self_left]
theorem mul_cancel_mod {p a x y : Nat} (hp : Nat.Coprime p a) (h : a * x % p = a * y % p) : x % p = y % p := by
 rcases Nat.le_total y x with hxy | hxy
 ·rw [mod_eq_iff_dvd_sub (Nat.mul_le_mul_left a hxy), ← Nat.mul_sub] at h
  exact (mod_eq_iff_dvd_sub hxy).2 (hp.dvd_of_dvd_mul_left h)
 ·have h := h.symm
  rw [mod_eq_iff_dvd_sub (Nat.mul_le_mul_left a hxy), ← Nat.mul_sub] at h
  exact ((mod_eq_iff_dvd_sub hxy).2 (hp.dvd_of_dvd_mul_left h)).symm
theorem fermat {p a : Nat} (hp : IsPrime p) (h : ¬ p ∣ a) : a ^ (p - 1) % p = 1 % p := by
 have h2 := hp.1
 apply mul_cancel_mod (hp.coprime_of_not_dvd h)
 have e := pow_prime_mod hp a
 rw [show p = p - 1 + 1 by omega, Nat.pow_succ, Nat.mul_comm] at e
 rw [show p - 1 + 1 = p by omega] at e
 rw [e, Nat.mul_one]
theorem pow_mod_one {p a m : Nat} (h : a ^ m % p = 1 % p) (k : Nat) : a ^ (m * k) % p = 1 % p := by
 rw [Nat.pow_mul, Nat.pow_mod, h, ← Nat.pow_mod, Nat.one_pow]
theorem pow_gcd {p a : Nat} : ∀ m n : Nat, a ^ m % p = 1 % p → a ^ n % p = 1 % p → a ^ (Nat.gcd m n) % p = 1 % p := by
 intro m
 induction m using Nat.strongRecOn with
 | ind m ih =>
  intro n hm hn
  by_cases h0 : m = 0
  ·subst h0; simpa using hn
  ·rw [Nat.gcd_rec]
   refine ih (n % m) (Nat.mod_lt _ (by omega)) m ?_ hm
   have e : a ^ n = a ^ (m * (n / m)) * a ^ (n % m) := by rw [← Nat.pow_add, Nat.div_add_mod]
   rw [e] at hn
   rw [Nat.mul_mod, pow_mod_one hm, ← Nat.mul_mod, Nat.one_mul] at hn
   exact hn
theorem coprime_of_pow {p a m : Nat} (hp : IsPrime p) (hm : 0 < m) (h : a ^ m % p = 1 % p) : ¬ p ∣ a := by
 intro hd
 have : p ∣ a ^ m := Nat.dvd_trans hd (Nat.dvd_trans ⟨a ^ (m - 1), by rw [← Nat.pow_succ', show (m - 1).succ = m by omega]⟩ (Nat.dvd_refl _))
 rw [Nat.mod_eq_zero_of_dvd this, Nat.mod_eq_of_lt hp.1] at h
 omega
theorem proth {h k a : Nat} (hk : 0 < k) (hh : 0 < h) (hlt : h < 2 ^ k) (hw : (a ^ (h * 2 ^ (k - 1)) + 1) % (h * 2 ^ k + 1) = 0) : IsPrime (h * 2 ^ k + 1) := by
 have h2k : 2 ^ k = 2 * 2 ^ (k - 1) := by rw [← Nat.pow_succ', show (k - 1).succ = k by omega]
 have hpos : 0 < 2 ^ (k - 1) := Nat.pow_pos (by omega)
 apply Classical.byContradiction
 intro hn
 have hbig : 2 ≤ h * 2 ^ k + 1 := by have := Nat.mul_pos hh (show 0 < 2 ^ k by omega); omega
 obtain ⟨p, hp, hpd, hpp⟩ := exists_small_prime hbig hn
 have hdw : p ∣ a ^ (h * 2 ^ (k - 1)) + 1 := Nat.dvd_trans hpd (Nat.dvd_of_mod_eq_zero hw)
 have hp2 := hp.1
 have hodd : p ≠ 2 := by
  intro e; subst e
  obtain ⟨c, hc⟩ := hpd
  have : h * 2 ^ k = 2 * (h * 2 ^ (k - 1)) := by rw [h2k, Nat.mul_left_comm]
  omega
 have hx : a ^ (h * 2 ^ k) % p = 1 % p := by
  have e : a ^ (h * 2 ^ k) = a ^ (h * 2 ^ (k - 1)) * a ^ (h * 2 ^ (k - 1)) := by
   rw [← Nat.pow_add]; congr 1; rw [h2k, Nat.mul_left_comm]; omega
  rw [e]
  generalize a ^ (h * 2 ^ (k - 1)) = A at hdw
  have hA : A ≠ 0 := by
   intro e0; subst e0
   have := Nat.le_of_dvd (by omega) hdw; omega
  obtain ⟨B, rfl⟩ : ∃ B, A = B + 1 := ⟨A - 1, by omega⟩
  have e2 : (B + 1) * (B + 1) = (B + 1 + 1) * B + 1 := by
   rw [Nat.add_mul, Nat.mul_add, Nat.add_mul (B + 1), Nat.add_mul B]; omega
  rw [e2, mod_eq_iff_dvd_sub (by omega)]
  exact Nat.dvd_trans hdw ⟨B, by omega⟩
 have hcop := coprime_of_pow hp (Nat.mul_pos hh (by omega : 0 < 2 ^ k)) hx
 have hfer := fermat hp hcop
 have hg := pow_gcd _ _ hx hfer
 have hdiv : 2 ^ k ∣ Nat.gcd (h * 2 ^ k) (p - 1) := by
  apply Classical.byContradiction
  intro hnd
  have hgd : Nat.gcd (h * 2 ^ k) (p - 1) ∣ h * 2 ^ k := Nat.gcd_dvd_left _ _
  generalize Nat.gcd (h * 2 ^ k) (p - 1) = g at hg hnd hgd
  have key : ∀ k, 0 < k → ∀ g, g ∣ h * 2 ^ k → ¬ 2 ^ k ∣ g → g ∣ h * 2 ^ (k - 1) := by
   intro k
   induction k with
   | zero => intro h0; omega
   | succ k ihk =>
    intro _ g hgd hnd
    show g ∣ h * 2 ^ k
    by_cases hev : 2 ∣ g
    ·obtain ⟨g', rfl⟩ := hev
     rw [Nat.pow_succ] at hgd hnd
     have h1 : g' ∣ h * 2 ^ k := by
      obtain ⟨c, hc⟩ := hgd
      refine ⟨c, ?_⟩
      have : 2 * (h * 2 ^ k) = 2 * (g' * c) := by
       rw [← Nat.mul_assoc 2 g' c, ← hc, Nat.mul_comm 2, Nat.mul_assoc]
      omega
     have h2 : ¬ 2 ^ k ∣ g' := by
      rintro ⟨c, rfl⟩
      exact hnd ⟨c, by rw [Nat.mul_comm (2 ^ k) 2, Nat.mul_assoc]⟩
     by_cases hk0 : k = 0
     ·subst hk0; exact absurd (Nat.one_dvd g') h2
     ·have := ihk (by omega) g' h1 h2
      rw [show k = k - 1 + 1 by omega, Nat.pow_succ, ← Nat.mul_assoc, Nat.mul_comm 2]
      exact Nat.mul_dvd_mul_right this 2
    ·have hc2 : Nat.Coprime g 2 := by
      have p2 : IsPrime 2 := ⟨by omega, fun d hd => by have := Nat.le_of_dvd (by omega) hd; have : d ≠ 0 := (by intro e; subst e; simp at hd); omega⟩
      exact (p2.coprime_of_not_dvd hev).symm
     rw [Nat.pow_succ, ← Nat.mul_assoc] at hgd
     exact hc2.dvd_of_dvd_mul_right hgd
  obtain ⟨c, hc⟩ := key k hk g hgd hnd
  have h1 := pow_mod_one hg c
  rw [← hc] at h1
  have : (a ^ (h * 2 ^ (k - 1)) + 1) % p = 2 % p := by rw [Nat.add_mod, h1, ← Nat.add_mod]
  rw [Nat.mod_eq_zero_of_dvd hdw] at this
  rw [Nat.mod_eq_of_lt (by omega)] at this
  omega
 have h1 : 2 ^ k ∣ p - 1 := Nat.dvd_trans hdiv (Nat.gcd_dvd_right _ _)
 have h2 := Nat.le_of_dvd (by omega) h1
 have h3 : (2 ^ k + 1) * (2 ^ k + 1) ≤ p * p := Nat.mul_le_mul (by omega) (by omega)
 have h4 : h * 2 ^ k ≤ 2 ^ k * 2 ^ k := Nat.mul_le_mul_right _ (by omega)
 have h5 : (2 ^ k + 1) * (2 ^ k + 1) = 2 ^ k * 2 ^ k + 2 ^ k + 2 ^ k + 1 := by rw [Nat.add_mul, Nat.mul_add]; omega
 omega
def powMod (a m : Nat) : Nat → Nat → Nat
 | 0, _ => 1 % m
 | f + 1, n => if n = 0 then 1 % m else
   let h := powMod a m f (n / 2)
   if n % 2 = 0 then h * h % m else h * h % m * a % m
theorem powMod_eq (a m : Nat) : ∀ f n, n < 2 ^ f → powMod a m f n = a ^ n % m
 | 0, n, h => by
  have : n = 0 := by simpa using h
  subst this; rfl
 | f + 1, n, h => by
  rw [powMod]
  by_cases h0 : n = 0
  ·subst h0; simp
  ·rw [if_neg h0]
   have ih := powMod_eq a m f (n / 2) (by rw [Nat.pow_succ] at h; omega)
   simp only [ih]
   have hn : n = n / 2 * 2 + n % 2 := by omega
   have e : (a ^ (n / 2) % m) * (a ^ (n / 2) % m) % m = a ^ (n / 2 * 2) % m := by
    rw [← Nat.mul_mod, ← Nat.pow_add]; congr 2; omega
   rw [e]
   by_cases h2 : n % 2 = 0
   ·rw [if_pos h2]; congr 2; omega
   ·rw [if_neg h2, Nat.mod_mul_mod, ← Nat.pow_succ]; congr 2; omega
theorem proth_by {h k a : Nat} (f : Nat) (hk : 0 < k) (hh : 0 < h) (hlt : h < 2 ^ k) (hf : h * 2 ^ (k - 1) < 2 ^ f)
  (hw : (powMod a (h * 2 ^ k + 1) f (h * 2 ^ (k - 1)) + 1) % (h * 2 ^ k + 1) = 0) : IsPrime (h * 2 ^ k + 1) := by
 rw [powMod_eq _ _ _ _ hf] at hw
 refine proth (a := a) hk hh hlt ?_
 rw [Nat.add_mod, Nat.mod_mod, ← Nat.add_mod] at hw
 exact hw
theorem prime_q1 : IsPrime 641 := proth_by (h := 5) (k := 7) (a := 3) 10 (by decide +kernel) (by decide +kernel) (by decide +kernel) (by decide +kernel) (by decide +kernel)
theorem prime_q2 : IsPrime 576465431670292481 := proth_by (h := 268437635) (k := 31) (a := 3) 60 (by decide +kernel) (by decide +kernel) (by decide +kernel) (by decide +kernel) (by decide +kernel)
theorem prime_q3 : IsPrime 7237005577332262213973186563042995786902308146886443998308627866733439352833 := proth_by (h := 42535295865117307932921825928971035519) (k := 127) (a := 3) 253 (by decide +kernel) (by decide +kernel) (by decide +kernel) (by decide +kernel) (by decide +kernel)
end Go.Proofs.Ytjmeakfjfpnciaa
namespace Go.Proofs.Ytjmeakfjfpnciaa
def Cg (q a b : Int) : Prop := q ∣ a - b
section
variable {q a b c d : Int}
theorem Cg.refl (q a : Int) : Cg q a a := by unfold Cg; rw [Int.sub_self]; exact Int.dvd_zero q
theorem Cg.of_eq (h : a = b) : Cg q a b := h ▸ Cg.refl q a
theorem Cg.symm (h : Cg q a b) : Cg q b a := by unfold Cg at *; have := Int.dvd_neg.2 h; rwa [Int.neg_sub] at this
theorem Cg.trans (h : Cg q a b) (g : Cg q b c) : Cg q a c := by unfold Cg at *; have := Int.dvd_add h g; rwa [show a - b + (b - c) = a - c by omega] at this
theorem Cg.add (h : Cg q a b) (g : Cg q c d) : Cg q (a + c) (b + d) := by unfold Cg at *; have := Int.dvd_add h g; rwa [show a - b + (c - d) = a + c - (b + d) by omega] at this
theorem Cg.neg (h : Cg q a b) : Cg q (-a) (-b) := by unfold Cg at *; have := Int.dvd_neg.2 h; rwa [show -(a - b) = -a - -b by omega] at this
theorem Cg.sub (h : Cg q a b) (g : Cg q c d) : Cg q (a - c) (b - d) := by have := h.add g.neg; rwa [← Int.sub_eq_add_neg, ← Int.sub_eq_add_neg] at this
theorem Cg.mul (h : Cg q a b) (g : Cg q c d) : Cg q (a * c) (b * d) := by
 unfold Cg at *
 have h1 := Int.dvd_add (Int.dvd_mul_of_dvd_left (c := c) h) (Int.dvd_mul_of_dvd_right (b := b) g)
 rwa [show (a - b) * c + b * (c - d) = a * c - b * d by rw [Int.sub_mul, Int.mul_sub]; omega] at h1
theorem Cg.mod (q a : Int) : Cg q (a % q) a := by
 unfold Cg
 have := Int.emod_add_mul_ediv a q
 exact ⟨-(a / q), by rw [Int.mul_neg]; omega⟩
end
def Deg (q : Int) : Nat → (Int → Int) → Prop
 | 0, f => ∀ x, Cg q (f x) 0
 | n + 1, f => ∃ c g, Deg q n g ∧ ∀ x, Cg q (f x) (c + x * g x)
section
variable {q : Int}
theorem Deg.congr : ∀ {n : Nat} {f h : Int → Int}, Deg q n f → (∀ x, Cg q (h x) (f x)) → Deg q n h
 | 0, _, _, hf, e => fun x => (e x).trans (hf x)
 | _ + 1, _, _, ⟨c, g, hg, hx⟩, e => ⟨c, g, hg, fun x => (e x).trans (hx x)⟩
theorem Deg.zero : ∀ n, Deg q n (fun _ => 0)
 | 0 => fun _ => Cg.refl _ _
 | n + 1 => ⟨0, fun _ => 0, Deg.zero n, fun x => Cg.of_eq (by simp)⟩
theorem Deg.add : ∀ {n : Nat} {f g : Int → Int}, Deg q n f → Deg q n g → Deg q n (fun x => f x + g x)
 | 0, _, _, hf, hg => fun x => (hf x).add (hg x)
 | _ + 1, _, _, ⟨c, f1, hf, hx⟩, ⟨d, g1, hg, hy⟩ => ⟨c + d, fun x => f1 x + g1 x, hf.add hg, fun x => ((hx x).add (hy x)).trans (Cg.of_eq (by rw [Int.mul_add]; omega))⟩
theorem Deg.smul (k : Int) : ∀ {n : Nat} {f : Int → Int}, Deg q n f → Deg q n (fun x => k * f x)
 | 0, _, hf => fun x => ((Cg.refl q k).mul (hf x)).trans (Cg.of_eq (by simp))
 | _ + 1, _, ⟨c, f1, hf, hx⟩ => ⟨k * c, fun x => k * f1 x, hf.smul k, fun x => ((Cg.refl q k).mul (hx x)).trans (Cg.of_eq (by rw [Int.mul_add, ← Int.mul_assoc, ← Int.mul_assoc, Int.mul_comm k x]))⟩
theorem Deg.mulx {n : Nat} {f : Int → Int} (h : Deg q n f) : Deg q (n + 1) (fun x => x * f x) := ⟨0, f, h, fun x => Cg.of_eq (Int.zero_add _).symm⟩
theorem Deg.up : ∀ {n : Nat} {f : Int → Int}, Deg q n f → Deg q (n + 1) f
 | 0, _, hf => ⟨0, fun _ => 0, fun _ => Cg.refl _ _, fun x => (hf x).trans (Cg.of_eq (by simp))⟩
 | _ + 1, _, ⟨c, g, hg, hx⟩ => ⟨c, g, hg.up, hx⟩
theorem Deg.const (c : Int) : Deg q 1 (fun _ => c) := ⟨c, fun _ => 0, fun _ => Cg.refl _ _, fun x => Cg.of_eq (by simp)⟩
theorem Deg.lin {n : Nat} {f : Int → Int} (a : Int) (h : Deg q n f) : Deg q (n + 1) (fun x => (x - a) * f x) :=
 (h.mulx.add (h.smul (-a)).up).congr fun x => Cg.of_eq (by rw [Int.sub_mul, Int.neg_mul]; omega)
theorem Deg.sub {n : Nat} {f g : Int → Int} (h : Deg q n f) (h1 : Deg q n g) : Deg q n (fun x => f x - g x) :=
 (h.add (h1.smul (-1))).congr fun x => Cg.of_eq (by omega)
theorem Deg.div : ∀ {n : Nat} {f : Int → Int}, Deg q (n + 1) f → ∀ r, ∃ g, Deg q n g ∧ ∀ x, Cg q (f x - f r) ((x - r) * g x)
 | 0, f, ⟨c, g, hg, hx⟩, r => ⟨fun _ => 0, fun _ => Cg.refl _ _, fun x => by
   have e : ∀ x, Cg q (f x) c := fun x => (hx x).trans (((Cg.refl q c).add ((Cg.refl q x).mul (hg x))).trans (Cg.of_eq (by simp)))
   exact ((e x).sub (e r)).trans (Cg.of_eq (by simp))⟩
 | n + 1, f, ⟨c, g, hg, hx⟩, r => by
   obtain ⟨k, hk, hy⟩ := Deg.div hg r
   refine ⟨fun x => g x + r * k x, hg.add (hk.smul r).up, fun x => ?_⟩
   refine ((hx x).sub (hx r)).trans ?_
   have h1 : Cg q ((x - r) * g x + r * (g x - g r)) ((x - r) * g x + r * ((x - r) * k x)) := (Cg.refl _ _).add ((Cg.refl _ _).mul (hy x))
   refine Cg.trans (Cg.of_eq ?_) (h1.trans (Cg.of_eq ?_))
   ·rw [Int.sub_mul, Int.mul_sub]; omega
   ·rw [Int.mul_add, ← Int.mul_assoc r, Int.mul_comm r, Int.mul_assoc]
def Prm (q : Int) : Prop := ∀ a b : Int, q ∣ a * b → q ∣ a ∨ q ∣ b
def Dis (q : Int) (l : List Int) : Prop := l.Pairwise fun a b => ¬ q ∣ b - a
theorem Deg.roots (hq : Prm q) : ∀ {n : Nat} {f : Int → Int}, Deg q n f → ∀ l : List Int, l.length = n → Dis q l → (∀ r ∈ l, Cg q (f r) 0) → ∀ x, Cg q (f x) 0
 | 0, _, hf, _, _, _, _ => hf
 | n + 1, f, hf, [], hl, _, _ => by simp at hl
 | n + 1, f, hf, r :: l, hl, hd, hr => by
   obtain ⟨g, hg, hx⟩ := hf.div r
   have h0 := hr r (List.mem_cons_self ..)
   have hd' := List.pairwise_cons.1 hd
   have hg0 := Deg.roots hq hg l (by simpa using hl) hd'.2 fun s hs => by
    have e1 : Cg q ((s - r) * g s) 0 := (hx s).symm.trans (((hr s (List.mem_cons_of_mem _ hs)).sub h0).trans (Cg.of_eq (by simp)))
    unfold Cg at e1 ⊢
    rw [Int.sub_zero] at e1 ⊢
    exact (hq _ _ e1).resolve_left (hd'.1 s hs)
   intro x
   have e2 : Cg q (f x - f r) 0 := (hx x).trans (((Cg.refl _ _).mul (hg0 x)).trans (Cg.of_eq (by simp)))
   have e3 := e2.add h0
   rwa [show f x - f r + f r = f x by omega] at e3
theorem Deg.uniq (hq : Prm q) {n : Nat} {f g : Int → Int} (hf : Deg q n f) (hg : Deg q n g) (l : List Int) (hl : l.length = n) (hd : Dis q l) (h : ∀ r ∈ l, Cg q (f r) (g r)) (x : Int) : Cg q (f x) (g x) := by
 have := (hf.sub hg).roots hq l hl hd (fun r hr => ((h r hr).sub (Cg.refl _ _)).trans (Cg.of_eq (by simp))) x
 have := this.add (Cg.refl q (g x))
 rwa [show f x - g x + g x = f x by omega, Int.zero_add] at this
end
def pA : List Int → Int → Int
 | [], _ => 1
 | a :: l, x => (x - a) * pA l x
def pE : List Int → Nat → Int → Int
 | [], _, _ => 1
 | _ :: l, 0, x => pA l x
 | a :: l, i + 1, x => (x - a) * pE l i x
section
variable {q : Int}
theorem pA_deg : ∀ l, Deg q (l.length + 1) (pA l)
 | [] => Deg.const 1
 | a :: l => (pA_deg l).lin a
theorem pE_deg : ∀ (l : List Int) (i : Nat), i < l.length → Deg q l.length (pE l i)
 | [], _, h => by simp at h
 | _ :: l, 0, _ => pA_deg l
 | a :: l, i + 1, h => (pE_deg l i (by simpa using h)).lin a
theorem pA_root : ∀ (l : List Int) (r : Int), r ∈ l → pA l r = 0
 | [], _, h => by simp at h
 | a :: l, r, h => by
   rcases List.mem_cons.1 h with rfl | h
   ·simp [pA]
   ·simp [pA, pA_root l r h]
theorem pE_root : ∀ (l : List Int) (i j : Nat) (hj : j < l.length), i ≠ j → pE l i (l[j]) = 0
 | [], _, _, h, _ => by simp at h
 | a :: l, 0, j + 1, h, _ => pA_root l _ (List.getElem_mem _)
 | a :: l, 0, 0, _, h => absurd rfl h
 | a :: l, i + 1, 0, _, _ => by simp [pE]
 | a :: l, i + 1, j + 1, h, hn => by simp only [pE, List.getElem_cons_succ]; rw [pE_root l i j (by simpa using h) (by omega)]; simp
theorem pA_nd (hq : Prm q) (h1 : ¬ q ∣ 1) : ∀ (l : List Int) (x : Int), (∀ a ∈ l, ¬ q ∣ x - a) → ¬ q ∣ pA l x
 | [], _, _ => h1
 | a :: l, x, h => fun e => (hq _ _ e).elim (h a (List.mem_cons_self ..)) (pA_nd hq h1 l x fun b hb => h b (List.mem_cons_of_mem _ hb))
theorem pE_nd (hq : Prm q) (h1 : ¬ q ∣ 1) : ∀ (l : List Int) (i : Nat) (hi : i < l.length), Dis q l → ¬ q ∣ pE l i (l[i])
 | [], _, h, _ => by simp at h
 | a :: l, 0, _, hd => pA_nd hq h1 l a fun b hb => fun e => (List.pairwise_cons.1 hd).1 b hb (by have := Int.dvd_neg.2 e; rwa [Int.neg_sub] at this)
 | a :: l, i + 1, hi, hd => fun e => (hq _ _ e).elim ((List.pairwise_cons.1 hd).1 _ (List.getElem_mem _)) (pE_nd hq h1 l i (by simpa using hi) (List.pairwise_cons.1 hd).2)
def sm : Nat → (Nat → Int) → Int
 | 0, _ => 0
 | n + 1, f => sm n f + f n
theorem sm_cg {n : Nat} {f g : Nat → Int} (h : ∀ i, i < n → Cg q (f i) (g i)) : Cg q (sm n f) (sm n g) := by
 induction n with
 | zero => exact Cg.refl _ _
 | succ n ih => exact (ih fun i hi => h i (by omega)).add (h n (by omega))
theorem sm_zero {n : Nat} {f : Nat → Int} (h : ∀ i, i < n → Cg q (f i) 0) : Cg q (sm n f) 0 := by
 induction n with
 | zero => exact Cg.refl _ _
 | succ n ih => exact ((ih fun i hi => h i (by omega)).add (h n (by omega))).trans (Cg.of_eq (by simp))
theorem sm_one {n : Nat} {f : Nat → Int} (k : Nat) (hk : k < n) (h : ∀ i, i < n → i ≠ k → Cg q (f i) 0) : Cg q (sm n f) (f k) := by
 induction n with
 | zero => omega
 | succ n ih =>
  by_cases e : k = n
  ·subst e
   exact ((sm_zero fun i hi => h i (by omega) (by omega)).add (Cg.refl _ _)).trans (Cg.of_eq (by simp))
  ·exact ((ih (by omega) fun i hi => h i (by omega)).add (h n (by omega) (by omega))).trans (Cg.of_eq (by simp))
theorem sm_deg {m n : Nat} {f : Nat → Int → Int} (h : ∀ i, i < n → Deg q m (f i)) : Deg q m (fun x => sm n fun i => f i x) := by
 induction n with
 | zero => exact Deg.zero m
 | succ n ih => exact (ih fun i hi => h i (by omega)).add (h n (by omega))
def lagr (iv : Int → Int) (l : List Int) (v : Nat → Int) (x : Int) : Int := sm l.length fun i => v i * (pE l i x * iv (pE l i (l.getD i 0)))
theorem lagr_deg (iv : Int → Int) (l : List Int) (v : Nat → Int) : Deg q l.length (lagr iv l v) :=
 sm_deg fun i hi => ((pE_deg l i hi).smul (v i * iv (pE l i (l.getD i 0)))).congr fun x => Cg.of_eq (by rw [Int.mul_assoc, Int.mul_comm (pE l i x)])
theorem lagr_at (hq : Prm q) (h1 : ¬ q ∣ 1) (iv : Int → Int) (hiv : ∀ d, ¬ q ∣ d → Cg q (d * iv d) 1) (l : List Int) (hd : Dis q l) (v : Nat → Int) (k : Nat) (hk : k < l.length) : Cg q (lagr iv l v (l[k])) (v k) := by
 refine (sm_one k hk fun i hi hn => Cg.of_eq ?_).trans ?_
 ·rw [pE_root l i k hk hn]; simp
 ·rw [show l.getD k 0 = l[k] by simp [List.getD, hk]]
  exact ((Cg.refl _ _).mul (hiv _ (pE_nd hq h1 l k hk hd))).trans (Cg.of_eq (by simp))
theorem lagr_uniq (hq : Prm q) (h1 : ¬ q ∣ 1) (iv : Int → Int) (hiv : ∀ d, ¬ q ∣ d → Cg q (d * iv d) 1) (l : List Int) (hd : Dis q l) (v : Nat → Int) {f : Int → Int} {n : Nat} (hf : Deg q n f) (hn : n ≤ l.length) (h : ∀ k (hk : k < l.length), Cg q (f (l[k])) (v k)) (x : Int) : Cg q (lagr iv l v x) (f x) := by
 have hup : ∀ m, n ≤ m → Deg q m f := fun m hm => by
  obtain ⟨j, rfl⟩ : ∃ j, m = n + j := ⟨m - n, by omega⟩
  clear hm hn
  induction j with
  | zero => exact hf
  | succ j ih => exact ih.up
 refine Deg.uniq hq (lagr_deg iv l v) (hup _ hn) l rfl hd (fun r hr => ?_) x
 obtain ⟨k, hk, rfl⟩ := List.getElem_of_mem hr
 exact (lagr_at hq h1 iv hiv l hd v k hk).trans (h k hk).symm
end
end Go.Proofs.Ytjmeakfjfpnciaa
namespace Go.Proofs.Ytjmeakfjfpnciaa
theorem Cg.pow {q a b : Int} (h : Cg q a b) : ∀ n : Nat, Cg q (a ^ n) (b ^ n)
 | 0 => by rw [Int.pow_zero, Int.pow_zero]; exact Cg.refl _ _
 | n + 1 => by rw [Int.pow_succ, Int.pow_succ]; exact (Cg.pow h n).mul h
theorem Cg.nat {q a b : Nat} (h : Cg (q : Int) (a : Int) (b : Int)) : a % q = b % q := by
 unfold Cg at h
 have h1 := Int.emod_emod_of_dvd
 have h2 : (a : Int) % (q : Int) = (b : Int) % (q : Int) := Int.emod_eq_emod_iff_emod_sub_eq_zero.2 (Int.emod_eq_zero_of_dvd h)
 exact_mod_cast h2
theorem Cg.of_nat {q a b : Nat} (h : a % q = b % q) : Cg (q : Int) (a : Int) (b : Int) := by
 unfold Cg
 refine Int.dvd_of_emod_eq_zero (Int.emod_eq_emod_iff_emod_sub_eq_zero.1 ?_)
 exact_mod_cast h
theorem Cg.natmod (q a : Nat) : Cg (q : Int) ((a % q : Nat) : Int) (a : Int) := Cg.of_nat (Nat.mod_mod a q)
def prI : Nat → (Nat → Int) → Int
 | 0, _ => 1
 | n + 1, f => prI n f * f n
theorem prI_cg {q : Int} {n : Nat} {f g : Nat → Int} (h : ∀ i, i < n → Cg q (f i) (g i)) : Cg q (prI n f) (prI n g) := by
 induction n with
 | zero => exact Cg.refl _ _
 | succ n ih => exact (ih fun i hi => h i (by omega)).mul (h n (by omega))
theorem prI_mul (f g : Nat → Int) : ∀ n, prI n (fun i => f i * g i) = prI n f * prI n g
 | 0 => rfl
 | n + 1 => by
  show prI n _ * (f n * g n) = prI n f * f n * (prI n g * g n)
  rw [prI_mul f g n]
  rw [Int.mul_assoc, Int.mul_assoc, Int.mul_left_comm (prI n g)]
theorem prI_shift (f : Nat → Int) : ∀ n, prI (n + 1) f = f 0 * prI n fun i => f (i + 1)
 | 0 => by show 1 * f 0 = f 0 * 1; omega
 | n + 1 => by
  show prI (n + 1) f * f (n + 1) = f 0 * (prI n (fun i => f (i + 1)) * f (n + 1))
  rw [prI_shift f n, Int.mul_assoc]
theorem prI_sgn {f : Nat → Int} (h : ∀ i, f i = 1 ∨ f i = -1) : ∀ n, prI n f = 1 ∨ prI n f = -1
 | 0 => Or.inl rfl
 | n + 1 => by
  show prI n f * f n = 1 ∨ prI n f * f n = -1
  rcases prI_sgn h n with a | a <;> rcases h n with b | b <;> rw [a, b] <;> simp
def gxI (l : List Int) (i : Nat) (x : Int) (t : Nat) : Int := if i = t then 1 else x - l.getD t 0
def sgI (i t : Nat) : Int := if i = t then 1 else -1
theorem pA_pr (x : Int) : ∀ l : List Int, pA l x = prI l.length fun t => x - l.getD t 0
 | [] => rfl
 | a :: l => by
  rw [List.length_cons, prI_shift]
  show (x - a) * pA l x = (x - a) * _
  rw [pA_pr x l]
  rfl
theorem pE_pr (x : Int) : ∀ (l : List Int) (i : Nat), i < l.length → pE l i x = prI l.length (gxI l i x)
 | [], _, h => by simp at h
 | a :: l, 0, _ => by
  rw [List.length_cons, prI_shift]
  show pA l x = 1 * prI l.length fun t => gxI (a :: l) 0 x (t + 1)
  rw [pA_pr, Int.one_mul]
  congr 1
 | a :: l, i + 1, h => by
  rw [List.length_cons, prI_shift]
  show (x - a) * pE l i x = gxI (a :: l) (i + 1) x 0 * prI l.length fun t => gxI (a :: l) (i + 1) x (t + 1)
  rw [pE_pr x l i (by simpa using h)]
  have e0 : gxI (a :: l) (i + 1) x 0 = x - a := by unfold gxI; rw [if_neg (by omega)]; rfl
  have e1 : (fun t => gxI (a :: l) (i + 1) x (t + 1)) = gxI l i x := by
   funext t
   unfold gxI
   by_cases e : i = t
   ·rw [if_pos e, if_pos (by omega)]
   ·rw [if_neg e, if_neg (by omega)]; rfl
  rw [e0, e1]
def prU (f : Int → Nat) (l : List Int) (i : Nat) : Nat → Nat
 | 0 => 1
 | j + 1 => if i = j then prU f l i j else prU f l i j * f (l.getD j 0)
def prQ (q : Nat) (f : Int → Nat) (l : List Int) (i : Nat) : Nat → Nat
 | 0 => 1
 | j + 1 => if i = j then prQ q f l i j else prQ q f l i j * f (l.getD j 0) % q
theorem prU_pr {q : Nat} {f : Int → Nat} {l : List Int} (i : Nat) (x : Int) : ∀ n, (∀ j, j < n → Cg (q : Int) (f (l.getD j 0) : Int) (x - l.getD j 0)) → Cg (q : Int) (prU f l i n : Int) (prI n (gxI l i x))
 | 0, _ => Cg.of_eq rfl
 | n + 1, h => by
  have ih := prU_pr (f := f) i x n fun j hj => h j (by omega)
  show Cg (q : Int) ((if i = n then prU f l i n else prU f l i n * f (l.getD n 0) : Nat) : Int) (prI n (gxI l i x) * gxI l i x n)
  unfold gxI
  by_cases e : i = n
  ·rw [if_pos e, if_pos e, Int.mul_one]; exact ih
  ·rw [if_neg e, if_neg e, Int.natCast_mul]; exact ih.mul (h n (by omega))
theorem prQ_pr {q : Nat} {f : Int → Nat} {l : List Int} (i : Nat) (x : Int) : ∀ n, (∀ j, j < n → Cg (q : Int) (f (l.getD j 0) : Int) (l.getD j 0 - x)) → Cg (q : Int) (prQ q f l i n : Int) (prI n fun t => sgI i t * gxI l i x t)
 | 0, _ => Cg.of_eq rfl
 | n + 1, h => by
  have ih := prQ_pr (f := f) i x n fun j hj => h j (by omega)
  show Cg (q : Int) ((if i = n then prQ q f l i n else prQ q f l i n * f (l.getD n 0) % q : Nat) : Int) (prI n (fun t => sgI i t * gxI l i x t) * (sgI i n * gxI l i x n))
  unfold gxI sgI at ih ⊢
  by_cases e : i = n
  ·rw [if_pos e, if_pos e, if_pos e, Int.mul_one, Int.mul_one]; exact ih
  ·rw [if_neg e, if_neg e, if_neg e]
   refine (Cg.natmod q _).trans ?_
   rw [Int.natCast_mul]
   exact ih.mul ((h n (by omega)).trans (Cg.of_eq (by omega)))
def wtU (q : Nat) (l : List Int) (i : Nat) (x : Int) : Nat := prU (fun b => modI q (x - b)) l i l.length
def wtN (q : Nat) (l : List Int) (i : Nat) (x : Int) : Nat := wtU q l i x * wtU q l i (l.getD i 0) ^ (q - 2)
def sbN (q : Nat) (x b : Int) : Nat := (b.toNat + (q - x.toNat)) % q
def wtV (q : Nat) (l : List Int) (i : Nat) (x : Int) : Nat := prQ q (sbN q x) l i l.length
def wtQ (q : Nat) (l : List Int) (i : Nat) (x : Int) : Nat := wtV q l i x * (wtV q l i (l.getD i 0) ^ (q - 2) % q) % q
theorem modI_cg (q : Nat) (hq : 0 < q) (n : Int) : Cg (q : Int) (modI q n : Int) n := by
 unfold modI
 rw [Int.toNat_of_nonneg (Int.emod_nonneg n (by omega))]
 exact Cg.mod _ _
theorem sbN_cg (q : Nat) (x b : Int) (hx : 0 ≤ x ∧ x ≤ 255) (hb : 0 ≤ b) (hq : 255 ≤ q) : Cg (q : Int) (sbN q x b : Int) (b - x) := by
 unfold sbN
 refine (Cg.natmod q _).trans ?_
 unfold Cg
 have e : ((b.toNat + (q - x.toNat) : Nat) : Int) - (b - x) = (q : Int) := by omega
 rw [e]
 exact ⟨1, by omega⟩
theorem wtU_cg (q : Nat) (hq : 0 < q) (l : List Int) (i : Nat) (hi : i < l.length) (x : Int) : Cg (q : Int) (wtU q l i x : Int) (pE l i x) := by
 rw [pE_pr x l i hi]
 exact prU_pr i x _ fun j _ => modI_cg q hq _
theorem wtN_cg (q : Nat) (hq : 0 < q) (l : List Int) (i : Nat) (hi : i < l.length) (x : Int) : Cg (q : Int) (wtN q l i x : Int) (pE l i x * pE l i (l.getD i 0) ^ (q - 2)) := by
 unfold wtN
 rw [Int.natCast_mul, Int.natCast_pow]
 exact (wtU_cg q hq l i hi x).mul ((wtU_cg q hq l i hi _).pow _)
theorem getD_in {l : List Int} {j : Nat} (h : ∀ b ∈ l, 0 ≤ b ∧ b ≤ 255) : 0 ≤ l.getD j 0 ∧ l.getD j 0 ≤ 255 := by
 by_cases hj : j < l.length
 ·rw [List.getD_eq_getElem?_getD, List.getElem?_eq_getElem hj]; exact h _ (List.getElem_mem hj)
 ·rw [List.getD_eq_getElem?_getD, List.getElem?_eq_none (by omega)]; decide
theorem wtV_cg (q : Nat) (hq : 255 ≤ q) (l : List Int) (hl : ∀ b ∈ l, 0 ≤ b ∧ b ≤ 255) (i : Nat) (hi : i < l.length) (x : Int) (hx : 0 ≤ x ∧ x ≤ 255) : Cg (q : Int) (wtV q l i x : Int) (prI l.length (sgI i) * pE l i x) := by
 rw [pE_pr x l i hi, ← prI_mul]
 exact prQ_pr i x _ fun j _ => sbN_cg q x _ hx (getD_in hl).1 hq
theorem sgn_pow {s : Int} (h : s = 1 ∨ s = -1) : ∀ n : Nat, s * (s * s) ^ n = s
 | 0 => by simp
 | n + 1 => by
  have e : s * s = 1 := by rcases h with h | h <;> rw [h] <;> rfl
  rw [e, Int.one_pow, Int.mul_one]
theorem sgn_odd {s : Int} (h : s = 1 ∨ s = -1) {m : Nat} (hm : m % 2 = 1) : s ^ m = s := by
 have e : m = 2 * (m / 2) + 1 := by omega
 rw [e, Int.pow_succ, Int.pow_mul, show s ^ 2 = s * s by rw [Int.pow_succ, Int.pow_succ, Int.pow_zero, Int.one_mul]]
 rw [Int.mul_comm]
 exact sgn_pow h _
theorem wt_eq (q : Nat) (hq : 255 ≤ q) (ho : q % 2 = 1) (l : List Int) (hl : ∀ b ∈ l, 0 ≤ b ∧ b ≤ 255) (i : Nat) (hi : i < l.length) (x : Int) (hx : 0 ≤ x ∧ x ≤ 255) : wtN q l i x % q = wtQ q l i x := by
 have h1 := wtN_cg q (by omega) l i hi x
 have h2 : Cg (q : Int) (wtQ q l i x : Int) (pE l i x * pE l i (l.getD i 0) ^ (q - 2)) := by
  unfold wtQ
  refine (Cg.natmod q _).trans ?_
  rw [Int.natCast_mul]
  refine ((wtV_cg q hq l hl i hi x hx).mul ((Cg.natmod q _).trans (Cg.of_eq (Int.natCast_pow _ _)))).trans ?_
  refine ((Cg.refl _ _).mul ((wtV_cg q hq l hl i hi _ (getD_in hl)).pow (q - 2))).trans (Cg.of_eq ?_)
  have hs := prI_sgn (f := sgI i) (fun t => by unfold sgI; by_cases e : i = t; exact Or.inl (if_pos e); exact Or.inr (if_neg e)) l.length
  generalize prI l.length (sgI i) = s at hs ⊢
  rw [Int.mul_pow, sgn_odd hs (show (q - 2) % 2 = 1 by omega)]
  have e : s * s = 1 := by rcases hs with h | h <;> rw [h] <;> rfl
  generalize pE l i (l.getD i 0) ^ (q - 2) = D
  generalize pE l i x = U
  calc s * U * (s * D) = (s * s) * (U * D) := by simp only [Int.mul_comm, Int.mul_left_comm]
   _ = U * D := by rw [e, Int.one_mul]
 have h3 := (h1.trans h2.symm).nat
 have h4 : wtQ q l i x % q = wtQ q l i x := Nat.mod_eq_of_lt (by unfold wtQ; exact Nat.mod_lt _ (by omega))
 rw [h3, h4]
def thU (q : Nat) (l : List Int) (v : Nat → Nat) (x : Int) : Nat → Nat
 | 0 => 0
 | i + 1 => thU q l v x i + wtN q l i x * v i
def thQ (q : Nat) (l : List Int) (v : Nat → Nat) (x : Int) : Nat → Nat
 | 0 => 0
 | i + 1 => (thQ q l v x i + wtQ q l i x * v i % q) % q
theorem th_eq (q : Nat) (hq : 255 ≤ q) (ho : q % 2 = 1) (l : List Int) (hl : ∀ b ∈ l, 0 ≤ b ∧ b ≤ 255) (v : Nat → Nat) (x : Int) (hx : 0 ≤ x ∧ x ≤ 255) : ∀ i, i ≤ l.length → thU q l v x i % q = thQ q l v x i
 | 0, _ => Nat.zero_mod q
 | i + 1, h => by
  show (thU q l v x i + wtN q l i x * v i) % q = (thQ q l v x i + wtQ q l i x * v i % q) % q
  rw [Nat.add_mod, th_eq q hq ho l hl v x hx i (by omega), Nat.mul_mod, wt_eq q hq ho l hl i (by omega) x hx, Nat.mul_mod_mod]
theorem thU_cg (q : Nat) (hq : 0 < q) (l : List Int) (v : Nat → Nat) (x : Int) : ∀ i, i ≤ l.length → Cg (q : Int) (thU q l v x i : Int) (sm i fun j => (v j : Int) * (pE l j x * pE l j (l.getD j 0) ^ (q - 2)))
 | 0, _ => Cg.of_eq rfl
 | i + 1, h => by
  show Cg (q : Int) ((thU q l v x i + wtN q l i x * v i : Nat) : Int) (sm i _ + _)
  rw [Int.natCast_add, Int.natCast_mul, Int.mul_comm]
  exact (thU_cg q hq l v x i (by omega)).add ((Cg.refl _ _).mul (wtN_cg q hq l i (by omega) x))
theorem thU_lagr (q : Nat) (hq : 0 < q) (l : List Int) (v : Nat → Nat) (x : Int) : Cg (q : Int) (thU q l v x l.length : Int) (lagr (fun d => d ^ (q - 2)) l (fun j => (v j : Int)) x) := thU_cg q hq l v x _ (Nat.le_refl _)
end Go.Proofs.Ytjmeakfjfpnciaa
namespace Go.Proofs.Ytjmeakfjfpnciaa
open Go.RowKit
theorem RowO.of_bx {N b n : Nat} {w : World} {e : TypeId} {size : Nat} {cs : List Value} (h : Bx w b e cs) (hN : N ≤ b) (hn : cs.length = n * size) (hm : n ≤ maxLen) : RowO N w e size (.slice (some ⟨b, 0, none⟩) n n) n cs := by
 refine ⟨hn, Or.inr ⟨b, n, cs.toArray, rfl, hN, h, Nat.le_refl _, hm, by simpa using hn, ?_⟩⟩
 rw [← hn]; simp
theorem Sl.addr {w : World} {B : Nat} {ad : Addr} {cs : List Value} (h : Sl w B (some ad) cs) : ∀ j u, cs[j]? = some u → w.cell? (ad.add j) = some u := by
 intro j u hj
 rcases h with rfl | ⟨b, off, he, _, hc⟩
 ·simp at hj
 ·simp only [Option.some.injEq] at he
  subst he
  have : (⟨b, off, none⟩ : Addr).add j = ⟨b, off + j, none⟩ := by unfold Addr.add; split <;> simp_all
  rw [this]; exact hc j u hj
theorem wpList_joinR {P : Program} (N : Nat) (w : World) (hN : N ≤ w.heap.size) {ops : Array Oper} {rest : List Oper} {o : Oper} {a : Act} {Q : Exit → Act → World → Prop} (hgd : o.guard = none) (s x : Operand) (t : TypeId)
  (ho : o.op = .call { callee := .builtin .append, args := #[s, x], argTypes := #[t, t] })
  (e : TypeId) (i : TypeInfo) (z : Value) (size bytes : Nat) (ht : P.underlying t = some (.slice e)) (hi : P.info? e = some i) (hz : i.zero = some z)
  (hsize : i.size = size) (hby : i.bytes = bytes) (hzs : z.cells.size = size) (hsz : 0 < size)
  (v : Value) (n : Nat) (xs : List Value) (hs : a.eval s = v) (hown : RowO N w e size v n xs)
  (al : Option Addr) (m c : Nat) (news : List Value) (hx : a.eval x = .slice al m c) (hl : news.length = m * size) (hS : Sl w w.heap.size al news) (h0 : al = none → c = 0) (h1 : ∀ u ∈ news, u.oneCell' = true)
  (h63 : (n + m) * bytes ≤ 140737488355328) (hn : n + m ≤ maxLen)
  (h : ∀ a' c' w', RowO N w' e size (.slice a' (n + m) c') (n + m) (xs ++ news) → w.grownBy w' v.ownBlock → wpList P ops Q rest (a.put o.dst (.slice a' (n + m) c')) w') :
  wpList P ops Q (o :: rest) a w := by
 cases al with
 | none =>
  have hc := h0 rfl
  subst hc
  have hnews : news = [] := by
   rcases hS with h9 | ⟨b, off, h9, _⟩
   ·exact h9
   ·cases h9
  subst hnews
  have hm : m = 0 := by
   rcases Nat.mul_eq_zero.1 hl.symm with h9 | h9
   ·exact h9
   ·omega
  subst hm
  obtain ⟨a', c', rfl⟩ := RowO.form hown
  refine wpList_append_own_none hgd s x t ho N e i size ht hi _ n xs hs hown hx ?_
  exact h a' c' w (by simpa using hown) ⟨rfl, rfl, rfl, Nat.le_refl _, fun _ _ _ => rfl⟩
 | some ad =>
  refine wpList_plain hgd fun K hK => ?_
  obtain ⟨v', w', hr, h2, h3, _, _⟩ := run_append_own_at (P := P) w N t o.type e i z size bytes ht hi hz hsize hby hzs hsz v n xs hown ad m c news hl hS.addr h1 hn h63 hN
  obtain ⟨a', c', rfl⟩ := RowO.form (N := N) h2
  unfold Oper.wp execOp
  simp only [ho, resolve, invoke, builtin, Sem.run_bind, Sem.run_pure, Result.andThen_ok, List.map_toArray, List.map_cons, List.map_nil, hs, hx, hr]
  exact hK _ _ (h a' c' w' h2 h3)
theorem step_pushR {P : Program} (N : Nat) (w0 : World) (hN : N ≤ w0.heap.size) {ops : Array Oper} {o : Oper} {a : Act} {K : Act → World → Prop} {Q : Exit → Act → World → Prop} {E : Prop} (hgd : o.guard = none) (s x : Operand) (t : TypeId)
  (ho : o.op = .call { callee := .builtin .append, args := #[s, x], argTypes := #[t, t] })
  (e : TypeId) (i : TypeInfo) (z : Value) (size bytes : Nat) (ht : P.underlying t = some (.slice e)) (hi : P.info? e = some i) (hz : i.zero = some z)
  (hsize : i.size = size) (hby : i.bytes = bytes) (hzs : z.cells.size = size) (hsz : 0 < size)
  (v : Value) (n : Nat) (xs : List Value) (hs : a.eval s = v) (hown : RowO N w0 e size v n xs)
  (news : Array Value) (e2 : TypeId) (b : Nat) (hb : w0.heap.size = b) (hx : a.eval x = .slice (some ⟨b, 0, none⟩) 1 1) (hl : news.size = size) (h1 : ∀ u ∈ news.toList, u.oneCell' = true)
  (h63 : (n + 1) * bytes ≤ 140737488355328) (hn : n + 1 ≤ maxLen)
  (h : ∀ g cap w', RowO N w' e size (.slice (some ⟨g, 0, none⟩) (n + 1) cap) (n + 1) (xs ++ news.toList) → w0.grownBy w' v.ownBlock → K (a.put o.dst (.slice (some ⟨g, 0, none⟩) (n + 1) cap)) w') :
  if Region.wanted o (yielded ops a.tmps) = true then Oper.wp P o a (w0.alloc (.cells news e2)) K Q else E := by
 subst hb
 refine step_append_lies _ hgd s x t ho N e i z size bytes ht hi hz hsize hby hzs hsz v n xs hs (World.ownsRow.alloc hown _) ⟨w0.heap.size, 0, none⟩ 1 1 news.toList hx (by simpa using hl)
  (World.news_of_block (heap_alloc_new w0 _)) h1 (by omega) hn h63 (by simp; omega) _ rfl ?_
 intro g cap w' hown' hg _ _
 refine h g cap w' hown' ⟨hg.os, hg.tape, hg.output, ?_, ?_⟩
 ·have := hg.size; simp at this; omega
 ·intro k hk hne
  rw [hg.block k (by simp; omega) hne]
  exact Below.heap_alloc _ _ _ hk
end Go.Proofs.Ytjmeakfjfpnciaa
namespace Go.Proofs.Ytjmeakfjfpnciaa
open Go.RowKit
structure Kept (P : Nat → Prop) (w0 w : World) : Prop where
 os : w.os = w0.os
 tape : w.tape = w0.tape
 output : w.output = w0.output
 size : w0.heap.size ≤ w.heap.size
 block : ∀ q, q < w0.heap.size → ¬ P q → w.heap[q]? = w0.heap[q]?
section
variable {P : Nat → Prop} {b c n gb : Nat} {w0 w w1 : World} {r : Option Nat} {t : TypeId} {cs : List Value} {G : GP}
theorem Kept.refl (P : Nat → Prop) (w : World) : Kept P w w := ⟨rfl, rfl, rfl, Nat.le_refl _, fun _ _ _ => rfl⟩
theorem Kept.grown (h : Kept P w0 w) (hg : w.grownBy w1 r) (hr : ∀ q, r = some q → w0.heap.size ≤ q ∨ P q) : Kept P w0 w1 :=
 ⟨hg.os.trans h.os, hg.tape.trans h.tape, hg.output.trans h.output, Nat.le_trans h.size hg.size, fun q hq hne => (hg.block q (Nat.lt_of_lt_of_le hq h.size) (fun e => by
  rcases hr q e.symm with h1 | h1
  ·omega
  ·exact hne h1)).trans (h.block q hq hne)⟩
theorem Kept.up (h : Kept P w0 w) (hb : Below w.heap.size w w1) : Kept P w0 w1 := h.grown (below_grown hb) (fun q e => by cases e)
theorem Sl.kept {a : Option Addr} (h : Sl w0 w0.heap.size a cs) (hk : Kept P w0 w) (hne : ∀ x, a = some x → ¬ P x.block) : Sl w w.heap.size a cs := by
 rcases h with h | ⟨q, off, rfl, hq, hc⟩
 ·exact Or.inl h
 ·refine Or.inr ⟨q, off, rfl, Nat.lt_of_lt_of_le hq hk.size, fun i v hv => ?_⟩
  rw [cell_of_block (hk.block q hq (hne _ rfl))]
  exact hc i v hv
theorem GroupAt.keptP (h : GroupAt w0 gb G) (hk : Kept P w0 w) (hne : ¬ P gb) : GroupAt w gb G := by
 have hc := cell_of_block (hk.block gb h.lt hne)
 have hl := hk.size
 exact ⟨Nat.lt_of_lt_of_le h.lt hl, by rw [hc]; exact h.kind, by rw [hc]; exact h.size, ⟨Nat.lt_of_lt_of_le h.p.lt hl, fun i x hx => by rw [hc]; exact h.p.cell i x hx⟩, ⟨Nat.lt_of_lt_of_le h.q.lt hl, fun i x hx => by rw [hc]; exact h.q.cell i x hx⟩⟩
theorem Below.keptP {W : World} (h : Below n W w0) (hk : Kept P w0 w) (hn : n ≤ w0.heap.size) (hp : ∀ q, P q → n ≤ q) : Below n W w := by
 refine ⟨hk.os.trans h.os, hk.tape.trans h.tape, hk.output.trans h.output, Nat.le_trans h.size hk.size, fun q hq => ?_⟩
 rw [hk.block q (by omega) (fun e => by have := hp q e; omega)]
 exact h.block q hq
theorem Sl.lt {a : Option Addr} {B : Nat} (h : Sl w B a cs) (h0 : cs ≠ []) (x : Addr) (hx : a = some x) : x.block < B := by
 rcases h with h | ⟨q, off, rfl, hq, _⟩
 ·exact absurd h h0
 ·cases hx; exact hq
end
end Go.Proofs.Ytjmeakfjfpnciaa
namespace Go.Proofs.Ytjmeakfjfpnciaa
end Go.Proofs.Ytjmeakfjfpnciaa
namespace Go.Proofs.Ytjmeakfjfpnciaa
open Go.RowKit
end Go.Proofs.Ytjmeakfjfpnciaa
namespace Go.Proofs.Ytjmeakfjfpnciaa
open Go.RowKit
section
variable {W w0 w : World} {b o n : Nat} {t : TypeId} {cs vs : List Value} {P : Program}
end
end Go.Proofs.Ytjmeakfjfpnciaa
namespace Go.Proofs.Ytjmeakfjfpnciaa
open Go.RowKit
end Go.Proofs.Ytjmeakfjfpnciaa
namespace Go.Proofs.Ytjmeakfjfpnciaa
open Go.RowKit
end Go.Proofs.Ytjmeakfjfpnciaa
namespace Go.Proofs.Ytjmeakfjfpnciaa
open Go.RowKit
end Go.Proofs.Ytjmeakfjfpnciaa
namespace Go.Proofs.Ytjmeakfjfpnciaa
open Go.RowKit
end Go.Proofs.Ytjmeakfjfpnciaa
namespace Go.Proofs.Ytjmeakfjfpnciaa
open Go.RowKit
end Go.Proofs.Ytjmeakfjfpnciaa
namespace Go.Proofs.Ytjmeakfjfpnciaa
open Go.RowKit
end Go.Proofs.Ytjmeakfjfpnciaa
namespace Go.Proofs.Ytjmeakfjfpnciaa
open Go.RowKit
end Go.Proofs.Ytjmeakfjfpnciaa
namespace Go.Proofs.Ytjmeakfjfpnciaa
open Go.RowKit
end Go.Proofs.Ytjmeakfjfpnciaa
namespace Go.Proofs.Ytjmeakfjfpnciaa
open Go.RowKit
end Go.Proofs.Ytjmeakfjfpnciaa
namespace Go.Proofs.Ytjmeakfjfpnciaa
open Go.RowKit
def isSc (q sz : Nat) (s : ByteArray) : Bool := decide (s.size = sz) && decide (numOf s < q)
end Go.Proofs.Ytjmeakfjfpnciaa
namespace Go.Proofs.Ytjmeakfjfpnciaa
open Go.RowKit
def ReadR (ok : Bool) (v : Value) (w : World) (e : Ending) (w' : World) : Prop := ∃ x : Nat, e = .returned (.tuple #[limbV x, .bool ok]) ∧ Below w.heap.size w w' ∧ (ok = true → limbV x = v)
theorem gScalar_any (G : GP) (ok : G.Ok) (gb : Nat) (s : ByteArray) (w : World) (hG : GroupAt w gb G) :
  Calls Try.prog 52 #[.pointer (some ⟨gb, 0, none⟩), .string s] w (ReadR (isSc G.q.m G.size s) (scV G (numOf s)) w) := by
 have no : isSc G.q.m G.size s = false → ∀ e w', (e = .returned (.tuple #[limbV 0, .bool false]) ∧ Below w.heap.size w w') → ReadR (isSc G.q.m G.size s) (scV G (numOf s)) w e w' := fun h e w' ⟨h1, h2⟩ => ⟨0, by rw [h]; exact h1, h2, fun hc => by rw [h] at hc; cases hc⟩
 by_cases h32 : 32 < s.size
 ·exact (gScalar_long G ok gb s h32 w hG).mono (no (by have := ok.size_le; unfold isSc; simp; omega))
 by_cases hl : s.size = G.size
 ·rcases Nat.lt_trichotomy (numOf s) G.q.m with hc | hc | hc
  ·refine (gScalar_yes G ok gb s hl hc w hG).mono ?_
   rintro e w' ⟨h1, h2⟩
   exact ⟨mont G.q.m (numOf s), by rw [show isSc G.q.m G.size s = true by unfold isSc; simp [hl, hc]]; exact h1, h2, fun _ => rfl⟩
  ·exact (gScalar_eq G ok gb s hl hc w hG).mono (no (by unfold isSc; simp; omega))
  ·exact (gScalar_gt G ok gb s hl hc w hG).mono (no (by unfold isSc; simp; omega))
 ·exact (gScalar_len G ok gb s (by omega) hl w hG).mono (no (by unfold isSc; simp [hl]))
end Go.Proofs.Ytjmeakfjfpnciaa
namespace Go.Proofs.Ytjmeakfjfpnciaa
open Go.RowKit
def ReadM (b : Bool) (m : Nat) (w : World) (e : Ending) (w' : World) : Prop := ∃ x : Nat, e = .returned (.tuple #[limbV x, .bool b]) ∧ Below w.heap.size w w' ∧ (b = true → x = m)
theorem ReadR.m {b : Bool} {m : Nat} {w w' : World} {e : Ending} (h : ReadR b (limbV m) w e w') : ReadM b m w e w' := by
 obtain ⟨x, h1, h2, h3⟩ := h
 cases b with
 | true => exact ⟨m, by rw [h1, h3 rfl], h2, fun _ => rfl⟩
 | false => exact ⟨x, h1, h2, fun h => by cases h⟩
theorem gScalar_m (G : GP) (ok : G.Ok) (gb : Nat) (s : ByteArray) (b : Bool) (hb : isSc G.q.m G.size s = b) (w : World) (hG : GroupAt w gb G) :
  Calls Try.prog 52 #[.pointer (some ⟨gb, 0, none⟩), .string s] w (ReadM b (mont G.q.m (numOf s)) w) := by
 subst hb
 exact (gScalar_any G ok gb s w hG).mono fun e w' h => ReadR.m h
end Go.Proofs.Ytjmeakfjfpnciaa
namespace Go.Proofs.Ytjmeakfjfpnciaa
open Go.RowKit
end Go.Proofs.Ytjmeakfjfpnciaa
namespace Go.Proofs.Ytjmeakfjfpnciaa
open Go.RowKit
end Go.Proofs.Ytjmeakfjfpnciaa
namespace Go.Proofs.Ytjmeakfjfpnciaa
open Go.RowKit
end Go.Proofs.Ytjmeakfjfpnciaa
namespace Go.Proofs.Ytjmeakfjfpnciaa
theorem grp_prime_q (k : Nat) (h1 : 1 ≤ k) (h3 : k ≤ 3) : IsPrime (grp k).q.m := by
 obtain rfl | rfl | rfl : k = 1 ∨ k = 2 ∨ k = 3 := by omega
 ·exact prime_q1
 ·exact prime_q2
 ·exact prime_q3
end Go.Proofs.Ytjmeakfjfpnciaa
namespace Go.Proofs.Ytjmeakfjfpnciaa
open Go.RowKit
theorem numL_inj : ∀ l m : List UInt8, l.length = m.length → numL l = numL m → l = m
 | [], [], _, _ => rfl
 | [], _ :: _, h, _ => by simp at h
 | _ :: _, [], h, _ => by simp at h
 | a :: l, b :: m, h, e => by
  have hl : l.length = m.length := by simpa using h
  have h1 := numL_lt l
  have h2 := numL_lt m
  simp only [numL] at e
  rw [hl] at e h1
  have hP : 0 < 256 ^ m.length := Nat.pow_pos (by decide)
  have hd := congrArg (· / 256 ^ m.length) e
  have hm := congrArg (· % 256 ^ m.length) e
  simp only [Nat.mul_comm _ (256 ^ m.length), Nat.mul_add_div hP, Nat.mul_add_mod, Nat.div_eq_of_lt h1, Nat.div_eq_of_lt h2, Nat.mod_eq_of_lt h1, Nat.mod_eq_of_lt h2, Nat.add_zero] at hd hm
  rw [numL_inj l m hl hm, UInt8.toNat_inj.1 hd]
theorem numOf_inj {s t : ByteArray} (h : s.size = t.size) (e : numOf s = numOf t) : s = t := by
 have h1 := numL_inj s.data.toList t.data.toList (by simpa using h) e
 cases s; cases t
 simp at h1
 rw [h1]
theorem text_numOf (s : ByteArray) : textS (numOf s) s.size = s := by
 refine numOf_inj (textS_size _ _) ?_
 rw [numOf_textS]
 exact Nat.mod_eq_of_lt (by have := numL_lt s.data.toList; simpa [numOf] using this)
def T (G : GP) (n : Nat) : ByteArray := textS n G.size
end Go.Proofs.Ytjmeakfjfpnciaa
namespace Go.Proofs.Ytjmeakfjfpnciaa
open Go.RowKit
section
variable {q p : Nat} (hq : 0 < q) (hp : p = 2 * q + 1)
include hq hp
omit hq in
omit hq in
omit hq in
omit hq in
end
end Go.Proofs.Ytjmeakfjfpnciaa
namespace Go.Proofs.Ytjmeakfjfpnciaa
open Go.RowKit
section
variable {G : GP}
variable {aq ap : Option Addr} {cq cp : Nat}
end
end Go.Proofs.Ytjmeakfjfpnciaa
namespace Go.Proofs.Ytjmeakfjfpnciaa
open Go.RowKit
def Gives (v : Value) (w : World) (e : Ending) (w' : World) : Prop := e = .returned v ∧ Below w.heap.size w w'
theorem all_take_true {α : Type} {f : α → Bool} {l : List α} (h : (l.take l.length).all f = true) : l.all f = true := by rwa [List.take_length] at h
theorem all_not {α : Type} {f : α → Bool} {l : List α} {i : Nat} (hi : i < l.length) (h : f l[i] = false) : l.all f = false := by
 rw [List.all_eq_false]
 exact ⟨l[i], List.getElem_mem hi, by simp [h]⟩
theorem all_snoc {α : Type} {f : α → Bool} {l : List α} {i : Nat} (hi : i < l.length) (ht : (l.take i).all f = true) (h : f l[i] = true) : (l.take (i + 1)).all f = true := by
 rw [List.take_succ_eq_append_getElem hi, List.all_append, ht]
 simp [h]
section
variable {G : GP}
end
end Go.Proofs.Ytjmeakfjfpnciaa
namespace Go.Proofs.Ytjmeakfjfpnciaa
open Go.RowKit
def outP (x : Int) : Bool := decide (x < 0) || decide (255 < x)
def placesE (l : List Int) : Nat := if 16 < l.length then 3 else if l.length = 0 then 2 else if l.any outP = true then 4 else if l.Nodup then 0 else 10
def intV (x : Int) : Value := .int .i64 x
def thereC (s : List Int) : List Value := (List.range 256).map fun k : Nat => .bool (decide (((k : Nat) : Int) ∈ s))
theorem thereC_len (s : List Int) : (thereC s).length = 256 := by unfold thereC; rw [List.length_map, List.length_range]
theorem thereC_nil : thereC [] = List.replicate 256 (.bool false) := by
 unfold thereC
 have e : (fun k : Nat => Value.bool (decide ((k : Int) ∈ ([] : List Int)))) = fun _ => Value.bool false := by funext k; rw [decide_eq_false List.not_mem_nil]
 rw [e]
 exact (List.map_const' ..).trans (by rw [List.length_range])
theorem thereC_at (s : List Int) (k : Nat) (hk : k < 256) : (thereC s)[k]? = some (.bool (decide ((k : Int) ∈ s))) := by
 unfold thereC
 rw [List.getElem?_map, List.getElem?_range hk]
 rfl
theorem thereC_set (s : List Int) (k : Nat) (hk : k < 256) : (thereC s).set k (.bool true) = thereC (s ++ [(k : Int)]) := by
 refine List.ext_getElem? fun i => ?_
 by_cases hi : i < 256
 ·rw [thereC_at _ _ hi]
  by_cases e : k = i
  ·subst e
   rw [List.getElem?_set_self (by rw [thereC_len]; exact hk)]
   simp
  ·rw [List.getElem?_set_ne e, thereC_at _ _ hi]
   have : ((i : Int) ∈ s ++ [(k : Int)]) ↔ ((i : Int) ∈ s) := by simp; omega
   rw [decide_eq_decide.2 this]
 ·rw [List.getElem?_eq_none (by rw [List.length_set, thereC_len]; omega), List.getElem?_eq_none (by rw [thereC_len]; omega)]
theorem nodup_snoc {s : List Int} {x : Int} : (s ++ [x]).Nodup ↔ s.Nodup ∧ x ∉ s := by
 rw [List.nodup_append]
 constructor
 ·rintro ⟨h1, _, h3⟩
  exact ⟨h1, fun h => h3 x h x (List.mem_singleton.2 rfl) rfl⟩
 ·rintro ⟨h1, h2⟩
  refine ⟨h1, by simp, fun a ha b hb e => ?_⟩
  obtain rfl := List.mem_singleton.1 hb
  subst e
  exact h2 ha
theorem pl_out {l : List Int} {j : Nat} (h16 : ¬ 16 < l.length) (hj : j < l.length) (h : outP l[j] = true) : placesE l = 4 := by
 unfold placesE
 rw [if_neg h16, if_neg (by omega), if_pos (List.any_eq_true.2 ⟨_, List.getElem_mem hj, h⟩)]
theorem pl_end {l : List Int} (h16 : ¬ 16 < l.length) (h0 : l.length ≠ 0) (h : (l.take l.length).any outP = false) : placesE l = if l.Nodup then 0 else 10 := by
 unfold placesE
 rw [List.take_length] at h
 rw [if_neg h16, if_neg h0, h]
 rfl
theorem outP_false {x : Int} (h : outP x = false) : 0 ≤ x ∧ x ≤ 255 := by
 unfold outP at h
 simp at h
 exact h
theorem outP_cases (x : Int) : (x < 0 ∧ outP x = true) ∨ (255 < x ∧ ¬ x < 0 ∧ outP x = true) ∨ (∃ k : Nat, x = k ∧ k < 256 ∧ outP x = false) := by
 unfold outP
 by_cases h1 : x < 0
 ·exact Or.inl ⟨h1, by simp [h1]⟩
 ·by_cases h2 : 255 < x
  ·exact Or.inr (Or.inl ⟨h2, h1, by simp [h2]⟩)
  ·exact Or.inr (Or.inr ⟨x.toNat, by omega, by omega, by simp [h1, h2]⟩)
theorem any_snocP {l : List Int} {j : Nat} (hj : j < l.length) (h : (l.take j).any outP = false) (h1 : outP l[j] = false) : (l.take (j + 1)).any outP = false := by
 rw [List.take_succ_eq_append_getElem hj, List.any_append, h]; simp [h1]
theorem places_any (l : List Int) (n : Nat) (hn : l.length = n) (hm : n ≤ 1152921504606846975) (a : Option Addr) (c : Nat) (w : World) (hX : Sl w w.heap.size a (l.map intV)) :
  Calls Try.prog 58 #[.slice a n c] w fun e w' => e = .returned (.int .i64 (placesE l : Int)) ∧ Below w.heap.size w w' := by
 have HN := Lib.hid hn
 have HX := Lib.hid hX
 obtain ⟨z, hz⟩ : ∃ z, placesE l = z := ⟨_, rfl⟩
 rw [hz]
 by_cases h16 : 16 < n
 ·obtain rfl : z = 3 := by rw [← hz]; unfold placesE; rw [if_pos (by omega)]
  have hd : decide ((n : Int) > 16) = true := by simp; omega
  clear hn hX hz h16
  go_enter Try.func58, Try.ntmps58
  go_wp2_with fail
  go_ret
  exact ⟨rfl, Below.refl _ _⟩
 have hd : decide ((n : Int) > 16) = false := by simp; omega
 by_cases h0 : n = 0
 ·obtain rfl : z = 2 := by rw [← hz]; unfold placesE; rw [if_neg (by omega), if_pos (by omega)]
  have hd0 : ((n : Int) == 0) = true := by simp; omega
  clear hn hX hz h16 h0
  go_enter Try.func58, Try.ntmps58
  go_wp2_with fail
  go_ret
  exact ⟨rfl, Below.refl _ _⟩
 have hd0 : ((n : Int) == 0) = false := by simp; omega
 have HP := Lib.hid (fun (j : Nat) (hj : j < l.length) (h : outP l[j] = true) => (show z = 4 from hz ▸ pl_out (by omega) hj h))
 have HE := Lib.hid (fun (h : (l.take l.length).any outP = false) => (show z = if l.Nodup then 0 else 10 from hz ▸ pl_end (by omega) (by omega) h))
 have hn16 : n ≤ 16 := by omega
 clear hn hX hz h16 h0 hm
 have hz0 : Try.zeroCells187 = (thereC []).toArray := by rw [thereC_nil]; kernel_rfl
 go_enter Try.func58, Try.ntmps58
 go_upto_region 6 with (fail)
 obtain ⟨w1, hq1, hb9, hz9, Htb⟩ := new1 w 187 (thereC [])
 rw [hq1]
 clear hq1
 have HB := Lib.hid hb9
 have HZS := hz9
 clear hb9 hz9
 go_wp2_with fail
 clear hd hd0
 go_loopw [17, 4] (fun i b wr => ∃ j : Nat, j ≤ n ∧ i = .int .i64 j ∧ b = .bool (decide (¬ (l.take j).Nodup)) ∧ Hid (Below w.heap.size w wr) ∧ Hid ((l.take j).any outP = false) ∧ Hid (Bx wr w.heap.size 187 (thereC (l.take j)))) (fun i _ _ => n - (intOf i).toNat)
 case atStart => exact ⟨0, Nat.zero_le _, rfl, by simp, HB, rfl, Htb⟩
 case round =>
  clear HB Htb
  obtain ⟨j, hj, rfl, rfl, HB, HAL, Htb⟩ := hrel
  by_cases hjn : j < n
  ·have hjl : j < l.length := by rw [HN.out]; exact hjn
   obtain ⟨bl, ol, rfl, hbl, hc⟩ := (HX.out.up HB.out).at j (by rw [List.length_map]; exact hjl)
   rw [List.getElem_map] at hc
   unfold intV at hc
   have HTK := Lib.hid (List.take_succ_eq_append_getElem hjl)
   have HSN := Lib.hid (any_snocP hjl HAL.out)
   have HPJ := Lib.hid (HP.out j hjl)
   generalize l[j] = x at *
   rcases outP_cases x with ⟨h1, h2⟩ | ⟨h1, h1', h2⟩ | ⟨k, rfl, hk, h2⟩
   ·obtain rfl : z = 4 := HPJ.out h2
    clear h2
    go_wp2_with fail
    go_ret
    exact ⟨rfl, HB.out⟩
   ·obtain rfl : z = 4 := HPJ.out h2
    have h1'' : decide (x < 0) = false := decide_eq_false h1'
    have h1''' : decide (x > 255) = true := decide_eq_true h1
    clear h2 h1 h1'
    go_wp2_with fail
    go_ret
    exact ⟨rfl, HB.out⟩
   ·replace HSN := Lib.hid (HSN.out h2)
    have hcx := Htb.out.cell (thereC_at (l.take j) k hk)
    have HSE := Lib.hid (thereC_set (l.take j) k hk)
    have hd1 : decide ((k : Int) < 0) = false := by simp
    have hd2 : decide ((k : Int) > 255) = false := by simp; omega
    have hkk : k < 256 := hk
    clear h2
    have HND := Lib.hid (show (decide (¬ (l.take j).Nodup) || decide ((k : Int) ∈ l.take j)) = decide (¬ (l.take (j + 1)).Nodup) by
     rw [HTK.out]
     by_cases e1 : (l.take j).Nodup <;> by_cases e2 : (k : Int) ∈ l.take j <;> simp [nodup_snoc, e1, e2])
    obtain ⟨b3, hb3⟩ : ∃ b, decide (¬ (l.take (j + 1)).Nodup) = b := ⟨_, rfl⟩
    have HB3 := Lib.hid hb3
    rw [hb3] at HND
    clear hb3
    have HTW := Lib.hid (fun (W : World) (h : Bx W w.heap.size 187 ((thereC (l.take j)).set k (.bool true))) => show Bx W w.heap.size 187 (thereC (l.take (j + 1))) by rw [HTK.out, ← HSE.out]; exact h)
    clear HTK HSE HAL HPJ
    generalize decide (¬ (l.take j).Nodup) = b1 at *
    generalize decide ((k : Int) ∈ l.take j) = b2 at *
    generalize l.take j = l2 at *
    have HSW := Lib.hid (show w.heap.size < wr.heap.size from Htb.out.lt)
    replace HZS := sz HZS HSW.out
    cases b1
    ·obtain rfl : b2 = b3 := HND.out
     have f2_tb := Htb.out.frozen
     obtain ⟨w2, hq2, hg9, hz9, hx9⟩ := put1 Htb k (.bool true) _ rfl
     replace HB := hbg HB hg9 (by have g0 := HZS.out; omega)
     replace HZS := sz HZS hz9.out
     replace Htb := hx9
     clear hx9 hg9 hz9
     go_wp2_with fail
     go_roundw
     case rel => exact ⟨j + 1, by omega, by go_num, by rw [HB3.out], HB, HSN, Lib.hid (HTW.out _ Htb.out)⟩
     case measure => simp [intOf]; omega
    ·obtain rfl : true = b3 := HND.out
     have f2_tb := Htb.out.frozen
     obtain ⟨w2, hq2, hg9, hz9, hx9⟩ := put1 Htb k (.bool true) _ rfl
     replace HB := hbg HB hg9 (by have g0 := HZS.out; omega)
     replace HZS := sz HZS hz9.out
     replace Htb := hx9
     clear hx9 hg9 hz9
     go_wp2_with fail
     go_roundw
     case rel => exact ⟨j + 1, by omega, by go_num, by rw [HB3.out], HB, HSN, Lib.hid (HTW.out _ Htb.out)⟩
     case measure => simp [intOf]; omega
  ·have hjn' : j = n := by omega
   subst hjn'
   have hz := HE.out (by rw [HN.out]; exact HAL.out)
   rw [List.take_of_length_le (by rw [HN.out]; exact Nat.le_refl _)]
   by_cases hnd : l.Nodup
   ·obtain rfl : z = 0 := by rw [hz, if_pos hnd]
    rw [decide_eq_false (fun h => h hnd)]
    clear hz
    go_wp2_with fail
    go_ret
    exact ⟨rfl, HB.out⟩
   ·obtain rfl : z = 10 := by rw [hz, if_neg hnd]
    rw [decide_eq_true hnd]
    clear hz
    go_wp2_with fail
    go_ret
    exact ⟨rfl, HB.out⟩
end Go.Proofs.Ytjmeakfjfpnciaa
namespace Go.Proofs.Ytjmeakfjfpnciaa
open Go.RowKit
theorem infoScalar : (Try.prog.info? 98).map (fun i => (i.zero, i.size, i.bytes)) = some (some (.agg #[.int .u64 0, .int .u64 0, .int .u64 0, .int .u64 0]), 4, 32) := by kernel_rfl
def limC (m : Nat) (s : ByteArray) : List Value := [.int .u64 (dig (mont m (numOf s)) 0 : Int), .int .u64 (dig (mont m (numOf s)) 1 : Int), .int .u64 (dig (mont m (numOf s)) 2 : Int), .int .u64 (dig (mont m (numOf s)) 3 : Int)]
theorem limC_len (m : Nat) (s : ByteArray) : (limC m s).length = 4 := rfl
end Go.Proofs.Ytjmeakfjfpnciaa
namespace Go.Proofs.Ytjmeakfjfpnciaa
open Go.RowKit
def readE (f : ByteArray → Bool) (bad : Nat) (l : List Int) (xs : List ByteArray) : Nat := if placesE l ≠ 0 then placesE l else if l.length = xs.length then if xs.all f = true then 0 else bad else 2
def ReadOk (G : GP) (m : Nat) (n0 : Nat) (xs : List ByteArray) (w' : World) (p v : Value) : Prop := ∃ gb a c, p = .pointer (some ⟨gb, 0, none⟩) ∧ v = .slice a xs.length c ∧ GroupAt w' gb G ∧ Sl w' w'.heap.size a (xs.flatMap (limC m)) ∧ n0 ≤ gb
def ReadQ (G : GP) (m : Nat) (er : Nat) (xs : List ByteArray) (w : World) (e : Ending) (w' : World) : Prop :=
 Below w.heap.size w w' ∧ ∃ p v, e = .returned (.tuple #[p, v, .int .i64 (er : Int)]) ∧ (er = 0 → ReadOk G m w.heap.size xs w' p v)
theorem readQ_bad (G : GP) (m : Nat) {er : Nat} (h : er ≠ 0) (xs : List ByteArray) {w w' : World} (hb : Below w.heap.size w w') : ReadQ G m er xs w (.returned (.tuple #[.pointer none, .slice none 0 0, .int .i64 (er : Int)])) w' :=
 ⟨hb, _, _, rfl, fun e => absurd e h⟩
theorem readSc_none (k : Int) (hk : ¬ (1 ≤ k ∧ k ≤ 3)) (v1 v2 : Value) (bad : Nat) (G : GP) (m : Nat) (xs : List ByteArray) (w : World) :
  Calls Try.prog 51 #[.int .i64 k, v1, v2, .func (.func 52) #[] #[], .int .i64 (bad : Int)] w (ReadQ G m 1 xs w) := by
 go_enter Try.func51, Try.ntmps51
 go_wp2_with fail
 refine (of_none k hk _).mono ?_
 rintro e w2 ⟨rfl, rfl⟩
 go_wp2_with fail
 simp [bodyPost, results, Try.results51, go_sem]
 exact readQ_bad G m (by decide) xs (Below.refl _ _)
theorem readSc_some (k : Nat) (h1 : 1 ≤ k) (h3 : k ≤ 3) (l : List Int) (n : Nat) (hn : l.length = n) (hnm : n ≤ 1152921504606846975) (xs : List ByteArray) (m : Nat) (hm : xs.length = m) (bad : Nat) (hbad : bad ≠ 0) (al ax : Option Addr) (cl cx : Nat) (w : World) (hL : Sl w w.heap.size al (l.map intV)) (hX : Sl w w.heap.size ax (xs.map Value.string)) :
  Calls Try.prog 51 #[.int .i64 (k : Int), .slice al n cl, .slice ax m cx, .func (.func 52) #[] #[], .int .i64 (bad : Int)] w (ReadQ (grp k) (grp k).q.m (readE (isSc (grp k).q.m (grp k).size) bad l xs) xs w) := by
 have OK := Lib.hid (grp_ok k h1 h3)
 have HL := Lib.hid hL
 have HX := Lib.hid hX
 have HM := Lib.hid hm
 have HBAD := Lib.hid hbad
 have HPC := Lib.hid (fun W h => places_any l n hn hnm al cl W h)
 obtain ⟨er, her⟩ : ∃ er, readE (isSc (grp k).q.m (grp k).size) bad l xs = er := ⟨_, rfl⟩
 rw [her]
 unfold readE at her
 obtain ⟨z, hz⟩ : ∃ z, placesE l = z := ⟨_, rfl⟩
 have HZ16 := Lib.hid (show z = 0 → n ≤ 16 from fun e => by
  rw [e] at hz
  unfold placesE at hz
  by_cases h : 16 < l.length
  ·rw [if_pos h] at hz; cases hz
  ·omega)
 rw [hz] at her HPC
 rw [hn, hm] at her
 clear hL hX hm hz hn hnm hbad
 by_cases hz0 : z = 0
 case neg =>
  rw [if_pos hz0] at her
  subst her
  have hd : ((z : Int) != 0) = true := by simp; omega
  have HZ0 := Lib.hid hz0
  clear hz0
  go_enter Try.func51, Try.ntmps51
  go_wp2_with fail
  refine (of_some k h1 h3 w).mono ?_
  rintro e w1 ⟨rfl, hg9, hb9⟩
  have HB := Lib.hid hb9
  have HZS := Lib.hid hb9.size
  have HG := Lib.hid hg9
  clear hg9 hb9
  have HsG := Lib.hid HG.out.lt
  replace HZS := sz HZS HsG.out
  go_wp2_with fail
  refine (HPC.out w1 (HL.out.up HB.out)).mono ?_
  rintro e w2 ⟨rfl, hb9⟩
  replace HG := Lib.hid (HG.out.up hb9)
  replace HB := hbu HB hb9
  replace HZS := sz HZS hb9.size
  clear hb9
  go_wp2_with fail
  simp [bodyPost, results, Try.results51, go_sem]
  exact readQ_bad _ _ HZ0.out xs HB.out
 subst hz0
 rw [if_neg (by decide)] at her
 have hn16 := HZ16.out rfl
 clear HZ16
 by_cases hnm : n = m
 case neg =>
  rw [if_neg hnm] at her
  subst her
  have hd : ((n : Int) != (m : Int)) = true := by simp; omega
  clear hnm
  go_enter Try.func51, Try.ntmps51
  go_wp2_with fail
  refine (of_some k h1 h3 w).mono ?_
  rintro e w1 ⟨rfl, hg9, hb9⟩
  have HB := Lib.hid hb9
  have HZS := Lib.hid hb9.size
  have HG := Lib.hid hg9
  clear hg9 hb9
  have HsG := Lib.hid HG.out.lt
  replace HZS := sz HZS HsG.out
  go_wp2_with fail
  refine (HPC.out w1 (HL.out.up HB.out)).mono ?_
  rintro e w2 ⟨rfl, hb9⟩
  replace HG := Lib.hid (HG.out.up hb9)
  replace HB := hbu HB hb9
  replace HZS := sz HZS hb9.size
  clear hb9
  go_wp2_with fail
  simp [bodyPost, results, Try.results51, go_sem]
  exact readQ_bad _ _ (by decide) xs HB.out
 subst hnm
 rw [if_pos rfl] at her
 have hd : ((n : Int) != (n : Int)) = false := by simp
 obtain ⟨b, hb⟩ : ∃ b, xs.all (isSc (grp k).q.m (grp k).size) = b := ⟨_, rfl⟩
 have HNO := Lib.hid (fun (h : ¬ xs.all (isSc (grp k).q.m (grp k).size) = true) => show er = bad by rw [← her, hb, if_neg (by rw [← hb]; exact h)])
 have HYES := Lib.hid (fun (h : xs.all (isSc (grp k).q.m (grp k).size) = true) => show er = 0 by rw [← her, hb, if_pos (by rw [← hb]; exact h)])
 clear her hb
 go_enter Try.func51, Try.ntmps51
 go_wp2_with fail
 refine (of_some k h1 h3 w).mono ?_
 rintro e w1 ⟨rfl, hg9, hb9⟩
 have HB := Lib.hid hb9
 have HZS := Lib.hid hb9.size
 have HG := Lib.hid hg9
 clear hg9 hb9
 have HsG := Lib.hid HG.out.lt
 replace HZS := sz HZS HsG.out
 go_wp2_with fail
 refine (HPC.out w1 (HL.out.up HB.out)).mono ?_
 rintro e w2 ⟨rfl, hb9⟩
 replace HG := Lib.hid (HG.out.up hb9)
 replace HB := hbu HB hb9
 replace HZS := sz HZS hb9.size
 clear hb9
 have BL := Lib.hid (Below.refl w2.heap.size w2)
 go_wp2_with fail
 clear hd
 go_loopw [36, 15] (fun i v wr => ∃ (j : Nat) (g : Option Addr) (c9 : Nat), j ≤ n ∧ i = .int .i64 j ∧ v = .slice g j c9 ∧ Hid (Below w2.heap.size w2 wr) ∧ Hid ((xs.take j).all (isSc (grp k).q.m (grp k).size) = true) ∧ Hid (RowO w2.heap.size wr 98 4 (.slice g j c9) j ((xs.take j).flatMap (limC (grp k).q.m)))) (fun i _ _ => n - (intOf i).toNat)
 case atStart => exact ⟨0, none, 0, Nat.zero_le _, rfl, rfl, BL, rfl, RowO.nil⟩
 case round =>
  obtain ⟨j, g, c9, hj, rfl, rfl, HL9, HAL, Hr⟩ := hrel
  have hb9 := HL9.out
  clear HL9
  replace HG := Lib.hid (HG.out.up hb9)
  replace BL := hbu BL hb9
  replace HB := hbu HB hb9
  replace HZS := sz HZS hb9.size
  clear hb9
  by_cases hjn : j < n
  ·have hjl : j < xs.length := by rw [HM.out]; exact hjn
   obtain ⟨bl, ol, rfl, hbl, hc⟩ := (HX.out.up HB.out).at j (by simpa using hjl)
   rw [List.getElem_map] at hc
   obtain ⟨bj, hbj⟩ : ∃ x, isSc (grp k).q.m (grp k).size xs[j] = x := ⟨_, rfl⟩
   have HBJ := Lib.hid hbj
   clear hbj
   go_wp2_with fail
   refine (gScalar_m (grp k) OK.out _ xs[j] bj HBJ.out wr HG.out).mono ?_
   rintro e w3 ⟨sx, rfl, hb9, hx9⟩
   replace HG := Lib.hid (HG.out.up hb9)
   replace Hr := Lib.hid (Hr.out.up hb9)
   replace BL := hbu BL hb9
   replace HB := hbu HB hb9
   replace HZS := sz HZS hb9.size
   have HSX := Lib.hid hx9
   clear hx9 hb9
   unfold limbV
   obtain ⟨w4, hq4, hb9, hz9, Hbp⟩ := new1 w3 98 [.int .u64 (dig (sx) 0 : Int), .int .u64 (dig (sx) 1 : Int), .int .u64 (dig (sx) 2 : Int), .int .u64 (dig (sx) 3 : Int)]
   replace HG := Lib.hid (HG.out.up hb9)
   replace Hr := Lib.hid (Hr.out.up hb9)
   replace BL := hbu BL hb9
   replace HB := hbu HB hb9
   replace HZS := sz HZS hz9.out
   clear hb9 hz9
   have bp_ := Hbp.out.c4
   cases bj
   ·obtain rfl := HNO.out (by rw [all_not hjl HBJ.out]; decide)
    go_wp2_with fail
    clear hq4
    simp [bodyPost, results, Try.results51, go_sem]
    exact readQ_bad _ _ HBAD.out xs HB.out
   ·obtain rfl := HSX.out rfl
    obtain ⟨i9, hi9, hz90, hz91, hz92⟩ := info_parts infoScalar
    go_wp2_with (at_builtin; refine wpList_pushR (w2.heap.size) w4 (by have g0 := HZS.out; omega) rfl _ _ 91 rfl 98 i9 _ 4 32 Try.underlying91 hi9 hz90 hz91 hz92 rfl (by omega) ((.slice g j c9)) (j) (((xs.take j).flatMap (limC (grp k).q.m))) rfl Hr.out _ _ _ rfl rfl rfl (by simp [Value.oneCell']) (by omega) (by unfold maxLen; omega) ?_)
    intro g5 c5 w5 hown9 hg9
    clear hq4 bp_ Hbp
    have hb9 := Below.grown HB.out hg9 (by have g0 := HZS.out; omega) (fun q hq => Nat.le_trans (show w.heap.size ≤ w2.heap.size by have g0 := HZS.out; omega) (Hr.out.lt q hq).1)
    replace HG := Lib.hid (HG.out.grown hg9 (fun e9 => by have a1 := Hr.out.lt _ e9; have g0 := HZS.out; omega))
    replace BL := Lib.hid (Below.grown BL.out hg9 (by have g0 := HZS.out; omega) (fun q hq => Nat.le_trans (show w2.heap.size ≤ w2.heap.size by have g0 := HZS.out; omega) (Hr.out.lt q hq).1))
    replace HZS := sz HZS hg9.size
    clear Hr HB
    have Hr := Lib.hid hown9
    have HB := Lib.hid hb9
    clear hb9 hown9 hg9 hi9 hz90 hz91 hz92
    go_wp2_with fail
    go_roundw
    case rel => exact ⟨j + 1, _, _, by omega, by go_num, rfl, BL, all_snoc hjl HAL.out HBJ.out, Hr.out.eq (flat_snoc _ _ _ hjl).symm rfl⟩
    case measure => simp [intOf]; omega
  ·have hjn' : j = n := by omega
   subst hjn'
   obtain rfl : er = 0 := HYES.out (by rw [← HM.out] at HAL; exact all_take_true HAL.out)
   rw [List.take_of_length_le (by rw [HM.out]; exact Nat.le_refl _)] at Hr
   go_wp2_with fail
   simp [bodyPost, results, Try.results51, go_sem]
   exact ⟨HB.out, _, _, rfl, fun _ => ⟨_, _, _, rfl, by rw [HM.out], HG.out, Hr.out.sl, Nat.le_refl _⟩⟩
end Go.Proofs.Ytjmeakfjfpnciaa
namespace Go.Proofs.Ytjmeakfjfpnciaa
open Go.RowKit
section
variable {P : Program} {ops : Array Oper} {S : World → Prop} {Q : Exit → Act → World → Prop} {k : Nat} {md : Region.Mode}
def wpAnyK (P : Program) (md : Region.Mode) (ops : Array Oper) (Q : Exit → Act → World → Prop) (S : World → Prop) (k : Nat) : Nat → Array Bool → Act → World → Prop
 | 0, listed, a, w => Region.ready md ops listed = [] ∧ Q .normal a w
 | fuel + 1, listed, a, w =>
  (Region.ready md ops listed = [] → Q .normal a w) ∧
  ∀ i ∈ Region.ready md ops listed, wpOp P ops Q i (fun a' w' => ((listed.setIfInBounds i true).getD k false = false → S w') ∧ wpAnyK P md ops Q S k fuel (listed.setIfInBounds i true) a' w') a w
theorem any_of_K : ∀ (fuel : Nat) (listed : Array Bool) (a : Act) (w : World), wpAnyK P md ops Q S k fuel listed a w → wpAny P md ops Q fuel listed a w
 | 0, _, _, _, h => h
 | fuel + 1, _, _, _, h => ⟨h.1, fun i hi => wpOp_mono (fun a' w' h' => any_of_K fuel _ a' w' h'.2) (h.2 i hi)⟩
theorem anyK_first {SS : World → Prop} (C : Array Bool → Prop) {i : Nat} {oi : Oper} {v : Value} (hi : ops[i]? = some oi) (hik : i ≠ k) (hsel : ∀ (j : Nat) (o : Oper) cs b, ops[j]? = some o → o.op ≠ .select cs b)
  (hQ : ∀ c a w, Q (.panic c) (a.put oi.dst v) w → Q (.panic c) a w)
  (hstep : ∀ listed j, C listed → i ∈ Region.ready md ops listed → j ∈ Region.ready md ops listed → j ≠ i → C (listed.setIfInBounds j true))
  (hSS : ∀ listed w, C listed → (listed.getD k false = false → S w) → SS w) :
  ∀ (fuel : Nat) (listed : Array Bool) (a : Act) (w : World),
   (∀ j oj, ops[j]? = some oj → j ≠ i → listed.getD j true = false → (∀ e ∈ oj.after, Region.binds md e = true → e.on ≠ i) → oi.apart ops oj = true) →
   i ∈ Region.ready md ops listed → C listed → YieldsIf P ops SS oi v a → (listed.getD k false = false → S w) →
   wpAnyK P md ops Q S k fuel (listed.setIfInBounds i true) (a.put oi.dst v) w → wpAnyK P md ops Q S k (fuel + 1) listed a w := by
 intro fuel
 induction fuel with
 | zero =>
  intro listed a w _ hr hC hy hS H
  refine ⟨fun h => (by rw [h] at hr; cases hr), fun j hj => ?_⟩
  by_cases hji : j = i
  ·subst hji; exact hy.wpOp hi (hSS listed w hC hS) ⟨fun h => hS (by rwa [getD_set_ne false hik] at h), H⟩
  ·have := ready_mono hj hji
   rw [H.1] at this
   cases this
 | succ fuel ih =>
  intro listed a w hfree hr hC hy hS H
  refine ⟨fun h => (by rw [h] at hr; cases hr), fun j hj => ?_⟩
  by_cases hji : j = i
  ·subst hji; exact hy.wpOp hi (hSS listed w hC hS) ⟨fun h => hS (by rwa [getD_set_ne false hik] at h), H⟩
  ·have h1 := H.2 j (ready_mono hj hji)
   obtain ⟨hjun, oj, hoj, hall⟩ := mem_ready.1 hj
   have hnot : ∀ e ∈ oj.after, Region.binds md e = true → e.on ≠ i := fun e he hb heq => by
    have h1 := hall e he hb
    have h0 := (mem_ready.1 hr).1
    rw [heq] at h1
    rcases Nat.lt_or_ge i listed.size with h' | h'
    ·simp [h'] at h0 h1; rw [h0] at h1; cases h1
    ·simp [Array.getElem?_eq_none h'] at h1
   have h2 := wpOp_putIf hoj (hfree j oj hoj hji hjun hnot) (fun cs b => hsel i oi cs b hi) (fun cs b => hsel j oj cs b hoj) hQ hy h1
   have hfree' : ∀ m om, ops[m]? = some om → m ≠ i → (listed.setIfInBounds j true).getD m true = false →
     (∀ e ∈ om.after, Region.binds md e = true → e.on ≠ i) → oi.apart ops om = true := fun m om hm hmi hun hno => by
    refine hfree m om hm hmi ?_ hno
    by_cases hjm : j = m
    ·subst hjm; exact hjun
    ·rw [getD_set_ne true hjm] at hun; exact hun
   have hkk : ((listed.setIfInBounds i true).setIfInBounds j true).getD k false = (listed.setIfInBounds j true).getD k false := by
    rw [Array.setIfInBounds_comm _ _ (Ne.symm hji), getD_set_ne false hik]
   have hr' := ready_mono hr (Ne.symm hji)
   refine wpOp_mono (fun a' w' h3 => ?_) h2
   have hS' : (listed.setIfInBounds j true).getD k false = false → S w' := fun h => h3.2.1 (by rw [hkk]; exact h)
   refine ⟨hS', ih (listed.setIfInBounds j true) a' w' hfree' hr' (hstep listed j hC hr hj hji) h3.1 hS' ?_⟩
   rw [Array.setIfInBounds_comm _ _ hji]
   exact h3.2.2
def chainB (md : Region.Mode) (ops : Array Oper) : Nat → List Nat → Bool
 | _, [] => true
 | i, j :: l => (match ops[j]? with | some o => o.after.any (fun e => Region.binds md e && e.on == i) | none => false) && chainB md ops j l
theorem chain_step {i j : Nat} {l : List Nat} {listed : Array Bool} : ∀ (i : Nat) (l : List Nat), chainB md ops i l = true → listed.getD i true = false → (∀ c ∈ l, listed.getD c true = false) → j ∈ Region.ready md ops listed → j ∉ l
 | _, [], _, _, _, _ => by simp
 | i, c :: l, hB, h0, hl, hj => by
  simp only [chainB, Bool.and_eq_true] at hB
  have ih := chain_step (listed := listed) (j := j) (i := i) (l := l) c l hB.2 (hl c (by simp)) (fun d hd => hl d (by simp [hd])) hj
  intro hm
  rcases List.mem_cons.1 hm with rfl | hm
  ·obtain ⟨_, o, ho, hall⟩ := mem_ready.1 hj
   have hB1 := hB.1
   rw [ho] at hB1
   simp only [Array.any_eq_true', Bool.and_eq_true, beq_iff_eq] at hB1
   obtain ⟨e, he, hb, hon⟩ := hB1
   have h1 := hall e he hb
   rw [hon] at h1
   rcases Nat.lt_or_ge i listed.size with h' | h'
   ·simp [h'] at h0 h1; rw [h0] at h1; cases h1
   ·simp [Array.getElem?_eq_none h'] at h1
  ·exact ih hm
inductive TreeK where
 | done : TreeK
 | q : Nat → TreeK → TreeK
 | e : Nat → List Nat → TreeK → TreeK
 | a : Nat → TreeK → TreeK
 | z : Nat → TreeK → TreeK
 | two : Nat → TreeK → Nat → TreeK → TreeK
def TreeK.qs : List Nat → TreeK → TreeK
 | [], t => t
 | i :: l, t => .q i (TreeK.qs l t)
def TreeK.size : TreeK → Nat
 | .done => 0
 | .q _ r => r.size + 1
 | .e _ _ r => r.size + 1
 | .a _ r => r.size + 1
 | .z _ r => r.size + 1
 | .two _ r _ _ => r.size + 1
def wpTreeK (P : Program) (ops : Array Oper) (S : World → Prop) (Q : Exit → Act → World → Prop) (k : Nat) : TreeK → Act → World → Prop
 | .done, a, w => Q .normal a w
 | .q i r, a, w => match ops[i]? with
  | none => False
  | some o => easyOp o = true ∧ wpQuiet P ops (fun _ => True) (fun a' => wpTreeK P ops S Q k r a' w) [o] a
 | .e i _ r, a, w => match ops[i]? with
  | none => False
  | some o => easyOp o = true ∧ wpQuiet P ops S (fun a' => wpTreeK P ops S Q k r a' w) [o] a
 | .a i r, a, w => wpOp P ops Q i (fun a' w' => (i ≠ k → S w') ∧ wpTreeK P ops S Q k r a' w') a w
 | .z i r, a, w => wpOp P ops Q i (fun a' w' => wpTreeK P ops S Q k r a' w') a w
 | .two i r j s, a, w => wpOp P ops Q i (fun a' w' => (i ≠ k → S w') ∧ wpTreeK P ops S Q k r a' w') a w ∧ wpOp P ops Q j (fun a' w' => (j ≠ k → S w') ∧ wpTreeK P ops S Q k s a' w') a w
def treeKB (md : Region.Mode) (ops : Array Oper) (k : Nat) : TreeK → Array Bool → Bool
 | .done, listed => (Region.ready md ops listed).isEmpty
 | .q i r, listed => (Region.ready md ops listed).contains i && Region.free md ops listed i && !(i == k) && treeKB md ops k r (listed.setIfInBounds i true)
 | .e i ch r, listed => (Region.ready md ops listed).contains i && Region.free md ops listed i && !(i == k) && chainB md ops i (ch ++ [k]) && (ch ++ [k]).all (fun c => !listed.getD c true) && !(i ∈ ch ++ [k]) && treeKB md ops k r (listed.setIfInBounds i true)
 | .a i r, listed => decide (Region.ready md ops listed = [i]) && treeKB md ops k r (listed.setIfInBounds i true)
 | .z i r, listed => decide (Region.ready md ops listed = [i]) && listed.getD k false && !(i == k) && treeKB md ops k r (listed.setIfInBounds i true)
 | .two i r j s, listed => decide (Region.ready md ops listed = [i, j]) && decide (r.size = s.size) && treeKB md ops k r (listed.setIfInBounds i true) && treeKB md ops k s (listed.setIfInBounds j true)
theorem listed_k {listed : Array Bool} {i : Nat} (hi : i ∈ Region.ready md ops listed) {w' : World} (h : i ≠ k → S w') : (listed.setIfInBounds i true).getD k false = false → S w' := by
 intro h9
 refine h (fun e => ?_)
 subst e
 have h0 := (mem_ready.1 hi).1
 rcases Nat.lt_or_ge i listed.size with h' | h'
 ·simp [h'] at h9
 ·simp [h'] at h0
theorem K_of_tree (hsel : Region.noSelect ops = true) (hQ : ∀ c a d v w, Q (.panic c) (a.put d v) w → Q (.panic c) a w) :
  ∀ (t : TreeK) (listed : Array Bool) (a : Act) (w : World), (listed.getD k false = false → S w) → treeKB md ops k t listed = true → wpTreeK P ops S Q k t a w → wpAnyK P md ops Q S k t.size listed a w
 | .done, listed, a, w, _, hB, h => ⟨by simpa [treeKB] using hB, h⟩
 | .q i r, listed, a, w, hS, hB, h => by
  unfold wpTreeK at h
  split at h
  ·cases h
  ·rename_i o ho
   obtain ⟨hp, hq⟩ := h
   obtain ⟨v, hy, hK⟩ := yieldsIf_easy hp hq
   simp only [treeKB, Bool.and_eq_true, Bool.not_eq_true', beq_eq_false_iff_ne] at hB
   exact anyK_first (fun _ => True) ho hB.1.2 (Region.noSelect_spec hsel) (fun c a w hq => hQ c a _ _ w hq) (fun _ _ _ _ _ _ => trivial) (fun _ _ _ _ => trivial) _ listed a w (Region.free_spec ho hB.1.1.2) (by simpa using hB.1.1.1) trivial hy hS
    (K_of_tree hsel hQ r _ _ w (fun h9 => hS (by rwa [getD_set_ne false hB.1.2] at h9)) hB.2 hK)
 | .e i ch r, listed, a, w, hS, hB, h => by
  unfold wpTreeK at h
  split at h
  ·cases h
  ·rename_i o ho
   obtain ⟨hp, hq⟩ := h
   obtain ⟨v, hy, hK⟩ := yieldsIf_easy hp hq
   simp only [treeKB, Bool.and_eq_true, Bool.not_eq_true', beq_eq_false_iff_ne, List.all_eq_true, decide_eq_false_iff_not] at hB
   obtain ⟨⟨⟨⟨⟨⟨h1, h2⟩, h3⟩, h4⟩, h5⟩, h6⟩, h7⟩ := hB
   refine anyK_first (SS := S) (fun l => ∀ c ∈ ch ++ [k], l.getD c true = false) ho h3 (Region.noSelect_spec hsel) (fun c a w hq => hQ c a _ _ w hq) ?_ ?_ _ listed a w (Region.free_spec ho h2) (by simpa using h1) h5 hy hS
    (K_of_tree hsel hQ r _ _ w (fun h9 => hS (by rwa [getD_set_ne false h3] at h9)) h7 hK)
   ·intro l j hC hr hj hji c hc
    have hn := chain_step (i := i) (l := ch) (j := j) i (ch ++ [k]) h4 (mem_ready.1 hr).1 hC hj
    rw [getD_set_ne true (fun e => hn (by rw [e]; exact hc))]
    exact hC c hc
   ·intro l w' hC h9
    refine h9 ?_
    have := hC k (by simp)
    rcases Nat.lt_or_ge k l.size with h' | h'
    ·simp [h'] at this ⊢; exact this
    ·simp [h'] at this
 | .a i r, listed, a, w, hS, hB, h => by
  simp only [treeKB, Bool.and_eq_true, decide_eq_true_eq] at hB
  unfold wpTreeK at h
  refine ⟨fun h9 => (by rw [hB.1] at h9; cases h9), fun j hj => ?_⟩
  have hj' : j = i := by rw [hB.1] at hj; simpa using hj
  subst hj'
  exact wpOp_mono (fun a' w' ⟨hS', h'⟩ => ⟨listed_k hj hS', K_of_tree hsel hQ r _ a' w' (listed_k hj hS') hB.2 h'⟩) h
 | .z i r, listed, a, w, hS, hB, h => by
  simp only [treeKB, Bool.and_eq_true, decide_eq_true_eq, Bool.not_eq_true', beq_eq_false_iff_ne] at hB
  unfold wpTreeK at h
  refine ⟨fun h9 => (by rw [hB.1.1.1] at h9; cases h9), fun j hj => ?_⟩
  have hj' : j = i := by rw [hB.1.1.1] at hj; simpa using hj
  subst hj'
  have hk : ∀ W : World, (listed.setIfInBounds j true).getD k false = false → S W := fun W h9 => by
   rw [getD_set_ne false hB.1.2, hB.1.1.2] at h9
   cases h9
  exact wpOp_mono (fun a' w' h' => ⟨hk w', K_of_tree hsel hQ r _ a' w' (hk w') hB.2 h'⟩) h
 | .two i r j s, listed, a, w, hS, hB, h => by
  simp only [treeKB, Bool.and_eq_true, decide_eq_true_eq] at hB
  obtain ⟨⟨⟨h1, h2⟩, h3⟩, h4⟩ := hB
  unfold wpTreeK at h
  refine ⟨fun h9 => (by rw [h1] at h9; cases h9), fun m hm => ?_⟩
  rcases (by rw [h1] at hm; simpa using hm : m = i ∨ m = j) with rfl | rfl
  ·exact wpOp_mono (fun a' w' ⟨hS', h'⟩ => ⟨listed_k hm hS', K_of_tree hsel hQ r _ a' w' (listed_k hm hS') h3 h'⟩) h.1
  ·exact wpOp_mono (fun a' w' ⟨hS', h'⟩ => ⟨listed_k hm hS', by rw [h2]; exact K_of_tree hsel hQ s _ a' w' (listed_k hm hS') h4 h'⟩) h.2
theorem wp_region_treek {id : Nat} {a : Act} {w : World} {l : List Oper} (S : World → Prop) (k : Nat) (t : TreeK) (hm : P.follows .mixedOrders = true)
  (hB : (Region.noSelect l.toArray && decide (t.size = l.toArray.size) && treeKB .any l.toArray k t (Array.replicate l.toArray.size false)) = true)
  (hQ : ∀ c a d v w, Q (.panic c) (a.put d v) w → Q (.panic c) a w) (hS : S w.drew) (h : wpTreeK P l.toArray S Q k t a w.drew) : (Code.region id l.toArray true).wp P Q a w := by
 simp only [Bool.and_eq_true, decide_eq_true_eq] at hB
 refine wp_region_any hm (any_of_K (S := S) (k := k) _ _ _ _ ?_)
 have := K_of_tree hB.1.1 hQ t _ a _ (fun _ => hS) hB.2 h
 rw [hB.1.2] at this
 exact this
theorem treek_q {l : List Oper} {i : Nat} {r : TreeK} {o : Oper} {a : Act} {w : World} (ho : l[i]? = some o) (hp : easyOp o = true) (h : wpQuiet P l.toArray (fun _ => True) (fun a' => wpTreeK P l.toArray S Q k r a' w) [o] a) :
  wpTreeK P l.toArray S Q k (.q i r) a w := by
 unfold wpTreeK
 rw [List.getElem?_toArray, ho]
 exact ⟨hp, h⟩
theorem treek_e {l ch : List _} {i : Nat} {r : TreeK} {o : Oper} {a : Act} {w : World} (ho : l[i]? = some o) (hp : easyOp o = true) (h : wpQuiet P l.toArray S (fun a' => wpTreeK P l.toArray S Q k r a' w) [o] a) :
  wpTreeK P l.toArray S Q k (.e i ch r) a w := by
 unfold wpTreeK
 rw [List.getElem?_toArray, ho]
 exact ⟨hp, h⟩
theorem treek_a {l : List Oper} {i : Nat} {r : TreeK} {o : Oper} {a : Act} {w : World} (ho : l[i]? = some o)
  (h : ∀ K : Act → World → Prop, (∀ a w, (i ≠ k → S w) ∧ wpTreeK P l.toArray S Q k r a w → K a w) → if Region.wanted o (yielded l.toArray a.tmps) = true then Oper.wp P o a w K Q else K (a.put o.dst undef) w) :
  wpTreeK P l.toArray S Q k (.a i r) a w := by
 unfold wpTreeK
 exact wpOp_step (by rw [List.getElem?_toArray, ho]) h
theorem treek_z {l : List Oper} {i : Nat} {r : TreeK} {o : Oper} {a : Act} {w : World} (ho : l[i]? = some o)
  (h : ∀ K : Act → World → Prop, (∀ a w, wpTreeK P l.toArray S Q k r a w → K a w) → if Region.wanted o (yielded l.toArray a.tmps) = true then Oper.wp P o a w K Q else K (a.put o.dst undef) w) :
  wpTreeK P l.toArray S Q k (.z i r) a w := by
 unfold wpTreeK
 exact wpOp_step (by rw [List.getElem?_toArray, ho]) h
theorem treek_end {a : Act} {w : World} (h : Q .normal a w) : wpTreeK P ops S Q k .done a w := h
end
end Go.Proofs.Ytjmeakfjfpnciaa
namespace Go.Proofs.Ytjmeakfjfpnciaa
open Go.RowKit
def lim4 (m n : Nat) : List Value := [.int .u64 (dig (mont m n) 0 : Int), .int .u64 (dig (mont m n) 1 : Int), .int .u64 (dig (mont m n) 2 : Int), .int .u64 (dig (mont m n) 3 : Int)]
theorem lim4_len (m n : Nat) : (lim4 m n).length = 4 := rfl
def OkP (l : List Int) : Prop := ∀ b ∈ l, 0 ≤ b ∧ b ≤ 255
theorem prU_succ (f : Int → Nat) (l : List Int) {i j : Nat} (h : ¬ i = j) : prU f l i (j + 1) = prU f l i j * f (l.getD j 0) := if_neg h
theorem prU_same (f : Int → Nat) (l : List Int) {i j : Nat} (h : i = j) : prU f l i (j + 1) = prU f l i j := if_pos h
theorem getD_here {l : List Int} {j : Nat} (hj : j < l.length) : l.getD j 0 = l[j] := by rw [List.getD_eq_getElem?_getD, List.getElem?_eq_getElem hj]; rfl
theorem modI_one {q : Nat} (hq : 1 < q) : modI q 1 = 1 := by
 unfold modI
 rw [Int.emod_eq_of_lt (by decide) (by omega)]
 rfl
def wtL (q : Nat) (l : List Int) (x : Int) (n : Nat) : List Value := (List.range n).flatMap fun i => lim4 q (wtN q l i x)
theorem wtL_snoc (q : Nat) (l : List Int) (x : Int) (n : Nat) : wtL q l x (n + 1) = wtL q l x n ++ lim4 q (wtN q l n x) := by
 unfold wtL
 rw [List.range_succ, List.flatMap_append]
 simp
def WtR (q : Nat) (l : List Int) (x : Int) (w : World) (e : Ending) (w' : World) : Prop :=
 Below w.heap.size w w' ∧ ∃ a c, e = .returned (.slice a l.length c) ∧ Sl w' w'.heap.size a (wtL q l x l.length) ∧ ∀ y, a = some y → w.heap.size ≤ y.block
theorem weights_any (G : GP) (ok : G.Ok) (gb : Nat) (l : List Int) (n : Nat) (hn : l.length = n) (hn16 : n ≤ 16) (hl : OkP l) (x : Int) (hx : 0 ≤ x ∧ x ≤ 255) (a : Option Addr) (c : Nat) (w : World) (hG : GroupAt w gb G) (hX : Sl w w.heap.size a (l.map intV)) :
  Calls Try.prog 53 #[.pointer (some ⟨gb, 0, none⟩), .slice a n c, .int .i64 x] w (WtR G.q.m l x w) := by
 unfold WtR
 rw [hn]
 have OK := Lib.hid ok
 have HG := Lib.hid hG
 have HGL := Lib.hid hG.lt
 have HX := Lib.hid hX
 have HN := Lib.hid hn
 have HL := Lib.hid hl
 have HXX := Lib.hid hx
 have HM1 := Lib.hid (modI_one (q := G.q.m) (by have := ok.odd; omega))
 clear ok hG hX hn hl hx
 go_enter Try.func53, Try.ntmps53
 go_wp2_with fail
 go_loopw [16, 7] (fun i v wr => ∃ (j : Nat) (g : Option Addr) (c9 : Nat), j ≤ n ∧ i = .int .i64 j ∧ v = .slice g j c9 ∧ Hid (Below w.heap.size w wr) ∧ Hid (RowO w.heap.size wr 98 4 (.slice g j c9) j (wtL G.q.m l x j))) (fun i _ _ => n - (intOf i).toNat)
 case atStart => exact ⟨0, none, 0, Nat.zero_le _, rfl, rfl, Below.refl _ _, RowO.nil⟩
 case round =>
  obtain ⟨i, g, c9, hi, rfl, rfl, HB, Hr⟩ := hrel
  by_cases hin : i < n
  ·have hil : i < l.length := by rw [HN.out]; exact hin
   have HSB := Lib.hid (show w.heap.size ≤ wr.heap.size from HB.out.size)
   have HZS := HSB
   have HZS := HSB
   have HGP := Lib.hid (HG.out.up HB.out)
   obtain ⟨bl, ol, rfl, hbl, hc⟩ := (HX.out.up HB.out).at i (by rw [List.length_map]; exact hil)
   rw [List.getElem_map] at hc
   unfold intV at hc
   have HAI := Lib.hid (HL.out _ (List.getElem_mem hil))
   have HGD := Lib.hid (getD_here hil)
   generalize l[i] = ai at *
   have HSN := Lib.hid (wtL_snoc G.q.m l x i)
   obtain ⟨wo, rfl⟩ : ∃ wo : World, wo = wr := ⟨_, rfl⟩
   have HBB := HB
   have HRB := Hr
   have HGB := HGP
   have BI := Lib.hid (Below.refl wo.heap.size wo)
   go_wp2_with fail
   refine (gNumber_any G OK.out gb 1 (by decide) (by decide) wo HGP.out).mono ?_
   rintro e w1 ⟨rfl, hb9⟩
   replace HGP := Lib.hid (HGP.out.up hb9)
   replace Hr := Lib.hid (Hr.out.up hb9)
   replace BI := hbu BI hb9
   replace HB := hbu HB hb9
   replace HZS := sz HZS hb9.size
   clear hb9
   rw [HM1.out]
   go_wp2_with fail
   refine (gNumber_any G OK.out gb 1 (by decide) (by decide) w1 HGP.out).mono ?_
   rintro e w2 ⟨rfl, hb9⟩
   replace HGP := Lib.hid (HGP.out.up hb9)
   replace Hr := Lib.hid (Hr.out.up hb9)
   replace BI := hbu BI hb9
   replace HB := hbu HB hb9
   replace HZS := sz HZS hb9.size
   clear hb9
   rw [HM1.out]
   unfold scV limbV
   obtain ⟨w3, hq3, hb9, hz9, Hup, Hdn⟩ := new2 w2 98 [.int .u64 (dig (mont G.q.m 1) 0 : Int), .int .u64 (dig (mont G.q.m 1) 1 : Int), .int .u64 (dig (mont G.q.m 1) 2 : Int), .int .u64 (dig (mont G.q.m 1) 3 : Int)] 98 [.int .u64 (dig (mont G.q.m 1) 0 : Int), .int .u64 (dig (mont G.q.m 1) 1 : Int), .int .u64 (dig (mont G.q.m 1) 2 : Int), .int .u64 (dig (mont G.q.m 1) 3 : Int)]
   replace HGP := Lib.hid (HGP.out.up hb9)
   replace Hr := Lib.hid (Hr.out.up hb9)
   replace BI := hbu BI hb9
   replace HB := hbu HB hb9
   replace HZS := sz HZS hz9.out
   clear hb9 hz9
   have up_ := Hup.out.c4
   have dn_ := Hdn.out.c4
   clear hc
   go_wp2_with fail
   clear hq3
   obtain ⟨db, hdb⟩ : ∃ q, w2.heap.size + 1 = q := ⟨_, rfl⟩
   rw [hdb] at Hdn dn_ ⊢
   obtain ⟨ub, hub⟩ : ∃ q, w2.heap.size = q := ⟨_, rfl⟩
   rw [hub] at Hup up_ ⊢
   have HUD := Lib.hid (show wo.heap.size ≤ ub ∧ ub < db from by have := HZS.out; omega)
   clear hub hdb
   go_loopw [27] (fun v wr => ∃ t : Nat, t ≤ n ∧ v = .int .i64 t ∧ Hid (Below wo.heap.size wo wr) ∧ Hid (Bx wr ub 98 (lim4 G.q.m (prU (fun b => modI G.q.m (x - b)) l i t))) ∧ Hid (Bx wr db 98 (lim4 G.q.m (prU (fun b => modI G.q.m (ai - b)) l i t)))) (fun v _ => n - (intOf v).toNat)
   case atStart => exact ⟨0, Nat.zero_le _, rfl, BI, Hup, Hdn⟩
   case round =>
    clear Hup Hdn up_ dn_ HB Hr HGP
    obtain ⟨t, ht, rfl, BI, Hup, Hdn⟩ := hrel
    have HB := Lib.hid (HBB.out.trans (BI.out.mono HSB.out))
    have HGP := Lib.hid (HGB.out.up BI.out)
    have HSW := Lib.hid (show db < wr.heap.size ∧ wo.heap.size ≤ wr.heap.size from ⟨Hdn.out.lt, BI.out.size⟩)
    replace Hup := Lib.hid (show Bx wr ub 98 [.int .u64 (dig (mont G.q.m (prU (fun b => modI G.q.m (x - b)) l i t)) 0 : Int), .int .u64 (dig (mont G.q.m (prU (fun b => modI G.q.m (x - b)) l i t)) 1 : Int), .int .u64 (dig (mont G.q.m (prU (fun b => modI G.q.m (x - b)) l i t)) 2 : Int), .int .u64 (dig (mont G.q.m (prU (fun b => modI G.q.m (x - b)) l i t)) 3 : Int)] from Hup.out)
    replace Hdn := Lib.hid (show Bx wr db 98 [.int .u64 (dig (mont G.q.m (prU (fun b => modI G.q.m (ai - b)) l i t)) 0 : Int), .int .u64 (dig (mont G.q.m (prU (fun b => modI G.q.m (ai - b)) l i t)) 1 : Int), .int .u64 (dig (mont G.q.m (prU (fun b => modI G.q.m (ai - b)) l i t)) 2 : Int), .int .u64 (dig (mont G.q.m (prU (fun b => modI G.q.m (ai - b)) l i t)) 3 : Int)] from Hdn.out)
    replace HZS := sz HZS HUD.out
    replace HZS := sz HZS HSW.out
    replace HZS := sz HZS HGL.out
    have up_ := Hup.out.c4
    have dn_ := Hdn.out.c4
    by_cases htn : t < n
    ·have htl : t < l.length := by rw [HN.out]; exact htn
     obtain ⟨_, _, e9, hbl, hc⟩ := (HX.out.up HB.out).at t (by rw [List.length_map]; exact htl)
     cases e9
     rw [List.getElem_map] at hc
     unfold intV at hc
     have HAT := Lib.hid (HL.out _ (List.getElem_mem htl))
     have HGT := Lib.hid (getD_here htl)
     generalize l[t] = y at *
     by_cases hit : i = t
     ·have hd : ((i : Int) != (t : Int)) = false := by simp; omega
      have HE1 := Lib.hid (prU_same (fun b => modI G.q.m (x - b)) l hit)
      have HE2 := Lib.hid (prU_same (fun b => modI G.q.m (ai - b)) l hit)
      clear hit
      go_wp2_with fail
      go_roundw
      case rel => exact ⟨t + 1, by omega, by go_num, BI, by rw [HE1.out]; exact Hup, by rw [HE2.out]; exact Hdn⟩
      case measure => simp [intOf]; omega
     ·have hd : ((i : Int) != (t : Int)) = true := by simp; omega
      have HE1 := Lib.hid (prU_succ (fun b => modI G.q.m (x - b)) l hit)
      have HE2 := Lib.hid (prU_succ (fun b => modI G.q.m (ai - b)) l hit)
      rw [HGT.out] at HE1 HE2
      have hw1 : wrap64 (x - y) = x - y := by have h1 := HAT.out; have h2 := HXX.out; unfold wrap64; omega
      have hw2 : wrap64 (ai - y) = ai - y := by have h1 := HAT.out; have h2 := HAI.out; unfold wrap64; omega
      clear hit
      generalize prU (fun b => modI G.q.m (x - b)) l i t = pu at *
      generalize prU (fun b => modI G.q.m (ai - b)) l i t = pd at *
      go_wp2_with fail
      clear hc
      have HT := Lib.hid (show Below wr.heap.size wr wr.drew from (Below.refl _ _).drew)
      have hl_up := Hup.out.lt
      have hl_dn := Hdn.out.lt
      refine wp_region_treek (fun wq9 => ∃ E : Over wr, wq9 = E.w) 16 ((.qs [0] (.e 1 [] (.qs [2, 3, 4, 5, 8] (.e 9 [15] (.qs [10, 11, 12, 13] (.a 6 (.a 7 (.a 14 (.a 15 (.a 16 (.z 17 .done)))))))))))) (by kernel_rfl) (by kernel_rfl) (fun _ _ d _ _ h => by cases d <;> exact h) ⟨⟨_, HT.out⟩, rfl⟩ ?_
      have hov_up := fun (E : Over wr) o => E.cell (b := ub) o hl_up
      have hov_dn := fun (E : Over wr) o => E.cell (b := db) o hl_dn
      simp only [TreeK.qs]
      repeat (first | (refine treek_q rfl rfl ?_; go_big_quiet_step (fail); refine wpQuiet_nil ?_) | (refine treek_e rfl rfl ?_; go_big_quiet_step (fail); refine wpQuiet_nil ?_))
      refine treek_a rfl (fun K hK => ?_)
      go_simp
      refine (gNumber_any G OK.out gb (x - y) (by have h1 := HAT.out; have h2 := HXX.out; omega) (by have h1 := HAT.out; have h2 := HXX.out; omega) _ (HGP.out.up HT.out)).mono ?_
      rintro e w4 ⟨rfl, hb9⟩
      replace HT := Lib.hid (below_up HT.out hb9)
      replace HZS := sz HZS (show wr.heap.size ≤ w4.heap.size from HT.out.size)
      clear hb9
      refine hK _ _ ⟨fun _ => ⟨⟨w4, HT.out⟩, rfl⟩, ?_⟩
      clear hK K
      repeat (first | (refine treek_q rfl rfl ?_; go_big_quiet_step (fail); refine wpQuiet_nil ?_) | (refine treek_e rfl rfl ?_; go_big_quiet_step (fail); refine wpQuiet_nil ?_))
      refine treek_a rfl (fun K hK => ?_)
      go_simp
      refine (gMul_any G OK.out gb pu (modI G.q.m (x - y)) _ (HGP.out.up HT.out)).mono ?_
      rintro e w5 ⟨rfl, hb9⟩
      replace HT := Lib.hid (below_up HT.out hb9)
      replace HZS := sz HZS (show wr.heap.size ≤ w5.heap.size from HT.out.size)
      clear hb9
      refine hK _ _ ⟨fun _ => ⟨⟨w5, HT.out⟩, rfl⟩, ?_⟩
      clear hK K
      repeat (first | (refine treek_q rfl rfl ?_; go_big_quiet_step (fail); refine wpQuiet_nil ?_) | (refine treek_e rfl rfl ?_; go_big_quiet_step (fail); refine wpQuiet_nil ?_))
      refine treek_a rfl (fun K hK => ?_)
      go_simp
      refine (gNumber_any G OK.out gb (ai - y) (by have h1 := HAT.out; have h2 := HAI.out; omega) (by have h1 := HAT.out; have h2 := HAI.out; omega) _ (HGP.out.up HT.out)).mono ?_
      rintro e w6 ⟨rfl, hb9⟩
      replace HT := Lib.hid (below_up HT.out hb9)
      replace HZS := sz HZS (show wr.heap.size ≤ w6.heap.size from HT.out.size)
      clear hb9
      refine hK _ _ ⟨fun _ => ⟨⟨w6, HT.out⟩, rfl⟩, ?_⟩
      clear hK K
      repeat (first | (refine treek_q rfl rfl ?_; go_big_quiet_step (fail); refine wpQuiet_nil ?_) | (refine treek_e rfl rfl ?_; go_big_quiet_step (fail); refine wpQuiet_nil ?_))
      refine treek_a rfl (fun K hK => ?_)
      go_simp
      refine (gMul_any G OK.out gb pd (modI G.q.m (ai - y)) _ (HGP.out.up HT.out)).mono ?_
      rintro e w7 ⟨rfl, hb9⟩
      replace HT := Lib.hid (below_up HT.out hb9)
      replace HZS := sz HZS (show wr.heap.size ≤ w7.heap.size from HT.out.size)
      clear hb9
      unfold scV limbV
      refine hK _ _ ⟨fun _ => ⟨⟨w7, HT.out⟩, rfl⟩, ?_⟩
      clear hK K
      repeat (first | (refine treek_q rfl rfl ?_; go_big_quiet_step (fail); refine wpQuiet_nil ?_) | (refine treek_e rfl rfl ?_; go_big_quiet_step (fail); refine wpQuiet_nil ?_))
      clear hov_up hl_up hov_dn hl_dn
      refine treek_a rfl (fun K hK => ?_)
      clear up_
      replace Hup := Lib.hid (Hup.out.up HT.out)
      clear dn_
      replace Hdn := Lib.hid (Hdn.out.up HT.out)
      replace HGP := Lib.hid (HGP.out.up HT.out)
      replace BI := hbu BI HT.out
      replace HB := hbu HB HT.out
      replace HZS := sz HZS HT.out.size
      clear HT
      have up_ := Hup.out.c4
      have dn_ := Hdn.out.c4
      have f8_up := Hup.out.frozen
      have o8_up_ := up_; clear up_
      have o8_dn_ := dn_; clear dn_
      obtain ⟨w8, hq8, hg9, hz9, hx9⟩ := put4 Hup 0 (.int .u64 (dig (mont G.q.m (pu * modI G.q.m (x - y))) 0 : Int)) 1 (.int .u64 (dig (mont G.q.m (pu * modI G.q.m (x - y))) 1 : Int)) 2 (.int .u64 (dig (mont G.q.m (pu * modI G.q.m (x - y))) 2 : Int)) 3 (.int .u64 (dig (mont G.q.m (pu * modI G.q.m (x - y))) 3 : Int)) [.int .u64 (dig (mont G.q.m (pu * modI G.q.m (x - y))) 0 : Int), .int .u64 (dig (mont G.q.m (pu * modI G.q.m (x - y))) 1 : Int), .int .u64 (dig (mont G.q.m (pu * modI G.q.m (x - y))) 2 : Int), .int .u64 (dig (mont G.q.m (pu * modI G.q.m (x - y))) 3 : Int)] rfl
      replace Hdn := Lib.hid (Hdn.out.grown hg9.out (sne (by have g0 := HZS.out; omega)))
      replace HGP := Lib.hid (HGP.out.grown hg9.out (sne (by have g0 := HZS.out; omega)))
      replace BI := hbg BI hg9 (by have g0 := HZS.out; omega)
      replace HB := hbg HB hg9 (by have g0 := HZS.out; omega)
      replace HZS := sz HZS hz9.out
      replace Hup := hx9
      clear hx9 hg9 hz9
      have up_ := Hup.out.c4
      have dn_ := Hdn.out.c4
      go_simp
      try rw [hq8]
      refine hK _ _ ⟨fun h9 => absurd rfl h9, ?_⟩
      clear hK K hq8 o8_dn_ o8_up_ f8_up
      repeat (first | (refine treek_q rfl rfl ?_; go_big_quiet_step (fail); refine wpQuiet_nil ?_) | (refine treek_e rfl rfl ?_; go_big_quiet_step (fail); refine wpQuiet_nil ?_))
      refine treek_z rfl (fun K hK => ?_)
      have f9_dn := Hdn.out.frozen
      have o9_up_ := up_; clear up_
      have o9_dn_ := dn_; clear dn_
      obtain ⟨w9, hq9, hg9, hz9, hx9⟩ := put4 Hdn 0 (.int .u64 (dig (mont G.q.m (pd * modI G.q.m (ai - y))) 0 : Int)) 1 (.int .u64 (dig (mont G.q.m (pd * modI G.q.m (ai - y))) 1 : Int)) 2 (.int .u64 (dig (mont G.q.m (pd * modI G.q.m (ai - y))) 2 : Int)) 3 (.int .u64 (dig (mont G.q.m (pd * modI G.q.m (ai - y))) 3 : Int)) [.int .u64 (dig (mont G.q.m (pd * modI G.q.m (ai - y))) 0 : Int), .int .u64 (dig (mont G.q.m (pd * modI G.q.m (ai - y))) 1 : Int), .int .u64 (dig (mont G.q.m (pd * modI G.q.m (ai - y))) 2 : Int), .int .u64 (dig (mont G.q.m (pd * modI G.q.m (ai - y))) 3 : Int)] rfl
      replace Hup := Lib.hid (Hup.out.grown hg9.out (sne (by have g0 := HZS.out; omega)))
      replace HGP := Lib.hid (HGP.out.grown hg9.out (sne (by have g0 := HZS.out; omega)))
      replace BI := hbg BI hg9 (by have g0 := HZS.out; omega)
      replace HB := hbg HB hg9 (by have g0 := HZS.out; omega)
      replace HZS := sz HZS hz9.out
      replace Hdn := hx9
      clear hx9 hg9 hz9
      have up_ := Hup.out.c4
      have dn_ := Hdn.out.c4
      go_simp
      try rw [hq9]
      refine hK _ _ ?_
      clear hK K hq9 o9_dn_ o9_up_ f9_dn
      repeat (first | (refine treek_q rfl rfl ?_; go_big_quiet_step (fail); refine wpQuiet_nil ?_) | (refine treek_e rfl rfl ?_; go_big_quiet_step (fail); refine wpQuiet_nil ?_))
      refine treek_end ?_
      go_wp2_with fail
      go_roundw
      case rel => exact ⟨t + 1, by omega, by go_num, BI, by rw [HE1.out]; exact Hup, by rw [HE2.out]; exact Hdn⟩
      case measure => simp [intOf]; omega
    ·have htn' : t = n := by omega
     subst htn'
     have HWE := Lib.hid (show wtN G.q.m l i x = prU (fun b => modI G.q.m (x - b)) l i l.length * prU (fun b => modI G.q.m (ai - b)) l i l.length ^ (G.q.m - 2) by unfold wtN wtU; rw [HGD.out])
     rw [HN.out] at HWE
     generalize prU (fun b => modI G.q.m (x - b)) l i t = pu at *
     generalize prU (fun b => modI G.q.m (ai - b)) l i t = pd at *
     have Hr := Lib.hid (HRB.out.up BI.out)
     have HRO := Lib.hid (fun q9 (h9 : (Value.slice g i c9).ownBlock = some q9) => (HRB.out.lt q9 h9).2)
     go_wp2_with fail
     have HT := Lib.hid (show Below wr.heap.size wr wr.drew from (Below.refl _ _).drew)
     have hl_up := Hup.out.lt
     have hl_dn := Hdn.out.lt
     refine wp_region_tree (fun wq9 => ∃ E : But wr (Value.ownBlock (.slice g i c9)), wq9 = E.w) ((.qs [0, 1, 2, 3, 4] (.a 5 (.a 6 (.a 7 (.a 8 (.qs [9] .done))))))) (by kernel_rfl) (by kernel_rfl) (fun _ _ d _ _ h => by cases d <;> exact h) ⟨⟨_, ((below_grown HT.out).but _)⟩, rfl⟩ ?_
     have hov_up := fun (E : But wr (Value.ownBlock (.slice g i c9))) o => E.cell (b := ub) o hl_up (by intro e9; have a2 := HRO.out _ e9; have a1 := Hr.out.lt _ e9; have g0 := HZS.out; omega)
     have hov_dn := fun (E : But wr (Value.ownBlock (.slice g i c9))) o => E.cell (b := db) o hl_dn (by intro e9; have a2 := HRO.out _ e9; have a1 := Hr.out.lt _ e9; have g0 := HZS.out; omega)
     simp only [Tree.qs]
     repeat (refine tree_q rfl rfl ?_; go_big_quiet_step (fail); refine wpQuiet_nil ?_)
     refine tree_a rfl (fun K hK => ?_)
     go_simp
     refine (gInv_any G OK.out gb pd _ (HGP.out.up HT.out)).mono ?_
     rintro e w4 ⟨rfl, hb9⟩
     replace HT := Lib.hid (below_up HT.out hb9)
     replace HZS := sz HZS (show wr.heap.size ≤ w4.heap.size from HT.out.size)
     clear hb9
     refine hK _ _ ⟨⟨⟨w4, ((below_grown HT.out).but _)⟩, rfl⟩, ?_⟩
     clear hK K
     repeat (refine tree_q rfl rfl ?_; go_big_quiet_step (fail); refine wpQuiet_nil ?_)
     refine tree_a rfl (fun K hK => ?_)
     go_simp
     refine (gMul_any G OK.out gb pu (pd ^ (G.q.m - 2)) _ (HGP.out.up HT.out)).mono ?_
     rintro e w5 ⟨rfl, hb9⟩
     replace HT := Lib.hid (below_up HT.out hb9)
     replace HZS := sz HZS (show wr.heap.size ≤ w5.heap.size from HT.out.size)
     clear hb9
     unfold scV limbV
     refine hK _ _ ⟨⟨⟨w5, ((below_grown HT.out).but _)⟩, rfl⟩, ?_⟩
     clear hK K
     repeat (refine tree_q rfl rfl ?_; go_big_quiet_step (fail); refine wpQuiet_nil ?_)
     clear hov_up hl_up hov_dn hl_dn
     refine tree_a rfl (fun K hK => ?_)
     go_simp
     refine hK _ _ ⟨⟨⟨_, (below_grown (HT.out.alloc HT.out.size _)).but _⟩, rfl⟩, ?_⟩
     clear hK K
     obtain ⟨i9, hi9, hz90, hz91, hz92⟩ := info_parts infoScalar
     have HG1 := Lib.hid ((below_grown HT.out).but (Value.ownBlock (.slice g i c9)))
     clear up_
     replace Hup := Lib.hid (Hup.out.up HT.out)
     clear dn_
     replace Hdn := Lib.hid (Hdn.out.up HT.out)
     replace HGP := Lib.hid (HGP.out.up HT.out)
     replace Hr := Lib.hid (Hr.out.up HT.out)
     replace HB := hbu HB HT.out
     replace HZS := sz HZS HT.out.size
     refine tree_a rfl (fun K hK => ?_)
     refine step_pushR (w.heap.size) w5 (by have g0 := HZS.out; omega) rfl _ _ 91 rfl 98 i9 _ 4 32 Try.underlying91 hi9 hz90 hz91 hz92 rfl (by omega) ((.slice g i c9)) (i) ((wtL G.q.m l x i)) rfl Hr.out _ _ _ rfl rfl rfl (by simp [Value.oneCell']) (by omega) (by unfold maxLen; omega) ?_
     intro g6 c6 w6 hown9 hg9
     have HGR := Lib.hid (HG1.out.trans hg9)
     have hb9 := Below.grown HB.out hg9 (by have g0 := HZS.out; omega) (fun q hq => Nat.le_trans (show w.heap.size ≤ w.heap.size by have g0 := HZS.out; omega) (Hr.out.lt q hq).1)
     replace Hup := Lib.hid (Hup.out.grown hg9 (fun e9 => by have a2 := HRO.out _ e9; have a1 := Hr.out.lt _ e9; have g0 := HZS.out; omega))
     replace Hdn := Lib.hid (Hdn.out.grown hg9 (fun e9 => by have a2 := HRO.out _ e9; have a1 := Hr.out.lt _ e9; have g0 := HZS.out; omega))
     replace HGP := Lib.hid (HGP.out.grown hg9 (fun e9 => by have a2 := HRO.out _ e9; have a1 := Hr.out.lt _ e9; have g0 := HZS.out; omega))
     replace HZS := sz HZS hg9.size
     clear Hr HB HT HG1
     have Hr := Lib.hid hown9
     have HB := Lib.hid hb9
     clear hb9 hown9 hg9 hi9 hz90 hz91 hz92
     refine hK _ _ ⟨⟨⟨w6, HGR.out⟩, rfl⟩, ?_⟩
     clear hK K HGR
     have up_ := Hup.out.c4
     have dn_ := Hdn.out.c4
     try simp only [Act.put, List.setIfInBounds_toArray, List.set_cons_succ, List.set_cons_zero]
     repeat (refine tree_q rfl rfl ?_; go_big_quiet_step (fail); refine wpQuiet_nil ?_)
     refine tree_end ?_
     go_wp2_with fail
     go_roundw
     case rel => exact ⟨i + 1, _, _, by omega, by go_num, rfl, HB, Hr.out.eq (by rw [HSN.out, HWE.out]; rfl) rfl⟩
     case measure => simp [intOf]; omega
  ·have hin' : i = n := by omega
   subst hin'
   go_wp2_with fail
   go_ret
   exact ⟨HB.out, g, c9, rfl, Hr.out.sl, fun y hy => (Hr.out.lt y.block (by rw [hy]; rfl)).1⟩
end Go.Proofs.Ytjmeakfjfpnciaa
namespace Go.Proofs.Ytjmeakfjfpnciaa
open Go.RowKit
theorem infoStr : (Try.prog.info? 9).map (fun i => (i.zero, i.size, i.bytes)) = some (some (.string ⟨#[]⟩), 1, 16) := by kernel_rfl
theorem Sl.adr {w : World} {B : Nat} {a : Option Addr} {cs : List Value} (h : Sl w B a cs) (h0 : cs ≠ []) : ∃ b o, a = some ⟨b, o, none⟩ ∧ b < B := by
 rcases h with h | ⟨b, off, rfl, hb, _⟩
 ·exact absurd h h0
 ·exact ⟨b, off, rfl, hb⟩
theorem Sl.elemS {w : World} {B b o : Nat} {α : Type} {f : α → List Value} {k : Nat} {l : List α} (h : Sl w B (some ⟨b, o, none⟩) (l.flatMap f)) (hk : ∀ x, (f x).length = k) (h0 : 0 < k) (i : Nat) (hi : i < l.length) :
  b < B ∧ ∀ j v, (f l[i])[j]? = some v → w.cell? ⟨b, o + i * k + j, none⟩ = some v := by
 obtain ⟨b', o', he, hb, hc⟩ := h.elem hk h0 i hi
 simp only [Option.some.injEq, Addr.mk.injEq, and_true] at he
 obtain ⟨rfl, rfl⟩ := he
 exact ⟨hb, hc⟩
theorem flat_ne {α : Type} {f : α → List Value} {k : Nat} {l : List α} (hk : ∀ x, (f x).length = k) (h0 : 0 < k) (hl : l ≠ []) : l.flatMap f ≠ [] := by
 intro e
 have := flat_len f k hk l
 rw [e, List.length_nil] at this
 have : 0 < l.length * k := Nat.mul_pos (List.length_pos_iff.2 hl) h0
 omega
end Go.Proofs.Ytjmeakfjfpnciaa
namespace Go.Proofs.Ytjmeakfjfpnciaa
open Go.RowKit
theorem pl_zero {l : List Int} (h : placesE l = 0) : l.length ≤ 16 ∧ l.length ≠ 0 ∧ OkP l ∧ l.Nodup := by
 unfold placesE at h
 by_cases h1 : 16 < l.length
 ·rw [if_pos h1] at h; cases h
 rw [if_neg h1] at h
 by_cases h2 : l.length = 0
 ·rw [if_pos h2] at h; cases h
 rw [if_neg h2] at h
 by_cases h3 : l.any outP = true
 ·rw [if_pos h3] at h; cases h
 rw [if_neg h3] at h
 by_cases h4 : l.Nodup
 ·refine ⟨by omega, h2, fun b hb => ?_, h4⟩
  exact outP_false (by simpa using (List.any_eq_false.1 (Bool.eq_false_iff.2 h3)) b hb)
 ·rw [if_neg h4] at h; cases h
theorem readE_zero {f : ByteArray → Bool} {bad : Nat} (hb : bad ≠ 0) {l : List Int} {xs : List ByteArray} (h : readE f bad l xs = 0) : placesE l = 0 ∧ l.length = xs.length ∧ xs.all f = true := by
 unfold readE at h
 by_cases h1 : placesE l ≠ 0
 ·rw [if_pos h1] at h; exact absurd h h1
 rw [if_neg h1] at h
 by_cases h2 : l.length = xs.length
 ·rw [if_pos h2] at h
  by_cases h3 : xs.all f = true
  ·exact ⟨by omega, h2, h3⟩
  ·rw [if_neg h3] at h; exact absurd h hb
 ·rw [if_neg h2] at h; cases h
def valN (xs : List ByteArray) (i : Nat) : Nat := numOf (xs.getD i ⟨#[]⟩)
theorem valN_here {xs : List ByteArray} {i : Nat} (h : i < xs.length) : valN xs i = numOf xs[i] := by unfold valN; rw [List.getD_eq_getElem?_getD, List.getElem?_eq_getElem h]; rfl
def thrE (G : GP) (l : List Int) (xs : List ByteArray) (x : Int) : Nat := if readE (isSc G.q.m G.size) 6 l xs ≠ 0 then readE (isSc G.q.m G.size) 6 l xs else if outP x = true then 4 else 0
def thrS (G : GP) (l : List Int) (xs : List ByteArray) (x : Int) : ByteArray := if thrE G l xs x = 0 then textS (thQ G.q.m l (valN xs) x l.length) G.size else ⟨#[]⟩
theorem mont_zero8 (m : Nat) : mont m 0 = 0 := by unfold mont; simp
theorem dig_zero8 (i : Nat) : dig 0 i = 0 := by unfold dig; simp
theorem grp_odd (k : Nat) (h1 : 1 ≤ k) (h3 : k ≤ 3) : (grp k).q.m % 2 = 1 := by
 obtain rfl | rfl | rfl : k = 1 ∨ k = 2 ∨ k = 3 := by omega
 all_goals decide +kernel
theorem through_none (k : Int) (hk : ¬ (1 ≤ k ∧ k ≤ 3)) (v1 v2 : Value) (x : Int) (w : World) :
  Calls Try.prog 16 #[.int .i64 k, v1, v2, .int .i64 x] w (Gives (.tuple #[.string ⟨#[]⟩, .int .i64 1]) w) := by
 unfold Gives
 go_enter Try.func16, Try.ntmps16
 go_wp2_with fail
 refine (readSc_none k hk v1 v2 6 (grp 1) 0 [] w).mono ?_
 rintro e w1 ⟨hb9, p, v, rfl, _⟩
 have HB := Lib.hid hb9
 have HZS := Lib.hid hb9.size
 clear hb9
 go_wp2_with fail
 go_ret2
 exact ⟨rfl, HB.out⟩
theorem through_some (k : Nat) (h1 : 1 ≤ k) (h3 : k ≤ 3) (l : List Int) (n : Nat) (hn : l.length = n) (hnm : n ≤ 1152921504606846975) (xs : List ByteArray) (m : Nat) (hm : xs.length = m) (x : Int) (al ax : Option Addr) (cl cx : Nat) (w : World) (hL : Sl w w.heap.size al (l.map intV)) (hX : Sl w w.heap.size ax (xs.map Value.string)) :
  Calls Try.prog 16 #[.int .i64 (k : Int), .slice al n cl, .slice ax m cx, .int .i64 x] w (Gives (.tuple #[.string (thrS (grp k) l xs x), .int .i64 (thrE (grp k) l xs x : Int)]) w) := by
 unfold Gives
 have OK := Lib.hid (grp_ok k h1 h3)
 have HOD := Lib.hid (grp_odd k h1 h3)
 have HL := Lib.hid hL
 have HRD := Lib.hid (fun W h g => readSc_some k h1 h3 l n hn hnm xs m hm 6 (by decide) al ax cl cx W h g)
 have HX := Lib.hid hX
 obtain ⟨z, hz⟩ : ∃ z, readE (isSc (grp k).q.m (grp k).size) 6 l xs = z := ⟨_, rfl⟩
 obtain ⟨er, her⟩ : ∃ z, thrE (grp k) l xs x = z := ⟨_, rfl⟩
 obtain ⟨sr, hsr⟩ : ∃ z, thrS (grp k) l xs x = z := ⟨_, rfl⟩
 have hR0 := readE_zero (f := isSc (grp k).q.m (grp k).size) (bad := 6) (by decide) (l := l) (xs := xs)
 rw [hz] at hR0 HRD
 rw [her, hsr]
 unfold thrS at hsr
 rw [her] at hsr
 unfold thrE at her
 rw [hz] at her
 unfold ReadQ at HRD
 clear hz hL hX h1 h3
 by_cases hz0 : z = 0
 case neg =>
  have hd : ((z : Int) != 0) = true := by simp; omega
  obtain rfl : er = z := by rw [← her, if_pos hz0]
  obtain rfl : sr = ⟨#[]⟩ := by rw [← hsr, if_neg hz0]
  clear hz0 her hsr hR0 hn hm hnm
  go_enter Try.func16, Try.ntmps16
  go_wp2_with fail
  refine (HRD.out w HL.out HX.out).mono ?_
  rintro e w1 ⟨hb9, p, v, rfl, hx9⟩
  have HB := Lib.hid hb9
  have HZS := Lib.hid hb9.size
  clear hb9
  go_wp2_with fail
  go_ret2
  exact ⟨rfl, HB.out⟩
 subst hz0
 have hd : ((((0 : Nat) : Int)) != 0) = false := by simp
 rw [if_neg (by decide)] at her
 by_cases hx : outP x = true
 case pos =>
  obtain rfl : er = 4 := by rw [← her, if_pos hx]
  obtain rfl : sr = ⟨#[]⟩ := by rw [← hsr, if_neg (by decide)]
  have hdx : (x < 0) ∨ (255 < x ∧ ¬ x < 0) := by rcases outP_cases x with h | h | ⟨k9, rfl, _, h⟩; exact Or.inl h.1; exact Or.inr ⟨h.1, h.2.1⟩; rw [h] at hx; cases hx
  clear her hsr hR0 hn hm hnm hx
  rcases hdx with h1 | ⟨h2, h1⟩
  ·have hd1 : decide (x < 0) = true := decide_eq_true h1
   clear h1
   go_enter Try.func16, Try.ntmps16
   go_wp2_with fail
   refine (HRD.out w HL.out HX.out).mono ?_
   rintro e w1 ⟨hb9, p, v, rfl, hx9⟩
   have HB := Lib.hid hb9
   have HZS := Lib.hid hb9.size
   clear hb9
   go_wp2_with fail
   go_ret2
   exact ⟨rfl, HB.out⟩
  ·have hd1 : decide (x < 0) = false := decide_eq_false h1
   have hd2 : decide (x > 255) = true := decide_eq_true h2
   clear h1 h2
   go_enter Try.func16, Try.ntmps16
   go_wp2_with fail
   refine (HRD.out w HL.out HX.out).mono ?_
   rintro e w1 ⟨hb9, p, v, rfl, hx9⟩
   have HB := Lib.hid hb9
   have HZS := Lib.hid hb9.size
   clear hb9
   go_wp2_with fail
   go_ret2
   exact ⟨rfl, HB.out⟩
 have hxo := outP_false (Bool.eq_false_iff.2 hx)
 obtain rfl : er = 0 := by rw [← her, if_neg hx]
 rw [if_pos rfl] at hsr
 obtain ⟨hpl, hlm, hall⟩ := hR0 rfl
 obtain ⟨h16, h0, hok, hnd⟩ := pl_zero hpl
 have hth := th_eq (grp k).q.m (by have := OK.out.odd; omega) HOD.out l hok (valN xs) x hxo l.length (Nat.le_refl _)
 rw [← hth] at hsr
 obtain rfl : m = n := by omega
 have HW := Lib.hid (fun gb a c W h g => weights_any (grp k) OK.out gb l m hn (by omega) hok x hxo a c W h g)
 unfold WtR at HW
 rw [hn] at HW hsr
 have HVN := Lib.hid (fun i (hi : i < xs.length) => valN_here hi)
 have HM := Lib.hid hm
 have HSR := Lib.hid hsr
 have hd1 : decide (x < 0) = false := decide_eq_false (by omega)
 have hd2 : decide (x > 255) = false := decide_eq_false (by omega)
 have hm16 : m ≤ 16 := by omega
 clear her hsr hn hm hnm hx hxo hpl hlm hall h16 h0 hok hnd hth hR0
 go_enter Try.func16, Try.ntmps16
 go_wp2_with fail
 refine (HRD.out w HL.out HX.out).mono ?_
 rintro e w1 ⟨hb9, p, v, rfl, hx9⟩
 have HB := Lib.hid hb9
 have HZS := Lib.hid hb9.size
 have HRK := Lib.hid hx9
 clear hx9 hb9
 obtain ⟨gb, a, c, rfl, rfl, hg9, hs9, _⟩ := HRK.out (by simp)
 rw [HM.out]
 have HG := Lib.hid hg9
 have HS := Lib.hid hs9
 clear hg9 hs9 HRK
 have BS := Lib.hid (Below.refl w1.heap.size w1)
 have HGL := Lib.hid HG.out.lt
 replace HZS := sz HZS HGL.out
 obtain ⟨w2, hq2, hb9, hz9, Hsm⟩ := new1 w1 98 ([.int .u64 0, .int .u64 0, .int .u64 0, .int .u64 0])
 replace HG := Lib.hid (HG.out.up hb9)
 replace BS := hbu BS hb9
 replace HB := hbu HB hb9
 replace HZS := sz HZS hz9.out
 clear hb9 hz9
 go_wp2_with fail
 clear hq2
 refine (HW.out gb al cl w2 HG.out (HL.out.up HB.out)).mono ?_
 rintro e w3 ⟨hb9, aw, cw, rfl, hx9, hf9⟩
 replace Hsm := Lib.hid (Hsm.out.up hb9)
 replace HG := Lib.hid (HG.out.up hb9)
 replace BS := hbu BS hb9
 replace HB := hbu HB hb9
 replace HZS := sz HZS hb9.size
 have HWS := Lib.hid hx9
 clear hx9
 have HWF := Lib.hid hf9
 clear hf9 hb9
 have HSX := Lib.hid (HS.out.up BS.out)
 have HSL := Lib.hid (fun y (hy : a = some y) (hne : xs.flatMap (limC (grp k).q.m) ≠ []) => HS.out.lt hne y hy)
 clear BS HS
 have HKS := Lib.hid (Kept.refl (fun q9 => q9 = w1.heap.size) w3)
 have HB0 := HB
 have HG0 := HG
 have HZK := HZS
 go_wp2_with fail
 go_loopw [40] (fun i wr => ∃ j : Nat, j ≤ m ∧ i = .int .i64 j ∧ Hid (Kept (fun q9 => q9 = w1.heap.size) w3 wr) ∧ Hid (Bx wr w1.heap.size 98 (lim4 (grp k).q.m (thU (grp k).q.m l (valN xs) x j)))) (fun i _ => m - (intOf i).toNat)
 case atStart => exact ⟨0, Nat.zero_le _, rfl, HKS, Lib.hid (show Bx w3 w1.heap.size 98 (lim4 (grp k).q.m 0) by unfold lim4; rw [mont_zero8]; simp only [dig_zero8]; exact Hsm.out)⟩
 case round =>
  clear Hsm HB HG HZS HKS
  obtain ⟨j, hj, rfl, HK, Hsm⟩ := hrel
  have HSZ := Lib.hid (show w.heap.size ≤ w1.heap.size ∧ w1.heap.size < w3.heap.size ∧ w3.heap.size ≤ wr.heap.size ∧ gb < w1.heap.size ∧ w1.heap.size < w2.heap.size from ⟨by have := HZK.out; omega, by have := HZK.out; omega, HK.out.size, HGL.out, by have := HZK.out; omega⟩)
  have HB := Lib.hid (Below.keptP HB0.out HK.out (by have := HSZ.out; omega) (fun q9 h9 => (show w.heap.size ≤ _ by subst h9; have := HSZ.out; omega)))
  have HGP := Lib.hid (HG0.out.keptP HK.out (show ¬ (gb = w1.heap.size) by have := HSZ.out; omega))
  have HW1 := Lib.hid (HWS.out.kept HK.out (fun y hy hq => by have := HWF.out y hy; have := HSZ.out; have hq : y.block = w1.heap.size := hq; omega))
  by_cases hjm : j < m
  ·have hjx : j < xs.length := by rw [HM.out]; exact hjm
   have HX1 := Lib.hid (HSX.out.kept HK.out (fun y hy hq => by have := HSL.out y hy (flat_ne (limC_len _) (by omega) (by rw [← List.length_pos_iff]; omega)); have hq : y.block = w1.heap.size := hq; omega))
   have HW2 := Lib.hid (show Sl wr wr.heap.size aw ((List.range m).flatMap fun i => lim4 (grp k).q.m (wtN (grp k).q.m l i x)) from HW1.out)
   obtain ⟨bw, ow, rfl, hbw⟩ := HW2.out.adr (flat_ne (fun i => lim4_len _ _) (by omega) (by rw [← List.length_pos_iff, List.length_range]; omega))
   obtain ⟨bv, ov, rfl, hbv⟩ := HX1.out.adr (flat_ne (limC_len _) (by omega) (by rw [← List.length_pos_iff]; omega))
   have hcw := (HW2.out.elemS (fun i => lim4_len _ _) (by omega) j (by simpa using hjm)).2
   rw [List.getElem_range] at hcw
   have hcv := (HX1.out.elemS (limC_len _) (by omega) j hjx).2
   have hcw_0 := hcw 0 _ rfl
   rw [Nat.add_zero] at hcw_0
   have hcw_1 := hcw 1 _ rfl
   have hcw_2 := hcw 2 _ rfl
   have hcw_3 := hcw 3 _ rfl
   clear hcw
   have hcv_0 := hcv 0 _ rfl
   rw [Nat.add_zero] at hcv_0
   have hcv_1 := hcv 1 _ rfl
   have hcv_2 := hcv 2 _ rfl
   have hcv_3 := hcv 3 _ rfl
   clear hcv
   have HVJ := Lib.hid (HVN.out j hjx)
   generalize xs[j] = v at *
   have HTS := Lib.hid (show thU (grp k).q.m l (valN xs) x (j + 1) = thU (grp k).q.m l (valN xs) x j + wtN (grp k).q.m l j x * numOf v by rw [← HVJ.out]; rfl)
   generalize thU (grp k).q.m l (valN xs) x j = th at *
   generalize wtN (grp k).q.m l j x = wt at *
   have HBV := Lib.hid hbv
   replace Hsm := Lib.hid (show Bx wr w1.heap.size 98 [.int .u64 (dig (mont (grp k).q.m th) 0 : Int), .int .u64 (dig (mont (grp k).q.m th) 1 : Int), .int .u64 (dig (mont (grp k).q.m th) 2 : Int), .int .u64 (dig (mont (grp k).q.m th) 3 : Int)] from Hsm.out)
   have HZS := HSZ
   replace HZS := sz HZS HBV.out
   have sm_ := Hsm.out.c4
   have HCV := Lib.hid (fun (W : World) (h : Below wr.heap.size wr W) => And.intro ((h.cell (p := ⟨bv, ov + j * 4, none⟩) hbv).trans hcv_0) (And.intro ((h.cell (p := ⟨bv, ov + j * 4 + 1, none⟩) hbv).trans hcv_1) (And.intro ((h.cell (p := ⟨bv, ov + j * 4 + 2, none⟩) hbv).trans hcv_2) ((h.cell (p := ⟨bv, ov + j * 4 + 3, none⟩) hbv).trans hcv_3))))
   clear hcv_0 hcv_1 hcv_2 hcv_3 hbv
   have BV := Lib.hid (Below.refl wr.heap.size wr)
   have o4_sm_ := sm_; clear sm_
   obtain ⟨w4, hq4, hb9, hz9, Hwb⟩ := new1 wr 98 [.int .u64 (dig (mont (grp k).q.m wt) 0 : Int), .int .u64 (dig (mont (grp k).q.m wt) 1 : Int), .int .u64 (dig (mont (grp k).q.m wt) 2 : Int), .int .u64 (dig (mont (grp k).q.m wt) 3 : Int)]
   replace Hsm := Lib.hid (Hsm.out.up hb9)
   replace HGP := Lib.hid (HGP.out.up hb9)
   replace BV := hbu BV hb9
   replace HK := Lib.hid (Kept.up HK.out hb9)
   replace HB := hbu HB hb9
   replace HZS := sz HZS hz9.out
   clear hb9 hz9
   have sm_ := Hsm.out.c4
   have wb_ := Hwb.out.c4
   go_wp2_with fail
   clear hq4 o4_sm_ hcw_0 hcw_1 hcw_2 hcw_3 hbw
   have hcv := HCV.out _ BV.out
   have hbv := Nat.lt_of_lt_of_le HBV.out BV.out.size
   have HT := Lib.hid (show Below w4.heap.size w4 w4.drew from (Below.refl _ _).drew)
   have hl_sm := Hsm.out.lt
   have hl_wb := Hwb.out.lt
   refine wp_region_treek (fun wq9 => ∃ E : Over w4, wq9 = E.w) 10 ((.qs [0] (.e 1 [] (.qs [2] (.e 3 [] (.qs [4, 5, 6] (.e 7 [] (.a 8 (.a 9 (.a 10 .done)))))))))) (by kernel_rfl) (by kernel_rfl) (fun _ _ d _ _ h => by cases d <;> exact h) ⟨⟨_, HT.out⟩, rfl⟩ ?_
   have hov_sm := fun (E : Over w4) o => E.cell (b := w1.heap.size) o hl_sm
   have hov_wb := fun (E : Over w4) o => E.cell (b := wr.heap.size) o hl_wb
   have hov_bv := fun (E : Over w4) o => E.cell (b := bv) o hbv
   simp only [TreeK.qs]
   repeat (first | (refine treek_q rfl rfl ?_; go_big_quiet_step (fail); refine wpQuiet_nil ?_) | (refine treek_e rfl rfl ?_; go_big_quiet_step (fail); refine wpQuiet_nil ?_))
   refine treek_a rfl (fun K hK => ?_)
   go_simp
   refine (gMul_any (grp k) OK.out gb wt (numOf v) _ (HGP.out.up HT.out)).mono ?_
   rintro e w5 ⟨rfl, hb9⟩
   replace HT := Lib.hid (below_up HT.out hb9)
   replace HZS := sz HZS (show w4.heap.size ≤ w5.heap.size from HT.out.size)
   clear hb9
   refine hK _ _ ⟨fun _ => ⟨⟨w5, HT.out⟩, rfl⟩, ?_⟩
   clear hK K
   repeat (first | (refine treek_q rfl rfl ?_; go_big_quiet_step (fail); refine wpQuiet_nil ?_) | (refine treek_e rfl rfl ?_; go_big_quiet_step (fail); refine wpQuiet_nil ?_))
   refine treek_a rfl (fun K hK => ?_)
   go_simp
   refine (gAdd_any (grp k) OK.out gb th (wt * numOf v) _ (HGP.out.up HT.out)).mono ?_
   rintro e w6 ⟨rfl, hb9⟩
   replace HT := Lib.hid (below_up HT.out hb9)
   replace HZS := sz HZS (show w4.heap.size ≤ w6.heap.size from HT.out.size)
   clear hb9
   unfold scV limbV
   refine hK _ _ ⟨fun _ => ⟨⟨w6, HT.out⟩, rfl⟩, ?_⟩
   clear hK K
   repeat (first | (refine treek_q rfl rfl ?_; go_big_quiet_step (fail); refine wpQuiet_nil ?_) | (refine treek_e rfl rfl ?_; go_big_quiet_step (fail); refine wpQuiet_nil ?_))
   clear hov_sm hl_sm hov_wb hl_wb hov_bv
   refine treek_a rfl (fun K hK => ?_)
   clear sm_
   replace Hsm := Lib.hid (Hsm.out.up HT.out)
   clear wb_
   replace Hwb := Lib.hid (Hwb.out.up HT.out)
   replace HGP := Lib.hid (HGP.out.up HT.out)
   replace HK := Lib.hid (Kept.up HK.out HT.out)
   replace HB := hbu HB HT.out
   replace HZS := sz HZS HT.out.size
   clear HT
   have sm_ := Hsm.out.c4
   have wb_ := Hwb.out.c4
   have f7_sm := Hsm.out.frozen
   have o7_sm_ := sm_; clear sm_
   have o7_wb_ := wb_; clear wb_
   obtain ⟨w7, hq7, hg9, hz9, hx9⟩ := put4 Hsm 0 (.int .u64 (dig (mont (grp k).q.m (th + wt * numOf v)) 0 : Int)) 1 (.int .u64 (dig (mont (grp k).q.m (th + wt * numOf v)) 1 : Int)) 2 (.int .u64 (dig (mont (grp k).q.m (th + wt * numOf v)) 2 : Int)) 3 (.int .u64 (dig (mont (grp k).q.m (th + wt * numOf v)) 3 : Int)) [.int .u64 (dig (mont (grp k).q.m (th + wt * numOf v)) 0 : Int), .int .u64 (dig (mont (grp k).q.m (th + wt * numOf v)) 1 : Int), .int .u64 (dig (mont (grp k).q.m (th + wt * numOf v)) 2 : Int), .int .u64 (dig (mont (grp k).q.m (th + wt * numOf v)) 3 : Int)] rfl
   replace Hwb := Lib.hid (Hwb.out.grown hg9.out (sne (by have g0 := HZS.out; omega)))
   replace HGP := Lib.hid (HGP.out.grown hg9.out (sne (by have g0 := HZS.out; omega)))
   replace HK := Lib.hid (Kept.grown HK.out hg9.out (fun q9 e9 => by obtain rfl := Option.some.inj e9; exact Or.inr (rfl)))
   replace HB := hbg HB hg9 (by have g0 := HZS.out; omega)
   replace HZS := sz HZS hz9.out
   replace Hsm := hx9
   clear hx9 hg9 hz9
   have sm_ := Hsm.out.c4
   have wb_ := Hwb.out.c4
   go_simp
   try rw [hq7]
   refine hK _ _ ⟨fun h9 => absurd rfl h9, ?_⟩
   clear hK K hq7 o7_wb_ o7_sm_ f7_sm
   repeat (first | (refine treek_q rfl rfl ?_; go_big_quiet_step (fail); refine wpQuiet_nil ?_) | (refine treek_e rfl rfl ?_; go_big_quiet_step (fail); refine wpQuiet_nil ?_))
   refine treek_end ?_
   go_wp2_with fail
   go_roundw
   case rel => exact ⟨j + 1, by omega, by go_num, HK, by rw [HTS.out]; exact Hsm⟩
   case measure => simp [intOf]; omega
  ·have hjm' : j = m := by omega
   subst hjm'
   have hsm := HSR.out
   generalize thU (grp k).q.m l (valN xs) x j = th at *
   replace Hsm := Lib.hid (show Bx wr w1.heap.size 98 [.int .u64 (dig (mont (grp k).q.m th) 0 : Int), .int .u64 (dig (mont (grp k).q.m th) 1 : Int), .int .u64 (dig (mont (grp k).q.m th) 2 : Int), .int .u64 (dig (mont (grp k).q.m th) 3 : Int)] from Hsm.out)
   have HZS := HSZ
   have sm_ := Hsm.out.c4
   go_wp2_with fail
   refine (gPut_any (grp k) OK.out gb th wr HGP.out).mono ?_
   rintro e w4 ⟨rfl, hb9⟩
   clear sm_
   replace Hsm := Lib.hid (Hsm.out.up hb9)
   replace HGP := Lib.hid (HGP.out.up hb9)
   replace HB := hbu HB hb9
   replace HZS := sz HZS hb9.size
   clear hb9
   have sm_ := Hsm.out.c4
   rw [hsm]
   go_wp2_with fail
   go_ret2
   exact ⟨rfl, HB.out⟩
end Go.Proofs.Ytjmeakfjfpnciaa
namespace Go.Proofs.Ytjmeakfjfpnciaa
open Go.RowKit
theorem prm_int {p : Nat} (hp : IsPrime p) : Prm (p : Int) := fun a b h => by
 have h1 : p ∣ a.natAbs * b.natAbs := by
  rw [← Int.natAbs_mul]
  exact Int.ofNat_dvd_left.1 h
 rcases hp.dvd_mul h1 with h | h
 ·exact Or.inl (Int.ofNat_dvd_left.2 h)
 ·exact Or.inr (Int.ofNat_dvd_left.2 h)
theorem one_nd {p : Nat} (hp : IsPrime p) : ¬ (p : Int) ∣ 1 := fun h => by
 have h1 : p ∣ 1 := by have := Int.ofNat_dvd_left.1 h; simpa using this
 have := Nat.le_of_dvd (by omega) h1
 have := hp.1
 omega
theorem fermat_int {p : Nat} (hp : IsPrime p) (d : Int) (h : ¬ (p : Int) ∣ d) : Cg (p : Int) (d * d ^ (p - 2)) 1 := by
 have h2 := hp.1
 obtain ⟨a, ha⟩ : ∃ a : Nat, d % (p : Int) = a := ⟨(d % (p : Int)).toNat, by rw [Int.toNat_of_nonneg (Int.emod_nonneg d (by omega))]⟩
 have hd : Cg (p : Int) d (a : Int) := by rw [← ha]; exact (Cg.mod _ _).symm
 have hna : ¬ p ∣ a := fun e => h (by
  have h3 : (p : Int) ∣ (a : Int) := Int.natCast_dvd_natCast.2 e
  have h4 := hd
  unfold Cg at h4
  have := Int.dvd_add h4 h3
  rwa [show d - (a : Int) + (a : Int) = d by omega] at this)
 refine (hd.mul (hd.pow (p - 2))).trans ?_
 have hf := fermat hp hna
 have e : (a : Int) * (a : Int) ^ (p - 2) = ((a ^ (p - 1) : Nat) : Int) := by
  rw [← Int.natCast_pow, ← Int.natCast_mul, ← Nat.pow_succ', show (p - 2).succ = p - 1 by omega]
 rw [e]
 have h5 : Cg (p : Int) ((a ^ (p - 1) : Nat) : Int) ((1 : Nat) : Int) := Cg.of_nat hf
 exact h5
theorem dis_of {q : Nat} (hq : 255 < q) : ∀ {l : List Int}, OkP l → l.Nodup → Dis (q : Int) l
 | [], _, _ => List.Pairwise.nil
 | a :: l, hl, hn => by
  obtain ⟨h1, h2⟩ := List.nodup_cons.1 hn
  refine List.pairwise_cons.2 ⟨fun b hb hd => ?_, dis_of hq (fun x hx => hl x (List.mem_cons_of_mem _ hx)) h2⟩
  have ha := hl a (List.mem_cons_self ..)
  have hb2 := hl b (List.mem_cons_of_mem _ hb)
  have hne : a ≠ b := fun e => h1 (e ▸ hb)
  obtain ⟨k, hk⟩ := hd
  rcases Int.lt_trichotomy k 0 with h | h | h
  ·have : (q : Int) * k ≤ (q : Int) * (-1) := Int.mul_le_mul_of_nonneg_left (by omega) (by omega)
   omega
  ·subst h
   simp at hk
   omega
  ·have : (q : Int) * 1 ≤ (q : Int) * k := Int.mul_le_mul_of_nonneg_left (by omega) (by omega)
   omega
def valAt (q : Nat) (l : List Int) (v : Nat → Nat) (x : Int) : Nat := thQ q l v x l.length
section
variable {q : Nat} {l : List Int} {v : Nat → Nat}
theorem valAt_lt (hq : 0 < q) (hn : l ≠ []) (x : Int) : valAt q l v x < q := by
 unfold valAt
 match h : l.length with
 | 0 => exact absurd (List.length_eq_zero_iff.1 h) hn
 | n + 1 => exact Nat.mod_lt _ hq
theorem valAt_cg (hq : 255 ≤ q) (ho : q % 2 = 1) (hl : OkP l) (x : Int) (hx : 0 ≤ x ∧ x ≤ 255) : Cg (q : Int) (valAt q l v x : Int) (lagr (fun d => d ^ (q - 2)) l (fun j => (v j : Int)) x) := by
 unfold valAt
 rw [← th_eq q hq ho l hl v x hx l.length (Nat.le_refl _)]
 exact (Cg.natmod _ _).trans (thU_lagr q (by omega) l v x)
theorem valAt_at (hp : IsPrime q) (hq : 255 < q) (ho : q % 2 = 1) (hl : OkP l) (hn : l.Nodup) (k : Nat) (hk : k < l.length) (hv : v k < q) : valAt q l v l[k] = v k := by
 have h1 := (valAt_cg (v := v) (by omega) ho hl l[k] (hl _ (List.getElem_mem hk))).trans (lagr_at (prm_int hp) (one_nd hp) _ (fermat_int hp) l (dis_of hq hl hn) (fun j => (v j : Int)) k hk)
 have h2 := Cg.nat h1
 rwa [Nat.mod_eq_of_lt (valAt_lt (by omega) (fun e => by subst e; simp at hk) _), Nat.mod_eq_of_lt hv] at h2
theorem valAt_again (hp : IsPrime q) (hq : 255 < q) (ho : q % 2 = 1) (hl : OkP l) (hne : l ≠ []) {m : List Int} (hm : OkP m) (hmn : m.Nodup) {u : Nat → Nat} (hu : ∀ k (hk : k < m.length), u k = valAt q l v m[k]) (hlm : l.length ≤ m.length) (x : Int) (hx : 0 ≤ x ∧ x ≤ 255) : valAt q m u x = valAt q l v x := by
 have h1 := (valAt_cg (v := u) (by omega) ho hm x hx).trans (lagr_uniq (prm_int hp) (one_nd hp) _ (fermat_int hp) m (dis_of hq hm hmn) (fun j => (u j : Int)) (lagr_deg (fun d => d ^ (q - 2)) l (fun j => (v j : Int))) hlm (fun k hk => by
  show Cg (q : Int) _ ((u k : Nat) : Int)
  rw [hu k hk]
  exact (valAt_cg (by omega) ho hl _ (hm _ (List.getElem_mem hk))).symm) x)
 have h2 := Cg.nat (h1.trans (valAt_cg (v := v) (by omega) ho hl x hx).symm)
 have hne2 : m ≠ [] := fun e => hne (List.length_eq_zero_iff.1 (by rw [e] at hlm; simpa using hlm))
 rwa [Nat.mod_eq_of_lt (valAt_lt (by omega) hne2 _), Nat.mod_eq_of_lt (valAt_lt (by omega) hne _)] at h2
end
theorem textS_sc {q sz : Nat} {s : ByteArray} (h : isSc q sz s = true) : textS (numOf s) sz = s := by
 unfold isSc at h
 simp only [Bool.and_eq_true, decide_eq_true_eq] at h
 rw [← h.1]
 exact text_numOf s
theorem sc_num {q sz : Nat} {s : ByteArray} (h : isSc q sz s = true) : numOf s < q := by
 unfold isSc at h
 simp only [Bool.and_eq_true, decide_eq_true_eq] at h
 exact h.2
theorem num_textS {G : GP} (ok : G.Ok) {x : Nat} (h : x < G.q.m) : numOf (textS x G.size) = x := by
 rw [numOf_textS, Nat.mod_eq_of_lt (Nat.lt_of_lt_of_le h ok.fits)]
theorem sc_textS {G : GP} (ok : G.Ok) {x : Nat} (h : x < G.q.m) : isSc G.q.m G.size (textS x G.size) = true := by
 unfold isSc
 rw [textS_size, num_textS ok h, decide_eq_true h]
 simp
theorem valN_lt {q sz : Nat} {xs : List ByteArray} (hq : 0 < q) (h : xs.all (isSc q sz) = true) (i : Nat) : valN xs i < q := by
 by_cases hi : i < xs.length
 ·rw [valN_here hi]
  exact sc_num (List.all_eq_true.1 h _ (List.getElem_mem hi))
 ·unfold valN
  rw [List.getD_eq_getElem?_getD, List.getElem?_eq_none (by omega)]
  exact hq
theorem thr_zero {G : GP} {l : List Int} {xs : List ByteArray} {x : Int} (h : thrE G l xs x = 0) : (l.length ≤ 16 ∧ l.length ≠ 0 ∧ OkP l ∧ l.Nodup) ∧ l.length = xs.length ∧ xs.all (isSc G.q.m G.size) = true ∧ 0 ≤ x ∧ x ≤ 255 ∧ thrS G l xs x = textS (valAt G.q.m l (valN xs) x) G.size := by
 have hs : thrS G l xs x = textS (valAt G.q.m l (valN xs) x) G.size := by unfold thrS valAt; rw [if_pos h]
 unfold thrE at h
 by_cases h0 : readE (isSc G.q.m G.size) 6 l xs ≠ 0
 ·rw [if_pos h0] at h; exact absurd h h0
 rw [if_neg h0] at h
 obtain ⟨a, b, c⟩ := readE_zero (by decide) (show readE (isSc G.q.m G.size) 6 l xs = 0 by omega)
 by_cases h1 : outP x = true
 ·rw [if_pos h1] at h; cases h
 have h2 := outP_false (Bool.eq_false_iff.2 h1)
 exact ⟨pl_zero a, b, c, h2.1, h2.2, hs⟩
theorem pl_ok {l : List Int} (h1 : l.length ≤ 16) (h2 : l.length ≠ 0) (h3 : OkP l) (h4 : l.Nodup) : placesE l = 0 := by
 unfold placesE
 rw [if_neg (by omega), if_neg h2, if_neg, if_pos h4]
 intro h
 obtain ⟨b, hb, h5⟩ := List.any_eq_true.1 h
 have := h3 b hb
 unfold outP at h5
 simp at h5
 omega
theorem thr_ok {G : GP} {l : List Int} {xs : List ByteArray} {x : Int} (h1 : l.length ≤ 16) (h2 : l.length ≠ 0) (h3 : OkP l) (h4 : l.Nodup) (h5 : l.length = xs.length) (h6 : xs.all (isSc G.q.m G.size) = true) (h7 : 0 ≤ x ∧ x ≤ 255) : thrE G l xs x = 0 := by
 have h9 : readE (isSc G.q.m G.size) 6 l xs = 0 := by
  unfold readE
  rw [if_neg (by rw [pl_ok h1 h2 h3 h4]; decide), if_pos h5, if_pos h6]
 unfold thrE
 rw [if_neg (by rw [h9]; decide), if_neg]
 unfold outP
 simp
 exact h7
theorem pl_errs (l : List Int) : placesE l = 0 ∨ placesE l = 3 ∨ placesE l = 2 ∨ placesE l = 4 ∨ placesE l = 10 := by
 unfold placesE
 by_cases h1 : 16 < l.length
 ·rw [if_pos h1]; simp
 rw [if_neg h1]
 by_cases h2 : l.length = 0
 ·rw [if_pos h2]; simp
 rw [if_neg h2]
 by_cases h3 : l.any outP = true
 ·rw [if_pos h3]; simp
 rw [if_neg h3]
 by_cases h4 : l.Nodup
 ·rw [if_pos h4]; simp
 ·rw [if_neg h4]; simp
theorem thr_errs (G : GP) (l : List Int) (xs : List ByteArray) (x : Int) : thrE G l xs x = 0 ∨ thrE G l xs x = 3 ∨ thrE G l xs x = 2 ∨ thrE G l xs x = 4 ∨ thrE G l xs x = 10 ∨ thrE G l xs x = 6 := by
 unfold thrE readE
 have := pl_errs l
 by_cases h1 : placesE l ≠ 0
 ·rw [if_pos h1, if_pos h1]; omega
 rw [if_neg h1]
 by_cases h2 : l.length = xs.length
 ·rw [if_pos h2]
  by_cases h3 : xs.all (isSc G.q.m G.size) = true
  ·rw [if_pos h3, if_neg (by decide)]
   by_cases h4 : outP x = true
   ·rw [if_pos h4]; simp
   ·rw [if_neg h4]; simp
  ·rw [if_neg h3, if_pos (by decide)]; simp
 ·rw [if_neg h2, if_pos (by decide)]; simp
theorem thr_at (k : Nat) (h1 : 1 ≤ k) (h3 : k ≤ 3) {l : List Int} {xs : List ByteArray} {i : Nat} (hi : i < l.length) (hx : i < xs.length) (h : thrE (grp k) l xs l[i] = 0) : thrS (grp k) l xs l[i] = xs[i] := by
 obtain ⟨⟨_, _, a3, a4⟩, b, c, _, _, e⟩ := thr_zero h
 have ok := grp_ok k h1 h3
 have hs := List.all_eq_true.1 c _ (List.getElem_mem hx)
 rw [e, valAt_at (grp_prime_q k h1 h3) (by have := ok.odd; omega) (grp_odd k h1 h3) a3 a4 i hi (valN_lt ok.q.pos c i), valN_here hx]
 exact textS_sc hs
theorem thr_again (k : Nat) (h1 : 1 ≤ k) (h3 : k ≤ 3) {l m : List Int} {xs ys : List ByteArray} {x : Int} (hys : ys.length = m.length) (hy : ∀ i (hi : i < m.length), thrE (grp k) l xs m[i] = 0 ∧ ys[i]'(by omega) = thrS (grp k) l xs m[i]) (hlm : l.length ≤ m.length) (hm0 : m.length ≠ 0) (hx : 0 ≤ x ∧ x ≤ 255) (hz : thrE (grp k) m ys x = 0) : thrS (grp k) m ys x = thrS (grp k) l xs x ∧ thrE (grp k) l xs x = 0 := by
 have ok := grp_ok k h1 h3
 obtain ⟨⟨a1, a2, a3, a4⟩, b, c, _, _, e⟩ := thr_zero hz
 obtain ⟨⟨c1, c2, c3, c4⟩, d, f, _, _, _⟩ := thr_zero (hy 0 (by omega)).1
 have g := thr_ok (x := x) c1 c2 c3 c4 d f hx
 obtain ⟨_, _, _, _, _, e2⟩ := thr_zero g
 refine ⟨?_, g⟩
 have hln : l ≠ [] := fun h => c2 (by rw [h]; rfl)
 rw [e, e2, valAt_again (l := l) (v := valN xs) (grp_prime_q k h1 h3) (by have := ok.odd; omega) (grp_odd k h1 h3) c3 hln a3 a4 (fun i hi => ?_) hlm x hx]
 obtain ⟨_, _, _, _, _, e3⟩ := thr_zero (hy i hi).1
 rw [valN_here (by omega), (hy i hi).2, e3, num_textS ok (valAt_lt ok.q.pos hln _)]
end Go.Proofs.Ytjmeakfjfpnciaa
namespace Go.Proofs.Ytjmeakfjfpnciaa
open Go.ChangeShapes Go.WideShapes Go.ChangeAt Go.RowKit
theorem law_own : ownKnob Try.prog.godebug = none := by kernel_rfl
theorem law_laidOut : laidOutB Try.prog = true := by kernel_rfl
section
variable {H : Type} {enc : TypeId × Value → H} {P : Program} {w : World}
theorem add_plain (b off i : Nat) : (⟨b, off, none⟩ : Addr).add i = ⟨b, off + i, none⟩ := by unfold Addr.add; split <;> simp_all
end
end Go.Proofs.Ytjmeakfjfpnciaa
