/- Texts of this seat, one behind the other: what SigmaExtracts leans on. No condition beyond those that each names. -/
import Derived.Test.YtipgjookfdkciaaZSigmaExtracts2
import Derived.Deep.CutRange
import Derived.IntWalk
import Derived.Shelf.Abstract
import Derived.Deep.LoopGhost

/- The group of a kind: numbers, and what is reduced. No condition. -/
namespace Go.Proofs.Ytipgjookfdkciaa
open Go.RowKit

theorem numL_snoc (c : UInt8) : ∀ l : List UInt8, numL (l ++ [c]) = numL l * 256 + c.toNat
  | [] => by simp [numL]
  | d :: t => by
    rw [List.cons_append, numL, numL, numL_snoc c t, List.length_append, List.length_singleton, Nat.pow_succ, Nat.add_mul, Nat.mul_assoc, Nat.add_assoc]

/-- What the first k bytes are. -/
def numHead (s : ByteArray) (k : Nat) : Nat := numL (s.data.toList.take k)
theorem numHead_zero (s : ByteArray) : numHead s 0 = 0 := by simp [numHead, numL]
theorem numHead_all (s : ByteArray) : numHead s s.size = numOf s := by
  have : s.data.toList.take s.size = s.data.toList := List.take_of_length_le (Nat.le_refl _)
  simp only [numHead, this, numOf]
theorem numHead_succ (s : ByteArray) (k : Nat) (hk : k < s.size) : numHead s (k + 1) = numHead s k * 256 + s[k].toNat := by
  have h : s.data.toList.take (k + 1) = s.data.toList.take k ++ [s[k]] := by
    rw [List.take_succ_eq_append_getElem (by simpa using hk)]; rfl
  rw [numHead, h, numL_snoc, numHead]

theorem numL_bytes (a : Nat) : ∀ size, numL ((textL a size size).map fun n => UInt8.ofNat n.toNat) = a % 256 ^ size
  | 0 => by simp [textL, numL, Nat.mod_one]
  | size + 1 => by
    have e : textL a (size + 1) (size + 1) = (byteAt a size : Int) :: textL a size size := by
      unfold textL
      rw [List.range_succ_eq_map, List.map_cons, List.map_map]
      congr 1
      · simp
      · refine List.map_congr_left fun p hp => ?_
        have hp' : p < size := by simpa using hp
        simp only [Function.comp_apply]
        rw [if_pos (by omega), if_pos (by omega), show size + 1 - 1 - (p + 1) = size - 1 - p by omega]
    rw [e, List.map_cons, numL, numL_bytes a size, List.length_map, textL_length]
    have hb : (UInt8.ofNat ((byteAt a size : Nat) : Int).toNat).toNat = a / 256 ^ size % 256 := by
      rw [Int.toNat_natCast, UInt8.toNat_ofNat']
      unfold byteAt
      omega
    rw [hb, Nat.pow_succ, Nat.mod_mul, Nat.add_comm, Nat.mul_comm]
theorem numOf_textS (a size : Nat) : numOf (textS a size) = a % 256 ^ size := numL_bytes a size
theorem textS_size (a size : Nat) : (textS a size).size = size := by rw [textS, strOfNums_size, textL_length]

theorem scV_mod (G : GP) (x : Nat) : scV G (x % G.q.m) = scV G x := by unfold scV; rw [mont_mod]
theorem scV_eq (G : GP) {x y : Nat} (h : x % G.q.m = y % G.q.m) : scV G x = scV G y := by rw [← scV_mod G x, ← scV_mod G y, h]

set_option maxHeartbeats 1000000 in
theorem gByte_any (G : GP) (ok : G.Ok) (gb c : Nat) (hc : c < 256) (w : World) (hG : GroupAt w gb G) :
    Calls Try.prog 186 #[.pointer (some ⟨gb, 0, none⟩), .int .u8 (c : Int)] w fun e w' => e = .returned (scV G c) ∧ Below w.heap.size w w' := by
  have OK := Lib.hid ok
  clear ok
  unfold scV limbV
  go_enter Try.func186, Try.ntmps186
  go_wp2_with fail
  obtain ⟨W0, hW0⟩ : ∃ W9 : World, (w.alloc (Obj.cells #[.int .u64 0, .int .u64 0, .int .u64 0, .int .u64 0] 91)) = W9 := ⟨_, rfl⟩
  rw [hW0]
  have hC : Blk W0 (w.heap.size) 91 [0, 0, 0, 0] := by
    rw [← hW0]
    have h := (Blk.new w 91 [0, 0, 0, 0] _ rfl)
    exact h
  have hBW : Below w.heap.size w W0 := by rw [← hW0]; exact ((Below.refl w.heap.size w).alloc (Nat.le_refl _) _)
  clear hW0
  have hG0 := hG.up hBW
  have HC := Lib.hid hC
  have HBW := Lib.hid hBW
  clear hC hBW hG
  refine wp_region_otail 12 (by kernel_rfl) (by kernel_rfl) ?_
  simp only [List.take_succ_cons, List.take_zero, List.drop_succ_cons, List.drop_zero]
  repeat (go_big_quiet_step (first | (go_at_call 181; exact calls_over (onceSmall G.q OK.out.q gb 15 c hc OK.out.odd _ (hG0.up (Over.h _)).q)) | (go_at_call 130; exact calls_over (inSmall G.q OK.out.q gb 15 c (by simp only [BB]; omega) _ (hG0.up (Over.h _)).q))))
  all_goals (try unfold limbV)
  repeat (go_big_quiet_step (first | (go_at_call 181; exact calls_over (onceSmall G.q OK.out.q gb 15 c hc OK.out.odd _ (hG0.up (Over.h _)).q)) | (go_at_call 130; exact calls_over (inSmall G.q OK.out.q gb 15 c (by simp only [BB]; omega) _ (hG0.up (Over.h _)).q))))
  all_goals (try unfold limbV)
  repeat (go_big_quiet_step (first | (go_at_call 181; exact calls_over (onceSmall G.q OK.out.q gb 15 c hc OK.out.odd _ (hG0.up (Over.h _)).q)) | (go_at_call 130; exact calls_over (inSmall G.q OK.out.q gb 15 c (by simp only [BB]; omega) _ (hG0.up (Over.h _)).q))))
  refine wpQuiet_nil ?_
  rintro _ ⟨E, rfl⟩
  have HZ := Lib.hid (HC.out.below E.h HC.out.lt)
  have HBB := Lib.hid (below_up HBW.out E.h)
  generalize E.w = w3 at *
  have HB5 := Lib.hid (below_fill (n := mont G.q.m c) (b := w.heap.size) HBB.out (by omega))
  have HS5 := Lib.hid (HZ.out.fill rfl (mont G.q.m c))
  have hz_0 := HZ.out.cell (i := 0) (x := 0) rfl
  have hz_1 := HZ.out.cell (i := 1) (x := 0) rfl
  have hz_2 := HZ.out.cell (i := 2) (x := 0) rfl
  have hz_3 := HZ.out.cell (i := 3) (x := 0) rfl
  have hzf_0 := HZ.out.frozen 0
  have hzf_1 := HZ.out.frozen 1
  have hzf_2 := HZ.out.frozen 2
  have hzf_3 := HZ.out.frozen 3
  go_wp2_with fail
  generalize (((((w3).setCell ⟨w.heap.size, 0, none⟩ (.int .u64 (dig (mont G.q.m c) 0 : Int))).setCell ⟨w.heap.size, 1, none⟩ (.int .u64 (dig (mont G.q.m c) 1 : Int))).setCell ⟨w.heap.size, 2, none⟩ (.int .u64 (dig (mont G.q.m c) 2 : Int))).setCell ⟨w.heap.size, 3, none⟩ (.int .u64 (dig (mont G.q.m c) 3 : Int))) = w5 at *
  clear hz_0 hz_1 hz_2 hz_3
  have hg_0 := HS5.out.cell (i := 0) (x := (dig (mont G.q.m c) 0 : Int)) rfl
  have hg_1 := HS5.out.cell (i := 1) (x := (dig (mont G.q.m c) 1 : Int)) rfl
  have hg_2 := HS5.out.cell (i := 2) (x := (dig (mont G.q.m c) 2 : Int)) rfl
  have hg_3 := HS5.out.cell (i := 3) (x := (dig (mont G.q.m c) 3 : Int)) rfl
  simp [bodyPost, results, Try.results186, go_sem, hg_0, hg_1, hg_2, hg_3]
  exact HB5.out

theorem Blk.fillOther {W : World} {b c : Nat} {t : TypeId} {xs : List Int} (h : Blk W b t xs) (hne : b ≠ c) (n : Nat) : Blk (((((W).setCell ⟨c, 0, none⟩ (.int .u64 (dig (n) 0 : Int))).setCell ⟨c, 1, none⟩ (.int .u64 (dig (n) 1 : Int))).setCell ⟨c, 2, none⟩ (.int .u64 (dig (n) 2 : Int))).setCell ⟨c, 3, none⟩ (.int .u64 (dig (n) 3 : Int))) b t xs :=
  (((h.other hne _ _).other hne _ _).other hne _ _).other hne _ _

set_option maxHeartbeats 1000000 in
theorem gReduce_any (G : GP) (ok : G.Ok) (gb : Nat) (s : ByteArray) (hs : s.size ≤ maxLen) (w : World) (hG : GroupAt w gb G) :
    Calls Try.prog 164 #[.pointer (some ⟨gb, 0, none⟩), .string s] w fun e w' => e = .returned (scV G (numOf s)) ∧ Below w.heap.size w w' := by
  unfold maxLen at hs
  have OK := Lib.hid ok
  clear ok
  unfold scV limbV
  go_enter Try.func164, Try.ntmps164
  go_wp2_with fail
  obtain ⟨W0, hW0⟩ : ∃ W9 : World, (((w.alloc (Obj.cells #[.int .u64 0, .int .u64 0, .int .u64 0, .int .u64 0] 91)).alloc (Obj.cells #[.int .u64 0, .int .u64 0, .int .u64 0, .int .u64 0] 91)).alloc (Obj.cells #[.int .u64 0, .int .u64 0, .int .u64 0, .int .u64 0] 91)) = W9 := ⟨_, rfl⟩
  rw [hW0]
  have hC : Blk W0 (w.heap.size) 91 [0, 0, 0, 0] := by
    rw [← hW0]
    have h := (((Blk.new w 91 [0, 0, 0, 0] _ rfl).alloc (Obj.cells #[.int .u64 0, .int .u64 0, .int .u64 0, .int .u64 0] 91)).alloc (Obj.cells #[.int .u64 0, .int .u64 0, .int .u64 0, .int .u64 0] 91))
    exact h
  have hO : Blk W0 (w.heap.size + 1) 91 [0, 0, 0, 0] := by
    rw [← hW0]
    have h := ((Blk.new (w.alloc (Obj.cells #[.int .u64 0, .int .u64 0, .int .u64 0, .int .u64 0] 91)) 91 [0, 0, 0, 0] _ rfl).alloc (Obj.cells #[.int .u64 0, .int .u64 0, .int .u64 0, .int .u64 0] 91))
    rw [World.size_alloc] at h
    exact h
  have hS : Blk W0 (w.heap.size + 2) 91 [0, 0, 0, 0] := by
    rw [← hW0]
    have h := (Blk.new ((w.alloc (Obj.cells #[.int .u64 0, .int .u64 0, .int .u64 0, .int .u64 0] 91)).alloc (Obj.cells #[.int .u64 0, .int .u64 0, .int .u64 0, .int .u64 0] 91)) 91 [0, 0, 0, 0] _ rfl)
    rw [World.size_alloc, World.size_alloc] at h
    exact h
  have hBW : Below w.heap.size w W0 := by rw [← hW0]; exact ((((Below.refl w.heap.size w).alloc (Nat.le_refl _) _).alloc (by simp) _).alloc (by simp; omega) _)
  clear hW0
  have HG := Lib.hid hG
  have HC := Lib.hid hC
  have HO := Lib.hid hO
  have HS := Lib.hid hS
  have HBW := Lib.hid hBW
  clear hG hC hO hS hBW
  refine (inSmall G.q OK.out.q gb 15 256 (by decide) W0 (HG.out.below HBW.out HG.out.lt).q).mono ?_
  rintro e w2 ⟨rfl, hb2⟩
  have HS2 := Lib.hid (HS.out.below hb2 HS.out.lt)
  have HB2 := Lib.hid (below_up HBW.out hb2)
  have HO3 : Hid (Blk (((((w2).setCell ⟨w.heap.size + 2, 0, none⟩ (.int .u64 (dig (mont G.q.m 256) 0 : Int))).setCell ⟨w.heap.size + 2, 1, none⟩ (.int .u64 (dig (mont G.q.m 256) 1 : Int))).setCell ⟨w.heap.size + 2, 2, none⟩ (.int .u64 (dig (mont G.q.m 256) 2 : Int))).setCell ⟨w.heap.size + 2, 3, none⟩ (.int .u64 (dig (mont G.q.m 256) 3 : Int))) (w.heap.size + 1) 91 (lim (mont G.q.m (numHead s 0)))) := by
    rw [numHead_zero, mont_zero]
    exact (HO.out.below hb2 HO.out.lt).fillOther (by omega) _
  have HC3 : Hid (Blk (((((w2).setCell ⟨w.heap.size + 2, 0, none⟩ (.int .u64 (dig (mont G.q.m 256) 0 : Int))).setCell ⟨w.heap.size + 2, 1, none⟩ (.int .u64 (dig (mont G.q.m 256) 1 : Int))).setCell ⟨w.heap.size + 2, 2, none⟩ (.int .u64 (dig (mont G.q.m 256) 2 : Int))).setCell ⟨w.heap.size + 2, 3, none⟩ (.int .u64 (dig (mont G.q.m 256) 3 : Int))) w.heap.size 91 [0, 0, 0, 0]) := (HC.out.below hb2 HC.out.lt).fillOther (by omega) _
  clear hb2 HO HS HC HBW
  unfold limbV
  have HS3 := Lib.hid (HS2.out.fill rfl (mont G.q.m 256))
  have HB3 := Lib.hid (below_fill (n := mont G.q.m 256) (b := w.heap.size + 2) HB2.out (by omega))
  have hz_0 := HS2.out.cell (i := 0) (x := 0) rfl
  have hz_1 := HS2.out.cell (i := 1) (x := 0) rfl
  have hz_2 := HS2.out.cell (i := 2) (x := 0) rfl
  have hz_3 := HS2.out.cell (i := 3) (x := 0) rfl
  have hzf_0 := HS2.out.frozen 0
  have hzf_1 := HS2.out.frozen 1
  have hzf_2 := HS2.out.frozen 2
  have hzf_3 := HS2.out.frozen 3
  go_wp2_with fail
  generalize (((((w2).setCell ⟨w.heap.size + 1 + 1, 0, none⟩ (.int .u64 (dig (mont G.q.m 256) 0 : Int))).setCell ⟨w.heap.size + 1 + 1, 1, none⟩ (.int .u64 (dig (mont G.q.m 256) 1 : Int))).setCell ⟨w.heap.size + 1 + 1, 2, none⟩ (.int .u64 (dig (mont G.q.m 256) 2 : Int))).setCell ⟨w.heap.size + 1 + 1, 3, none⟩ (.int .u64 (dig (mont G.q.m 256) 3 : Int))) = W3 at *
  clear hz_0 hz_1 hz_2 hz_3 hzf_0 hzf_1 hzf_2 hzf_3 HS2 HB2
  go_loopw [7, 16] (fun _ i wr => ∃ k : Nat, k ≤ s.size ∧ i = .int .i64 k ∧ Hid (Blk wr (w.heap.size + 1) 91 (lim (mont G.q.m (numHead s k)))) ∧ Hid (Blk wr (w.heap.size + 2) 91 (lim (mont G.q.m 256))) ∧ Hid (Blk wr w.heap.size 91 [0, 0, 0, 0]) ∧ Hid (Below w.heap.size w wr)) (fun _ i _ => s.size - (intOf i).toNat)
  case atStart => exact ⟨0, Nat.zero_le _, rfl, HO3.out, HS3.out, HC3.out, HB3.out⟩
  case round =>
    clear HO3 HS3 HC3 HB3
    obtain ⟨k, hk, rfl, HO, HS, HC, HB⟩ := hrel
    have ho_0 := HO.out.cell (i := 0) (x := (dig (mont G.q.m (numHead s k)) 0 : Int)) rfl
    have ho_1 := HO.out.cell (i := 1) (x := (dig (mont G.q.m (numHead s k)) 1 : Int)) rfl
    have ho_2 := HO.out.cell (i := 2) (x := (dig (mont G.q.m (numHead s k)) 2 : Int)) rfl
    have ho_3 := HO.out.cell (i := 3) (x := (dig (mont G.q.m (numHead s k)) 3 : Int)) rfl
    have hlo := HO.out.lt
    by_cases hkl : k < s.size
    · have hs_0 := HS.out.cell (i := 0) (x := (dig (mont G.q.m 256) 0 : Int)) rfl
      have hs_1 := HS.out.cell (i := 1) (x := (dig (mont G.q.m 256) 1 : Int)) rfl
      have hs_2 := HS.out.cell (i := 2) (x := (dig (mont G.q.m 256) 2 : Int)) rfl
      have hs_3 := HS.out.cell (i := 3) (x := (dig (mont G.q.m 256) 3 : Int)) rfl
      have hls := HS.out.lt
      have hG0 := HG.out.below HB.out HG.out.lt
      have hc256 := (s[k]'hkl).toNat_lt
      go_wp2_with fail
      refine wp_region_otail 11 (by kernel_rfl) (by kernel_rfl) ?_
      simp only [List.take_succ_cons, List.take_zero, List.drop_succ_cons, List.drop_zero]
      have hov0 := fun (E : Over wr) o => E.cell (b := w.heap.size + 1) o hlo
      have hov1 := fun (E : Over wr) o => E.cell (b := w.heap.size + 2) o hls
      repeat (go_big_quiet_step (first | (go_at_call 63; exact calls_over (gMul_any G OK.out gb (numHead s k) 256 _ (hG0.up (Over.h _)))) | (go_at_call 186; exact calls_over (gByte_any G OK.out gb (s[k]'hkl).toNat hc256 _ (hG0.up (Over.h _)))) | (go_at_call 75; exact calls_over (gAdd_any G OK.out gb (numHead s k * 256) (s[k]'hkl).toNat _ (hG0.up (Over.h _))))))
      all_goals (try unfold limbV)
      repeat (go_big_quiet_step (first | (go_at_call 63; exact calls_over (gMul_any G OK.out gb (numHead s k) 256 _ (hG0.up (Over.h _)))) | (go_at_call 186; exact calls_over (gByte_any G OK.out gb (s[k]'hkl).toNat hc256 _ (hG0.up (Over.h _)))) | (go_at_call 75; exact calls_over (gAdd_any G OK.out gb (numHead s k * 256) (s[k]'hkl).toNat _ (hG0.up (Over.h _))))))
      all_goals (try unfold limbV)
      repeat (go_big_quiet_step (first | (go_at_call 63; exact calls_over (gMul_any G OK.out gb (numHead s k) 256 _ (hG0.up (Over.h _)))) | (go_at_call 186; exact calls_over (gByte_any G OK.out gb (s[k]'hkl).toNat hc256 _ (hG0.up (Over.h _)))) | (go_at_call 75; exact calls_over (gAdd_any G OK.out gb (numHead s k * 256) (s[k]'hkl).toNat _ (hG0.up (Over.h _))))))
      refine wpQuiet_nil ?_
      rintro _ ⟨E, rfl⟩
      have HO2 := Lib.hid (HO.out.below E.h HO.out.lt)
      have HS2 := Lib.hid (HS.out.below E.h HS.out.lt)
      have HC2 := Lib.hid (HC.out.below E.h HC.out.lt)
      have HB2 := Lib.hid (HB.out.trans (E.h.mono HB.out.size))
      clear hov0 hov1 ho_0 ho_1 ho_2 ho_3 hs_0 hs_1 hs_2 hs_3 hG0
      generalize E.w = w3 at *
      rw [← numHead_succ s k hkl]
      unfold scV limbV
      have ho_0 := HO2.out.cell (i := 0) (x := (dig (mont G.q.m (numHead s k)) 0 : Int)) rfl
      have ho_1 := HO2.out.cell (i := 1) (x := (dig (mont G.q.m (numHead s k)) 1 : Int)) rfl
      have ho_2 := HO2.out.cell (i := 2) (x := (dig (mont G.q.m (numHead s k)) 2 : Int)) rfl
      have ho_3 := HO2.out.cell (i := 3) (x := (dig (mont G.q.m (numHead s k)) 3 : Int)) rfl
      have hof_0 := HO2.out.frozen 0
      have hof_1 := HO2.out.frozen 1
      have hof_2 := HO2.out.frozen 2
      have hof_3 := HO2.out.frozen 3
      have HO4 := Lib.hid (HO2.out.fill rfl (mont G.q.m (numHead s (k + 1))))
      have HS4 := Lib.hid (HS2.out.fillOther (c := w.heap.size + 1) (by omega) (mont G.q.m (numHead s (k + 1))))
      have HC4 := Lib.hid (HC2.out.fillOther (c := w.heap.size + 1) (by omega) (mont G.q.m (numHead s (k + 1))))
      have HB4 := Lib.hid (below_fill (n := mont G.q.m (numHead s (k + 1))) (b := w.heap.size + 1) HB2.out (by omega))
      go_wp2_with fail
      go_roundw
      case rel => exact ⟨k + 1, by omega, by go_num, HO4.out, HS4.out, HC4.out, HB4.out⟩
      case measure => simp [intOf]; omega
    · have hks : k = s.size := by omega
      subst hks
      rw [numHead_all] at ho_0 ho_1 ho_2 ho_3
      have HZ := HC
      have HBB := HB
      have HB5 := Lib.hid (below_fill (n := mont G.q.m (numOf s)) (b := w.heap.size) HBB.out (by omega))
      have HS5 := Lib.hid (HZ.out.fill rfl (mont G.q.m (numOf s)))
      have hz_0 := HZ.out.cell (i := 0) (x := 0) rfl
      have hz_1 := HZ.out.cell (i := 1) (x := 0) rfl
      have hz_2 := HZ.out.cell (i := 2) (x := 0) rfl
      have hz_3 := HZ.out.cell (i := 3) (x := 0) rfl
      have hzf_0 := HZ.out.frozen 0
      have hzf_1 := HZ.out.frozen 1
      have hzf_2 := HZ.out.frozen 2
      have hzf_3 := HZ.out.frozen 3
      go_wp2_with fail
      generalize (((((wr).setCell ⟨w.heap.size, 0, none⟩ (.int .u64 (dig (mont G.q.m (numOf s)) 0 : Int))).setCell ⟨w.heap.size, 1, none⟩ (.int .u64 (dig (mont G.q.m (numOf s)) 1 : Int))).setCell ⟨w.heap.size, 2, none⟩ (.int .u64 (dig (mont G.q.m (numOf s)) 2 : Int))).setCell ⟨w.heap.size, 3, none⟩ (.int .u64 (dig (mont G.q.m (numOf s)) 3 : Int))) = w5 at *
      clear hz_0 hz_1 hz_2 hz_3
      have hg_0 := HS5.out.cell (i := 0) (x := (dig (mont G.q.m (numOf s)) 0 : Int)) rfl
      have hg_1 := HS5.out.cell (i := 1) (x := (dig (mont G.q.m (numOf s)) 1 : Int)) rfl
      have hg_2 := HS5.out.cell (i := 2) (x := (dig (mont G.q.m (numOf s)) 2 : Int)) rfl
      have hg_3 := HS5.out.cell (i := 3) (x := (dig (mont G.q.m (numOf s)) 3 : Int)) rfl
      simp [bodyPost, results, Try.results164, go_sem, hg_0, hg_1, hg_2, hg_3]
      exact HB5.out

end Go.Proofs.Ytipgjookfdkciaa

/- The group of a kind: small numbers, an element's bytes, and the groups themselves. No condition. -/
namespace Go.Proofs.Ytipgjookfdkciaa
open Go.RowKit

theorem text8 (n : Nat) (hn : n < BB) (w : World) : Calls Try.prog 135 #[.agg #[.int .u64 (n : Int), .int .u64 0, .int .u64 0, .int .u64 0], .int .i64 8] w fun e w' => e = .returned (.string (textS n 8)) ∧ Below w.heap.size w w' := by
  have h := text_any n 8 (by decide) w
  rwa [limbV_small n hn] at h

set_option maxHeartbeats 1000000 in
theorem gNumber_pos (G : GP) (ok : G.Ok) (gb n : Nat) (hn : n ≤ 9223372036854775807) (w : World) (hG : GroupAt w gb G) :
    Calls Try.prog 121 #[.pointer (some ⟨gb, 0, none⟩), .int .i64 (n : Int)] w fun e w' => e = .returned (scV G n) ∧ Below w.heap.size w w' := by
  have OK := Lib.hid ok
  clear ok
  have hn2 : (n : Int) < 18446744073709551616 := by omega
  have hneg : ¬ (n : Int) < 0 := by omega
  have HNUM : Hid (numOf (textS n 8) = n) := by
    show _ = _
    rw [numOf_textS]
    exact Nat.mod_eq_of_lt (by omega)
  have hw : IntKind.u64.wrap (n : Int) = (n : Int) := wraps_u64 _ (by omega) (by omega)
  unfold scV limbV
  go_enter Try.func121, Try.ntmps121
  go_wp2_with fail
  obtain ⟨W0, hW0⟩ : ∃ W9 : World, (w.alloc (Obj.cells #[.int .u64 0, .int .u64 0, .int .u64 0, .int .u64 0] 91)) = W9 := ⟨_, rfl⟩
  rw [hW0]
  have hC : Blk W0 (w.heap.size) 91 [0, 0, 0, 0] := by
    rw [← hW0]
    have h := (Blk.new w 91 [0, 0, 0, 0] _ rfl)
    exact h
  have hBW : Below w.heap.size w W0 := by rw [← hW0]; exact ((Below.refl w.heap.size w).alloc (Nat.le_refl _) _)
  clear hW0
  have HG := Lib.hid hG
  have HC := Lib.hid hC
  have HBW := Lib.hid hBW
  clear hG hC hBW
  refine (text8 n (by simp only [BB]; omega) W0).mono ?_
  rintro e w2 ⟨rfl, hb2⟩
  have HB2 := Lib.hid (below_up HBW.out hb2)
  have HC2 := Lib.hid (HC.out.below hb2 HC.out.lt)
  clear hb2 HC HBW
  go_wp2_with fail
  refine (gReduce_any G OK.out gb (textS n 8) (by rw [textS_size]; unfold maxLen; omega) w2 (HG.out.below HB2.out HG.out.lt)).mono ?_
  rintro e w3 ⟨rfl, hb3⟩
  have HBB := Lib.hid (HB2.out.trans (hb3.mono HB2.out.size))
  have HZ := Lib.hid (HC2.out.below hb3 HC2.out.lt)
  clear hb3 HC2 HB2
  rw [HNUM.out]
  unfold scV limbV
  have HB5 := Lib.hid (below_fill (n := mont G.q.m n) (b := w.heap.size) HBB.out (by omega))
  have HS5 := Lib.hid (HZ.out.fill rfl (mont G.q.m n))
  have hz_0 := HZ.out.cell (i := 0) (x := 0) rfl
  have hz_1 := HZ.out.cell (i := 1) (x := 0) rfl
  have hz_2 := HZ.out.cell (i := 2) (x := 0) rfl
  have hz_3 := HZ.out.cell (i := 3) (x := 0) rfl
  have hzf_0 := HZ.out.frozen 0
  have hzf_1 := HZ.out.frozen 1
  have hzf_2 := HZ.out.frozen 2
  have hzf_3 := HZ.out.frozen 3
  go_wp2_with fail
  generalize (((((w3).setCell ⟨w.heap.size, 0, none⟩ (.int .u64 (dig (mont G.q.m n) 0 : Int))).setCell ⟨w.heap.size, 1, none⟩ (.int .u64 (dig (mont G.q.m n) 1 : Int))).setCell ⟨w.heap.size, 2, none⟩ (.int .u64 (dig (mont G.q.m n) 2 : Int))).setCell ⟨w.heap.size, 3, none⟩ (.int .u64 (dig (mont G.q.m n) 3 : Int))) = w5 at *
  clear hz_0 hz_1 hz_2 hz_3
  have hg_0 := HS5.out.cell (i := 0) (x := (dig (mont G.q.m n) 0 : Int)) rfl
  have hg_1 := HS5.out.cell (i := 1) (x := (dig (mont G.q.m n) 1 : Int)) rfl
  have hg_2 := HS5.out.cell (i := 2) (x := (dig (mont G.q.m n) 2 : Int)) rfl
  have hg_3 := HS5.out.cell (i := 3) (x := (dig (mont G.q.m n) 3 : Int)) rfl
  simp [bodyPost, results, Try.results121, go_sem, hg_0, hg_1, hg_2, hg_3]
  exact HB5.out

/-- A number modulo the order. -/
def modI (q : Nat) (n : Int) : Nat := (n % (q : Int)).toNat

theorem modI_lt (q : Nat) (hq : 0 < q) (n : Int) : modI q n < q := by
  have h1 := Int.emod_nonneg n (show (q : Int) ≠ 0 by omega)
  have h2 := Int.emod_lt_of_pos n (show (0 : Int) < q by omega)
  unfold modI; omega
theorem modI_pos (q n : Nat) : modI q (n : Int) = n % q := by
  unfold modI; rw [← Int.natCast_emod]; rfl
theorem modI_neg (q m : Nat) (hq : 0 < q) : (q - (m + 1) % q) % q = modI q (-(m : Int) - 1) := by
  unfold modI
  have hr := Nat.mod_lt (m + 1) hq
  have hd := Nat.div_add_mod (m + 1) q
  generalize (m + 1) % q = r at *
  generalize (m + 1) / q = d at *
  have e : (-(m : Int) - 1) = ((q - r : Nat) : Int) + (q : Int) * (-(d : Int) - 1) := by
    rw [Int.mul_sub, Int.mul_one, Int.mul_neg]
    have : (q : Int) * (d : Int) = ((q * d : Nat) : Int) := by simp
    rw [this]; omega
  rw [e, Int.add_mul_emod_self_left, ← Int.natCast_emod]
  rfl

set_option maxHeartbeats 1000000 in
theorem gNumber_neg (G : GP) (ok : G.Ok) (gb m : Nat) (hm : m ≤ 9223372036854775807) (w : World) (hG : GroupAt w gb G) :
    Calls Try.prog 121 #[.pointer (some ⟨gb, 0, none⟩), .int .i64 (-(m : Int) - 1)] w fun e w' => e = .returned (scV G (modI G.q.m (-(m : Int) - 1))) ∧ Below w.heap.size w w' := by
  have OK := Lib.hid ok
  clear ok
  obtain ⟨n, hn⟩ : ∃ n : Int, n = -(m : Int) - 1 := ⟨_, rfl⟩
  rw [← hn]
  have hneg : n < 0 := by omega
  have e1 : IntKind.i64.wrap (n + 1) = n + 1 := IntWalk.i64_in _ (by omega)
  have e2 : IntKind.i64.wrap (-(n + 1)) = (m : Int) := by rw [IntWalk.i64_in _ (by omega)]; omega
  have HRES : Hid (scV G (modI G.q.m n) = scV G (G.q.m - (m + 1) % G.q.m)) := scV_eq G (by
    rw [hn, ← modI_neg _ _ OK.out.q.pos, Nat.mod_mod])
  have HM := Lib.hid hn
  clear hn
  rw [HRES.out]
  unfold scV limbV
  go_enter Try.func121, Try.ntmps121
  go_wp2_with fail
  obtain ⟨W0, hW0⟩ : ∃ W9 : World, (w.alloc (Obj.cells #[.int .u64 0, .int .u64 0, .int .u64 0, .int .u64 0] 91)) = W9 := ⟨_, rfl⟩
  rw [hW0]
  have hC : Blk W0 (w.heap.size) 91 [0, 0, 0, 0] := by
    rw [← hW0]
    have h := (Blk.new w 91 [0, 0, 0, 0] _ rfl)
    exact h
  have hBW : Below w.heap.size w W0 := by rw [← hW0]; exact ((Below.refl w.heap.size w).alloc (Nat.le_refl _) _)
  clear hW0
  have HG := Lib.hid hG
  have HC := Lib.hid hC
  have HBW := Lib.hid hBW
  clear hG hC hBW
  refine (gNumber_pos G OK.out gb m hm W0 (HG.out.below HBW.out HG.out.lt)).mono ?_
  rintro e w2 ⟨rfl, hb2⟩
  have HB2 := Lib.hid (below_up HBW.out hb2)
  have HC2 := Lib.hid (HC.out.below hb2 HC.out.lt)
  clear hb2 HC HBW
  go_wp2_with fail
  refine (gPlusOne_any G OK.out gb m w2 (HG.out.below HB2.out HG.out.lt)).mono ?_
  rintro e w3 ⟨rfl, hb3⟩
  have HB3 := Lib.hid (HB2.out.trans (hb3.mono HB2.out.size))
  have HC3 := Lib.hid (HC2.out.below hb3 HC2.out.lt)
  clear hb3 HC2 HB2
  rw [← scV_mod G (m + 1)]
  go_wp2_with fail
  refine (gNeg_any G OK.out gb ((m + 1) % G.q.m) (Nat.le_of_lt (Nat.mod_lt _ OK.out.q.pos)) w3 (HG.out.below HB3.out HG.out.lt)).mono ?_
  rintro e w4 ⟨rfl, hb4⟩
  have HBB := Lib.hid (HB3.out.trans (hb4.mono HB3.out.size))
  have HZ := Lib.hid (HC3.out.below hb4 HC3.out.lt)
  clear hb4 HC3 HB3
  unfold scV limbV
  have HB5 := Lib.hid (below_fill (n := mont G.q.m (G.q.m - (m + 1) % G.q.m)) (b := w.heap.size) HBB.out (by omega))
  have HS5 := Lib.hid (HZ.out.fill rfl (mont G.q.m (G.q.m - (m + 1) % G.q.m)))
  have hz_0 := HZ.out.cell (i := 0) (x := 0) rfl
  have hz_1 := HZ.out.cell (i := 1) (x := 0) rfl
  have hz_2 := HZ.out.cell (i := 2) (x := 0) rfl
  have hz_3 := HZ.out.cell (i := 3) (x := 0) rfl
  have hzf_0 := HZ.out.frozen 0
  have hzf_1 := HZ.out.frozen 1
  have hzf_2 := HZ.out.frozen 2
  have hzf_3 := HZ.out.frozen 3
  go_wp2_with fail
  generalize (((((w4).setCell ⟨w.heap.size, 0, none⟩ (.int .u64 (dig (mont G.q.m (G.q.m - (m + 1) % G.q.m)) 0 : Int))).setCell ⟨w.heap.size, 1, none⟩ (.int .u64 (dig (mont G.q.m (G.q.m - (m + 1) % G.q.m)) 1 : Int))).setCell ⟨w.heap.size, 2, none⟩ (.int .u64 (dig (mont G.q.m (G.q.m - (m + 1) % G.q.m)) 2 : Int))).setCell ⟨w.heap.size, 3, none⟩ (.int .u64 (dig (mont G.q.m (G.q.m - (m + 1) % G.q.m)) 3 : Int))) = w5 at *
  clear hz_0 hz_1 hz_2 hz_3
  have hg_0 := HS5.out.cell (i := 0) (x := (dig (mont G.q.m (G.q.m - (m + 1) % G.q.m)) 0 : Int)) rfl
  have hg_1 := HS5.out.cell (i := 1) (x := (dig (mont G.q.m (G.q.m - (m + 1) % G.q.m)) 1 : Int)) rfl
  have hg_2 := HS5.out.cell (i := 2) (x := (dig (mont G.q.m (G.q.m - (m + 1) % G.q.m)) 2 : Int)) rfl
  have hg_3 := HS5.out.cell (i := 3) (x := (dig (mont G.q.m (G.q.m - (m + 1) % G.q.m)) 3 : Int)) rfl
  simp [bodyPost, results, Try.results121, go_sem, hg_0, hg_1, hg_2, hg_3]
  exact HB5.out

theorem gNumber_any (G : GP) (ok : G.Ok) (gb : Nat) (n : Int) (h1 : -9223372036854775808 ≤ n) (h2 : n ≤ 9223372036854775807) (w : World) (hG : GroupAt w gb G) :
    Calls Try.prog 121 #[.pointer (some ⟨gb, 0, none⟩), .int .i64 n] w fun e w' => e = .returned (scV G (modI G.q.m n)) ∧ Below w.heap.size w w' := by
  rcases Int.lt_or_le n 0 with h | h
  · obtain ⟨m, hm⟩ : ∃ m : Nat, n = -(m : Int) - 1 := ⟨(-n - 1).toNat, by omega⟩
    subst hm
    exact gNumber_neg G ok gb m (by omega) w hG
  · obtain ⟨m, rfl⟩ := Int.eq_ofNat_of_zero_le h
    rw [modI_pos, scV_mod]
    exact gNumber_pos G ok gb m (by omega) w hG

theorem zeroLimbs (w : World) : (zeroValue 89).run Try.prog w = .ok (.agg #[.int .u64 0, .int .u64 0, .int .u64 0, .int .u64 0]) w := by kernel_rfl
theorem allocLimbs (ρ : Operand → Value) (o : Oper) (ho : o.op = .alloc 89) (w : World) : (execOp ρ o).run Try.prog w = .ok (.value (.pointer (some ⟨w.heap.size, 0, none⟩))) (w.alloc (Obj.cells #[.int .u64 0, .int .u64 0, .int .u64 0, .int .u64 0] 89)) := by
  unfold execOp
  rw [ho]
  simp only [Instr.alloc, Sem.run_bind, zeroLimbs, Result.andThen_ok]
  rfl

theorem newLimbs (W0 : World) : Blk (W0.alloc (Obj.cells #[.int .u64 0, .int .u64 0, .int .u64 0, .int .u64 0] 89)).drew W0.heap.size 89 [0, 0, 0, 0] := Blk.new W0 _ [0, 0, 0, 0] _ rfl

/-- Of a number and what is missing of it the one that is not above the order. -/
def lowN (G : GP) (y : Nat) : Nat := if G.q.m < y % G.p.m then G.p.m - y % G.p.m else y % G.p.m

theorem minusLow (a b : Nat) (ha : a < BB ^ 4) (h : b ≤ a) (w : World) : Calls Try.prog 131 #[limbV a, limbV b] w fun e w' => e = .returned (.tuple #[limbV (a - b), .int .u64 0]) ∧ Below w.heap.size w w' := by
  have h1 := minus_any a b (by omega) w
  rw [sub256_ok a b ha h, under_four a b ha (by omega), if_neg (by omega)] at h1
  exact h1



set_option maxRecDepth 10000 in
set_option maxHeartbeats 1000000 in
theorem gText_any (G : GP) (ok : G.Ok) (gb y : Nat) (w : World) (hG : GroupAt w gb G) :
    Calls Try.prog 89 #[.pointer (some ⟨gb, 0, none⟩), elV G y] w fun e w' => e = .returned (.string (textS (lowN G y) G.size)) ∧ Below w.heap.size w w' := by
  have OK := Lib.hid ok
  clear ok
  have HGW := Lib.hid hG.lt
  obtain ⟨N, hN⟩ : ∃ N, y % G.p.m = N := ⟨_, rfl⟩
  have HLOW : Hid (lowN G y = if G.q.m < N then G.p.m - N else N) := by show _ = _; unfold lowN; rw [hN]
  have hNp : N < G.p.m := by rw [← hN]; exact Nat.mod_lt _ OK.out.p.pos
  have HN := Lib.hid hN
  have HNP := Lib.hid hNp
  clear hN hNp
  unfold elV limbV
  go_enter Try.func89, Try.ntmps89
  go_wp2_with fail
  obtain ⟨W0, hW0⟩ : ∃ W9 : World, (w.alloc (Obj.cells #[.int .u64 (dig (mont G.p.m y) 0 : Int), .int .u64 (dig (mont G.p.m y) 1 : Int), .int .u64 (dig (mont G.p.m y) 2 : Int), .int .u64 (dig (mont G.p.m y) 3 : Int)] 111)) = W9 := ⟨_, rfl⟩
  rw [hW0]
  have hX : Blk W0 (w.heap.size) 111 (lim (mont G.p.m y)) := by
    rw [← hW0]
    have h := (Blk.new w 111 (lim (mont G.p.m y)) _ rfl)
    exact h
  have hBW : Below w.heap.size w W0 := by rw [← hW0]; exact ((Below.refl w.heap.size w).alloc (Nat.le_refl _) _)
  clear hW0
  have hG0 := hG.up hBW
  have hx_0 := hX.cell (i := 0) (x := (dig (mont G.p.m y) 0 : Int)) rfl
  have hx_1 := hX.cell (i := 1) (x := (dig (mont G.p.m y) 1 : Int)) rfl
  have hx_2 := hX.cell (i := 2) (x := (dig (mont G.p.m y) 2 : Int)) rfl
  have hx_3 := hX.cell (i := 3) (x := (dig (mont G.p.m y) 3 : Int)) rfl
  have hlx := hX.lt
  have HBW := Lib.hid hBW
  clear hX hBW hG
  go_cut [5] from 6 to 11 (fun v w2 => ∃ b, v = .pointer (some ⟨b, 0, none⟩) ∧ Hid (W0.heap.size ≤ b) ∧ Hid (Blk w2 b 89 (lim N)) ∧ Hid (Below W0.heap.size W0 w2))
  case first =>
    refine wp_region_tree (fun w' => ∃ E : Over W0, w' = E.w) (.qs [0, 1, 2, 3, 4] (.two 5 (.a 6 (.a 7 .done)) 6 (.a 5 (.a 7 .done)))) (by kernel_rfl) (by kernel_rfl) (fun _ _ d _ _ h => by cases d <;> exact h) ?_ ?_
    · exact ⟨⟨_, (Below.refl _ _).drew⟩, rfl⟩
    have hov := fun (E : Over W0) o => E.cell (b := w.heap.size) o (by omega)
    simp only [Tree.qs]
    repeat (refine tree_q rfl rfl ?_; go_big_quiet_step (fail); refine wpQuiet_nil ?_)
    refine tree_two rfl rfl ?call ?alloc
    case call =>
      intro K hK
      go_simp
      refine (outM G.p OK.out.p gb 2 y _ (hG0.up (Below.refl _ _).drew).p).mono ?_
      rintro e w2 ⟨rfl, hb2⟩
      rw [HN.out]
      unfold limbV
      have hb2' : Below W0.heap.size W0 w2 := (Below.refl _ _).drew.trans hb2
      have HB2 := Lib.hid hb2'
      refine hK _ _ ⟨⟨⟨w2, hb2'⟩, rfl⟩, ?_⟩
      clear hK K hb2 hb2'
      refine tree_a rfl (fun K hK => ?_)
      go_simp
      refine hK _ _ ⟨⟨⟨_, HB2.out.alloc HB2.out.size _⟩, rfl⟩, ?_⟩
      clear hK K
      refine tree_a rfl (fun K hK => ?_)
      go_simp
      refine hK _ _ ⟨⟨⟨_, HB2.out.alloc HB2.out.size _⟩, rfl⟩, ?_⟩
      clear hK K
      refine tree_end ?_
      go_wp2_with fail
      go_meet
      case rel => exact ⟨_, rfl, HB2.out.size, Blk.new w2 _ _ _ rfl, HB2.out.alloc HB2.out.size _⟩
    case alloc =>
      intro K hK
      refine if_wanted rfl ?_
      refine oper_value (allocLimbs _ _ rfl _) ?_
      simp only [Act.put, List.setIfInBounds_toArray, List.set_cons_succ, List.set_cons_zero]
      have hal : Below W0.heap.size W0 (W0.alloc (Obj.cells #[.int .u64 0, .int .u64 0, .int .u64 0, .int .u64 0] 89)).drew := ((Below.refl _ _).alloc (Nat.le_refl _) _).drew
      have hnew := newLimbs W0
      refine hK _ _ ⟨⟨⟨_, hal⟩, rfl⟩, ?_⟩
      clear hK K
      refine tree_a rfl (fun K hK => ?_)
      go_simp
      refine (outM G.p OK.out.p gb 2 y _ (hG0.up hal).p).mono ?_
      rintro e w2 ⟨rfl, hb2⟩
      rw [HN.out]
      unfold limbV
      have HB2 := Lib.hid (below_up hal hb2)
      have HN2 := Lib.hid (hnew.below hb2 hnew.lt)
      refine hK _ _ ⟨⟨⟨w2, HB2.out⟩, rfl⟩, ?_⟩
      clear hK K hb2 hal hnew
      refine tree_a rfl (fun K hK => ?_)
      have hy_0 := HN2.out.cell (i := 0) (x := 0) rfl
      have hy_1 := HN2.out.cell (i := 1) (x := 0) rfl
      have hy_2 := HN2.out.cell (i := 2) (x := 0) rfl
      have hy_3 := HN2.out.cell (i := 3) (x := 0) rfl
      have hyf_0 := HN2.out.frozen 0
      have hyf_1 := HN2.out.frozen 1
      have hyf_2 := HN2.out.frozen 2
      have hyf_3 := HN2.out.frozen 3
      go_simp
      have h4 := Lib.hid (below_fill (n := N) HB2.out (Nat.le_refl W0.heap.size))
      refine hK _ _ ⟨⟨⟨_, h4.out⟩, rfl⟩, ?_⟩
      clear hK K
      refine tree_end ?_
      have HF := Lib.hid (HN2.out.fill rfl N)
      go_wp2_with fail
      go_meet
      case rel => exact ⟨_, rfl, Nat.le_refl _, HF.out, h4.out⟩
  case rest =>
    obtain ⟨b, rfl, HB, HNB, HBC⟩ := hcut
    have hb := HB.out
    have hwb := HBW.out.size
    have hbl := HNB.out.lt
    have hG1 := hG0.up HBC.out
    have HBW1 := Lib.hid (below_up HBW.out HBC.out)
    clear hG0 hx_0 hx_1 hx_2 hx_3 hlx HB
    have hgl := hG1.lt
    have hgk := hG1.kind
    have hgs := hG1.size
    have hpm_0 : wc.cell? ⟨gb, 2, none⟩ = some (.int .u64 (dig G.p.m 0 : Int)) := hG1.p.cell 0 _ rfl
    have hpm_1 : wc.cell? ⟨gb, 3, none⟩ = some (.int .u64 (dig G.p.m 1 : Int)) := hG1.p.cell 1 _ rfl
    have hpm_2 : wc.cell? ⟨gb, 4, none⟩ = some (.int .u64 (dig G.p.m 2 : Int)) := hG1.p.cell 2 _ rfl
    have hpm_3 : wc.cell? ⟨gb, 5, none⟩ = some (.int .u64 (dig G.p.m 3 : Int)) := hG1.p.cell 3 _ rfl
    have hqm_0 : wc.cell? ⟨gb, 15, none⟩ = some (.int .u64 (dig G.q.m 0 : Int)) := hG1.q.cell 0 _ rfl
    have hqm_1 : wc.cell? ⟨gb, 16, none⟩ = some (.int .u64 (dig G.q.m 1 : Int)) := hG1.q.cell 1 _ rfl
    have hqm_2 : wc.cell? ⟨gb, 17, none⟩ = some (.int .u64 (dig G.q.m 2 : Int)) := hG1.q.cell 2 _ rfl
    have hqm_3 : wc.cell? ⟨gb, 18, none⟩ = some (.int .u64 (dig G.q.m 3 : Int)) := hG1.q.cell 3 _ rfl
    have hn_0 := HNB.out.cell (i := 0) (x := (dig (N) 0 : Int)) rfl
    have hn_1 := HNB.out.cell (i := 1) (x := (dig (N) 1 : Int)) rfl
    have hn_2 := HNB.out.cell (i := 2) (x := (dig (N) 2 : Int)) rfl
    have hn_3 := HNB.out.cell (i := 3) (x := (dig (N) 3 : Int)) rfl
    by_cases hlow : G.q.m < N
    · have HCI : Hid (cmpI N G.q.m = 1) := by show _ = _; unfold cmpI; rw [if_neg (by omega), if_pos hlow]
      have HL2 : Hid (lowN G y = G.p.m - N) := by show _ = _; rw [HLOW.out, if_pos hlow]
      clear hlow
      go_wp2_with fail
      have hovg := fun (E : Over wc) o => E.cell (b := gb) o hgl
      have hovn := fun (E : Over wc) o => E.cell (b := b) o hbl
      refine wp_region_over (by kernel_rfl) (by kernel_rfl) ?_
      repeat (go_big_quiet_step (first | (go_at_call 129; exact calls_over (cmp_is N G.q.m 1 (Nat.lt_trans HNP.out OK.out.p.lt4) OK.out.q.lt4 HCI.out _))))
      refine wpQuiet_nil ?_
      rintro _ ⟨E, rfl⟩
      have hG2 := hG1.up E.h
      have HNB2 := Lib.hid (HNB.out.below E.h hbl)
      have HBW2 := Lib.hid (below_up HBW1.out E.h)
      clear hovg hovn hn_0 hn_1 hn_2 hn_3 hbl hgl hgk hgs hpm_0 hpm_1 hpm_2 hpm_3 hqm_0 hqm_1 hqm_2 hqm_3 hG1 HNB HBW1
      obtain ⟨w2, hw2⟩ : ∃ W9 : World, E.w = W9 := ⟨_, rfl⟩
      rw [hw2] at hG2 HNB2 HBW2 ⊢
      clear hw2 E
      have hgl := hG2.lt
      have hgk := hG2.kind
      have hgs := hG2.size
      have hpm_0 : w2.cell? ⟨gb, 2, none⟩ = some (.int .u64 (dig G.p.m 0 : Int)) := hG2.p.cell 0 _ rfl
      have hpm_1 : w2.cell? ⟨gb, 3, none⟩ = some (.int .u64 (dig G.p.m 1 : Int)) := hG2.p.cell 1 _ rfl
      have hpm_2 : w2.cell? ⟨gb, 4, none⟩ = some (.int .u64 (dig G.p.m 2 : Int)) := hG2.p.cell 2 _ rfl
      have hpm_3 : w2.cell? ⟨gb, 5, none⟩ = some (.int .u64 (dig G.p.m 3 : Int)) := hG2.p.cell 3 _ rfl
      have hqm_0 : w2.cell? ⟨gb, 15, none⟩ = some (.int .u64 (dig G.q.m 0 : Int)) := hG2.q.cell 0 _ rfl
      have hqm_1 : w2.cell? ⟨gb, 16, none⟩ = some (.int .u64 (dig G.q.m 1 : Int)) := hG2.q.cell 1 _ rfl
      have hqm_2 : w2.cell? ⟨gb, 17, none⟩ = some (.int .u64 (dig G.q.m 2 : Int)) := hG2.q.cell 2 _ rfl
      have hqm_3 : w2.cell? ⟨gb, 18, none⟩ = some (.int .u64 (dig G.q.m 3 : Int)) := hG2.q.cell 3 _ rfl
      have hn_0 := HNB2.out.cell (i := 0) (x := (dig (N) 0 : Int)) rfl
      have hn_1 := HNB2.out.cell (i := 1) (x := (dig (N) 1 : Int)) rfl
      have hn_2 := HNB2.out.cell (i := 2) (x := (dig (N) 2 : Int)) rfl
      have hn_3 := HNB2.out.cell (i := 3) (x := (dig (N) 3 : Int)) rfl
      have hbl := HNB2.out.lt
      go_wp2_with fail
      refine wp_region_otree 6 (.a 6 (.qs [7, 8, 9] (.a 10 .done))) (by kernel_rfl) (by kernel_rfl) (fun _ _ d _ _ h => by cases d <;> exact h) ?_
      simp only [List.take_succ_cons, List.take_zero]
      have hovg := fun (E : Over w2) o => E.cell (b := gb) o hgl
      have hovn := fun (E : Over w2) o => E.cell (b := b) o hbl
      repeat (go_big_quiet_step (fail))
      refine wpQuiet_nil ?_
      rintro _ ⟨E, rfl⟩
      have hG3 := hG2.up E.h
      have HNB3 := Lib.hid (HNB2.out.below E.h hbl)
      have HBW3 := Lib.hid (below_up HBW2.out E.h)
      clear hovg hovn hn_0 hn_1 hn_2 hn_3 hbl hgl hgk hgs hpm_0 hpm_1 hpm_2 hpm_3 hqm_0 hqm_1 hqm_2 hqm_3 hG2 HNB2 HBW2
      obtain ⟨w3, hw3⟩ : ∃ W9 : World, E.w = W9 := ⟨_, rfl⟩
      rw [hw3] at hG3 HNB3 HBW3 ⊢
      clear hw3 E
      refine tree_a rfl (fun K hK => ?_)
      go_simp
      refine (minusLow G.p.m N OK.out.p.lt4 (Nat.le_of_lt HNP.out) _).mono ?_
      rintro e w4 ⟨rfl, hb4⟩
      have hG4 := hG3.up hb4
      have HNB4 := Lib.hid (HNB3.out.below hb4 HNB3.out.lt)
      have HBW4 := Lib.hid (below_up HBW3.out hb4)
      clear hG3 HNB3 HBW3 hb4
      unfold limbV
      refine hK _ _ ⟨trivial, ?_⟩
      clear hK K
      simp only [Tree.qs]
      repeat (refine tree_q rfl rfl ?_; go_big_quiet_step (fail); refine wpQuiet_nil ?_)
      have hn_0 := HNB4.out.cell (i := 0) (x := (dig (N) 0 : Int)) rfl
      have hn_1 := HNB4.out.cell (i := 1) (x := (dig (N) 1 : Int)) rfl
      have hn_2 := HNB4.out.cell (i := 2) (x := (dig (N) 2 : Int)) rfl
      have hn_3 := HNB4.out.cell (i := 3) (x := (dig (N) 3 : Int)) rfl
      have hnf_0 := HNB4.out.frozen 0
      have hnf_1 := HNB4.out.frozen 1
      have hnf_2 := HNB4.out.frozen 2
      have hnf_3 := HNB4.out.frozen 3
      refine tree_a rfl (fun K hK => ?_)
      go_simp
      refine hK _ _ ⟨trivial, ?_⟩
      clear hK K
      refine tree_end ?_
      have HS5 := Lib.hid (HNB4.out.fill rfl (G.p.m - N))
      have HB5 := Lib.hid (below_fill (n := G.p.m - N) (b := b) HBW4.out (by omega))
      have hG5 := hG4.below (below_four (o := 0) (Below.refl w.heap.size w4) (show w.heap.size ≤ b by omega) (.int .u64 (dig (G.p.m - N) 0 : Int)) (.int .u64 (dig (G.p.m - N) 1 : Int)) (.int .u64 (dig (G.p.m - N) 2 : Int)) (.int .u64 (dig (G.p.m - N) 3 : Int))) HGW.out
      obtain ⟨w5, hw5⟩ : ∃ W9 : World, (((((w4).setCell ⟨b, 0, none⟩ (.int .u64 (dig (G.p.m - N) 0 : Int))).setCell ⟨b, 1, none⟩ (.int .u64 (dig (G.p.m - N) 1 : Int))).setCell ⟨b, 2, none⟩ (.int .u64 (dig (G.p.m - N) 2 : Int))).setCell ⟨b, 3, none⟩ (.int .u64 (dig (G.p.m - N) 3 : Int))) = W9 := ⟨_, rfl⟩
      clear hn_0 hn_1 hn_2 hn_3 hnf_0 hnf_1 hnf_2 hnf_3 HNB4 HBW4 hG4
      rw [hw5] at HS5 HB5 ⊢
      have hG6 : GroupAt w5 gb G := by rw [← hw5]; exact hG5
      clear hw5 hG5
      go_wp2_with fail
      have hgl4 := hG6.lt
      have hgs4 := hG6.size
      have hm_0 := HS5.out.cell (i := 0) (x := (dig (G.p.m - N) 0 : Int)) rfl
      have hm_1 := HS5.out.cell (i := 1) (x := (dig (G.p.m - N) 1 : Int)) rfl
      have hm_2 := HS5.out.cell (i := 2) (x := (dig (G.p.m - N) 2 : Int)) rfl
      have hm_3 := HS5.out.cell (i := 3) (x := (dig (G.p.m - N) 3 : Int)) rfl
      have hml := HS5.out.lt
      refine wp_region_over (by kernel_rfl) (by kernel_rfl) ?_
      have hovg4 := fun (E : Over w5) o => E.cell (b := gb) o hgl4
      have hovn4 := fun (E : Over w5) o => E.cell (b := b) o hml
      repeat (go_big_quiet_step (first | (go_at_call 135; exact calls_over (text_any (G.p.m - N) G.size OK.out.size_le _))))
      refine wpQuiet_nil ?_
      rintro _ ⟨E, rfl⟩
      have HB9 := Lib.hid (below_up HB5.out E.h)
      clear hovg4 hovn4 hm_0 hm_1 hm_2 hm_3
      obtain ⟨w9, hw9⟩ : ∃ W9 : World, E.w = W9 := ⟨_, rfl⟩
      rw [hw9] at HB9 ⊢
      clear hw9 E
      go_wp2_with fail
      go_ret
      exact ⟨by rw [HL2.out]; rfl, HB9.out⟩
    · have HL2 : Hid (lowN G y = N) := by show _ = _; rw [HLOW.out, if_neg hlow]
      by_cases heq : N = G.q.m
      · have HCI : Hid (cmpI N G.q.m = 0) := by show _ = _; unfold cmpI; rw [if_neg (by omega), if_neg (by omega)]
        clear hlow heq
        go_wp2_with fail
        have hovg := fun (E : Over wc) o => E.cell (b := gb) o hgl
        have hovn := fun (E : Over wc) o => E.cell (b := b) o hbl
        refine wp_region_over (by kernel_rfl) (by kernel_rfl) ?_
        repeat (go_big_quiet_step (first | (go_at_call 129; exact calls_over (cmp_is N G.q.m 0 (Nat.lt_trans HNP.out OK.out.p.lt4) OK.out.q.lt4 HCI.out _))))
        refine wpQuiet_nil ?_
        rintro _ ⟨E, rfl⟩
        have hG2 := hG1.up E.h
        have HNB2 := Lib.hid (HNB.out.below E.h hbl)
        have HBW2 := Lib.hid (below_up HBW1.out E.h)
        clear hovg hovn hn_0 hn_1 hn_2 hn_3 hbl hgl hgk hgs hpm_0 hpm_1 hpm_2 hpm_3 hqm_0 hqm_1 hqm_2 hqm_3 hG1 HNB HBW1
        obtain ⟨w2, hw2⟩ : ∃ W9 : World, E.w = W9 := ⟨_, rfl⟩
        rw [hw2] at hG2 HNB2 HBW2 ⊢
        clear hw2 E
        go_wp2_with fail
        have hgl4 := hG2.lt
        have hgs4 := hG2.size
        have hm_0 := HNB2.out.cell (i := 0) (x := (dig (N) 0 : Int)) rfl
        have hm_1 := HNB2.out.cell (i := 1) (x := (dig (N) 1 : Int)) rfl
        have hm_2 := HNB2.out.cell (i := 2) (x := (dig (N) 2 : Int)) rfl
        have hm_3 := HNB2.out.cell (i := 3) (x := (dig (N) 3 : Int)) rfl
        have hml := HNB2.out.lt
        refine wp_region_over (by kernel_rfl) (by kernel_rfl) ?_
        have hovg4 := fun (E : Over w2) o => E.cell (b := gb) o hgl4
        have hovn4 := fun (E : Over w2) o => E.cell (b := b) o hml
        repeat (go_big_quiet_step (first | (go_at_call 135; exact calls_over (text_any (N) G.size OK.out.size_le _))))
        refine wpQuiet_nil ?_
        rintro _ ⟨E, rfl⟩
        have HB9 := Lib.hid (below_up HBW2.out E.h)
        clear hovg4 hovn4 hm_0 hm_1 hm_2 hm_3
        obtain ⟨w9, hw9⟩ : ∃ W9 : World, E.w = W9 := ⟨_, rfl⟩
        rw [hw9] at HB9 ⊢
        clear hw9 E
        go_wp2_with fail
        go_ret
        exact ⟨by rw [HL2.out]; rfl, HB9.out⟩
      · have HCI : Hid (cmpI N G.q.m = -1) := by show _ = _; unfold cmpI; rw [if_pos (by omega)]
        clear hlow heq
        go_wp2_with fail
        have hovg := fun (E : Over wc) o => E.cell (b := gb) o hgl
        have hovn := fun (E : Over wc) o => E.cell (b := b) o hbl
        refine wp_region_over (by kernel_rfl) (by kernel_rfl) ?_
        repeat (go_big_quiet_step (first | (go_at_call 129; exact calls_over (cmp_is N G.q.m (-1) (Nat.lt_trans HNP.out OK.out.p.lt4) OK.out.q.lt4 HCI.out _))))
        refine wpQuiet_nil ?_
        rintro _ ⟨E, rfl⟩
        have hG2 := hG1.up E.h
        have HNB2 := Lib.hid (HNB.out.below E.h hbl)
        have HBW2 := Lib.hid (below_up HBW1.out E.h)
        clear hovg hovn hn_0 hn_1 hn_2 hn_3 hbl hgl hgk hgs hpm_0 hpm_1 hpm_2 hpm_3 hqm_0 hqm_1 hqm_2 hqm_3 hG1 HNB HBW1
        obtain ⟨w2, hw2⟩ : ∃ W9 : World, E.w = W9 := ⟨_, rfl⟩
        rw [hw2] at hG2 HNB2 HBW2 ⊢
        clear hw2 E
        go_wp2_with fail
        have hgl4 := hG2.lt
        have hgs4 := hG2.size
        have hm_0 := HNB2.out.cell (i := 0) (x := (dig (N) 0 : Int)) rfl
        have hm_1 := HNB2.out.cell (i := 1) (x := (dig (N) 1 : Int)) rfl
        have hm_2 := HNB2.out.cell (i := 2) (x := (dig (N) 2 : Int)) rfl
        have hm_3 := HNB2.out.cell (i := 3) (x := (dig (N) 3 : Int)) rfl
        have hml := HNB2.out.lt
        refine wp_region_over (by kernel_rfl) (by kernel_rfl) ?_
        have hovg4 := fun (E : Over w2) o => E.cell (b := gb) o hgl4
        have hovn4 := fun (E : Over w2) o => E.cell (b := b) o hml
        repeat (go_big_quiet_step (first | (go_at_call 135; exact calls_over (text_any (N) G.size OK.out.size_le _))))
        refine wpQuiet_nil ?_
        rintro _ ⟨E, rfl⟩
        have HB9 := Lib.hid (below_up HBW2.out E.h)
        clear hovg4 hovn4 hm_0 hm_1 hm_2 hm_3
        obtain ⟨w9, hw9⟩ : ∃ W9 : World, E.w = W9 := ⟨_, rfl⟩
        rw [hw9] at HB9 ⊢
        clear hw9 E
        go_wp2_with fail
        go_ret
        exact ⟨by rw [HL2.out]; rfl, HB9.out⟩

end Go.Proofs.Ytipgjookfdkciaa

/- The groups themselves. No condition. -/
namespace Go.Proofs.Ytipgjookfdkciaa
open Go.RowKit

def of4 (a b c d : Nat) : Nat := a + BB * b + BB ^ 2 * c + BB ^ 3 * d

def grp : Nat → GP
  | 1 => ⟨1, 2, ⟨1283, 1100, 131, 690135397925220949⟩, ⟨641, 1, 1, 28778071877862015⟩⟩
  | 2 => ⟨2, 8, ⟨1152930863340584963, 576503707391577365, 1074843801509405873, 2177741659672237397⟩, ⟨576465431670292481, 354135386165974715, 178479071281353849, 14411523486952456191⟩⟩
  | _ => ⟨3, 32, ⟨of4 0x3 0x0 0x237f 0x2000000000000000, of4 0xffffffffffffffeb 0xffffffffffffffff 0xffffffffffff0786 0x1fffffffffffffff, of4 0xffffffe27829fc43 0xffffffffffffffff 0xfffea297c8e063fe 0x1fffffffffffffff, 0x5555555555555555⟩,
      ⟨of4 0x1 0x8000000000000000 0x11bf 0x1000000000000000, of4 0xfffffffffffffff1 0x7fffffffffffffff 0xfffffffffffef5c7 0xfffffffffffffff, of4 0xffffffec501bfd01 0x7fffffffffffffff 0xfffea297c8ce92bf 0xfffffffffffffff, 0xffffffffffffffff⟩⟩

theorem grp_ok (k : Nat) (h1 : 1 ≤ k) (h3 : k ≤ 3) : (grp k).Ok := by
  obtain rfl | rfl | rfl : k = 1 ∨ k = 2 ∨ k = 3 := by omega
  all_goals exact ⟨⟨by decide, by decide, by decide, by decide, by decide, by decide⟩, ⟨by decide, by decide, by decide, by decide, by decide, by decide⟩, by decide, by decide, by decide, by decide⟩

def GP.cells (G : GP) : List Value := .int .i64 G.kind :: .int .i64 G.size :: (G.p.cells ++ G.q.cells).map (Value.int .u64)

theorem cells_length (R : RingP) : R.cells.length = 13 := rfl

theorem groupAt_of {W : World} {b : Nat} {t : TypeId} {G : GP} (h : W.heap[b]? = some (.cells G.cells.toArray t (0, 0))) : GroupAt W b G := by
  have hc : ∀ i v, G.cells[i]? = some v → W.cell? ⟨b, i, none⟩ = some v := fun i v hv => by
    simp only [World.cell?, h]
    simpa using hv
  refine ⟨(Array.getElem?_eq_some_iff.1 h).1, hc 0 _ rfl, hc 1 _ rfl, ⟨(Array.getElem?_eq_some_iff.1 h).1, fun i x hx => hc (2 + i) _ ?_⟩, ⟨(Array.getElem?_eq_some_iff.1 h).1, fun i x hx => hc (15 + i) _ ?_⟩⟩
  · rw [show 2 + i = i + 1 + 1 by omega]
    simp only [GP.cells, List.getElem?_cons_succ, List.getElem?_map]
    rw [List.getElem?_append_left (by have := (List.getElem?_eq_some_iff.1 hx).1; exact this), hx]
    rfl
  · rw [show 15 + i = 13 + i + 1 + 1 by omega]
    simp only [GP.cells, List.getElem?_cons_succ, List.getElem?_map]
    rw [List.getElem?_append_right (by rw [cells_length]; omega), cells_length, show 13 + i - 13 = i by omega, hx]
    rfl

set_option maxRecDepth 10000 in
set_option maxHeartbeats 1000000 in
theorem of_none (k : Int) (hk : ¬ (1 ≤ k ∧ k ≤ 3)) (w : World) : Calls Try.prog 57 #[.int .i64 k] w fun e w' => e = .returned (.pointer none) ∧ w = w' := by
  have h1 : (k == 1) = false := by simp; omega
  have h2 : (k == 2) = false := by simp; omega
  have h3 : (k == 3) = false := by simp; omega
  go_enter Try.func57, Try.ntmps57
  go_wp2_with fail
  go_ret
  exact ⟨rfl, rfl⟩

set_option maxRecDepth 10000 in
set_option maxHeartbeats 1000000 in
theorem of_some (k : Nat) (h1 : 1 ≤ k) (h3 : k ≤ 3) (w : World) : Calls Try.prog 57 #[.int .i64 k] w fun e w' => e = .returned (.pointer (some ⟨w.heap.size, 0, none⟩)) ∧ GroupAt w' w.heap.size (grp k) ∧ Below w.heap.size w w' := by
  obtain rfl | rfl | rfl : k = 1 ∨ k = 2 ∨ k = 3 := by omega
  all_goals
    go_enter Try.func57, Try.ntmps57
    go_wp2_with fail
    go_ret
    refine ⟨rfl, groupAt_of (t := 176) ?_, (Below.refl _ _).alloc (Nat.le_refl _) _⟩
    rw [heap_alloc_new]
    exact congrArg (fun l => some (Obj.cells l 176 (0, 0))) (by kernel_rfl)

end Go.Proofs.Ytipgjookfdkciaa

/- Numbers as digits to the base 65536: plain arithmetic. No condition. -/
namespace Go.Proofs.Ytipgjookfdkciaa

/-! To any base. -/
def dg (B n i : Nat) : Nat := n / B ^ i % B

section
variable {B : Nat}
theorem dg_lt (hB : 0 < B) (n i : Nat) : dg B n i < B := Nat.mod_lt _ hB
theorem dg_mod_succ (n i : Nat) : n % B ^ (i + 1) = n % B ^ i + B ^ i * dg B n i := Nat.mod_pow_succ
theorem dg_div (n i : Nat) : n / B ^ i = B * (n / B ^ (i + 1)) + dg B n i := by
  unfold dg
  rw [Nat.pow_succ, ← Nat.div_div_eq_div_mul]
  exact (Nat.div_add_mod _ _).symm
theorem dg_zero (n i : Nat) (h : n < B ^ i) : dg B n i = 0 := by unfold dg; rw [Nat.div_eq_of_lt h, Nat.zero_mod]
theorem dg_above (hB : 0 < B) (n i k : Nat) (h : n < B ^ i) (hk : i ≤ k) : dg B n k = 0 := dg_zero n k (Nat.lt_of_lt_of_le h (Nat.pow_le_pow_right hB hk))

/-- What is carried into digit j when x and p times y are added up. -/
def mcB (B x y p j : Nat) : Nat := (x % B ^ j + p * (y % B ^ j)) / B ^ j

theorem mcB_le (hB : 0 < B) (x y p j : Nat) : mcB B x y p j ≤ p := by
  have hp : 0 < B ^ j := Nat.pow_pos hB
  have h1 := Nat.mod_lt x hp
  have h2 := Nat.mod_lt y hp
  unfold mcB
  have h3 : p * (y % B ^ j) ≤ p * (B ^ j - 1) := Nat.mul_le_mul_left _ (by omega)
  have h4 : p * (B ^ j - 1) + p = p * B ^ j := by
    rw [← Nat.mul_succ]; congr 1; omega
  have : (x % B ^ j + p * (y % B ^ j)) / B ^ j < p + 1 := Nat.div_lt_of_lt_mul (by rw [Nat.mul_add, Nat.mul_one, Nat.mul_comm (B ^ j) p]; omega)
  omega

theorem mcB_split (hB : 0 < B) (x y p j : Nat) : (x + p * y) / B ^ j = x / B ^ j + p * (y / B ^ j) + mcB B x y p j := by
  have hp : 0 < B ^ j := Nat.pow_pos hB
  have e : x + p * y = (x % B ^ j + p * (y % B ^ j)) + B ^ j * (x / B ^ j + p * (y / B ^ j)) := by
    have hx := Nat.mod_add_div x (B ^ j)
    have hy := Nat.mod_add_div y (B ^ j)
    have h1 : p * y = p * (y % B ^ j) + p * (B ^ j * (y / B ^ j)) := by rw [← Nat.mul_add, hy]
    have h2 : B ^ j * (p * (y / B ^ j)) = p * (B ^ j * (y / B ^ j)) := by rw [Nat.mul_left_comm]
    rw [Nat.mul_add, h2]
    omega
  rw [e, Nat.add_mul_div_left _ _ hp, mcB]
  omega

theorem mod_macB (u v c p : Nat) : (u % B + p * (v % B) + c) % B = (u + p * v + c) % B := by
  have h : (p * (v % B)) % B = (p * v) % B := by rw [Nat.mul_mod, Nat.mod_mod, ← Nat.mul_mod]
  have h1 : (u % B + p * (v % B)) % B = (u + p * v) % B := by rw [Nat.add_mod, Nat.mod_mod, h, ← Nat.add_mod]
  rw [Nat.add_mod, h1, ← Nat.add_mod]

theorem mcB_dig (hB : 0 < B) (x y p j : Nat) : (dg B x j + p * dg B y j + mcB B x y p j) % B = dg B (x + p * y) j := by
  unfold dg
  rw [mcB_split hB, mod_macB]

theorem mcB_succ (hB : 0 < B) (x y p j : Nat) : (dg B x j + p * dg B y j + mcB B x y p j) / B = mcB B x y p (j + 1) := by
  have hp : 0 < B ^ j := Nat.pow_pos hB
  have e : x % B ^ (j + 1) + p * (y % B ^ (j + 1)) = (x % B ^ j + p * (y % B ^ j)) + B ^ j * (dg B x j + p * dg B y j) := by
    rw [dg_mod_succ, dg_mod_succ, Nat.mul_add, Nat.mul_add]
    have h2 : p * (B ^ j * dg B y j) = B ^ j * (p * dg B y j) := by rw [Nat.mul_left_comm]
    omega
  unfold mcB
  rw [e, Nat.pow_succ, ← Nat.div_div_eq_div_mul, Nat.add_mul_div_left _ _ hp]
  congr 1
  omega
theorem mcB_zero (x y p : Nat) : mcB B x y p 0 = 0 := by simp [mcB, Nat.mod_one]
end

/-! To the base 65536. -/
abbrev DD : Nat := 65536

/-- How many digits a number has. -/
def dl (n : Nat) : Nat := if n = 0 then 0 else n.log2 / 16 + 1

theorem dl_zero : dl 0 = 0 := rfl
theorem lt_dl (n : Nat) : n < DD ^ dl n := by
  unfold dl
  split
  · subst n; decide
  · rename_i h
    show n < (2 ^ 16) ^ _
    rw [← Nat.pow_mul]
    exact (Nat.log2_lt h).1 (by omega)
theorem dl_le (n : Nat) (h : n ≠ 0) : DD ^ (dl n - 1) ≤ n := by
  unfold dl
  rw [if_neg h]
  show (2 ^ 16) ^ _ ≤ n
  rw [← Nat.pow_mul]
  exact Nat.le_trans (Nat.pow_le_pow_right (by omega) (by omega)) (Nat.log2_self_le h)
theorem dl_pos (n : Nat) (h : n ≠ 0) : 0 < dl n := by unfold dl; rw [if_neg h]; omega
theorem dl_of_lt (n k : Nat) (h : n < DD ^ k) : dl n ≤ k := by
  rcases Nat.eq_zero_or_pos n with rfl | hn
  · exact Nat.zero_le _
  · rcases Nat.lt_or_ge k (dl n) with h1 | h1
    · have h2 := dl_le n (by omega)
      have h3 := Nat.pow_le_pow_right (n := DD) (by decide) (show k ≤ dl n - 1 by omega)
      omega
    · exact h1
theorem dl_top (n : Nat) (h : n ≠ 0) : dg DD n (dl n - 1) ≠ 0 := by
  have h1 := dl_le n h
  have h2 := lt_dl n
  have hp := dl_pos n h
  have e : DD ^ dl n = DD ^ (dl n - 1) * DD := by rw [← Nat.pow_succ]; congr 1; omega
  unfold dg
  rw [Nat.mod_eq_of_lt (Nat.div_lt_of_lt_mul (by rw [← e]; exact h2))]
  have := Nat.div_pos h1 (Nat.pow_pos (n := dl n - 1) (show 0 < DD by decide))
  omega
theorem dl_mono (a b : Nat) (h : a ≤ b) : dl a ≤ dl b := dl_of_lt a (dl b) (Nat.lt_of_le_of_lt h (lt_dl b))

/-- The digits, the lowest first. -/
def digs (n : Nat) : List Nat := (List.range (dl n)).map (dg DD n)
theorem digs_length (n : Nat) : (digs n).length = dl n := by simp [digs]
theorem digs_at (n i : Nat) (h : i < dl n) : (digs n)[i]? = some (dg DD n i) := by simp [digs, h]

/-- So many digits, which may be more than there are. -/
def digsTo (n k : Nat) : List Nat := (List.range k).map (dg DD n)
theorem digsTo_length (n k : Nat) : (digsTo n k).length = k := by simp [digsTo]
theorem digsTo_at (n k i : Nat) (h : i < k) : (digsTo n k)[i]? = some (dg DD n i) := by simp [digsTo, h]
theorem digsTo_succ (n k : Nat) : digsTo n (k + 1) = digsTo n k ++ [dg DD n k] := by simp [digsTo, List.range_succ]
theorem digsTo_take (n k j : Nat) (h : j ≤ k) : (digsTo n k).take j = digsTo n j := by
  simp only [digsTo, ← List.map_take, List.take_range]
  rw [Nat.min_eq_left h]
theorem digs_eq (n : Nat) : digs n = digsTo n (dl n) := rfl

/-- Two numbers with the same digits are one. -/
theorem eq_of_dg (a b k : Nat) (ha : a < DD ^ k) (hb : b < DD ^ k) (h : ∀ i, i < k → dg DD a i = dg DD b i) : a = b := by
  have e : ∀ j, j ≤ k → a % DD ^ j = b % DD ^ j := by
    intro j
    induction j with
    | zero => intro _; simp [Nat.mod_one]
    | succ j ih => intro hj; rw [dg_mod_succ, dg_mod_succ, ih (by omega), h j (by omega)]
  have := e k (Nat.le_refl _)
  rwa [Nat.mod_eq_of_lt ha, Nat.mod_eq_of_lt hb] at this

theorem lt_of_dg (a b p : Nat) (h : a / DD ^ (p + 1) = b / DD ^ (p + 1)) (hd : dg DD a p < dg DD b p) : a < b := by
  rcases Nat.lt_or_ge a b with h1 | h1
  · exact h1
  · have := Nat.div_le_div_right (c := DD ^ p) h1
    rw [dg_div a p, dg_div b p, h] at this
    omega
theorem same_of_dg (a b p : Nat) (h : a / DD ^ (p + 1) = b / DD ^ (p + 1)) (hd : dg DD a p = dg DD b p) : a / DD ^ p = b / DD ^ p := by
  rw [dg_div a p, dg_div b p, h, hd]
theorem lt_of_dl (a b : Nat) (h : dl a < dl b) : a < b := by
  rcases Nat.lt_or_ge a b with h1 | h1
  · exact h1
  · have := dl_mono b a h1; omega

/-- A digit of bytes. -/
theorem dg_byte (v c k : Nat) (hv : v < 256 ^ k) (hc : c < 256) (j : Nat) : dg DD (c * 256 ^ k + v) j = if j = k / 2 then dg DD v j + c * 256 ^ (k % 2) else dg DD v j := by
  have hb : DD = 256 ^ 2 := rfl
  unfold dg
  rw [hb, ← Nat.pow_mul]
  rcases Nat.lt_trichotomy j (k / 2) with h | h | h
  · rw [if_neg (by omega)]
    have e : (256 : Nat) ^ k = 256 ^ (2 * j) * (256 ^ 2 * 256 ^ (k - 2 * j - 2)) := by rw [← Nat.pow_add, ← Nat.pow_add]; congr 1; omega
    rw [e, Nat.mul_left_comm, Nat.add_comm, Nat.add_mul_div_left _ _ (Nat.pow_pos (by omega)), Nat.mul_left_comm c, Nat.add_mul_mod_self_left]
  · subst h
    rw [if_pos rfl]
    have hk : 2 * (k / 2) + k % 2 = k := Nat.div_add_mod k 2
    have e : (256 : Nat) ^ k = 256 ^ (2 * (k / 2)) * 256 ^ (k % 2) := by rw [← Nat.pow_add, hk]
    rw [e, Nat.mul_left_comm, Nat.add_comm, Nat.add_mul_div_left _ _ (Nat.pow_pos (by omega))]
    have hq : v / 256 ^ (2 * (k / 2)) < 256 ^ (k % 2) := Nat.div_lt_of_lt_mul (by rw [← e]; exact hv)
    have h8 : (256 : Nat) ^ (k % 2) * 256 ≤ 256 ^ 2 := by rw [← Nat.pow_succ]; exact Nat.pow_le_pow_right (by omega) (by omega)
    have h9 : c * 256 ^ (k % 2) ≤ 255 * 256 ^ (k % 2) := Nat.mul_le_mul_right _ (by omega)
    generalize (256 : Nat) ^ (k % 2) = p at *
    generalize v / 256 ^ (2 * (k / 2)) = q at *
    rw [Nat.mod_eq_of_lt (by omega), Nat.mod_eq_of_lt (a := q) (by omega)]
  · rw [if_neg (by omega)]
    have hle : (256 : Nat) ^ (k + 1) ≤ 256 ^ (2 * j) := Nat.pow_le_pow_right (by omega) (by omega)
    have h9 : c * 256 ^ k ≤ 255 * 256 ^ k := Nat.mul_le_mul_right _ (by omega)
    rw [Nat.pow_succ] at hle
    rw [Nat.div_eq_of_lt (by omega), Nat.div_eq_of_lt (by omega)]

theorem digsTo_put (v c k n : Nat) (hv : v < 256 ^ k) (hc : c < 256) : (digsTo v n).set (k / 2) (dg DD v (k / 2) + c * 256 ^ (k % 2)) = digsTo (c * 256 ^ k + v) n := by
  refine List.ext_getElem (by simp [digsTo]) (fun i h1 h2 => ?_)
  rw [List.getElem_set]
  simp only [digsTo, List.getElem_map, List.getElem_range]
  rw [dg_byte v c k hv hc]
  by_cases h : k / 2 = i
  · subst h; rw [if_pos rfl]
  · rw [if_neg h, if_neg (Ne.symm h)]

theorem byte_dg (n i : Nat) : byteAt n i = dg DD n (i / 2) / 256 ^ (i % 2) % 256 := by
  unfold byteAt dg
  have hb : DD = 256 ^ 2 := rfl
  rw [hb, ← Nat.pow_mul]
  have e : (256 : Nat) ^ 2 = 256 ^ (i % 2) * (256 * 256 ^ (1 - i % 2)) := by
    rw [← Nat.pow_succ', ← Nat.pow_add]; congr 1; omega
  rw [e, Nat.mod_mul_right_div_self, Nat.mod_mul_right_mod, Nat.div_div_eq_div_mul, ← Nat.pow_add]
  congr 3
  omega

end Go.Proofs.Ytipgjookfdkciaa

/- The document's numbers, as slices of digits: what is trimmed, what is compared. No condition. -/
namespace Go.Proofs.Ytipgjookfdkciaa
open Go.RowKit

def dV (d : Nat) : Value := .int .i64 (d : Int)

/-- A slice of digits reads as a number. -/
def NumAt (w : World) (a : Option Addr) (n : Nat) : Prop := Sl w w.heap.size a ((digs n).map dV)

theorem NumAt.up {W w : World} {a : Option Addr} {n : Nat} (h : NumAt W a n) (hb : Below W.heap.size W w) : NumAt w a n := Sl.up h hb
theorem NumAt.zero (w : World) (a : Option Addr) : NumAt w a 0 := Or.inl rfl

theorem NumAt.at {w : World} {a : Option Addr} {n : Nat} (h : NumAt w a n) (i : Nat) (hi : i < dl n) :
    ∃ b off, a = some ⟨b, off, none⟩ ∧ b < w.heap.size ∧ w.cell? ⟨b, off + i, none⟩ = some (.int .i64 (dg DD n i : Int)) := by
  obtain ⟨b, off, h1, h2, h3⟩ := Sl.at h i (by simp [digs_length]; exact hi)
  refine ⟨b, off, h1, h2, ?_⟩
  rw [h3]
  simp [digs, dV]

/-- All digits, of a number that has some. -/
theorem NumAt.all {w : World} {a : Option Addr} {n : Nat} (h : NumAt w a n) (h0 : 0 < dl n) :
    ∃ b off, a = some ⟨b, off, none⟩ ∧ b < w.heap.size ∧ ∀ i, i < dl n → w.cell? ⟨b, off + i, none⟩ = some (.int .i64 (dg DD n i : Int)) := by
  obtain ⟨b, off, h1, h2, _⟩ := h.at 0 h0
  refine ⟨b, off, h1, h2, fun i hi => ?_⟩
  obtain ⟨b', off', h1', _, h3'⟩ := h.at i hi
  rw [h1] at h1'
  cases h1'
  exact h3'

theorem NumAt.of {w : World} {n b off : Nat} (hb : b < w.heap.size) (h : ∀ i, i < dl n → w.cell? ⟨b, off + i, none⟩ = some (.int .i64 (dg DD n i : Int))) : NumAt w (some ⟨b, off, none⟩) n := by
  refine Or.inr ⟨b, off, rfl, hb, fun i v hv => ?_⟩
  have hi : i < dl n := by
    have := (List.getElem?_eq_some_iff.1 hv).1
    simpa [digs_length] using this
  rw [h i hi]
  simp [digs, hi, dV] at hv
  rw [← hv]

/-- What comes back: a slice of digits that reads as n. -/
def NumR (w : World) (e : Ending) (w' : World) (n : Nat) : Prop := ∃ a cap, e = .returned (.slice a (dl n) cap) ∧ NumAt w' a n ∧ Below w.heap.size w w'

/-- A row of k digits; those from dl n on are nought. -/
theorem dg_nought (n i : Nat) (h : dl n ≤ i) : dg DD n i = 0 := dg_above (by decide) n (dl n) i (lt_dl n) h

def TrimR (b off n : Nat) (w : World) (e : Ending) (w' : World) : Prop := ∃ cap', e = .returned (.slice (some ⟨b, off, none⟩) (dl n) cap') ∧ w = w'

set_option maxHeartbeats 1000000 in
theorem trim_any (n k b off cap : Nat) (hk : n < DD ^ k) (hm : k ≤ 1073741824) (hkc : k ≤ cap) (w : World) (hb : b < w.heap.size) (hc : ∀ i, i < k → w.cell? ⟨b, off + i, none⟩ = some (.int .i64 (dg DD n i : Int))) :
    Calls Try.prog 144 #[.slice (some ⟨b, off, none⟩) k cap] w (TrimR b off n w) := by
  have hle := dl_of_lt n k hk
  have HC := Lib.hid hc
  clear hc
  go_enter Try.func144, Try.ntmps144
  go_wp2_with fail
  go_loop [0] (fun v => ∃ j c : Nat, dl n ≤ j ∧ j ≤ k ∧ j ≤ c ∧ v = .slice (some ⟨b, off, none⟩) j c) (fun v => match v with | .slice _ j _ => j | _ => 0)
  case atStart => exact ⟨k, cap, hle, Nat.le_refl _, hkc, rfl⟩
  case round =>
    obtain ⟨j, c, h1, h2, h3, rfl⟩ := hrel
    rcases Nat.eq_zero_or_pos j with rfl | hjp
    · go_wp2_with fail
      go_ret
      have e0 : dl n = 0 := by omega
      exact ⟨c, by rw [e0]; rfl, rfl⟩
    · obtain ⟨p, rfl⟩ : ∃ p, j = p + 1 := ⟨j - 1, by omega⟩
      have hcell := HC.out p (by omega)
      have hidx : ((p + 1 : Nat) : Int) - 1 = (p : Int) := by omega
      by_cases hz : p < dl n
      · have hp : dl n = p + 1 := by omega
        have hne : n ≠ 0 := by rintro rfl; rw [dl_zero] at hz; omega
        have htop := dl_top n hne
        rw [hp, Nat.add_sub_cancel] at htop
        have hd : ((dg DD n p : Int) == 0) = false := by simp; omega
        have HP := Lib.hid hp
        clear hp htop
        go_wp2_with fail
        go_ret
        exact ⟨c, by rw [HP.out]; rfl, rfl⟩
      · have h0 := dg_nought n p (by omega)
        rw [h0] at hcell
        clear h0
        go_wp2_with fail
        go_round
        case rel => exact ⟨p, c, by omega, by omega, by omega, rfl⟩
        case measure => simp

end Go.Proofs.Ytipgjookfdkciaa

/- The document's numbers: Of, Plus, Times. No condition. -/
namespace Go.Proofs.Ytipgjookfdkciaa
open Go.RowKit

theorem infoInt3 : (Try.prog.info? 3).map (fun i => (i.zero, i.size, i.bytes)) = some (some (.int .i64 0), 1, 8) := by kernel_rfl

/-- A row of the call's own, of k digits of n. -/
structure OwnD (W w : World) (v : Value) (n k : Nat) : Prop where
  own : w.ownsRow 0 3 1 v k ((digsTo n k).map dV)
  new_ : ∀ q, v.ownBlock = some q → W.heap.size ≤ q
  below : Below W.heap.size W w

theorem OwnD.nil (W : World) (n : Nat) : OwnD W W (.slice none 0 0) n 0 := ⟨World.ownsRow_nil _ _ _ _, fun q h => by simp [Value.ownBlock] at h, Below.refl _ _⟩

theorem OwnD.push {W w w1 : World} {v : Value} {n k g c : Nat} (h : OwnD W w v n k) (hown : w1.ownsRow 0 3 1 (.slice (some ⟨g, 0, none⟩) (k + 1) c) (k + 1) ((digsTo n k).map dV ++ [.int .i64 (dg DD n k : Int)])) (hp : Pushed w w1 v g) : OwnD W w1 (.slice (some ⟨g, 0, none⟩) (k + 1) c) n (k + 1) :=
  ⟨by rw [digsTo_succ, List.map_append]; exact hown, hp.from_ h.below.size h.new_, hp.below h.below h.below.size h.new_⟩

theorem own_form3 {w : World} {base e k n : Nat} {v : Value} {xs : List Value} (h : w.ownsRow base e k v n xs) : ∃ a c, v = .slice a n c ∧ (n = 0 ∨ ∃ g, a = some ⟨g, 0, none⟩ ∧ g < w.heap.size) := by
  rcases h.2 with ⟨hv, h0⟩ | ⟨g, cap, cur, hv, _, hg, _⟩
  · subst h0; exact ⟨none, 0, hv, Or.inl rfl⟩
  · exact ⟨_, cap, hv, Or.inr ⟨g, rfl, (Array.getElem?_eq_some_iff.1 hg).1⟩⟩

theorem own_cap {w : World} {base e k n g c : Nat} {xs : List Value} (h : w.ownsRow base e k (.slice (some ⟨g, 0, none⟩) n c) n xs) : n ≤ c ∧ c ≤ maxLen := by
  rcases h.2 with ⟨hv, _⟩ | ⟨g', cap, cur, hv, _, _, h1, h2⟩
  · cases hv
  · cases hv
    exact ⟨h1, h2.1⟩

theorem sl_of_own {w : World} {base e n : Nat} {a : Option Addr} {c : Nat} {xs : List Value} (h : w.ownsRow base e 1 (.slice a n c) n xs) : Sl w w.heap.size a xs := by
  rcases h.2 with ⟨hv, h0⟩ | ⟨g, cap, cur, hv, hb, hg, hr⟩
  · have := h.1; subst h0; left; exact List.length_eq_zero_iff.1 (by simpa using this)
  · simp only [Value.slice.injEq] at hv
    obtain ⟨rfl, _, rfl⟩ := hv
    refine Or.inr ⟨g, 0, rfl, (Array.getElem?_eq_some_iff.1 hg).1, fun i u hu => ?_⟩
    have hi : i < n * 1 := by have := (List.getElem?_eq_some_iff.1 hu).1; rw [h.1] at this; exact this
    rw [Nat.zero_add, h.cellAt i hi]; exact hu

theorem dl_iff (n j : Nat) : 0 < n / DD ^ j ↔ j < dl n := by
  rcases Nat.lt_or_ge j (dl n) with h | h
  · have hn : n ≠ 0 := by rintro rfl; rw [dl_zero] at h; omega
    have h1 := dl_le n hn
    have h2 := Nat.pow_le_pow_right (n := DD) (by decide) (show j ≤ dl n - 1 by omega)
    exact ⟨fun _ => h, fun _ => Nat.div_pos (by omega) (Nat.pow_pos (by decide))⟩
  · have h1 := lt_dl n
    have h2 := Nat.pow_le_pow_right (n := DD) (by decide) h
    rw [Nat.div_eq_of_lt (by omega)]
    omega


set_option maxHeartbeats 1000000 in
theorem refOf_any (n : Nat) (hn : n ≤ 9223372036854775807) (w : World) : Calls Try.prog 83 #[.int .i64 (n : Int)] w fun e w' => NumR w e w' n := by
  obtain ⟨i0, hi, hz0, hz1, hz2⟩ := info_parts infoInt3
  have hdl : dl n ≤ 4 := dl_of_lt n 4 (by show n < 65536 ^ 4; omega)
  go_enter Try.func83, Try.ntmps83
  go_wp2_with fail
  go_loopw [0, 3] (fun x u wr => ∃ j : Nat, j ≤ dl n ∧ x = .int .i64 (n / DD ^ j : Nat) ∧ Hid (OwnD w wr u n j)) (fun x _ _ => (intOf x).toNat)
  case atStart => exact ⟨0, Nat.zero_le _, by simp, OwnD.nil w n⟩
  case round =>
    obtain ⟨j, hj, rfl, HO⟩ := hrel
    have hle : n / DD ^ j ≤ n := Nat.div_le_self _ _
    have hiff := dl_iff n j
    by_cases hjl : j < dl n
    · have hpos := hiff.2 hjl
      have hdg : ((n / DD ^ j : Nat) : Int) % 65536 = (dg DD n j : Int) := by
        unfold dg
        generalize n / DD ^ j = x
        show (x : Int) % 65536 = ((x % 65536 : Nat) : Int)
        omega
      have hnx : ((n / DD ^ j : Nat) : Int) / 65536 = ((n / DD ^ (j + 1) : Nat) : Int) := by
        rw [Nat.pow_succ, ← Nat.div_div_eq_div_mul]
        generalize n / DD ^ j = x
        show (x : Int) / 65536 = ((x / 65536 : Nat) : Int)
        omega
      have hdec : n / DD ^ (j + 1) < n / DD ^ j := by
        rw [Nat.pow_succ, ← Nat.div_div_eq_div_mul]
        exact Nat.div_lt_self hpos (by decide)
      clear hiff
      generalize n / DD ^ j = x at *
      generalize hx1 : n / DD ^ (j + 1) = x1 at *
      have HX1 := Lib.hid hx1
      clear hx1
      generalize hd : dg DD n j = d at *
      have HD := Lib.hid hd
      clear hd
      go_wp2_with (at_builtin; refine wpList_push wr rfl _ _ 96 rfl 3 i0 _ 1 8 Try.underlying96 hi hz0 hz1 hz2 rfl (by omega) u3 j ((digsTo n j).map dV) rfl HO.out.own _ _ _ rfl rfl rfl (by simp [Value.oneCell']) (by omega) (by unfold maxLen; omega) ?_)
      intro g gc w1 hown hp
      have HO1 := Lib.hid (HO.out.push (by rw [HD.out]; exact hown) hp)
      clear hown hp
      go_wp2_with fail
      go_roundw
      case rel => exact ⟨j + 1, by omega, by rw [HX1.out], HO1.out⟩
      case measure => simp [intOf]; omega
    · have hjn : j = dl n := by omega
      subst hjn
      have h0 : ¬ 0 < n / DD ^ dl n := fun h => hjl (hiff.1 h)
      have h00 : n / DD ^ dl n = 0 := Nat.eq_zero_of_not_pos h0
      rw [h00]
      clear hiff h0 h00 hle
      go_wp2_with fail
      go_ret
      obtain ⟨a, c, rfl, _⟩ := own_form3 HO.out.own
      exact ⟨a, c, rfl, sl_of_own HO.out.own, HO.out.below⟩

def TrimO (v : Value) (n : Nat) (w : World) (e : Ending) (w' : World) : Prop := ∃ a cap, e = .returned (.slice a (dl n) cap) ∧ NumAt w a n ∧ (∀ q o, a = some ⟨q, o, none⟩ → v.ownBlock = some q) ∧ w = w'

/-- What comes back lies in a block of its own. -/
def NumN (w : World) (e : Ending) (w' : World) (n : Nat) : Prop := ∃ a cap, e = .returned (.slice a (dl n) cap) ∧ NumAt w' a n ∧ (∀ q o, a = some ⟨q, o, none⟩ → w.heap.size ≤ q) ∧ Below w.heap.size w w'
theorem NumN.r {w w' : World} {e : Ending} {n : Nat} (h : NumN w e w' n) : NumR w e w' n := let ⟨a, c, h1, h2, _, h4⟩ := h; ⟨a, c, h1, h2, h4⟩

set_option maxHeartbeats 1000000 in
theorem trim_none (w : World) : Calls Try.prog 144 #[.slice none 0 0] w (TrimO (.slice none 0 0) 0 w) := by
  go_enter Try.func144, Try.ntmps144
  go_wp2_with fail
  go_loop [0] (fun v => v = .slice none 0 0) (fun _ => 0)
  case atStart => rfl
  case round =>
    subst hrel
    go_wp2_with fail
    go_ret
    exact ⟨none, 0, rfl, NumAt.zero _ _, (fun q o h => by cases h), rfl⟩

theorem trim_own {v : Value} {n k : Nat} {w : World} (h : w.ownsRow 0 3 1 v k ((digsTo n k).map dV)) (hn : n < DD ^ k) (hk : k ≤ 1073741824) :
    Calls Try.prog 144 #[v] w (TrimO v n w) := by
  obtain ⟨a, c, rfl, hg⟩ := own_form3 h
  rcases h.2 with ⟨hv, h0⟩ | ⟨g, cap, cur, hv, _, hgl, _⟩
  · subst h0
    cases hv
    have h1 : n = 0 := by rw [Nat.pow_zero] at hn; omega
    subst h1
    exact trim_none w
  · cases hv
    have hcell : ∀ i, i < k → w.cell? ⟨g, 0 + i, none⟩ = some (.int .i64 (dg DD n i : Int)) := fun i hi => by
      rw [Nat.zero_add, h.cellAt i (by omega)]
      simp [digsTo, hi, dV]
    refine (trim_any n k g 0 c hn hk (own_cap h).1 w (Array.getElem?_eq_some_iff.1 hgl).1 hcell).mono ?_
    rintro e w' ⟨cap', rfl, rfl⟩
    exact ⟨_, cap', rfl, NumAt.of (Array.getElem?_eq_some_iff.1 hgl).1 fun i hi => hcell i (Nat.lt_of_lt_of_le hi (dl_of_lt n k hn)), (fun q o h => by cases h; rfl), rfl⟩

theorem plus_end (a b j : Nat) (ha : dl a ≤ j) (hb : dl b ≤ j) (hc : mcB DD a b 1 j = 0) : a + b < DD ^ j := by
  have h := mcB_split (B := DD) (by decide) a b 1 j
  have h1 := Nat.lt_of_lt_of_le (lt_dl a) (Nat.pow_le_pow_right (n := DD) (by decide) ha)
  have h2 := Nat.lt_of_lt_of_le (lt_dl b) (Nat.pow_le_pow_right (n := DD) (by decide) hb)
  rw [Nat.div_eq_of_lt h1, Nat.div_eq_of_lt h2, hc, Nat.one_mul] at h
  rcases Nat.lt_or_ge (a + b) (DD ^ j) with h3 | h3
  · exact h3
  · have := Nat.div_pos h3 (Nat.pow_pos (show 0 < DD by decide))
    omega
theorem plus_last (a b j : Nat) (ha : dl a < j) (hb : dl b < j) : mcB DD a b 1 j = 0 := by
  obtain ⟨p, rfl⟩ : ∃ p, j = p + 1 := ⟨j - 1, by omega⟩
  have h1 := Nat.lt_of_lt_of_le (lt_dl a) (Nat.pow_le_pow_right (n := DD) (by decide) (show dl a ≤ p by omega))
  have h2 := Nat.lt_of_lt_of_le (lt_dl b) (Nat.pow_le_pow_right (n := DD) (by decide) (show dl b ≤ p by omega))
  have h3 : DD ^ (p + 1) = DD ^ p * 65536 := Nat.pow_succ ..
  unfold mcB
  rw [Nat.mod_eq_of_lt (by omega), Nat.mod_eq_of_lt (by omega), Nat.one_mul]
  exact Nat.div_eq_of_lt (by omega)
theorem plus_max (a b j : Nat) (ha : dl a < j) (hb : dl b < j) : a + b < DD ^ j := plus_end a b j (by omega) (by omega) (plus_last a b j ha hb)


set_option maxHeartbeats 2000000 in
theorem refPlus_new (a b : Nat) (aa ab : Option Addr) (ca cb : Nat) (hla : dl a ≤ 1048576) (hlb : dl b ≤ 1048576) (w : World) (hA : NumAt w aa a) (hB : NumAt w ab b) :
    Calls Try.prog 137 #[.slice aa (dl a) ca, .slice ab (dl b) cb] w fun e w' => NumN w e w' (a + b) := by
  obtain ⟨i0, hi, hz0, hz1, hz2⟩ := info_parts infoInt3
  have HA := Lib.hid hA
  have HB := Lib.hid hB
  clear hA hB
  go_enter Try.func137, Try.ntmps137
  go_wp2_with fail
  go_loopw [5, 6, 7] (fun u c i wr => ∃ j : Nat, j ≤ 1048577 ∧ (j ≤ dl a ∨ j ≤ dl b ∨ (j ≤ dl a + 1 ∧ j ≤ dl b + 1) ∨ j ≤ max (dl a) (dl b) + 1) ∧ i = .int .i64 j ∧ c = .int .i64 (mcB DD a b 1 j : Nat) ∧ Hid (OwnD w wr u (a + b) j)) (fun _ _ i _ => max (dl a) (dl b) + 1 - (intOf i).toNat)
  case atStart => exact ⟨0, Nat.zero_le _, Or.inl (Nat.zero_le _), rfl, by rw [mcB_zero]; rfl, OwnD.nil w _⟩
  case round =>
    obtain ⟨j, hj, hjm, rfl, rfl, HO⟩ := hrel
    have hja : j ≤ max (dl a) (dl b) + 1 := by omega
    have hc1 := mcB_le (B := DD) (by decide) a b 1 j
    have hda : dg DD a j < 65536 := dg_lt (B := DD) (by decide) a j
    have hdb : dg DD b j < 65536 := dg_lt (B := DD) (by decide) b j
    have hdig := mcB_dig (B := DD) (by decide) a b 1 j
    have hsuc := mcB_succ (B := DD) (by decide) a b 1 j
    have hna := dg_nought a j
    have hnb := dg_nought b j
    have hend := plus_end a b j
    have hlast := plus_last a b j
    simp only [Nat.one_mul] at hdig hsuc
    generalize mcB DD a b 1 j = c at *
    generalize hc2 : mcB DD a b 1 (j + 1) = c2 at *
    generalize hD : dg DD (a + b) j = D at *
    have HC2 := Lib.hid hc2
    have HD := Lib.hid hD
    have HDIG := Lib.hid hdig
    have HSUC := Lib.hid hsuc
    have HEND := Lib.hid hend
    have hlast' : 0 < c → ¬ (dl a < j ∧ dl b < j) := fun h h1 => by have := hlast h1.1 h1.2; omega
    have hDlt : D < 65536 := by rw [← hD]; exact dg_lt (by decide) _ _
    clear hc2 hD hdig hsuc hend hlast
    by_cases hla' : j < dl a
    · obtain ⟨b1, o1, rfl, hb1, hcell1⟩ := (HA.out.up HO.out.below).all (by omega)
      have hx1 := hcell1 j hla'
      have hdla : ¬ dl a = 0 := by omega
      clear hcell1 hna
      by_cases hlb' : j < dl b
      · obtain ⟨b2, o2, rfl, hb2, hcell2⟩ := (HB.out.up HO.out.below).all (by omega)
        have hx2 := hcell2 j hlb'
        clear hcell2 hnb
        generalize dg DD a j = da at *
        generalize dg DD b j = db at *
        have hm1 : ((c : Int) + (da : Int) + (db : Int)) % 65536 = (D : Int) := by have h := HDIG.out; have h2 : (DD : Nat) = 65536 := rfl; rw [h2] at h; omega
        have hd1 : ((c : Int) + (da : Int) + (db : Int)) / 65536 = (c2 : Int) := by have h := HSUC.out; have h2 : (DD : Nat) = 65536 := rfl; rw [h2] at h; omega
        have hb0 : 0 ≤ (c : Int) + (da : Int) + (db : Int) := by omega
        have hb9 : (c : Int) + (da : Int) + (db : Int) ≤ 131072 := by omega
        go_wp2_with (at_builtin; refine wpList_push wr rfl _ _ 96 rfl 3 i0 _ 1 8 Try.underlying96 hi hz0 hz1 hz2 rfl (by omega) u5 j ((digsTo (a + b) j).map dV) rfl HO.out.own _ _ _ rfl rfl rfl (by simp [Value.oneCell']) (by omega) (by unfold maxLen; omega) ?_)
        intro g gc w1 hown hp
        have HO1 := Lib.hid (HO.out.push (by rw [HD.out]; exact hown) hp)
        clear hown hp
        go_wp2_with fail
        go_roundw
        case rel => exact ⟨j + 1, by omega, by omega, by go_num, by first | rw [hd1, HC2.out] | rw [HC2.out], HO1.out⟩
        case measure => simp [intOf]; omega
      · have h0 := hnb (by omega)
        rw [h0] at HDIG HSUC
        clear hnb h0 hdb
        generalize dg DD a j = da at *
        have hm1 : ((c : Int) + (da : Int)) % 65536 = (D : Int) := by have h := HDIG.out; have h2 : (DD : Nat) = 65536 := rfl; rw [h2] at h; omega
        have hd1 : ((c : Int) + (da : Int)) / 65536 = (c2 : Int) := by have h := HSUC.out; have h2 : (DD : Nat) = 65536 := rfl; rw [h2] at h; omega
        have hb0 : 0 ≤ (c : Int) + (da : Int) := by omega
        have hb9 : (c : Int) + (da : Int) ≤ 131072 := by omega
        go_wp2_with (at_builtin; refine wpList_push wr rfl _ _ 96 rfl 3 i0 _ 1 8 Try.underlying96 hi hz0 hz1 hz2 rfl (by omega) u5 j ((digsTo (a + b) j).map dV) rfl HO.out.own _ _ _ rfl rfl rfl (by simp [Value.oneCell']) (by omega) (by unfold maxLen; omega) ?_)
        intro g gc w1 hown hp
        have HO1 := Lib.hid (HO.out.push (by rw [HD.out]; exact hown) hp)
        clear hown hp
        go_wp2_with fail
        go_roundw
        case rel => exact ⟨j + 1, by omega, by omega, by go_num, by first | rw [hd1, HC2.out] | rw [HC2.out], HO1.out⟩
        case measure => simp [intOf]; omega
    · have h0 := hna (by omega)
      rw [h0] at HDIG HSUC
      clear hna h0 hda
      by_cases hlb' : j < dl b
      · obtain ⟨b2, o2, rfl, hb2, hcell2⟩ := (HB.out.up HO.out.below).all (by omega)
        have hx2 := hcell2 j hlb'
        clear hcell2 hnb
        generalize dg DD b j = db at *
        have hm1 : ((c : Int) + (db : Int)) % 65536 = (D : Int) := by have h := HDIG.out; have h2 : (DD : Nat) = 65536 := rfl; rw [h2] at h; omega
        have hd1 : ((c : Int) + (db : Int)) / 65536 = (c2 : Int) := by have h := HSUC.out; have h2 : (DD : Nat) = 65536 := rfl; rw [h2] at h; omega
        have hb0 : 0 ≤ (c : Int) + (db : Int) := by omega
        have hb9 : (c : Int) + (db : Int) ≤ 131072 := by omega
        go_wp2_with (at_builtin; refine wpList_push wr rfl _ _ 96 rfl 3 i0 _ 1 8 Try.underlying96 hi hz0 hz1 hz2 rfl (by omega) u5 j ((digsTo (a + b) j).map dV) rfl HO.out.own _ _ _ rfl rfl rfl (by simp [Value.oneCell']) (by omega) (by unfold maxLen; omega) ?_)
        intro g gc w1 hown hp
        have HO1 := Lib.hid (HO.out.push (by rw [HD.out]; exact hown) hp)
        clear hown hp
        go_wp2_with fail
        go_roundw
        case rel => exact ⟨j + 1, by omega, by omega, by go_num, by first | rw [hd1, HC2.out] | rw [HC2.out], HO1.out⟩
        case measure => simp [intOf]; omega
      · have h0 := hnb (by omega)
        rw [h0] at HDIG HSUC
        clear hnb h0 hdb
        by_cases hcp : 0 < c
        · have hlast2 := hlast' hcp
          have hm1 : ((c : Int)) % 65536 = (D : Int) := by have h := HDIG.out; have h2 : (DD : Nat) = 65536 := rfl; rw [h2] at h; omega
          have hd1 : ((c : Int)) / 65536 = (c2 : Int) := by have h := HSUC.out; have h2 : (DD : Nat) = 65536 := rfl; rw [h2] at h; omega
          have hb0 : 0 ≤ (c : Int) := by omega
          have hb9 : (c : Int) ≤ 131072 := by omega
          go_wp2_with (at_builtin; refine wpList_push wr rfl _ _ 96 rfl 3 i0 _ 1 8 Try.underlying96 hi hz0 hz1 hz2 rfl (by omega) u5 j ((digsTo (a + b) j).map dV) rfl HO.out.own _ _ _ rfl rfl rfl (by simp [Value.oneCell']) (by omega) (by unfold maxLen; omega) ?_)
          intro g gc w1 hown hp
          have HO1 := Lib.hid (HO.out.push (by rw [HD.out]; exact hown) hp)
          clear hown hp
          go_wp2_with fail
          go_roundw
          case rel => exact ⟨j + 1, by omega, by omega, by go_num, by first | rw [hd1, HC2.out] | rw [HC2.out], HO1.out⟩
          case measure => simp [intOf]; omega
        · have hc0 : c = 0 := by omega
          have HLT := Lib.hid (HEND.out (by omega) (by omega) hc0)
          subst hc0
          clear hlast'
          go_wp2_with fail
          refine (trim_own HO.out.own HLT.out (by omega)).mono ?_
          rintro e w' ⟨a', cap', rfl, hN, hnew, rfl⟩
          have HN := Lib.hid hN
          have HNEW := Lib.hid hnew
          clear hN hnew
          go_wp2_with fail
          go_ret
          exact ⟨a', cap', rfl, HN.out, fun q o h => HO.out.new_ q (HNEW.out q o h), HO.out.below⟩

theorem refPlus_any (a b : Nat) (aa ab : Option Addr) (ca cb : Nat) (hla : dl a ≤ 1048576) (hlb : dl b ≤ 1048576) (w : World) (hA : NumAt w aa a) (hB : NumAt w ab b) :
    Calls Try.prog 137 #[.slice aa (dl a) ca, .slice ab (dl b) cb] w fun e w' => NumR w e w' (a + b) :=
  (refPlus_new a b aa ab ca cb hla hlb w hA hB).mono fun _ _ h => h.r

end Go.Proofs.Ytipgjookfdkciaa

/- The document's numbers: Times, two, Kind. No condition. -/
namespace Go.Proofs.Ytipgjookfdkciaa
open Go.RowKit

def rowT (a b i : Nat) : Nat := (a % DD ^ i) * b
theorem rowT_zero (a b : Nat) : rowT a b 0 = 0 := by simp [rowT, Nat.mod_one]
theorem rowT_succ (a b i : Nat) : rowT a b (i + 1) = rowT a b i + dg DD a i * (b * DD ^ i) := by
  unfold rowT
  rw [dg_mod_succ, Nat.add_mul]
  congr 1
  rw [Nat.mul_comm (DD ^ i), Nat.mul_assoc, Nat.mul_comm (DD ^ i) b]
theorem rowT_lt (a b i : Nat) : rowT a b i < DD ^ (i + dl b) := by
  have h1 := Nat.mod_lt a (Nat.pow_pos (n := i) (show 0 < DD by decide))
  have h2 := lt_dl b
  unfold rowT
  rw [Nat.pow_add]
  rcases Nat.eq_zero_or_pos b with rfl | hb
  · rw [Nat.mul_zero]; exact Nat.mul_pos (Nat.pow_pos (by decide)) (Nat.pow_pos (by decide))
  · exact Nat.lt_of_lt_of_le (Nat.mul_lt_mul_of_pos_right h1 hb) (Nat.mul_le_mul_left _ (Nat.le_of_lt h2))
theorem rowT_all (a b : Nat) : rowT a b (dl a) = a * b := by unfold rowT; rw [Nat.mod_eq_of_lt (lt_dl a)]

theorem dg_shift (b i j : Nat) : dg DD (b * DD ^ i) (i + j) = dg DD b j := by
  unfold dg
  rw [Nat.pow_add, ← Nat.div_div_eq_div_mul, Nat.mul_div_cancel _ (Nat.pow_pos (by decide))]

/-- The row while a digit is multiplied. -/
def rowM (a b i j K : Nat) : List Nat := (List.range K).map fun p => if p < i + j then dg DD (rowT a b (i + 1)) p else dg DD (rowT a b i) p

theorem dg_mod_lt (n p i : Nat) (h : p < i) : dg DD n p = dg DD (n % DD ^ i) p := by
  unfold dg
  have e : DD ^ i = DD ^ p * (DD * DD ^ (i - p - 1)) := by rw [← Nat.pow_succ', ← Nat.pow_add]; congr 1; omega
  rw [e, Nat.mod_mul_right_div_self, Nat.mod_mul_right_mod]
theorem rowM_zero (a b i K : Nat) : rowM a b i 0 K = digsTo (rowT a b i) K := by
  unfold rowM digsTo
  refine List.map_congr_left fun p _ => ?_
  split
  · rename_i h
    rw [rowT_succ, dg_mod_lt _ p i (by omega), ← Nat.mul_assoc, Nat.mul_comm _ (DD ^ i), Nat.add_mul_mod_self_left, ← dg_mod_lt _ p i (by omega)]
  · rfl
theorem rowM_at (a b i j K : Nat) (h : i + j < K) : ((rowM a b i j K).map dV)[i + j]? = some (.int .i64 (dg DD (rowT a b i) (i + j) : Int)) := by
  simp [rowM, h, dV]
theorem rowM_set (a b i j K : Nat) : ((rowM a b i j K).map dV).set (i + j) (.int .i64 (dg DD (rowT a b (i + 1)) (i + j) : Int)) = (rowM a b i (j + 1) K).map dV := by
  rw [show (Value.int .i64 (dg DD (rowT a b (i + 1)) (i + j) : Int)) = dV (dg DD (rowT a b (i + 1)) (i + j)) from rfl, ← List.map_set]
  congr 1
  refine List.ext_getElem (by simp [rowM]) (fun p h1 h2 => ?_)
  rw [List.getElem_set]
  simp only [rowM, List.getElem_map, List.getElem_range]
  by_cases h : i + j = p
  · subst h; rw [if_pos rfl, if_pos (by omega)]
  · rw [if_neg h]
    by_cases h3 : p < i + j
    · rw [if_pos h3, if_pos (by omega)]
    · rw [if_neg h3, if_neg (by omega)]
theorem rowM_end (a b i K : Nat) : rowM a b i (dl b + 1) K = digsTo (rowT a b (i + 1)) K := by
  unfold rowM digsTo
  refine List.map_congr_left fun p _ => ?_
  split
  · rfl
  · rename_i h
    rw [dg_above (by decide) _ _ p (rowT_lt a b i) (by omega), dg_above (by decide) _ _ p (rowT_lt a b (i + 1)) (by omega)]
theorem up_start (a b i p : Nat) : mcB DD (rowT a b i) (b * DD ^ i) p i = 0 := by
  unfold mcB
  rw [Nat.mul_mod_left, Nat.mul_zero, Nat.add_zero]
  exact Nat.div_eq_of_lt (Nat.mod_lt _ (Nat.pow_pos (by decide)))
theorem up_end (a b i : Nat) : mcB DD (rowT a b i) (b * DD ^ i) (dg DD a i) (i + dl b) = dg DD (rowT a b (i + 1)) (i + dl b) := by
  have h := mcB_dig (B := DD) (by decide) (rowT a b i) (b * DD ^ i) (dg DD a i) (i + dl b)
  rw [dg_shift, dg_nought b (dl b) (Nat.le_refl _), Nat.mul_zero, Nat.add_zero, dg_zero _ _ (rowT_lt a b i), Nat.zero_add, ← rowT_succ] at h
  rw [← h]
  exact (Nat.mod_eq_of_lt (Nat.lt_of_le_of_lt (mcB_le (by decide) _ _ _ _) (dg_lt (by decide) _ _))).symm

theorem zeros_made (K : Nat) : (madeCells #[Value.int .i64 0] K).toList = (digsTo 0 K).map dV := by
  refine List.ext_getElem (by simp [madeCells, digsTo]) (fun i h1 h2 => by simp [madeCells, digsTo, Nat.mod_one, dV, dg])

set_option maxHeartbeats 2000000 in
theorem refTimes_any (a b : Nat) (aa ab : Option Addr) (ca cb : Nat) (hla : dl a ≤ 1048576) (hlb : dl b ≤ 1048576) (w : World) (hA : NumAt w aa a) (hB : NumAt w ab b) :
    Calls Try.prog 139 #[.slice aa (dl a) ca, .slice ab (dl b) cb] w fun e w' => NumR w e w' (a * b) := by
  obtain ⟨i0, hi, hz0, hz1, hz2⟩ := info_parts infoInt3
  have HA := Lib.hid hA
  have HB := Lib.hid hB
  clear hA hB
  obtain ⟨K, hK⟩ : ∃ K, dl a + dl b = K := ⟨_, rfl⟩
  have hK1 : (dl a : Int) + (dl b : Int) = (K : Int) := by omega
  go_enter Try.func139, Try.ntmps139
  go_wp2_with (at_make; refine wpList_make_full _ rfl _ _ 96 rfl 0 3 i0 (.int .i64 0) 1 Try.underlying96 hi hz0 hz1 _ _ _ _ K rfl rfl ?c1 ?c2 ?c3 ?c4 ?c5 ?_)
  case c1 => rfl
  case c2 => rfl
  case c3 => rw [hz2]; omega
  case c4 => unfold maxLen; omega
  case c5 => omega
  intro w1 hown hgrow
  have e0 : digsTo 0 K = digsTo (rowT a b 0) K := by rw [rowT_zero]
  rw [zeros_made, e0] at hown
  clear e0
  have HO1 := Lib.hid hown
  have HB1 : Hid (Below w.heap.size w w1) := (Below.refl _ _).grown hgrow (Nat.le_refl _) (by simp)
  have HK := Lib.hid hK
  have hKs : K ≤ 2097152 := by omega
  have hlaK : dl a ≤ K := by omega
  clear hown hgrow hi hz0 hz1 hz2 hK hK1
  go_wp2_with fail
  go_loopw [6, 7, 8, 9] (fun x _ _ _ wr => ∃ i : Nat, i ≤ dl a ∧ x = .int .i64 i ∧ Hid (wr.ownsRow 0 3 1 (.slice (some ⟨w.heap.size, 0, none⟩) K K) K ((digsTo (rowT a b i) K).map dV)) ∧ Hid (Below w.heap.size w wr)) (fun x _ _ _ _ => dl a - (intOf x).toNat)
  case atStart => exact ⟨0, Nat.zero_le _, rfl, HO1.out, HB1.out⟩
  case round =>
    clear HO1 HB1
    obtain ⟨i, hi, rfl, HO, HN⟩ := hrel
    by_cases hil : i < dl a
    · obtain ⟨W2, rfl⟩ : ∃ W2 : World, W2 = wr := ⟨_, rfl⟩
      obtain ⟨b1, o1, rfl, hb1, hcell1⟩ := HA.out.all (by omega)
      have hx1 := hcell1 i hil
      have HX1 := Lib.hid hx1
      have hda : dg DD a i < 65536 := dg_lt (B := DD) (by decide) a i
      clear hcell1 hx1
      go_wp2_with fail
      go_loopw [7, 8, 9] (fun c x _ wr => ∃ j : Nat, j ≤ dl b ∧ x = .int .i64 j ∧ c = .int .i64 (mcB DD (rowT a b i) (b * DD ^ i) (dg DD a i) (i + j) : Nat) ∧ Hid (wr.ownsRow 0 3 1 (.slice (some ⟨w.heap.size, 0, none⟩) K K) K ((rowM a b i j K).map dV)) ∧ Hid (Below w.heap.size w wr)) (fun _ x _ _ => dl b - (intOf x).toNat)
      case atStart => exact ⟨0, Nat.zero_le _, rfl, by rw [Nat.add_zero, up_start]; rfl, by show World.ownsRow _ _ _ _ _ _ _; rw [rowM_zero]; exact HO.out, HN.out⟩
      case round =>
        clear HO HN
        obtain ⟨j, hj, rfl, rfl, HO, HN⟩ := hrel
        have hsz := HN.out.size
        have hlw := (HO.out.lt w.heap.size (by simp [Value.ownBlock])).2
        have hc1 := mcB_le (B := DD) (by decide) (rowT a b i) (b * DD ^ i) (dg DD a i) (i + j)
        by_cases hjl : j < dl b
        · obtain ⟨b2, o2, rfl, hb2, hcell2⟩ := HB.out.all (by omega)
          have hx2 := hcell2 j hjl
          have hdb : dg DD b j < 65536 := dg_lt (B := DD) (by decide) b j
          have hdt : dg DD (rowT a b i) (i + j) < 65536 := dg_lt (B := DD) (by decide) _ _
          have hKij : i + j < K := by have := HK.out; omega
          have hdig := mcB_dig (B := DD) (by decide) (rowT a b i) (b * DD ^ i) (dg DD a i) (i + j)
          have hsuc := mcB_succ (B := DD) (by decide) (rowT a b i) (b * DD ^ i) (dg DD a i) (i + j)
          rw [dg_shift, ← rowT_succ] at hdig
          rw [dg_shift] at hsuc
          have hx3 := HO.out.cellAt (i + j) (by omega)
          rw [rowM_at a b i j K hKij] at hx3
          have hf3 := HO.out.frozenAt (i + j)
          have HS := Lib.hid (HO.out.stored (i + j) (.int .i64 (dg DD (rowT a b (i + 1)) (i + j) : Int)))
          have hx1' : wr.cell? ⟨b1, o1 + i, none⟩ = some (.int .i64 (dg DD a i : Int)) := by rw [HN.out.cell (p := ⟨b1, o1 + i, none⟩) hb1]; exact HX1.out
          have hx2' : wr.cell? ⟨b2, o2 + j, none⟩ = some (.int .i64 (dg DD b j : Int)) := by rw [HN.out.cell (p := ⟨b2, o2 + j, none⟩) hb2]; exact hx2
          have hprod : dg DD a i * dg DD b j ≤ 65535 * 65535 := Nat.mul_le_mul (by omega) (by omega)
          have hpi : (dg DD a i : Int) * (dg DD b j : Int) = ((dg DD a i * dg DD b j : Nat) : Int) := by simp
          clear hx2 hcell2
          generalize hT1 : dg DD (rowT a b (i + 1)) (i + j) = d1 at *
          generalize dg DD (rowT a b i) (i + j) = d0 at *
          generalize mcB DD (rowT a b i) (b * DD ^ i) (dg DD a i) (i + j) = c at *
          generalize hc2 : mcB DD (rowT a b i) (b * DD ^ i) (dg DD a i) (i + j + 1) = c2 at *
          generalize hpp : dg DD a i * dg DD b j = pr at *
          have HDIG := Lib.hid hdig
          have HSUC := Lib.hid hsuc
          have HC2 := Lib.hid hc2
          have HPI := Lib.hid hpi
          have HT1 := Lib.hid hT1
          generalize dg DD a i = da at *
          generalize dg DD b j = db at *
          clear hdig hsuc hc2 hT1 hpp
          have hm1 : ((d0 : Int) + (pr : Int) + (c : Int)) % 65536 = (d1 : Int) := by have h := HDIG.out; have h2 : (DD : Nat) = 65536 := rfl; rw [h2] at h; omega
          have hd1 : ((d0 : Int) + (pr : Int) + (c : Int)) / 65536 = (c2 : Int) := by have h := HSUC.out; have h2 : (DD : Nat) = 65536 := rfl; rw [h2] at h; omega
          go_wp2_with fail
          refine wp_region_over (by kernel_rfl) (by kernel_rfl) ?_
          have hov1 := fun (E : Over wr) o => E.cell (b := b1) o (by omega)
          have hov2 := fun (E : Over wr) o => E.cell (b := b2) o (by omega)
          have hov3 := fun (E : Over wr) o => E.cell (b := w.heap.size) o hlw
          repeat (go_big_quiet_step (fail))
          refine wpQuiet_nil ?_
          rintro _ ⟨E, rfl⟩
          have HOE := Lib.hid (HO.out.kept (below_grown E.h) (Or.inr (by simp [Value.ownBlock])))
          have HNE := Lib.hid (HN.out.trans (E.h.mono hsz))
          clear hov1 hov2 hov3 hx1' hx2' hx3 hf3 HS
          obtain ⟨w5, hw5⟩ : ∃ W9 : World, E.w = W9 := ⟨_, rfl⟩
          rw [hw5] at HOE HNE ⊢
          clear hw5 E
          have hx3 := HOE.out.cellAt (i + j) (by omega)
          rw [rowM_at a b i j K hKij] at hx3
          have hf3 := HOE.out.frozenAt (i + j)
          have hst := (HOE.out.stored (i + j) (.int .i64 (dg DD (rowT a b (i + 1)) (i + j) : Int))).1
          rw [rowM_set, HT1.out] at hst
          have HS := Lib.hid hst
          have HSB := Lib.hid (HNE.out.setCell (p := ⟨w.heap.size, i + j, none⟩) (Nat.le_refl _) (.int .i64 (d1 : Int)))
          clear hst
          go_wp2_with fail
          go_roundw
          case rel => exact ⟨j + 1, by omega, by go_num, by first | (rw [hd1, ← HC2.out]; rfl) | (rw [← HC2.out]; rfl), HS.out, HSB.out⟩
          case measure => simp [intOf]; omega
        · have hjb : j = dl b := by omega
          subst hjb
          have hKij : i + dl b < K := by have := HK.out; omega
          have hx3 := HO.out.cellAt (i + dl b) (by omega)
          rw [rowM_at a b i (dl b) K hKij] at hx3
          have hf3 := HO.out.frozenAt (i + dl b)
          have hst := (HO.out.stored (i + dl b) (.int .i64 (dg DD (rowT a b (i + 1)) (i + dl b) : Int))).1
          rw [rowM_set, rowM_end, ← up_end] at hst
          have HS := Lib.hid hst
          have HSB := Lib.hid (HN.out.setCell (p := ⟨w.heap.size, i + dl b, none⟩) (Nat.le_refl _) (.int .i64 (mcB DD (rowT a b i) (b * DD ^ i) (dg DD a i) (i + dl b) : Nat)))
          clear hst
          go_wp2_with fail
          go_roundw
          case rel => exact ⟨i + 1, by omega, by go_num, HS.out, HSB.out⟩
          case measure => simp [intOf]; omega
    · have hia : i = dl a := by omega
      subst hia
      rw [rowT_all] at HO
      have hlt : a * b < DD ^ K := by
        have h := rowT_lt a b (dl a)
        rw [rowT_all, HK.out] at h
        exact h
      have HLT := Lib.hid hlt
      clear hlt
      go_wp2_with fail
      refine (trim_own HO.out HLT.out (by omega)).mono ?_
      rintro e w' ⟨a', cap', rfl, hN, _, rfl⟩
      have HNN := Lib.hid hN
      clear hN
      go_wp2_with fail
      go_ret
      exact ⟨a', cap', rfl, HNN.out, HN.out⟩

set_option maxHeartbeats 1000000 in
theorem refTwo_any (k : Nat) (hk : k ≤ 255) (w : World) : Calls Try.prog 138 #[.int .i64 (k : Int)] w fun e w' => NumR w e w' (2 ^ k) := by
  have hdl : ∀ i, i ≤ k → dl (2 ^ i) ≤ 1048576 := fun i hi => by
    refine Nat.le_trans (dl_of_lt (2 ^ i) 16 ?_) (by decide)
    show 2 ^ i < (2 ^ 16) ^ 16
    rw [← Nat.pow_mul]
    exact Nat.pow_lt_pow_right (by omega) (by omega)
  have HDL := Lib.hid hdl
  clear hdl
  go_enter Try.func138, Try.ntmps138
  go_wp2_with fail
  refine (refOf_any 1 (by omega) w).mono ?_
  rintro e w1 ⟨a1, c1, rfl, hn1, hb1⟩
  have HN1 := Lib.hid hn1
  have HB1 := Lib.hid hb1
  clear hn1 hb1
  go_wp2_with fail
  go_loopw [3, 4] (fun u x wr => ∃ (i : Nat) (a : Option Addr) (c : Nat), i ≤ k ∧ x = .int .i64 i ∧ u = .slice a (dl (2 ^ i)) c ∧ Hid (NumAt wr a (2 ^ i)) ∧ Hid (Below w.heap.size w wr)) (fun _ x _ => k - (intOf x).toNat)
  case atStart => exact ⟨0, a1, c1, Nat.zero_le _, rfl, by rw [Nat.pow_zero], HN1.out, HB1.out⟩
  case round =>
    clear HN1 HB1
    obtain ⟨i, a, c, hi, rfl, rfl, HN, HB⟩ := hrel
    by_cases hik : i < k
    · have h1 := HDL.out i hi
      go_wp2_with fail
      refine (refPlus_any (2 ^ i) (2 ^ i) a a c c h1 h1 wr HN.out HN.out).mono ?_
      rintro e w2 ⟨a2, c2, rfl, hn2, hb2⟩
      rw [← Nat.two_mul, ← Nat.pow_succ'] at hn2 ⊢
      have HN2 := Lib.hid hn2
      have HB2 := Lib.hid (below_up HB.out hb2)
      clear hn2 hb2
      go_wp2_with fail
      go_roundw
      case rel => exact ⟨i + 1, a2, c2, by omega, by go_num, rfl, HN2.out, HB2.out⟩
      case measure => simp [intOf]; omega
    · have hik2 : i = k := by omega
      subst hik2
      go_wp2_with fail
      go_ret
      exact ⟨a, c, rfl, HN.out, HB.out⟩

end Go.Proofs.Ytipgjookfdkciaa

/- The document's groups. No condition. -/
namespace Go.Proofs.Ytipgjookfdkciaa
open Go.RowKit

/-- A block of cells. -/
def Bx (W : World) (b : Nat) (t : TypeId) (cs : List Value) : Prop := W.heap[b]? = some (.cells cs.toArray t (0, 0))

section
variable {W W' : World} {b c i n : Nat} {t : TypeId} {cs : List Value} {v : Value}
theorem Bx.lt (h : Bx W b t cs) : b < W.heap.size := (Array.getElem?_eq_some_iff.1 h).1
theorem Bx.cell (h : Bx W b t cs) (hx : cs[i]? = some v) : W.cell? ⟨b, i, none⟩ = some v := by
  simp [World.cell?, show W.heap[b]? = _ from h, hx]
theorem Bx.frozen (h : Bx W b t cs) (i : Nat) : W.frozen? ⟨b, i, none⟩ = false := by
  simp [World.frozen?, show W.heap[b]? = _ from h]
theorem Bx.below (h : Bx W b t cs) (hb : Below n W W') (hn : b < n) : Bx W' b t cs := (hb.block b hn).trans h
theorem Bx.up (h : Bx W b t cs) (hb : Below W.heap.size W W') : Bx W' b t cs := h.below hb h.lt
theorem Bx.alloc (h : Bx W b t cs) (o : Obj) : Bx (W.alloc o) b t cs := (Below.heap_alloc W o b h.lt).trans h
theorem Bx.new (W : World) (t : TypeId) (cs : List Value) (ar : Array Value) (har : ar = cs.toArray) : Bx (W.alloc (.cells ar t)) W.heap.size t cs := by
  subst har; exact heap_alloc_new W _
theorem Bx.set (h : Bx W b t cs) (i : Nat) (v : Value) : Bx (W.setCell ⟨b, i, none⟩ v) b t (cs.set i v) := by
  obtain ⟨hlt, hk⟩ := Array.getElem?_eq_some_iff.1 h
  show (W.heap.modify b _)[b]? = _
  rw [Array.getElem?_eq_getElem (by rw [Array.size_modify]; exact hlt), Array.getElem_modify_self, hk]
  simp
theorem Bx.other (h : Bx W b t cs) (hne : b ≠ c) (i : Nat) (v : Value) : Bx (W.setCell ⟨c, i, none⟩ v) b t cs := (Below.heap_setCell W ⟨c, i, none⟩ v b hne).trans h
end

/-- The document's group as a value. -/
def KindR (w : World) (e : Ending) (w' : World) (G : GP) : Prop :=
  ∃ aq cq ap cp, e = .returned (.agg #[.int .i64 (G.size : Int), .slice aq (dl G.q.m) cq, .slice ap (dl G.p.m) cp]) ∧ NumAt w' aq G.q.m ∧ NumAt w' ap G.p.m ∧ Below w.heap.size w w'

theorem NumAt.store {w : World} {a : Option Addr} {n b : Nat} (h : NumAt w a n) (hne : ∀ q o, a = some ⟨q, o, none⟩ → q ≠ b) (i : Nat) (v : Value) : NumAt (w.setCell ⟨b, i, none⟩ v) a n := by
  rcases h with h | ⟨q, o, rfl, hq, hc⟩
  · exact Or.inl h
  · refine Or.inr ⟨q, o, rfl, ?_, fun j u hu => ?_⟩
    · show q < (w.heap.modify _ _).size; rw [Array.size_modify]; exact hq
    · rw [World.cell?_of_block (w := w) (a := ⟨q, o + j, none⟩) (Below.heap_setCell w ⟨b, i, none⟩ v q (hne q o rfl))]
      exact hc j u hu

theorem small_dl (n : Nat) (h : n < DD ^ 16) : dl n ≤ 1048576 := Nat.le_trans (dl_of_lt n 16 h) (by decide)



set_option maxHeartbeats 2000000 in
theorem refKind_one (w : World) : Calls Try.prog 64 #[.int .i64 1] w fun e w' => KindR w e w' (grp 1) := by
  go_enter Try.func64, Try.ntmps64
  go_wp2_with fail
  have hb0 : Below w.heap.size w (w.alloc (.cells #[.int .i64 0, .slice none 0 0, .slice none 0 0] 98)) := (Below.refl _ _).alloc (Nat.le_refl _) _
  have hz0 : Bx (w.alloc (.cells #[.int .i64 0, .slice none 0 0, .slice none 0 0] 98)) w.heap.size 98 [.int .i64 0, .slice none 0 0, .slice none 0 0] := Bx.new w _ _ _ rfl
  obtain ⟨W0, hW0⟩ : ∃ W9 : World, (w.alloc (.cells #[.int .i64 0, .slice none 0 0, .slice none 0 0] 98)) = W9 := ⟨_, rfl⟩
  rw [hW0] at hb0 hz0 ⊢
  have HB0 := Lib.hid hb0
  have HZ0 := Lib.hid hz0
  clear hW0 hb0 hz0
  refine (refOf_any 5 (by omega) W0).mono ?_
  rintro e w1 ⟨ah, ch, rfl, hh, hb1⟩
  have Hh := Lib.hid hh
  have HBw1 := Lib.hid (below_up HB0.out hb1)
  have HZ := Lib.hid (HZ0.out.up hb1)
  clear hh hb1 HB0 HZ0
  go_wp2_with fail
  refine (refTwo_any 7 (by omega) w1).mono ?_
  rintro e wt ⟨at', ct', rfl, hn9, hb9⟩
  have Ht := Lib.hid hn9
  have HBwt := Lib.hid (below_up HBw1.out hb9)
  have HZ_9 := Lib.hid (HZ.out.up hb9)
  clear HZ
  have HZ := HZ_9
  clear HZ_9
  have Hh_9 := Lib.hid (Hh.out.up hb9)
  clear Hh
  have Hh := Hh_9
  clear Hh_9
  clear hn9 hb9 HBw1
  go_wp2_with fail
  refine (refTimes_any 5 (2 ^ 7) ah at' ch ct' (small_dl _ (by decide)) (small_dl _ (by decide)) wt Hh.out Ht.out).mono ?_
  rintro e wm ⟨am, cm, rfl, hn9, hb9⟩
  have Hm := Lib.hid hn9
  have HBwm := Lib.hid (below_up HBwt.out hb9)
  have HZ_9 := Lib.hid (HZ.out.up hb9)
  clear HZ
  have HZ := HZ_9
  clear HZ_9
  clear hn9 hb9 HBwt
  go_wp2_with fail
  refine (refOf_any 1 (by omega) wm).mono ?_
  rintro e wo ⟨ao, co, rfl, hn9, hb9⟩
  have Ho := Lib.hid hn9
  have HBwo := Lib.hid (below_up HBwm.out hb9)
  have HZ_9 := Lib.hid (HZ.out.up hb9)
  clear HZ
  have HZ := HZ_9
  clear HZ_9
  have Hm_9 := Lib.hid (Hm.out.up hb9)
  clear Hm
  have Hm := Hm_9
  clear Hm_9
  clear hn9 hb9 HBwm
  go_wp2_with fail
  refine (refPlus_new (5 * 2 ^ 7) 1 am ao cm co (small_dl _ (by decide)) (small_dl _ (by decide)) wo Hm.out Ho.out).mono ?_
  rintro e wq ⟨aq, cq, rfl, hn9, hnew, hb9⟩
  have HNQ := Lib.hid hnew
  have hzo := HBwo.out.size
  have hzb := HZ.out.lt
  clear hnew
  have Hq := Lib.hid hn9
  have HBwq := Lib.hid (below_up HBwo.out hb9)
  have HZ_9 := Lib.hid (HZ.out.up hb9)
  clear HZ
  have HZ := HZ_9
  clear HZ_9
  clear hn9 hb9 HBwo
  go_wp2_with fail
  refine (refPlus_any (5 * 2 ^ 7 + 1) (5 * 2 ^ 7 + 1) aq aq cq cq (small_dl _ (by decide)) (small_dl _ (by decide)) wq Hq.out Hq.out).mono ?_
  rintro e wd ⟨ad, cd, rfl, hn9, hb9⟩
  have Hd := Lib.hid hn9
  have HBwd := Lib.hid (below_up HBwq.out hb9)
  have HZ_9 := Lib.hid (HZ.out.up hb9)
  clear HZ
  have HZ := HZ_9
  clear HZ_9
  have Hq_9 := Lib.hid (Hq.out.up hb9)
  clear Hq
  have Hq := Hq_9
  clear Hq_9
  clear hn9 hb9 HBwq
  go_wp2_with fail
  refine (refOf_any 1 (by omega) wd).mono ?_
  rintro e wu ⟨au, cu, rfl, hn9, hb9⟩
  have Hu := Lib.hid hn9
  have HBwu := Lib.hid (below_up HBwd.out hb9)
  have HZ_9 := Lib.hid (HZ.out.up hb9)
  clear HZ
  have HZ := HZ_9
  clear HZ_9
  have Hq_9 := Lib.hid (Hq.out.up hb9)
  clear Hq
  have Hq := Hq_9
  clear Hq_9
  have Hd_9 := Lib.hid (Hd.out.up hb9)
  clear Hd
  have Hd := Hd_9
  clear Hd_9
  clear hn9 hb9 HBwd
  go_wp2_with fail
  refine (refPlus_new (5 * 2 ^ 7 + 1 + (5 * 2 ^ 7 + 1)) 1 ad au cd cu (small_dl _ (by decide)) (small_dl _ (by decide)) wu Hd.out Hu.out).mono ?_
  rintro e wp ⟨ap, cp, rfl, hn9, hnew, hb9⟩
  have HNP := Lib.hid hnew
  have hzu := HBwu.out.size
  have hzb2 := HZ.out.lt
  clear hnew
  have Hp := Lib.hid hn9
  have HBwp := Lib.hid (below_up HBwu.out hb9)
  have HZ_9 := Lib.hid (HZ.out.up hb9)
  clear HZ
  have HZ := HZ_9
  clear HZ_9
  have Hq_9 := Lib.hid (Hq.out.up hb9)
  clear Hq
  have Hq := Hq_9
  clear Hq_9
  clear hn9 hb9 HBwu
  have hz_0 := HZ.out.cell (i := 0) (v := .int .i64 0) rfl
  have hz_1 := HZ.out.cell (i := 1) (v := .slice none 0 0) rfl
  have hz_2 := HZ.out.cell (i := 2) (v := .slice none 0 0) rfl
  have hzf_0 := HZ.out.frozen 0
  have hzf_1 := HZ.out.frozen 1
  have hzf_2 := HZ.out.frozen 2
  have HZ5 := Lib.hid (((HZ.out.set 0 (.int .i64 2)).set 1 (.slice aq (dl (5 * 2 ^ 7 + 1)) cq)).set 2 (.slice ap (dl (5 * 2 ^ 7 + 1 + (5 * 2 ^ 7 + 1) + 1)) cp))
  have HB5 := Lib.hid (((HBwp.out.setCell (p := ⟨w.heap.size, 0, none⟩) (Nat.le_refl _) (.int .i64 2)).setCell (p := ⟨w.heap.size, 1, none⟩) (Nat.le_refl _) (.slice aq (dl (5 * 2 ^ 7 + 1)) cq)).setCell (p := ⟨w.heap.size, 2, none⟩) (Nat.le_refl _) (.slice ap (dl (5 * 2 ^ 7 + 1 + (5 * 2 ^ 7 + 1) + 1)) cp))
  have HQ5 := Lib.hid (((Hq.out.store (b := w.heap.size) (fun q o h => by have := HNQ.out q o h; omega) 0 (.int .i64 2)).store (b := w.heap.size) (fun q o h => by have := HNQ.out q o h; omega) 1 (.slice aq (dl (5 * 2 ^ 7 + 1)) cq)).store (b := w.heap.size) (fun q o h => by have := HNQ.out q o h; omega) 2 (.slice ap (dl (5 * 2 ^ 7 + 1 + (5 * 2 ^ 7 + 1) + 1)) cp))
  have HP5 := Lib.hid (((Hp.out.store (b := w.heap.size) (fun q o h => by have := HNP.out q o h; omega) 0 (.int .i64 2)).store (b := w.heap.size) (fun q o h => by have := HNP.out q o h; omega) 1 (.slice aq (dl (5 * 2 ^ 7 + 1)) cq)).store (b := w.heap.size) (fun q o h => by have := HNP.out q o h; omega) 2 (.slice ap (dl (5 * 2 ^ 7 + 1 + (5 * 2 ^ 7 + 1) + 1)) cp))
  obtain ⟨w5, hw5⟩ : ∃ W9 : World, ((wp.setCell ⟨w.heap.size, 0, none⟩ (.int .i64 2)).setCell ⟨w.heap.size, 1, none⟩ (.slice aq (dl (5 * 2 ^ 7 + 1)) cq)).setCell ⟨w.heap.size, 2, none⟩ (.slice ap (dl (5 * 2 ^ 7 + 1 + (5 * 2 ^ 7 + 1) + 1)) cp) = W9 := ⟨_, rfl⟩
  go_wp2_with fail
  rw [hw5] at HZ5 HB5 HQ5 HP5
  have hg_0 := HZ5.out.cell (i := 0) (v := .int .i64 2) rfl
  have hg_1 := HZ5.out.cell (i := 1) (v := .slice aq (dl (5 * 2 ^ 7 + 1)) cq) rfl
  have hg_2 := HZ5.out.cell (i := 2) (v := .slice ap (dl (5 * 2 ^ 7 + 1 + (5 * 2 ^ 7 + 1) + 1)) cp) rfl
  have eq_ : (grp 1).q.m = 5 * 2 ^ 7 + 1 := by decide
  have ep_ : (grp 1).p.m = 5 * 2 ^ 7 + 1 + (5 * 2 ^ 7 + 1) + 1 := by decide
  refine bodyPost_ret (v := .agg #[.int .i64 2, .slice aq (dl (5 * 2 ^ 7 + 1)) cq, .slice ap (dl (5 * 2 ^ 7 + 1 + (5 * 2 ^ 7 + 1) + 1)) cp]) (by simp [results, Try.results64, go_sem, hg_0, hg_1, hg_2]) rfl ?_
  refine ⟨aq, cq, ap, cp, ?_, ?_, ?_, HB5.out⟩
  · rw [eq_, ep_]; rfl
  · rw [eq_]; exact HQ5.out
  · rw [ep_]; exact HP5.out

set_option maxHeartbeats 2000000 in
theorem refKind_two (w : World) : Calls Try.prog 64 #[.int .i64 2] w fun e w' => KindR w e w' (grp 2) := by
  go_enter Try.func64, Try.ntmps64
  go_wp2_with fail
  have hb0 : Below w.heap.size w (w.alloc (.cells #[.int .i64 0, .slice none 0 0, .slice none 0 0] 98)) := (Below.refl _ _).alloc (Nat.le_refl _) _
  have hz0 : Bx (w.alloc (.cells #[.int .i64 0, .slice none 0 0, .slice none 0 0] 98)) w.heap.size 98 [.int .i64 0, .slice none 0 0, .slice none 0 0] := Bx.new w _ _ _ rfl
  obtain ⟨W0, hW0⟩ : ∃ W9 : World, (w.alloc (.cells #[.int .i64 0, .slice none 0 0, .slice none 0 0] 98)) = W9 := ⟨_, rfl⟩
  rw [hW0] at hb0 hz0 ⊢
  have HB0 := Lib.hid hb0
  have HZ0 := Lib.hid hz0
  clear hW0 hb0 hz0
  refine (refOf_any 5 (by omega) W0).mono ?_
  rintro e w1 ⟨ah, ch, rfl, hh, hb1⟩
  have HB1 := Lib.hid (below_up HB0.out hb1)
  have HZ1 := Lib.hid (HZ0.out.up hb1)
  clear hh hb1 HB0 HZ0
  go_wp2_with fail
  refine (refOf_any 268437635 (by omega) w1).mono ?_
  rintro e w1' ⟨ah, ch, rfl, hh, hb1⟩
  have Hh := Lib.hid hh
  have HBw1 := Lib.hid (below_up HB1.out hb1)
  have HZ := Lib.hid (HZ1.out.up hb1)
  clear hh hb1 HB1 HZ1
  obtain ⟨w1, rfl⟩ : ∃ w1 : World, w1 = w1' := ⟨_, rfl⟩
  go_wp2_with fail
  refine (refTwo_any 31 (by omega) w1).mono ?_
  rintro e wt ⟨at', ct', rfl, hn9, hb9⟩
  have Ht := Lib.hid hn9
  have HBwt := Lib.hid (below_up HBw1.out hb9)
  have HZ_9 := Lib.hid (HZ.out.up hb9)
  clear HZ
  have HZ := HZ_9
  clear HZ_9
  have Hh_9 := Lib.hid (Hh.out.up hb9)
  clear Hh
  have Hh := Hh_9
  clear Hh_9
  clear hn9 hb9 HBw1
  go_wp2_with fail
  refine (refTimes_any 268437635 (2 ^ 31) ah at' ch ct' (small_dl _ (by decide)) (small_dl _ (by decide)) wt Hh.out Ht.out).mono ?_
  rintro e wm ⟨am, cm, rfl, hn9, hb9⟩
  have Hm := Lib.hid hn9
  have HBwm := Lib.hid (below_up HBwt.out hb9)
  have HZ_9 := Lib.hid (HZ.out.up hb9)
  clear HZ
  have HZ := HZ_9
  clear HZ_9
  clear hn9 hb9 HBwt
  go_wp2_with fail
  refine (refOf_any 1 (by omega) wm).mono ?_
  rintro e wo ⟨ao, co, rfl, hn9, hb9⟩
  have Ho := Lib.hid hn9
  have HBwo := Lib.hid (below_up HBwm.out hb9)
  have HZ_9 := Lib.hid (HZ.out.up hb9)
  clear HZ
  have HZ := HZ_9
  clear HZ_9
  have Hm_9 := Lib.hid (Hm.out.up hb9)
  clear Hm
  have Hm := Hm_9
  clear Hm_9
  clear hn9 hb9 HBwm
  go_wp2_with fail
  refine (refPlus_new (268437635 * 2 ^ 31) 1 am ao cm co (small_dl _ (by decide)) (small_dl _ (by decide)) wo Hm.out Ho.out).mono ?_
  rintro e wq ⟨aq, cq, rfl, hn9, hnew, hb9⟩
  have HNQ := Lib.hid hnew
  have hzo := HBwo.out.size
  have hzb := HZ.out.lt
  clear hnew
  have Hq := Lib.hid hn9
  have HBwq := Lib.hid (below_up HBwo.out hb9)
  have HZ_9 := Lib.hid (HZ.out.up hb9)
  clear HZ
  have HZ := HZ_9
  clear HZ_9
  clear hn9 hb9 HBwo
  go_wp2_with fail
  refine (refPlus_any (268437635 * 2 ^ 31 + 1) (268437635 * 2 ^ 31 + 1) aq aq cq cq (small_dl _ (by decide)) (small_dl _ (by decide)) wq Hq.out Hq.out).mono ?_
  rintro e wd ⟨ad, cd, rfl, hn9, hb9⟩
  have Hd := Lib.hid hn9
  have HBwd := Lib.hid (below_up HBwq.out hb9)
  have HZ_9 := Lib.hid (HZ.out.up hb9)
  clear HZ
  have HZ := HZ_9
  clear HZ_9
  have Hq_9 := Lib.hid (Hq.out.up hb9)
  clear Hq
  have Hq := Hq_9
  clear Hq_9
  clear hn9 hb9 HBwq
  go_wp2_with fail
  refine (refOf_any 1 (by omega) wd).mono ?_
  rintro e wu ⟨au, cu, rfl, hn9, hb9⟩
  have Hu := Lib.hid hn9
  have HBwu := Lib.hid (below_up HBwd.out hb9)
  have HZ_9 := Lib.hid (HZ.out.up hb9)
  clear HZ
  have HZ := HZ_9
  clear HZ_9
  have Hq_9 := Lib.hid (Hq.out.up hb9)
  clear Hq
  have Hq := Hq_9
  clear Hq_9
  have Hd_9 := Lib.hid (Hd.out.up hb9)
  clear Hd
  have Hd := Hd_9
  clear Hd_9
  clear hn9 hb9 HBwd
  go_wp2_with fail
  refine (refPlus_new (268437635 * 2 ^ 31 + 1 + (268437635 * 2 ^ 31 + 1)) 1 ad au cd cu (small_dl _ (by decide)) (small_dl _ (by decide)) wu Hd.out Hu.out).mono ?_
  rintro e wp ⟨ap, cp, rfl, hn9, hnew, hb9⟩
  have HNP := Lib.hid hnew
  have hzu := HBwu.out.size
  have hzb2 := HZ.out.lt
  clear hnew
  have Hp := Lib.hid hn9
  have HBwp := Lib.hid (below_up HBwu.out hb9)
  have HZ_9 := Lib.hid (HZ.out.up hb9)
  clear HZ
  have HZ := HZ_9
  clear HZ_9
  have Hq_9 := Lib.hid (Hq.out.up hb9)
  clear Hq
  have Hq := Hq_9
  clear Hq_9
  clear hn9 hb9 HBwu
  have hz_0 := HZ.out.cell (i := 0) (v := .int .i64 0) rfl
  have hz_1 := HZ.out.cell (i := 1) (v := .slice none 0 0) rfl
  have hz_2 := HZ.out.cell (i := 2) (v := .slice none 0 0) rfl
  have hzf_0 := HZ.out.frozen 0
  have hzf_1 := HZ.out.frozen 1
  have hzf_2 := HZ.out.frozen 2
  have HZ5 := Lib.hid (((HZ.out.set 0 (.int .i64 8)).set 1 (.slice aq (dl (268437635 * 2 ^ 31 + 1)) cq)).set 2 (.slice ap (dl (268437635 * 2 ^ 31 + 1 + (268437635 * 2 ^ 31 + 1) + 1)) cp))
  have HB5 := Lib.hid (((HBwp.out.setCell (p := ⟨w.heap.size, 0, none⟩) (Nat.le_refl _) (.int .i64 8)).setCell (p := ⟨w.heap.size, 1, none⟩) (Nat.le_refl _) (.slice aq (dl (268437635 * 2 ^ 31 + 1)) cq)).setCell (p := ⟨w.heap.size, 2, none⟩) (Nat.le_refl _) (.slice ap (dl (268437635 * 2 ^ 31 + 1 + (268437635 * 2 ^ 31 + 1) + 1)) cp))
  have HQ5 := Lib.hid (((Hq.out.store (b := w.heap.size) (fun q o h => by have := HNQ.out q o h; omega) 0 (.int .i64 8)).store (b := w.heap.size) (fun q o h => by have := HNQ.out q o h; omega) 1 (.slice aq (dl (268437635 * 2 ^ 31 + 1)) cq)).store (b := w.heap.size) (fun q o h => by have := HNQ.out q o h; omega) 2 (.slice ap (dl (268437635 * 2 ^ 31 + 1 + (268437635 * 2 ^ 31 + 1) + 1)) cp))
  have HP5 := Lib.hid (((Hp.out.store (b := w.heap.size) (fun q o h => by have := HNP.out q o h; omega) 0 (.int .i64 8)).store (b := w.heap.size) (fun q o h => by have := HNP.out q o h; omega) 1 (.slice aq (dl (268437635 * 2 ^ 31 + 1)) cq)).store (b := w.heap.size) (fun q o h => by have := HNP.out q o h; omega) 2 (.slice ap (dl (268437635 * 2 ^ 31 + 1 + (268437635 * 2 ^ 31 + 1) + 1)) cp))
  obtain ⟨w5, hw5⟩ : ∃ W9 : World, ((wp.setCell ⟨w.heap.size, 0, none⟩ (.int .i64 8)).setCell ⟨w.heap.size, 1, none⟩ (.slice aq (dl (268437635 * 2 ^ 31 + 1)) cq)).setCell ⟨w.heap.size, 2, none⟩ (.slice ap (dl (268437635 * 2 ^ 31 + 1 + (268437635 * 2 ^ 31 + 1) + 1)) cp) = W9 := ⟨_, rfl⟩
  go_wp2_with fail
  rw [hw5] at HZ5 HB5 HQ5 HP5
  have hg_0 := HZ5.out.cell (i := 0) (v := .int .i64 8) rfl
  have hg_1 := HZ5.out.cell (i := 1) (v := .slice aq (dl (268437635 * 2 ^ 31 + 1)) cq) rfl
  have hg_2 := HZ5.out.cell (i := 2) (v := .slice ap (dl (268437635 * 2 ^ 31 + 1 + (268437635 * 2 ^ 31 + 1) + 1)) cp) rfl
  have eq_ : (grp 2).q.m = 268437635 * 2 ^ 31 + 1 := by decide
  have ep_ : (grp 2).p.m = 268437635 * 2 ^ 31 + 1 + (268437635 * 2 ^ 31 + 1) + 1 := by decide
  refine bodyPost_ret (v := .agg #[.int .i64 8, .slice aq (dl (268437635 * 2 ^ 31 + 1)) cq, .slice ap (dl (268437635 * 2 ^ 31 + 1 + (268437635 * 2 ^ 31 + 1) + 1)) cp]) (by simp [results, Try.results64, go_sem, hg_0, hg_1, hg_2]) rfl ?_
  refine ⟨aq, cq, ap, cp, ?_, ?_, ?_, HB5.out⟩
  · rw [eq_, ep_]; rfl
  · rw [eq_]; exact HQ5.out
  · rw [ep_]; exact HP5.out

set_option maxHeartbeats 2000000 in
theorem refKind_three (w : World) : Calls Try.prog 64 #[.int .i64 3] w fun e w' => KindR w e w' (grp 3) := by
  go_enter Try.func64, Try.ntmps64
  go_wp2_with fail
  have hb0 : Below w.heap.size w (w.alloc (.cells #[.int .i64 0, .slice none 0 0, .slice none 0 0] 98)) := (Below.refl _ _).alloc (Nat.le_refl _) _
  have hz0 : Bx (w.alloc (.cells #[.int .i64 0, .slice none 0 0, .slice none 0 0] 98)) w.heap.size 98 [.int .i64 0, .slice none 0 0, .slice none 0 0] := Bx.new w _ _ _ rfl
  obtain ⟨W0, hW0⟩ : ∃ W9 : World, (w.alloc (.cells #[.int .i64 0, .slice none 0 0, .slice none 0 0] 98)) = W9 := ⟨_, rfl⟩
  rw [hW0] at hb0 hz0 ⊢
  have HB0 := Lib.hid hb0
  have HZ0 := Lib.hid hz0
  clear hW0 hb0 hz0
  refine (refOf_any 5 (by omega) W0).mono ?_
  rintro e w1 ⟨ah, ch, rfl, hh, hb1⟩
  have HB1 := Lib.hid (below_up HB0.out hb1)
  have HZ1 := Lib.hid (HZ0.out.up hb1)
  clear hh hb1 HB0 HZ0
  go_wp2_with fail
  refine (refTwo_any 125 (by omega) w1).mono ?_
  rintro e w2 ⟨a2, c2, rfl, h2, hb2⟩
  have H2 := Lib.hid h2
  have HB2 := Lib.hid (below_up HB1.out hb2)
  have HZ2 := Lib.hid (HZ1.out.up hb2)
  clear h2 hb2 HB1 HZ1
  go_wp2_with fail
  refine (refOf_any 9087 (by omega) w2).mono ?_
  rintro e w3 ⟨a3, c3, rfl, h3, hb3⟩
  have H3 := Lib.hid h3
  have H2' := Lib.hid (H2.out.up hb3)
  have HB3 := Lib.hid (below_up HB2.out hb3)
  have HZ3 := Lib.hid (HZ2.out.up hb3)
  clear h3 hb3 HB2 HZ2 H2
  go_wp2_with fail
  refine (refPlus_any (2 ^ 125) 9087 a2 a3 c2 c3 (small_dl _ (by decide)) (small_dl _ (by decide)) w3 H2'.out H3.out).mono ?_
  rintro e w1' ⟨ah, ch, rfl, hh, hb1⟩
  have Hh := Lib.hid hh
  have HBw1 := Lib.hid (below_up HB3.out hb1)
  have HZ := Lib.hid (HZ3.out.up hb1)
  clear hh hb1 HB3 HZ3 H2' H3
  obtain ⟨w1, rfl⟩ : ∃ w1 : World, w1 = w1' := ⟨_, rfl⟩
  go_wp2_with fail
  refine (refTwo_any 127 (by omega) w1).mono ?_
  rintro e wt ⟨at', ct', rfl, hn9, hb9⟩
  have Ht := Lib.hid hn9
  have HBwt := Lib.hid (below_up HBw1.out hb9)
  have HZ_9 := Lib.hid (HZ.out.up hb9)
  clear HZ
  have HZ := HZ_9
  clear HZ_9
  have Hh_9 := Lib.hid (Hh.out.up hb9)
  clear Hh
  have Hh := Hh_9
  clear Hh_9
  clear hn9 hb9 HBw1
  go_wp2_with fail
  refine (refTimes_any (2 ^ 125 + 9087) (2 ^ 127) ah at' ch ct' (small_dl _ (by decide)) (small_dl _ (by decide)) wt Hh.out Ht.out).mono ?_
  rintro e wm ⟨am, cm, rfl, hn9, hb9⟩
  have Hm := Lib.hid hn9
  have HBwm := Lib.hid (below_up HBwt.out hb9)
  have HZ_9 := Lib.hid (HZ.out.up hb9)
  clear HZ
  have HZ := HZ_9
  clear HZ_9
  clear hn9 hb9 HBwt
  go_wp2_with fail
  refine (refOf_any 1 (by omega) wm).mono ?_
  rintro e wo ⟨ao, co, rfl, hn9, hb9⟩
  have Ho := Lib.hid hn9
  have HBwo := Lib.hid (below_up HBwm.out hb9)
  have HZ_9 := Lib.hid (HZ.out.up hb9)
  clear HZ
  have HZ := HZ_9
  clear HZ_9
  have Hm_9 := Lib.hid (Hm.out.up hb9)
  clear Hm
  have Hm := Hm_9
  clear Hm_9
  clear hn9 hb9 HBwm
  go_wp2_with fail
  refine (refPlus_new ((2 ^ 125 + 9087) * 2 ^ 127) 1 am ao cm co (small_dl _ (by decide)) (small_dl _ (by decide)) wo Hm.out Ho.out).mono ?_
  rintro e wq ⟨aq, cq, rfl, hn9, hnew, hb9⟩
  have HNQ := Lib.hid hnew
  have hzo := HBwo.out.size
  have hzb := HZ.out.lt
  clear hnew
  have Hq := Lib.hid hn9
  have HBwq := Lib.hid (below_up HBwo.out hb9)
  have HZ_9 := Lib.hid (HZ.out.up hb9)
  clear HZ
  have HZ := HZ_9
  clear HZ_9
  clear hn9 hb9 HBwo
  go_wp2_with fail
  refine (refPlus_any ((2 ^ 125 + 9087) * 2 ^ 127 + 1) ((2 ^ 125 + 9087) * 2 ^ 127 + 1) aq aq cq cq (small_dl _ (by decide)) (small_dl _ (by decide)) wq Hq.out Hq.out).mono ?_
  rintro e wd ⟨ad, cd, rfl, hn9, hb9⟩
  have Hd := Lib.hid hn9
  have HBwd := Lib.hid (below_up HBwq.out hb9)
  have HZ_9 := Lib.hid (HZ.out.up hb9)
  clear HZ
  have HZ := HZ_9
  clear HZ_9
  have Hq_9 := Lib.hid (Hq.out.up hb9)
  clear Hq
  have Hq := Hq_9
  clear Hq_9
  clear hn9 hb9 HBwq
  go_wp2_with fail
  refine (refOf_any 1 (by omega) wd).mono ?_
  rintro e wu ⟨au, cu, rfl, hn9, hb9⟩
  have Hu := Lib.hid hn9
  have HBwu := Lib.hid (below_up HBwd.out hb9)
  have HZ_9 := Lib.hid (HZ.out.up hb9)
  clear HZ
  have HZ := HZ_9
  clear HZ_9
  have Hq_9 := Lib.hid (Hq.out.up hb9)
  clear Hq
  have Hq := Hq_9
  clear Hq_9
  have Hd_9 := Lib.hid (Hd.out.up hb9)
  clear Hd
  have Hd := Hd_9
  clear Hd_9
  clear hn9 hb9 HBwd
  go_wp2_with fail
  refine (refPlus_new ((2 ^ 125 + 9087) * 2 ^ 127 + 1 + ((2 ^ 125 + 9087) * 2 ^ 127 + 1)) 1 ad au cd cu (small_dl _ (by decide)) (small_dl _ (by decide)) wu Hd.out Hu.out).mono ?_
  rintro e wp ⟨ap, cp, rfl, hn9, hnew, hb9⟩
  have HNP := Lib.hid hnew
  have hzu := HBwu.out.size
  have hzb2 := HZ.out.lt
  clear hnew
  have Hp := Lib.hid hn9
  have HBwp := Lib.hid (below_up HBwu.out hb9)
  have HZ_9 := Lib.hid (HZ.out.up hb9)
  clear HZ
  have HZ := HZ_9
  clear HZ_9
  have Hq_9 := Lib.hid (Hq.out.up hb9)
  clear Hq
  have Hq := Hq_9
  clear Hq_9
  clear hn9 hb9 HBwu
  have hz_0 := HZ.out.cell (i := 0) (v := .int .i64 0) rfl
  have hz_1 := HZ.out.cell (i := 1) (v := .slice none 0 0) rfl
  have hz_2 := HZ.out.cell (i := 2) (v := .slice none 0 0) rfl
  have hzf_0 := HZ.out.frozen 0
  have hzf_1 := HZ.out.frozen 1
  have hzf_2 := HZ.out.frozen 2
  have HZ5 := Lib.hid (((HZ.out.set 0 (.int .i64 32)).set 1 (.slice aq (dl ((2 ^ 125 + 9087) * 2 ^ 127 + 1)) cq)).set 2 (.slice ap (dl ((2 ^ 125 + 9087) * 2 ^ 127 + 1 + ((2 ^ 125 + 9087) * 2 ^ 127 + 1) + 1)) cp))
  have HB5 := Lib.hid (((HBwp.out.setCell (p := ⟨w.heap.size, 0, none⟩) (Nat.le_refl _) (.int .i64 32)).setCell (p := ⟨w.heap.size, 1, none⟩) (Nat.le_refl _) (.slice aq (dl ((2 ^ 125 + 9087) * 2 ^ 127 + 1)) cq)).setCell (p := ⟨w.heap.size, 2, none⟩) (Nat.le_refl _) (.slice ap (dl ((2 ^ 125 + 9087) * 2 ^ 127 + 1 + ((2 ^ 125 + 9087) * 2 ^ 127 + 1) + 1)) cp))
  have HQ5 := Lib.hid (((Hq.out.store (b := w.heap.size) (fun q o h => by have := HNQ.out q o h; omega) 0 (.int .i64 32)).store (b := w.heap.size) (fun q o h => by have := HNQ.out q o h; omega) 1 (.slice aq (dl ((2 ^ 125 + 9087) * 2 ^ 127 + 1)) cq)).store (b := w.heap.size) (fun q o h => by have := HNQ.out q o h; omega) 2 (.slice ap (dl ((2 ^ 125 + 9087) * 2 ^ 127 + 1 + ((2 ^ 125 + 9087) * 2 ^ 127 + 1) + 1)) cp))
  have HP5 := Lib.hid (((Hp.out.store (b := w.heap.size) (fun q o h => by have := HNP.out q o h; omega) 0 (.int .i64 32)).store (b := w.heap.size) (fun q o h => by have := HNP.out q o h; omega) 1 (.slice aq (dl ((2 ^ 125 + 9087) * 2 ^ 127 + 1)) cq)).store (b := w.heap.size) (fun q o h => by have := HNP.out q o h; omega) 2 (.slice ap (dl ((2 ^ 125 + 9087) * 2 ^ 127 + 1 + ((2 ^ 125 + 9087) * 2 ^ 127 + 1) + 1)) cp))
  obtain ⟨w5, hw5⟩ : ∃ W9 : World, ((wp.setCell ⟨w.heap.size, 0, none⟩ (.int .i64 32)).setCell ⟨w.heap.size, 1, none⟩ (.slice aq (dl ((2 ^ 125 + 9087) * 2 ^ 127 + 1)) cq)).setCell ⟨w.heap.size, 2, none⟩ (.slice ap (dl ((2 ^ 125 + 9087) * 2 ^ 127 + 1 + ((2 ^ 125 + 9087) * 2 ^ 127 + 1) + 1)) cp) = W9 := ⟨_, rfl⟩
  go_wp2_with fail
  rw [hw5] at HZ5 HB5 HQ5 HP5
  have hg_0 := HZ5.out.cell (i := 0) (v := .int .i64 32) rfl
  have hg_1 := HZ5.out.cell (i := 1) (v := .slice aq (dl ((2 ^ 125 + 9087) * 2 ^ 127 + 1)) cq) rfl
  have hg_2 := HZ5.out.cell (i := 2) (v := .slice ap (dl ((2 ^ 125 + 9087) * 2 ^ 127 + 1 + ((2 ^ 125 + 9087) * 2 ^ 127 + 1) + 1)) cp) rfl
  have eq_ : (grp 3).q.m = (2 ^ 125 + 9087) * 2 ^ 127 + 1 := by decide
  have ep_ : (grp 3).p.m = (2 ^ 125 + 9087) * 2 ^ 127 + 1 + ((2 ^ 125 + 9087) * 2 ^ 127 + 1) + 1 := by decide
  refine bodyPost_ret (v := .agg #[.int .i64 32, .slice aq (dl ((2 ^ 125 + 9087) * 2 ^ 127 + 1)) cq, .slice ap (dl ((2 ^ 125 + 9087) * 2 ^ 127 + 1 + ((2 ^ 125 + 9087) * 2 ^ 127 + 1) + 1)) cp]) (by simp [results, Try.results64, go_sem, hg_0, hg_1, hg_2]) rfl ?_
  refine ⟨aq, cq, ap, cp, ?_, ?_, ?_, HB5.out⟩
  · rw [eq_, ep_]; rfl
  · rw [eq_]; exact HQ5.out
  · rw [ep_]; exact HP5.out

set_option maxHeartbeats 2000000 in
theorem refKind_none (k : Int) (hk : ¬ (1 ≤ k ∧ k ≤ 3)) (w : World) : Calls Try.prog 64 #[.int .i64 k] w fun e w' => e = .returned (.agg #[.int .i64 0, .slice none 0 0, .slice none 0 0]) ∧ Below w.heap.size w w' := by
  have h1 : (k == 2) = false := by simp; omega
  have h2 : (k == 3) = false := by simp; omega
  have h3 : (k != 1) = true := by simp; omega
  go_enter Try.func64, Try.ntmps64
  go_wp2_with fail
  have hb0 : Below w.heap.size w (w.alloc (.cells #[.int .i64 0, .slice none 0 0, .slice none 0 0] 98)) := (Below.refl _ _).alloc (Nat.le_refl _) _
  have hz0 : Bx (w.alloc (.cells #[.int .i64 0, .slice none 0 0, .slice none 0 0] 98)) w.heap.size 98 [.int .i64 0, .slice none 0 0, .slice none 0 0] := Bx.new w _ _ _ rfl
  obtain ⟨W0, hW0⟩ : ∃ W9 : World, (w.alloc (.cells #[.int .i64 0, .slice none 0 0, .slice none 0 0] 98)) = W9 := ⟨_, rfl⟩
  rw [hW0] at hb0 hz0 ⊢
  have HB0 := Lib.hid hb0
  have HZ0 := Lib.hid hz0
  clear hW0 hb0 hz0
  refine (refOf_any 5 (by omega) W0).mono ?_
  rintro e w1 ⟨ah, ch, rfl, hh, hb1⟩
  have HB1 := Lib.hid (below_up HB0.out hb1)
  have HZ1 := Lib.hid (HZ0.out.up hb1)
  clear hh hb1 HB0 HZ0
  have hz_0 := HZ1.out.cell (i := 0) (v := .int .i64 0) rfl
  have hz_1 := HZ1.out.cell (i := 1) (v := .slice none 0 0) rfl
  have hz_2 := HZ1.out.cell (i := 2) (v := .slice none 0 0) rfl
  have hzf_0 := HZ1.out.frozen 0
  have hzf_1 := HZ1.out.frozen 1
  have hzf_2 := HZ1.out.frozen 2
  have HZ5 := Lib.hid (((HZ1.out.set 0 (.int .i64 0)).set 1 (.slice none 0 0)).set 2 (.slice none 0 0))
  have HB5 := Lib.hid (((HB1.out.setCell (p := ⟨w.heap.size, 0, none⟩) (Nat.le_refl _) (.int .i64 0)).setCell (p := ⟨w.heap.size, 1, none⟩) (Nat.le_refl _) (.slice none 0 0)).setCell (p := ⟨w.heap.size, 2, none⟩) (Nat.le_refl _) (.slice none 0 0))
  obtain ⟨w5, hw5⟩ : ∃ W9 : World, ((w1.setCell ⟨w.heap.size, 0, none⟩ (.int .i64 0)).setCell ⟨w.heap.size, 1, none⟩ (.slice none 0 0)).setCell ⟨w.heap.size, 2, none⟩ (.slice none 0 0) = W9 := ⟨_, rfl⟩
  go_wp2_with fail
  rw [hw5] at HZ5 HB5
  have hg_0 := HZ5.out.cell (i := 0) (v := .int .i64 0) rfl
  have hg_1 := HZ5.out.cell (i := 1) (v := .slice none 0 0) rfl
  have hg_2 := HZ5.out.cell (i := 2) (v := .slice none 0 0) rfl
  refine bodyPost_ret (v := .agg #[.int .i64 0, .slice none 0 0, .slice none 0 0]) (by simp [results, Try.results64, go_sem, hg_0, hg_1, hg_2]) rfl ?_
  exact ⟨rfl, HB5.out⟩

theorem refKind_some (k : Nat) (h1 : 1 ≤ k) (h3 : k ≤ 3) (w : World) : Calls Try.prog 64 #[.int .i64 (k : Int)] w fun e w' => KindR w e w' (grp k) := by
  obtain rfl | rfl | rfl : k = 1 ∨ k = 2 ∨ k = 3 := by omega
  · exact refKind_one w
  · exact refKind_two w
  · exact refKind_three w

end Go.Proofs.Ytipgjookfdkciaa

/- The document's numbers, written down; compared. No condition. -/
namespace Go.Proofs.Ytipgjookfdkciaa
open Go.RowKit

theorem byteAt_nought (n i : Nat) (h : dl n ≤ i / 2) : byteAt n i = 0 := by
  rw [byte_dg, dg_nought n _ h]
  simp
theorem textL_skip (n size k : Nat) (h : byteAt n k = 0) : textL n size k = textL n size (k + 1) := by
  unfold textL
  refine List.map_congr_left fun p _ => ?_
  by_cases h1 : size - 1 - p < k
  · rw [if_pos h1, if_pos (by omega)]
  · rw [if_neg h1]
    by_cases h2 : size - 1 - p < k + 1
    · rw [if_pos h2, show size - 1 - p = k by omega, h]; rfl
    · rw [if_neg h2]


set_option maxHeartbeats 1000000 in
theorem refText_any (n size : Nat) (an : Option Addr) (cn : Nat) (hln : dl n ≤ 1048576) (hs : size ≤ 1024) (w : World) (hA : NumAt w an n) :
    Calls Try.prog 70 #[.slice an (dl n) cn, .int .i64 (size : Int)] w fun e w' => e = .returned (.string (textS n size)) ∧ Below w.heap.size w w' := by
  obtain ⟨i0, hi, hz0, hz1, hz2⟩ := info_parts infoByte
  have HA := Lib.hid hA
  clear hA
  go_enter Try.func70, Try.ntmps70
  go_wp2_with (at_make; refine wpList_make_full _ rfl _ _ 189 rfl 0 5 i0 (.int .u8 0) 1 Try.underlying189 hi hz0 hz1 _ _ _ _ size rfl rfl ?c1 ?c2 ?c3 ?c4 ?c5 ?_)
  case c1 => rfl
  case c2 => rfl
  case c3 => rw [hz2]; omega
  case c4 => unfold maxLen; omega
  case c5 => omega
  intro w1 hown hgrow
  have HB1 : Hid (Below w.heap.size w w1) := (Below.refl _ _).grown hgrow (Nat.le_refl _) (by simp)
  have HO1 : Hid (w1.ownsRow 0 5 1 (.slice (some ⟨w.heap.size, 0, none⟩) size size) size ((textL n size 0).map (Value.int .u8))) := by
    have h := hown
    show World.ownsRow _ _ _ _ _ _ _
    rw [textL_zero]
    rw [bytes_made] at h
    exact h
  clear hown hgrow hi hz0 hz1 hz2
  go_wp2_with fail
  go_loopw [6, 7] (fun x _ wr => ∃ k : Nat, k ≤ size ∧ x = .int .i64 k ∧ Hid (wr.ownsRow 0 5 1 (.slice (some ⟨w.heap.size, 0, none⟩) size size) size ((textL n size k).map (Value.int .u8))) ∧ Hid (Below w.heap.size w wr)) (fun x _ _ => size - (intOf x).toNat)
  case atStart => exact ⟨0, Nat.zero_le _, rfl, HO1.out, HB1.out⟩
  case round =>
    clear HO1 HB1
    obtain ⟨k, hk, rfl, HO, HN⟩ := hrel
    by_cases hkl : k < size
    · have hlen : size - 1 - k < ((textL n size k).map (Value.int .u8)).length := by simp [textL_length]; omega
      have hc := HO.out.cellAt (size - 1 - k) (by omega)
      rw [List.getElem?_eq_getElem hlen] at hc
      have hf := HO.out.frozenAt (size - 1 - k)
      generalize ((textL n size k).map (Value.int .u8))[size - 1 - k] = old at hc
      have hidx : (size : Int) - 1 - (k : Int) = ((size - 1 - k : Nat) : Int) := by omega
      clear hlen
      have hk2 : (k : Int) / 2 = ((k / 2 : Nat) : Int) := by omega
      by_cases hd : k / 2 < dl n
      · obtain ⟨b1, o1, rfl, hb1, hcell1⟩ := HA.out.all (by omega)
        have hx1 : wr.cell? ⟨b1, o1 + k / 2, none⟩ = some (.int .i64 (dg DD n (k / 2) : Int)) := by rw [HN.out.cell (p := ⟨b1, o1 + k / 2, none⟩) hb1]; exact hcell1 _ hd
        have hdb : dg DD n (k / 2) < 65536 := dg_lt (B := DD) (by decide) n _
        have hby := byte_dg n k
        clear hcell1 hk2
        generalize dg DD n (k / 2) = d at *
        have hk1 : k % 2 = 0 ∨ k % 2 = 1 := by omega
        rcases hk1 with hk1 | hk1
        · have hodd : ((k : Int) % 2 == 1) = false := by simp; omega
          have hbyte : (d : Int) % 256 = (byteAt n k : Int) := by rw [hby, hk1]; simp
          have HK1 := Lib.hid hk1
          clear hby hk1
          have hst := (HO.out.stored (size - 1 - k) (.int .u8 (byteAt n k : Int))).1
          rw [← List.map_set, textL_set _ _ _ hkl] at hst
          have HS := Lib.hid hst
          have HSB := Lib.hid (HN.out.setCell (p := ⟨w.heap.size, size - 1 - k, none⟩) (Nat.le_refl _) (.int .u8 (byteAt n k : Int)))
          clear hst
          go_wp2_with fail
          go_roundw
          case rel => exact ⟨k + 1, by omega, by go_num, HS.out, HSB.out⟩
          case measure => simp [intOf]; omega
        · have hodd : ((k : Int) % 2 == 1) = true := by simp; omega
          have hbyte : (d : Int) / 256 % 256 = (byteAt n k : Int) := by rw [hby, hk1]; simp
          have HK1 := Lib.hid hk1
          clear hby hk1
          have hst := (HO.out.stored (size - 1 - k) (.int .u8 (byteAt n k : Int))).1
          rw [← List.map_set, textL_set _ _ _ hkl] at hst
          have HS := Lib.hid hst
          have HSB := Lib.hid (HN.out.setCell (p := ⟨w.heap.size, size - 1 - k, none⟩) (Nat.le_refl _) (.int .u8 (byteAt n k : Int)))
          clear hst
          go_wp2_with fail
          go_roundw
          case rel => exact ⟨k + 1, by omega, by go_num, HS.out, HSB.out⟩
          case measure => simp [intOf]; omega
      · have h0 := byteAt_nought n k (by omega)
        have HSK := Lib.hid (textL_skip n size k h0)
        clear h0 hk2
        go_wp2_with fail
        go_roundw
        case rel => exact ⟨k + 1, by omega, by go_num, by rw [← HSK.out]; exact HO.out, HN.out⟩
        case measure => simp [intOf]; omega
    · have hks : k = size := by omega
      subst hks
      have hcv := run_convert_bytes_arg (P := Try.prog) wr 189 5 Try.underlying189 Try.underlying5 w.heap.size 0 k k (textL n k k) (textL_length _ _ _) (fun i hi => by
        have h := HO.out.cellAt i (by omega)
        rw [Nat.zero_add, h, List.getElem?_map, List.getElem?_eq_getElem (by rw [textL_length]; exact hi)]
        simp [List.getD, List.getElem?_eq_getElem (show i < (textL n k k).length by rw [textL_length]; exact hi)]) 9 Try.underlying9
      go_wp2_with fail
      go_ret
      exact ⟨rfl, HN.out⟩

end Go.Proofs.Ytipgjookfdkciaa

/- The package group: with. No condition. -/
namespace Go.Proofs.Ytipgjookfdkciaa
open Go.RowKit

/-- What a face of the group answers: a value and an errno. -/
def Ans (v : Value) (er : Int) (w : World) (e : Ending) (w' : World) : Prop := e = .returned (.tuple #[v, .int .i64 er]) ∧ Below w.heap.size w w'


set_option maxRecDepth 100000 in
set_option maxHeartbeats 1000000 in
theorem withS_none (k : Int) (hk : ¬ (1 ≤ k ∧ k ≤ 3)) (fv : Value) (w : World) : Calls Try.prog 93 #[.int .i64 k, fv] w (Ans (.string ⟨#[]⟩) 1 w) := by
  go_enter Try.func93, Try.ntmps93
  go_wp2_with fail
  refine (of_none k hk w).mono ?_
  rintro e w1 ⟨rfl, rfl⟩
  go_wp2_with fail
  go_ret2
  exact ⟨rfl, Below.refl _ _⟩

set_option maxRecDepth 100000 in
set_option maxHeartbeats 1000000 in
theorem withS_some (k : Nat) (h1 : 1 ≤ k) (h3 : k ≤ 3) (f : FuncId) (caps : Array Value) (v : Value) (er : Int) (hent : Enters Try.prog f) (w : World)
    (hcall : ∀ w1, Below w.heap.size w w1 → GroupAt w1 w.heap.size (grp k) → Calls Try.prog f (#[.pointer (some ⟨w.heap.size, 0, none⟩)] ++ caps) w1 (Ans v er w1)) :
    Calls Try.prog 93 #[.int .i64 (k : Int), .func (.func f) #[] caps] w (Ans v er w) := by
  have HC := Lib.hid hcall
  clear hcall
  have hcf : ∀ (args : Array Value) (w : World), (callFunc f args).run Try.prog w = .ok (.enter f args) w := hent
  clear hent
  go_enter Try.func93, Try.ntmps93
  go_wp2_with fail
  refine (of_some k h1 h3 w).mono ?_
  rintro e w1 ⟨rfl, hg, hb⟩
  have HG := Lib.hid hg
  have HB := Lib.hid hb
  clear hg hb
  go_wp2_with fail
  refine (HC.out w1 HB.out HG.out).mono ?_
  rintro e w2 ⟨rfl, hb2⟩
  have HB2 := Lib.hid (below_up HB.out hb2)
  clear hb2
  go_wp2_with fail
  go_ret2
  exact ⟨rfl, HB2.out⟩

set_option maxRecDepth 100000 in
set_option maxHeartbeats 1000000 in
theorem withI_none (k : Int) (hk : ¬ (1 ≤ k ∧ k ≤ 3)) (fv : Value) (w : World) : Calls Try.prog 187 #[.int .i64 k, fv] w (Ans (.int .i64 0) 1 w) := by
  go_enter Try.func187, Try.ntmps187
  go_wp2_with fail
  refine (of_none k hk w).mono ?_
  rintro e w1 ⟨rfl, rfl⟩
  go_wp2_with fail
  go_ret2
  exact ⟨rfl, Below.refl _ _⟩

set_option maxRecDepth 100000 in
set_option maxHeartbeats 1000000 in
theorem withI_some (k : Nat) (h1 : 1 ≤ k) (h3 : k ≤ 3) (f : FuncId) (caps : Array Value) (v : Value) (er : Int) (hent : Enters Try.prog f) (w : World)
    (hcall : ∀ w1, Below w.heap.size w w1 → GroupAt w1 w.heap.size (grp k) → Calls Try.prog f (#[.pointer (some ⟨w.heap.size, 0, none⟩)] ++ caps) w1 (Ans v er w1)) :
    Calls Try.prog 187 #[.int .i64 (k : Int), .func (.func f) #[] caps] w (Ans v er w) := by
  have HC := Lib.hid hcall
  clear hcall
  have hcf : ∀ (args : Array Value) (w : World), (callFunc f args).run Try.prog w = .ok (.enter f args) w := hent
  clear hent
  go_enter Try.func187, Try.ntmps187
  go_wp2_with fail
  refine (of_some k h1 h3 w).mono ?_
  rintro e w1 ⟨rfl, hg, hb⟩
  have HG := Lib.hid hg
  have HB := Lib.hid hb
  clear hg hb
  go_wp2_with fail
  refine (HC.out w1 HB.out HG.out).mono ?_
  rintro e w2 ⟨rfl, hb2⟩
  have HB2 := Lib.hid (below_up HB.out hb2)
  clear hb2
  go_wp2_with fail
  go_ret2
  exact ⟨rfl, HB2.out⟩

end Go.Proofs.Ytipgjookfdkciaa

/- The package group: what a kind has. No condition. -/
namespace Go.Proofs.Ytipgjookfdkciaa
open Go.RowKit

set_option maxRecDepth 100000 in
set_option maxHeartbeats 1000000 in
theorem fixed1_any (gb b : Nat) (f : FuncId) (caps : Array Value) (s : ByteArray) (hent : Enters Try.prog f) (w : World) (hc : w.cell? ⟨b, 0, none⟩ = some (.func (.func f) #[] caps))
    (hcall : Calls Try.prog f (#[.pointer (some ⟨gb, 0, none⟩)] ++ caps) w fun e w' => e = .returned (.string s) ∧ Below w.heap.size w w') :
    Calls Try.prog 150 #[.pointer (some ⟨gb, 0, none⟩), .pointer (some ⟨b, 0, none⟩)] w (Ans (.string s) 0 w) := by
  have HC := Lib.hid hcall
  clear hcall
  have hcf : ∀ (args : Array Value) (w : World), (callFunc f args).run Try.prog w = .ok (.enter f args) w := hent
  clear hent
  go_enter Try.func150, Try.ntmps150
  go_wp2_with fail
  refine HC.out.mono ?_
  rintro e w2 ⟨rfl, hb2⟩
  have HB2 := Lib.hid hb2
  clear hb2 hc
  go_wp2_with fail
  go_ret2
  exact ⟨rfl, HB2.out⟩

set_option maxRecDepth 100000 in
set_option maxHeartbeats 1000000 in
theorem fixed_some (k : Nat) (h1 : 1 ≤ k) (h3 : k ≤ 3) (f : FuncId) (caps : Array Value) (s : ByteArray) (hent : Enters Try.prog f) (w : World)
    (hcall : ∀ w1 gb, Below w.heap.size w w1 → GroupAt w1 gb (grp k) → Calls Try.prog f (#[.pointer (some ⟨gb, 0, none⟩)] ++ caps) w1 fun e w' => e = .returned (.string s) ∧ Below w1.heap.size w1 w') :
    Calls Try.prog 97 #[.int .i64 (k : Int), .func (.func f) #[] caps] w (Ans (.string s) 0 w) := by
  have HC := Lib.hid hcall
  have HE := Lib.hid hent
  clear hcall hent
  go_enter Try.func97, Try.ntmps97
  go_wp2_with fail
  have hb0 : Below w.heap.size w (w.alloc (.cells #[.func (.func f) #[] caps] 143)) := (Below.refl _ _).alloc (Nat.le_refl _) _
  have hz0 : Bx (w.alloc (.cells #[.func (.func f) #[] caps] 143)) w.heap.size 143 [.func (.func f) #[] caps] := Bx.new w _ _ _ rfl
  obtain ⟨W0, hW0⟩ : ∃ W9 : World, (w.alloc (.cells #[.func (.func f) #[] caps] 143)) = W9 := ⟨_, rfl⟩
  rw [hW0] at hb0 hz0 ⊢
  have HB0 := Lib.hid hb0
  have HZ0 := Lib.hid hz0
  clear hW0 hb0 hz0
  refine (withS_some k h1 h3 150 #[.pointer (some ⟨w.heap.size, 0, none⟩)] (.string s) 0 (enters_of Try.func150 (by kernel_rfl) rfl) W0 (fun w1 hb hg => ?_)).mono ?_
  · exact fixed1_any _ _ f caps s HE.out w1 ((HZ0.out.up hb).cell (i := 0) rfl) (HC.out w1 _ (below_up HB0.out hb) hg)
  · rintro e w2 ⟨rfl, hb2⟩
    have HB2 := Lib.hid (below_up HB0.out hb2)
    clear hb2
    go_wp2_with fail
    go_ret2
    exact ⟨rfl, HB2.out⟩

set_option maxRecDepth 100000 in
set_option maxHeartbeats 1000000 in
theorem fixed_none (k : Int) (hk : ¬ (1 ≤ k ∧ k ≤ 3)) (f : FuncId) (caps : Array Value) (w : World) : Calls Try.prog 97 #[.int .i64 k, .func (.func f) #[] caps] w (Ans (.string ⟨#[]⟩) 1 w) := by
  go_enter Try.func97, Try.ntmps97
  go_wp2_with fail
  refine (withS_none k hk _ _).mono ?_
  rintro e w1 ⟨rfl, hb⟩
  have HB := Lib.hid (((Below.refl w.heap.size w).alloc (Nat.le_refl _) _).trans (hb.mono (by simp)))
  clear hb
  go_wp2_with fail
  go_ret2
  exact ⟨rfl, HB.out⟩


set_option maxHeartbeats 1000000 in
theorem base1_any (G : GP) (ok : G.Ok) (gb : Nat) (w : World) (hG : GroupAt w gb G) : Calls Try.prog 98 #[.pointer (some ⟨gb, 0, none⟩)] w fun e w' => e = .returned (.string (textS (lowN G 2) G.size)) ∧ Below w.heap.size w w' := by
  have HG := Lib.hid hG
  have OK := Lib.hid ok
  clear hG ok
  go_enter Try.func98, Try.ntmps98
  go_wp2_with fail
  refine (gBase_any G OK.out gb w HG.out).mono ?_
  rintro e w1 ⟨rfl, hb1⟩
  have HB1 := Lib.hid hb1
  clear hb1
  go_wp2_with fail
  refine (gText_any G OK.out gb 2 w1 (HG.out.up HB1.out)).mono ?_
  rintro e w2 ⟨rfl, hb2⟩
  have HB2 := Lib.hid (below_up HB1.out hb2)
  clear hb2
  go_wp2_with fail
  go_ret
  exact ⟨rfl, HB2.out⟩

theorem low2 (k : Nat) (h1 : 1 ≤ k) (h3 : k ≤ 3) : lowN (grp k) 2 = 2 := by
  obtain rfl | rfl | rfl : k = 1 ∨ k = 2 ∨ k = 3 := by omega
  all_goals decide

set_option maxRecDepth 100000 in
set_option maxHeartbeats 1000000 in
theorem Base_some (k : Nat) (h1 : 1 ≤ k) (h3 : k ≤ 3) (w : World) : Calls Try.prog 36 #[.int .i64 (k : Int)] w (Ans (.string (textS 2 (grp k).size)) 0 w) := by
  go_enter Try.func36, Try.ntmps36
  go_wp2_with fail
  refine (fixed_some k h1 h3 98 #[] ((textS 2 (grp k).size)) (enters_of Try.func98 (by kernel_rfl) rfl) w (fun w1 gb hb hg => by rw [← low2 k h1 h3]; exact base1_any (grp k) (grp_ok k h1 h3) gb w1 hg)).mono ?_
  rintro e w2 ⟨rfl, hb2⟩
  have HB2 := Lib.hid hb2
  clear hb2
  go_wp2_with fail
  go_ret2
  exact ⟨rfl, HB2.out⟩

set_option maxRecDepth 100000 in
set_option maxHeartbeats 1000000 in
theorem Base_none (k : Int) (hk : ¬ (1 ≤ k ∧ k ≤ 3)) (w : World) : Calls Try.prog 36 #[.int .i64 k] w (Ans (.string ⟨#[]⟩) 1 w) := by
  go_enter Try.func36, Try.ntmps36
  go_wp2_with fail
  refine (fixed_none k hk _ _ w).mono ?_
  rintro e w2 ⟨rfl, hb2⟩
  have HB2 := Lib.hid hb2
  clear hb2
  go_wp2_with fail
  go_ret2
  exact ⟨rfl, HB2.out⟩

set_option maxHeartbeats 1000000 in
theorem sizes1_any (G : GP) (gb : Nat) (w : World) (hG : GroupAt w gb G) : Calls Try.prog 188 #[.pointer (some ⟨gb, 0, none⟩)] w (Ans (.int .i64 (G.size : Int)) 0 w) := by
  have hgs := hG.size
  have hgl := hG.lt
  go_enter Try.func188, Try.ntmps188
  go_wp2_with fail
  go_ret2
  exact ⟨rfl, Below.refl _ _⟩

def Ans3 (a b c : Int) (w : World) (e : Ending) (w' : World) : Prop := e = .returned (.tuple #[.int .i64 a, .int .i64 b, .int .i64 c]) ∧ Below w.heap.size w w'

set_option maxHeartbeats 1000000 in
theorem Sizes_some (k : Nat) (h1 : 1 ≤ k) (h3 : k ≤ 3) (w : World) : Calls Try.prog 165 #[.int .i64 (k : Int)] w (Ans3 (grp k).size (grp k).size 0 w) := by
  go_enter Try.func165, Try.ntmps165
  go_wp2_with fail
  refine (withI_some k h1 h3 188 #[] (.int .i64 ((grp k).size : Int)) 0 (enters_of Try.func188 (by kernel_rfl) rfl) w (fun w1 hb hg => sizes1_any (grp k) _ w1 hg)).mono ?_
  rintro e w2 ⟨rfl, hb2⟩
  have HB2 := Lib.hid hb2
  clear hb2
  go_wp2_with fail
  go_ret3
  exact ⟨rfl, HB2.out⟩

set_option maxHeartbeats 1000000 in
theorem Sizes_none (k : Int) (hk : ¬ (1 ≤ k ∧ k ≤ 3)) (w : World) : Calls Try.prog 165 #[.int .i64 k] w (Ans3 0 0 1 w) := by
  go_enter Try.func165, Try.ntmps165
  go_wp2_with fail
  refine (withI_none k hk _ w).mono ?_
  rintro e w2 ⟨rfl, hb2⟩
  have HB2 := Lib.hid hb2
  clear hb2
  go_wp2_with fail
  go_ret3
  exact ⟨rfl, HB2.out⟩

end Go.Proofs.Ytipgjookfdkciaa

/- The document's numbers: compared, and read. No condition. -/
namespace Go.Proofs.Ytipgjookfdkciaa
open Go.RowKit

set_option maxHeartbeats 1000000 in
theorem refCompare_len (a b : Nat) (aa ab : Option Addr) (ca cb : Nat) (h : dl a ≠ dl b) (w : World) :
    Calls Try.prog 140 #[.slice aa (dl a) ca, .slice ab (dl b) cb] w fun e w' => e = .returned (.int .i64 (cmpI a b)) ∧ Below w.heap.size w w' := by
  rcases Nat.lt_or_ge (dl a) (dl b) with h1 | h1
  · have HC : Hid (cmpI a b = -1) := by show _ = _; unfold cmpI; rw [if_pos (lt_of_dl a b h1)]
    have hne : ((dl a : Int) != (dl b : Int)) = true := by simp; omega
    clear h
    go_enter Try.func140, Try.ntmps140
    go_wp2_with fail
    go_ret
    exact ⟨ret_int HC.out.symm, Below.refl _ _⟩
  · have h2 : dl b < dl a := by omega
    have h3 := lt_of_dl b a h2
    have HC : Hid (cmpI a b = 1) := by show _ = _; unfold cmpI; rw [if_neg (by omega), if_pos h3]
    have hne : ((dl a : Int) != (dl b : Int)) = true := by simp; omega
    have h4 : ¬ dl a < dl b := by omega
    clear h h1 h3
    go_enter Try.func140, Try.ntmps140
    go_wp2_with fail
    go_ret
    exact ⟨ret_int HC.out.symm, Below.refl _ _⟩

set_option maxHeartbeats 1000000 in
theorem refCompare_same (a b : Nat) (aa ab : Option Addr) (ca cb L : Nat) (ha : dl a = L) (hb : dl b = L) (hL : L ≤ 1048576) (w : World) (hA : NumAt w aa a) (hB : NumAt w ab b) :
    Calls Try.prog 140 #[.slice aa L ca, .slice ab L cb] w fun e w' => e = .returned (.int .i64 (cmpI a b)) ∧ Below w.heap.size w w' := by
  have HDA := Lib.hid ha
  have HDB := Lib.hid hb
  have HA := Lib.hid hA
  have HB := Lib.hid hB
  clear ha hb hA hB
  have hne : ((L : Int) != (L : Int)) = false := by simp
  go_enter Try.func140, Try.ntmps140
  go_wp2_with fail
  go_loopw [5] (fun x wr => ∃ j : Nat, j ≤ L ∧ x = .int .i64 ((j : Int) - 1) ∧ Hid (a / DD ^ j = b / DD ^ j) ∧ Hid (Below w.heap.size w wr)) (fun x _ => (intOf x + 1).toNat)
  case atStart => exact ⟨L, Nat.le_refl _, rfl, by
    show _ = _
    have h1 := lt_dl a
    have h2 := lt_dl b
    rw [HDA.out] at h1
    rw [HDB.out] at h2
    rw [Nat.div_eq_of_lt h1, Nat.div_eq_of_lt h2], Below.refl _ _⟩
  case round =>
    obtain ⟨j, hj, hi, HE, HN⟩ := hrel
    rcases Nat.eq_zero_or_pos j with rfl | hjp
    · subst hi
      go_wp2_with fail
      go_ret
      have h := HE.out
      rw [Nat.pow_zero, Nat.div_one, Nat.div_one] at h
      exact ⟨ret_int (by unfold cmpI; rw [if_neg (by omega), if_neg (by omega)]), HN.out⟩
    · obtain ⟨p, rfl⟩ : ∃ p, j = p + 1 := ⟨j - 1, by omega⟩
      have ei : ((p + 1 : Nat) : Int) - 1 = (p : Int) := by omega
      rw [ei] at hi
      subst hi
      clear ei hjp
      obtain ⟨b1, o1, rfl, hb1, hcell1⟩ := HA.out.all (by rw [HDA.out]; omega)
      obtain ⟨b2, o2, rfl, hb2, hcell2⟩ := HB.out.all (by rw [HDB.out]; omega)
      have hx1 : wr.cell? ⟨b1, o1 + p, none⟩ = some (.int .i64 (dg DD a p : Int)) := by rw [HN.out.cell (p := ⟨b1, o1 + p, none⟩) hb1]; exact hcell1 _ (by rw [HDA.out]; omega)
      have hx2 : wr.cell? ⟨b2, o2 + p, none⟩ = some (.int .i64 (dg DD b p : Int)) := by rw [HN.out.cell (p := ⟨b2, o2 + p, none⟩) hb2]; exact hcell2 _ (by rw [HDB.out]; omega)
      clear hcell1 hcell2
      rcases Nat.lt_trichotomy (dg DD a p) (dg DD b p) with hd | hd | hd
      · have hcmp : Hid (a < b) := lt_of_dg a b p HE.out hd
        have hd1 : ((dg DD a p : Int) != (dg DD b p : Int)) = true := by simp; omega
        go_wp2_with fail
        go_quiet (fail)
        go_wp2_with fail
        go_quiet (fail)
        go_wp2_with fail
        go_ret
        exact ⟨ret_int (by unfold cmpI; rw [if_pos hcmp.out]), by first | exact below_drewN (below_drewN HN.out _) _ | exact below_drewN HN.out _⟩
      · have HE2 := Lib.hid (same_of_dg a b p HE.out hd)
        have hd1 : ((dg DD a p : Int) != (dg DD b p : Int)) = false := by simp; omega
        have hd2 : ¬ dg DD a p < dg DD b p := by omega
        have hd3 : ¬ dg DD b p < dg DD a p := by omega
        clear hd
        go_wp2_with fail
        go_quiet (fail)
        go_wp2_with fail
        go_roundw
        case rel => exact ⟨p, by omega, rfl, HE2.out, below_drewN HN.out _⟩
        case measure => first | (simp [intOf]; done) | (simp [intOf]; omega)
      · have hcmp : Hid (b < a) := lt_of_dg b a p HE.out.symm hd
        have hd1 : ((dg DD a p : Int) != (dg DD b p : Int)) = true := by simp; omega
        have hd2 : ¬ dg DD a p < dg DD b p := by omega
        go_wp2_with fail
        go_quiet (fail)
        go_wp2_with fail
        go_quiet (fail)
        go_wp2_with fail
        go_ret
        exact ⟨ret_int (by have := hcmp.out; unfold cmpI; rw [if_neg (by omega), if_pos this]), by first | exact below_drewN (below_drewN HN.out _) _ | exact below_drewN HN.out _⟩

theorem refCompare_any (a b : Nat) (aa ab : Option Addr) (ca cb : Nat) (hla : dl a ≤ 1048576) (w : World) (hA : NumAt w aa a) (hB : NumAt w ab b) :
    Calls Try.prog 140 #[.slice aa (dl a) ca, .slice ab (dl b) cb] w fun e w' => e = .returned (.int .i64 (cmpI a b)) ∧ Below w.heap.size w w' := by
  by_cases h : dl a = dl b
  · have h1 := refCompare_same a b aa ab ca cb (dl a) rfl h.symm hla w hA hB
    rw [← h]
    exact h1
  · exact refCompare_len a b aa ab ca cb h w


set_option maxHeartbeats 1000000 in
theorem refRead_any (s : ByteArray) (hs : s.size ≤ 1048576) (w : World) :
    Calls Try.prog 69 #[.string s] w fun e w' => NumR w e w' (numOf s) := by
  obtain ⟨i0, hi, hz0, hz1, hz2⟩ := info_parts infoInt3
  obtain ⟨K, hK⟩ : ∃ K, (s.size + 1) / 2 = K := ⟨_, rfl⟩
  have hK1 : ((s.size : Int) + 1) / 2 = (K : Int) := by omega
  go_enter Try.func69, Try.ntmps69
  go_wp2_with (at_make; refine wpList_make_full _ rfl _ _ 96 rfl 0 3 i0 (.int .i64 0) 1 Try.underlying96 hi hz0 hz1 _ _ _ _ K rfl rfl ?c1 ?c2 ?c3 ?c4 ?c5 ?_)
  case c1 => exact hK1
  case c2 => exact hK1
  case c3 => rw [hz2]; omega
  case c4 => unfold maxLen; omega
  case c5 => omega
  intro w1 hown hgrow
  have e0 : digsTo 0 K = digsTo (numTo s 0) K := by rw [numTo_zero]
  rw [zeros_made, e0] at hown
  have HO1 := Lib.hid hown
  have HB1 : Hid (Below w.heap.size w w1) := (Below.refl _ _).grown hgrow (Nat.le_refl _) (by simp)
  have HK := Lib.hid hK
  have hKs : K ≤ 1048576 := by omega
  clear hown hgrow hi hz0 hz1 hz2 e0 hK hK1
  go_wp2_with fail
  go_loopw [4, 5] (fun x _ wr => ∃ k : Nat, k ≤ s.size ∧ x = .int .i64 k ∧ Hid (wr.ownsRow 0 3 1 (.slice (some ⟨w.heap.size, 0, none⟩) K K) K ((digsTo (numTo s k) K).map dV)) ∧ Hid (Below w.heap.size w wr)) (fun x _ _ => s.size - (intOf x).toNat)
  case atStart => exact ⟨0, Nat.zero_le _, rfl, HO1.out, HB1.out⟩
  case round =>
    clear HO1 HB1
    obtain ⟨k, hk, rfl, HO, HN⟩ := hrel
    by_cases hkl : k < s.size
    · have hkK : k / 2 < K := by have := HK.out; omega
      have hx := HO.out.cellAt (k / 2) (by omega)
      have hxv : ((digsTo (numTo s k) K).map dV)[k / 2]? = some (.int .i64 (dg DD (numTo s k) (k / 2) : Int)) := by simp [digsTo, hkK, dV]
      rw [hxv] at hx
      have hf := HO.out.frozenAt (k / 2)
      have hidx : (s.size : Int) - 1 - (k : Int) = ((s.size - 1 - k : Nat) : Int) := by omega
      have hlt : s.size - 1 - k < s.size := by omega
      have hc256 := (s[s.size - 1 - k]'hlt).toNat_lt
      have hdlt : dg DD (numTo s k) (k / 2) < 65536 := dg_lt (B := DD) (by decide) _ _
      have HNS := Lib.hid (numTo_succ s k hkl)
      clear hxv
      generalize hcc : (s[s.size - 1 - k]'hlt).toNat = c at *
      have hk1 : k % 2 = 0 ∨ k % 2 = 1 := by omega
      rcases hk1 with hk1 | hk1
      · have hodd : ((k : Int) % 2 == 1) = false := by simp; omega
        have HK1 := Lib.hid hk1
        clear hk1
        have hput := digsTo_put (numTo s k) c k K (numTo_lt s k hk) hc256
        rw [← HNS.out, HK1.out, Nat.pow_zero, Nat.mul_one] at hput
        have hst := (HO.out.stored (k / 2) (.int .i64 ((dg DD (numTo s k) (k / 2) : Int) + (c : Int)))).1
        rw [show (Value.int .i64 ((dg DD (numTo s k) (k / 2) : Int) + (c : Int))) = dV (dg DD (numTo s k) (k / 2) + c) from by unfold dV; congr 1, ← List.map_set, hput] at hst
        have HS := Lib.hid hst
        have HSB := Lib.hid (HN.out.setCell (p := ⟨w.heap.size, k / 2, none⟩) (Nat.le_refl _) (.int .i64 ((dg DD (numTo s k) (k / 2) : Int) + (c : Int))))
        clear hst hput
        go_wp2_with fail
        go_roundw
        case rel => exact ⟨k + 1, by omega, by go_num, HS.out, HSB.out⟩
        case measure => simp [intOf]; omega
      · have hodd : ((k : Int) % 2 == 1) = true := by simp; omega
        have HK1 := Lib.hid hk1
        clear hk1
        have hput := digsTo_put (numTo s k) c k K (numTo_lt s k hk) hc256
        rw [← HNS.out, HK1.out, Nat.pow_one] at hput
        have hst := (HO.out.stored (k / 2) (.int .i64 ((dg DD (numTo s k) (k / 2) : Int) + (c : Int) * 256))).1
        rw [show (Value.int .i64 ((dg DD (numTo s k) (k / 2) : Int) + (c : Int) * 256)) = dV (dg DD (numTo s k) (k / 2) + c * 256) from by unfold dV; congr 1, ← List.map_set, hput] at hst
        have HS := Lib.hid hst
        have HSB := Lib.hid (HN.out.setCell (p := ⟨w.heap.size, k / 2, none⟩) (Nat.le_refl _) (.int .i64 ((dg DD (numTo s k) (k / 2) : Int) + (c : Int) * 256)))
        clear hst hput
        go_wp2_with fail
        go_roundw
        case rel => exact ⟨k + 1, by omega, by go_num, HS.out, HSB.out⟩
        case measure => simp [intOf]; omega
    · have hks : k = s.size := by omega
      subst hks
      rw [numTo_all] at HO
      have hlt : numOf s < DD ^ K := by
        have h := numL_lt s.data.toList
        have e : s.data.toList.length = s.size := rfl
        rw [e] at h
        refine Nat.lt_of_lt_of_le h ?_
        show 256 ^ s.size ≤ (256 ^ 2) ^ K
        rw [← Nat.pow_mul]
        exact Nat.pow_le_pow_right (by omega) (by have := HK.out; omega)
      have HLT := Lib.hid hlt
      clear hlt
      go_wp2_with fail
      refine (trim_own HO.out HLT.out (by omega)).mono ?_
      rintro e w' ⟨a', cap', rfl, hN, _, rfl⟩
      have HNN := Lib.hid hN
      clear hN
      go_wp2_with fail
      go_ret
      exact ⟨a', cap', rfl, HNN.out, HN.out⟩

end Go.Proofs.Ytipgjookfdkciaa

/- The document's numbers: what is taken off; what is left of a modulus. No condition. -/
namespace Go.Proofs.Ytipgjookfdkciaa
open Go.RowKit

/-- A row of K cells of which the first i are written. -/
def rowZ (n i K : Nat) : List Nat := (List.range K).map fun p => if p < i then dg DD n p else 0
theorem rowZ_zero (n K : Nat) : rowZ n 0 K = digsTo 0 K := by
  unfold rowZ digsTo
  refine List.map_congr_left fun p _ => ?_
  simp [dg]
theorem rowZ_at (n i K : Nat) (h : i < K) : ((rowZ n i K).map dV)[i]? = some (.int .i64 0) := by
  simp [rowZ, h, dV]
theorem rowZ_set (n i K : Nat) : ((rowZ n i K).map dV).set i (.int .i64 (dg DD n i : Int)) = (rowZ n (i + 1) K).map dV := by
  rw [show (Value.int .i64 (dg DD n i : Int)) = dV (dg DD n i) from rfl, ← List.map_set]
  congr 1
  refine List.ext_getElem (by simp [rowZ]) (fun p h1 h2 => ?_)
  rw [List.getElem_set]
  simp only [rowZ, List.getElem_map, List.getElem_range]
  by_cases h : i = p
  · subst h; rw [if_pos rfl, if_pos (by omega)]
  · rw [if_neg h]
    by_cases h3 : p < i
    · rw [if_pos h3, if_pos (by omega)]
    · rw [if_neg h3, if_neg (by omega)]
theorem rowZ_end (n K : Nat) : rowZ n K K = digsTo n K := by
  unfold rowZ digsTo
  refine List.map_congr_left fun p hp => ?_
  rw [if_pos (by simpa using hp)]

/-- What stands in a digit when something is taken off. -/
theorem take_digit (r s n i : Nat) : (dg DD (r + n * s) i : Int) - (mcB DD r s n i : Int) - (n : Int) * (dg DD s i : Int) = (dg DD r i : Int) - 65536 * (mcB DD r s n (i + 1) : Int) := by
  have h1 := mcB_dig (B := DD) (by decide) r s n i
  have h2 := mcB_succ (B := DD) (by decide) r s n i
  have h3 := Nat.div_add_mod (dg DD r i + n * dg DD s i + mcB DD r s n i) DD
  rw [h1, h2] at h3
  have h4 : (n : Int) * (dg DD s i : Int) = ((n * dg DD s i : Nat) : Int) := by simp
  rw [h4]
  have h5 : 65536 * mcB DD r s n (i + 1) + dg DD (r + n * s) i = dg DD r i + n * dg DD s i + mcB DD r s n i := h3
  omega


set_option maxHeartbeats 2000000 in
theorem refTake_any (a b n k R : Nat) (aa ab : Option Addr) (ca cb : Nat) (hla : dl a ≤ 1048576) (hlb : dl b ≤ 1048576) (hn : n ≤ 1099511627776) (hk : k ≤ 1048576) (hR : a = R + n * (b * DD ^ k)) (w : World) (hA : NumAt w aa a) (hB : NumAt w ab b) :
    Calls Try.prog 183 #[.slice aa (dl a) ca, .slice ab (dl b) cb, .int .i64 (n : Int), .int .i64 (k : Int)] w fun e w' => NumR w e w' R := by
  obtain ⟨i0, hi, hz0, hz1, hz2⟩ := info_parts infoInt3
  have HA := Lib.hid hA
  have HB := Lib.hid hB
  have HR := Lib.hid hR
  clear hA hB hR
  go_enter Try.func183, Try.ntmps183
  go_wp2_with (at_make; refine wpList_make_full _ rfl _ _ 96 rfl 0 3 i0 (.int .i64 0) 1 Try.underlying96 hi hz0 hz1 _ _ _ _ (dl a) rfl rfl ?c1 ?c2 ?c3 ?c4 ?c5 ?_)
  case c1 => rfl
  case c2 => rfl
  case c3 => rw [hz2]; omega
  case c4 => unfold maxLen; omega
  case c5 => omega
  intro w1 hown hgrow
  rw [zeros_made, ← rowZ_zero R] at hown
  have HO1 := Lib.hid hown
  have HB1 : Hid (Below w.heap.size w w1) := (Below.refl _ _).grown hgrow (Nat.le_refl _) (by simp)
  clear hown hgrow hi hz0 hz1 hz2
  go_wp2_with fail
  go_loopw [10, 11, 12] (fun c x _ wr => ∃ i : Nat, i ≤ dl a ∧ x = .int .i64 i ∧ c = .int .i64 (mcB DD R (b * DD ^ k) n i : Nat) ∧ Hid (wr.ownsRow 0 3 1 (.slice (some ⟨w.heap.size, 0, none⟩) (dl a) (dl a)) (dl a) ((rowZ R i (dl a)).map dV)) ∧ Hid (Below w.heap.size w wr)) (fun _ x _ _ => dl a - (intOf x).toNat)
  case atStart => exact ⟨0, Nat.zero_le _, rfl, by rw [mcB_zero]; rfl, HO1.out, HB1.out⟩
  case round =>
    clear HO1 HB1
    obtain ⟨i, hi, rfl, rfl, HO, HN⟩ := hrel
    by_cases hil : i < dl a
    · obtain ⟨b1, o1, rfl, hb1, hcell1⟩ := HA.out.all (by omega)
      have hx1 : wr.cell? ⟨b1, o1 + i, none⟩ = some (.int .i64 (dg DD a i : Int)) := by rw [HN.out.cell (p := ⟨b1, o1 + i, none⟩) hb1]; exact hcell1 _ hil
      have hda : dg DD a i < 65536 := dg_lt (B := DD) (by decide) _ _
      have hdr : dg DD R i < 65536 := dg_lt (B := DD) (by decide) _ _
      have hc1 := mcB_le (B := DD) (by decide) R (b * DD ^ k) n i
      have hc2 := mcB_le (B := DD) (by decide) R (b * DD ^ k) n (i + 1)
      have htd := take_digit R (b * DD ^ k) n i
      rw [← HR.out] at htd
      have hx3 := HO.out.cellAt i (by omega)
      rw [rowZ_at R i (dl a) hil] at hx3
      have hf3 := HO.out.frozenAt i
      generalize mcB DD R (b * DD ^ k) n i = c at *
      generalize hcc : mcB DD R (b * DD ^ k) n (i + 1) = c2 at *
      have HC2 : Hid (mcB DD R (b * DD ^ k) n (i + 1) = c2) := hcc
      clear hcell1 hcc
      by_cases hik : k ≤ i ∧ i - k < dl b
      · obtain ⟨hik1, hik2⟩ := hik
        obtain ⟨b2, o2, rfl, hb2, hcell2⟩ := HB.out.all (by omega)
        have hx2 : wr.cell? ⟨b2, o2 + (i - k), none⟩ = some (.int .i64 (dg DD b (i - k) : Int)) := by rw [HN.out.cell (p := ⟨b2, o2 + (i - k), none⟩) hb2]; exact hcell2 _ hik2
        have hdb : dg DD b (i - k) < 65536 := dg_lt (B := DD) (by decide) _ _
        have hsh := dg_shift b k (i - k)
        rw [show k + (i - k) = i by omega] at hsh
        rw [hsh] at htd
        have hidx : (i : Int) - (k : Int) = ((i - k : Nat) : Int) := by omega
        clear hcell2 hsh
        generalize dg DD b (i - k) = db at *
        generalize hda' : dg DD a i = da at *
        have hprod : n * db ≤ 1099511627776 * 65535 := Nat.mul_le_mul hn (by omega)
        have hpi : (n : Int) * (db : Int) = ((n * db : Nat) : Int) := by simp
        rw [hpi] at htd
        generalize hpr : n * db = pr at *
        have HDA := Lib.hid hda'
        have HPR := Lib.hid hpr
        clear hda' hpr
        have hkI : (k : Int) ≤ (i : Int) := by omega
        have hst := (HO.out.stored i (.int .i64 (dg DD R i : Int))).1
        rw [rowZ_set] at hst
        have HS := Lib.hid hst
        have HSB := Lib.hid (HN.out.setCell (p := ⟨w.heap.size, i, none⟩) (Nat.le_refl _) (.int .i64 (dg DD R i : Int)))
        clear hst
        obtain ⟨d, hd⟩ : ∃ d : Int, (da : Int) - (c : Int) - (pr : Int) = d := ⟨_, rfl⟩
        rw [hd] at htd
        have hdlo : -72057594037927936 ≤ d := by omega
        have hdhi : d ≤ 65535 := by omega
        by_cases hneg : 0 < c2
        · have hd2 : d < 0 := by omega
          have hdn : (65535 - d) / 65536 = (c2 : Int) := by omega
          have hds : d + (c2 : Int) * 65536 = (dg DD R i : Int) := by omega
          have HTD := Lib.hid htd
          clear htd
          go_wp2_with fail
          go_roundw
          case rel => exact ⟨i + 1, by omega, by go_num, by first | rw [hdn, HC2.out] | rw [HC2.out], HS.out, HSB.out⟩
          case measure => simp [intOf]; omega
        · have hc0 : c2 = 0 := by omega
          have hd2 : ¬ d < 0 := by omega
          have hds : d = (dg DD R i : Int) := by omega
          have HC0 := Lib.hid hc0
          have HDS := Lib.hid hds
          have HTD := Lib.hid htd
          rw [← hds] at HS HSB
          clear hc0 hds htd
          go_wp2_with fail
          go_roundw
          case rel => exact ⟨i + 1, by omega, by go_num, by rw [HC2.out, HC0.out]; rfl, HS.out, HSB.out⟩
          case measure => simp [intOf]; omega
      · have h0 : dg DD (b * DD ^ k) i = 0 := by
          rcases Nat.lt_or_ge i k with h | h
          · unfold dg
            have e : DD ^ k = DD ^ i * (DD * DD ^ (k - i - 1)) := by rw [← Nat.pow_succ', ← Nat.pow_add]; congr 1; omega
            rw [e, Nat.mul_left_comm, Nat.mul_div_cancel_left _ (Nat.pow_pos (by decide)), Nat.mul_left_comm, Nat.mul_mod_right]
          · have hsh := dg_shift b k (i - k)
            rw [show k + (i - k) = i by omega] at hsh
            rw [hsh]
            exact dg_nought b _ (by omega)
        rw [h0] at htd
        have htd2 : (dg DD a i : Int) - (c : Int) = (dg DD R i : Int) - 65536 * (c2 : Int) := by simpa using htd
        clear h0 htd
        have htd := htd2
        clear htd2
        generalize hda' : dg DD a i = da at *
        have HDA := Lib.hid hda'
        clear hda'
        by_cases hik1 : k ≤ i
        · have hik2 : ¬ i - k < dl b := fun h => hik ⟨hik1, h⟩
          have hidx : (i : Int) - (k : Int) = ((i - k : Nat) : Int) := by omega
          clear hik
          have hst := (HO.out.stored i (.int .i64 (dg DD R i : Int))).1
          rw [rowZ_set] at hst
          have HS := Lib.hid hst
          have HSB := Lib.hid (HN.out.setCell (p := ⟨w.heap.size, i, none⟩) (Nat.le_refl _) (.int .i64 (dg DD R i : Int)))
          clear hst
          obtain ⟨d, hd⟩ : ∃ d : Int, (da : Int) - (c : Int) = d := ⟨_, rfl⟩
          rw [hd] at htd
          have hdlo : -72057594037927936 ≤ d := by omega
          have hdhi : d ≤ 65535 := by omega
          by_cases hneg : 0 < c2
          · have hd2 : d < 0 := by omega
            have hdn : (65535 - d) / 65536 = (c2 : Int) := by omega
            have hds : d + (c2 : Int) * 65536 = (dg DD R i : Int) := by omega
            have HTD := Lib.hid htd
            clear htd
            go_wp2_with fail
            go_roundw
            case rel => exact ⟨i + 1, by omega, by go_num, by first | rw [hdn, HC2.out] | rw [HC2.out], HS.out, HSB.out⟩
            case measure => simp [intOf]; omega
          · have hc0 : c2 = 0 := by omega
            have hd2 : ¬ d < 0 := by omega
            have hds : d = (dg DD R i : Int) := by omega
            have HC0 := Lib.hid hc0
            have HDS := Lib.hid hds
            have HTD := Lib.hid htd
            rw [← hds] at HS HSB
            clear hc0 hds htd
            go_wp2_with fail
            go_roundw
            case rel => exact ⟨i + 1, by omega, by go_num, by rw [HC2.out, HC0.out]; rfl, HS.out, HSB.out⟩
            case measure => simp [intOf]; omega
        · clear hik
          have hst := (HO.out.stored i (.int .i64 (dg DD R i : Int))).1
          rw [rowZ_set] at hst
          have HS := Lib.hid hst
          have HSB := Lib.hid (HN.out.setCell (p := ⟨w.heap.size, i, none⟩) (Nat.le_refl _) (.int .i64 (dg DD R i : Int)))
          clear hst
          obtain ⟨d, hd⟩ : ∃ d : Int, (da : Int) - (c : Int) = d := ⟨_, rfl⟩
          rw [hd] at htd
          have hdlo : -72057594037927936 ≤ d := by omega
          have hdhi : d ≤ 65535 := by omega
          by_cases hneg : 0 < c2
          · have hd2 : d < 0 := by omega
            have hdn : (65535 - d) / 65536 = (c2 : Int) := by omega
            have hds : d + (c2 : Int) * 65536 = (dg DD R i : Int) := by omega
            have HTD := Lib.hid htd
            clear htd
            go_wp2_with fail
            go_roundw
            case rel => exact ⟨i + 1, by omega, by go_num, by first | rw [hdn, HC2.out] | rw [HC2.out], HS.out, HSB.out⟩
            case measure => simp [intOf]; omega
          · have hc0 : c2 = 0 := by omega
            have hd2 : ¬ d < 0 := by omega
            have hds : d = (dg DD R i : Int) := by omega
            have HC0 := Lib.hid hc0
            have HDS := Lib.hid hds
            have HTD := Lib.hid htd
            rw [← hds] at HS HSB
            clear hc0 hds htd
            go_wp2_with fail
            go_roundw
            case rel => exact ⟨i + 1, by omega, by go_num, by rw [HC2.out, HC0.out]; rfl, HS.out, HSB.out⟩
            case measure => simp [intOf]; omega
    · have hia : i = dl a := by omega
      subst hia
      rw [rowZ_end] at HO
      have hlt : R < DD ^ dl a := Nat.lt_of_le_of_lt (by have := HR.out; omega) (lt_dl a)
      have HLT := Lib.hid hlt
      clear hlt
      go_wp2_with fail
      refine (trim_own HO.out HLT.out (by omega)).mono ?_
      rintro e w' ⟨a', cap', rfl, hN, _, rfl⟩
      have HNN := Lib.hid hN
      clear hN
      go_wp2_with fail
      go_ret
      exact ⟨a', cap', rfl, HNN.out, HN.out⟩

end Go.Proofs.Ytipgjookfdkciaa

/- The document's numbers: what is left of a modulus. No condition. -/
namespace Go.Proofs.Ytipgjookfdkciaa
open Go.RowKit

theorem top_div (n : Nat) (h : n ≠ 0) : n / DD ^ (dl n - 1) = dg DD n (dl n - 1) := by
  have h2 := lt_dl n
  have hp := dl_pos n h
  have e : DD ^ dl n = DD ^ (dl n - 1) * DD := by rw [← Nat.pow_succ]; congr 1; omega
  unfold dg
  rw [Nat.mod_eq_of_lt (Nat.div_lt_of_lt_mul (by rw [← e]; exact h2))]

theorem top_lt (m : Nat) (h : m ≠ 0) : m < (dg DD m (dl m - 1) + 1) * DD ^ (dl m - 1) := by
  have h1 := top_div m h
  have h2 := Nat.div_add_mod m (DD ^ (dl m - 1))
  have h3 := Nat.mod_lt m (Nat.pow_pos (n := dl m - 1) (show 0 < DD by decide))
  rw [h1] at h2
  rw [Nat.add_mul, Nat.one_mul, Nat.mul_comm (dg DD m (dl m - 1))]
  omega

theorem quo_step (A m x q e : Nat) (hm : m ≠ 0) (hx : x * DD ^ e ≤ A) (hq : q = x / (dg DD m (dl m - 1) + 1)) (he : dl m - 1 ≤ e) : q * (m * DD ^ (e - (dl m - 1))) ≤ A := by
  have h1 := top_lt m hm
  have h2 : q * (dg DD m (dl m - 1) + 1) ≤ x := by rw [hq]; exact Nat.div_mul_le_self _ _
  have h3 : DD ^ e = DD ^ (dl m - 1) * DD ^ (e - (dl m - 1)) := by rw [← Nat.pow_add]; congr 1; omega
  generalize dg DD m (dl m - 1) + 1 = t at *
  generalize DD ^ (dl m - 1) = P at *
  generalize DD ^ (e - (dl m - 1)) = S at *
  calc q * (m * S) ≤ q * (t * P * S) := Nat.mul_le_mul_left _ (Nat.mul_le_mul_right _ (Nat.le_of_lt h1))
    _ = q * t * (P * S) := by rw [Nat.mul_assoc t, Nat.mul_assoc q]
    _ ≤ x * (P * S) := Nat.mul_le_mul_right _ h2
    _ = x * DD ^ e := by rw [h3]
    _ ≤ A := hx

theorem mod_one (A m : Nat) (hA : A ≠ 0) (hm : m ≠ 0) (hle : dl m ≤ dl A) : dg DD A (dl A - 1) / (dg DD m (dl m - 1) + 1) * (m * DD ^ (dl A - dl m)) ≤ A := by
  have h := quo_step A m (dg DD A (dl A - 1)) _ (dl A - 1) hm (by rw [← top_div A hA]; exact Nat.div_mul_le_self _ _) rfl (by omega)
  have := dl_pos m hm
  rwa [show dl A - 1 - (dl m - 1) = dl A - dl m by omega] at h
theorem mod_two (A m : Nat) (hA : A ≠ 0) (hm : m ≠ 0) (hle : dl m < dl A) : (dg DD A (dl A - 1) * DD + dg DD A (dl A - 2)) / (dg DD m (dl m - 1) + 1) * (m * DD ^ (dl A - dl m - 1)) ≤ A := by
  have hp := dl_pos m hm
  have h2 := dg_div (B := DD) A (dl A - 2)
  rw [show dl A - 2 + 1 = dl A - 1 by omega, top_div A hA, Nat.mul_comm] at h2
  have h := quo_step A m (dg DD A (dl A - 1) * DD + dg DD A (dl A - 2)) _ (dl A - 2) hm (by rw [← h2]; exact Nat.div_mul_le_self _ _) rfl (by omega)
  rwa [show dl A - 2 - (dl m - 1) = dl A - dl m - 1 by omega] at h

theorem take_mod (A m n s : Nat) (h : n * (m * s) ≤ A) : (A - n * (m * s)) % m = A % m := by
  have e : A = (A - n * (m * s)) + m * (n * s) := by rw [show m * (n * s) = n * (m * s) by rw [Nat.mul_left_comm]]; omega
  rw [← Nat.add_mul_mod_self_left (A - n * (m * s)) m (n * s), ← e]


set_option maxHeartbeats 2000000 in
theorem refMod_any (a m : Nat) (aa am : Option Addr) (ca cm : Nat) (hla : dl a ≤ 1048576) (hm0 : 0 < m) (w : World) (hA : NumAt w aa a) (hM : NumAt w am m) :
    Calls Try.prog 143 #[.slice aa (dl a) ca, .slice am (dl m) cm] w fun e w' => NumR w e w' (a % m) := by
  have HA := Lib.hid hA
  have HMM := Lib.hid hM
  clear hA hM
  go_enter Try.func143, Try.ntmps143
  go_wp2_with fail
  go_loopg [0, 5, 6] a (fun g v _ _ wr => ∃ (A : Nat) (a1 : Option Addr) (c1 : Nat), g = A ∧ v = .slice a1 (dl A) c1 ∧ Hid (A % m = a % m) ∧ A ≤ a ∧ Hid (NumAt wr a1 A) ∧ Hid (Below w.heap.size w wr))
  case atStart => exact ⟨a, aa, ca, rfl, rfl, rfl, Nat.le_refl _, HA.out, Below.refl _ _⟩
  case round =>
    obtain ⟨A, a1, c1, hg, rfl, HM, hAa, HN, HB⟩ := hrel
    obtain ⟨G9, hG9⟩ : ∃ G9, gk = G9 := ⟨_, rfl⟩
    rw [hG9] at hg
    subst hg
    subst hG9
    obtain ⟨A, rfl⟩ : ∃ A, A = gk := ⟨_, rfl⟩
    clear HA
    have hdA := dl_mono _ _ hAa
    go_wp2_with fail
    refine (refCompare_any A m a1 am c1 cm (by omega) wr HN.out (HMM.out.up HB.out)).mono ?_
    rintro e w2 ⟨rfl, hb2⟩
    have HB2 := Lib.hid (below_up HB.out hb2)
    have HN2 := Lib.hid (HN.out.up hb2)
    have HMM2 := Lib.hid (HMM.out.up HB2.out)
    clear hb2 HN HB
    by_cases hlt : A < m
    · have hc : cmpI A m = -1 := by unfold cmpI; rw [if_pos hlt]
      rw [hc]
      clear hc
      have HRES : Hid (A = a % m) := by show _ = _; rw [← HM.out, Nat.mod_eq_of_lt hlt]
      go_wp2_with fail
      go_ret
      exact ⟨a1, c1, by rw [← HRES.out]; rfl, by rw [← HRES.out]; exact HN2.out, HB2.out⟩
    · have hle : m ≤ A := by omega
      have HLEM := Lib.hid hle
      obtain ⟨c, hc, hc0⟩ : ∃ c, cmpI A m = c ∧ 0 ≤ c := ⟨_, rfl, by unfold cmpI; rw [if_neg hlt]; split <;> omega⟩
      rw [hc]
      clear hc hlt hle
      have hA0 : A ≠ 0 := by have := HLEM.out; omega
      have hm1 : m ≠ 0 := by omega
      have hlm := dl_mono _ _ HLEM.out
      have hpA := dl_pos A hA0
      have hpm := dl_pos m hm1
      have htA := dl_top A hA0
      have h1 := mod_one A m hA0 hm1 hlm
      have hdA : dg DD A (dl A - 1) < 65536 := dg_lt (B := DD) (by decide) _ _
      have hdA2 : dg DD A (dl A - 2) < 65536 := dg_lt (B := DD) (by decide) _ _
      have hdm : dg DD m (dl m - 1) < 65536 := dg_lt (B := DD) (by decide) _ _
      have H2 : Hid (dl m < dl A → (dg DD A (dl A - 1) * DD + dg DD A (dl A - 2)) / (dg DD m (dl m - 1) + 1) * (m * DD ^ (dl A - dl m - 1)) ≤ A) := fun h => mod_two A m hA0 hm1 h
      obtain ⟨b1, o1, rfl, hb1, hcell1⟩ := HN2.out.all hpA
      obtain ⟨b2, o2, rfl, hb2, hcell2⟩ := HMM2.out.all hpm
      have hx1 := hcell1 (dl A - 1) (by omega)
      have hx2 := hcell2 (dl m - 1) (by omega)
      have hx3 : dl m < dl A → w2.cell? ⟨b1, o1 + (dl A - 2), none⟩ = some (.int .i64 (dg DD A (dl A - 2) : Int)) := fun h => hcell1 (dl A - 2) (by omega)
      have HX3 := Lib.hid hx3
      have hi1 : (dl A : Int) - 1 = ((dl A - 1 : Nat) : Int) := by omega
      have hi2 : (dl m : Int) - 1 = ((dl m - 1 : Nat) : Int) := by omega
      have hi3 : (dl A : Int) - (dl m : Int) = ((dl A - dl m : Nat) : Int) := by omega
      have H1 := Lib.hid h1
      clear hcell1 hcell2 hx3 h1
      generalize hat : dg DD A (dl A - 1) = at1 at *
      generalize han : dg DD A (dl A - 2) = an1 at *
      generalize hmt : dg DD m (dl m - 1) = mt1 at *
      have HAT := Lib.hid hat
      have HAN := Lib.hid han
      have HMT := Lib.hid hmt
      clear hat han hmt
      obtain ⟨q, hq⟩ : ∃ q, at1 / (mt1 + 1) = q := ⟨_, rfl⟩
      have hqI : (at1 : Int) / ((mt1 : Int) + 1) = (q : Int) := by rw [← hq]; simp
      have hq9 : q ≤ 65535 := by rw [← hq]; exact Nat.le_trans (Nat.div_le_self _ _) (by omega)
      have H1' := H1.out
      rw [hq] at H1'
      have HLE1 := Lib.hid H1'
      clear H1' H1 hq
      go_wp2_with fail
      go_quiet (fail)
      have HN3 := Lib.hid (HN2.out.up (below_drewN (Below.refl _ w2) nq))
      have HMM3 := Lib.hid (HMM2.out.up (below_drewN (Below.refl _ w2) nq))
      have HB3 := Lib.hid (below_drewN HB2.out nq)
      by_cases hq0 : q = 0
      · subst hq0
        by_cases hk0 : dl m < dl A
        · have hx3 := HX3.out hk0
          have h2 := H2.out hk0
          have hkp : 0 < dl A - dl m := by omega
          have hi4 : (dl A : Int) - 2 = ((dl A - 2 : Nat) : Int) := by omega
          have hi5 : ((dl A - dl m : Nat) : Int) - 1 = ((dl A - dl m - 1 : Nat) : Int) := by omega
          obtain ⟨q2, hq2⟩ : ∃ q2, (at1 * DD + an1) / (mt1 + 1) = q2 := ⟨_, rfl⟩
          rw [hq2] at h2
          have hqI2 : ((at1 : Int) * 65536 + (an1 : Int)) / ((mt1 : Int) + 1) = (q2 : Int) := by rw [← hq2]; simp
          have hq29 : q2 ≤ 4294967295 := by rw [← hq2]; exact Nat.le_trans (Nat.div_le_self _ _) (by show at1 * 65536 + an1 ≤ _; omega)
          have hq21 : 1 ≤ q2 := by rw [← hq2]; exact (Nat.le_div_iff_mul_le (by omega)).2 (by show 1 * (mt1 + 1) ≤ at1 * 65536 + an1; omega)
          have hq20 : ((q2 : Int) == 0) = false := by simp; omega
          have HLE := Lib.hid h2
          clear h2 hq2 HLE1
          go_wp2_with fail
          go_quiet (fail)
          have hsub : A - q2 * (m * DD ^ (dl A - dl m - 1)) < A := by
            have h1 : 0 < q2 * (m * DD ^ (dl A - dl m - 1)) := Nat.mul_pos (by omega) (Nat.mul_pos (by omega) (Nat.pow_pos (by decide)))
            omega
          have HSUB := Lib.hid hsub
          have HTM := Lib.hid (take_mod A m (q2) (DD ^ (dl A - dl m - 1)) HLE.out)
          clear hsub
          go_wp2_with fail
          refine (refTake_any A m (q2) (dl A - dl m - 1) (A - q2 * (m * DD ^ (dl A - dl m - 1))) _ _ _ _ (by omega) (by omega) (by omega) (by omega) (by have := HLE.out; omega) _ (NumAt.up HN2.out (below_drewN (Below.refl _ w2) _)) (NumAt.up HMM2.out (below_drewN (Below.refl _ w2) _))).mono ?_
          rintro e w4 ⟨a4, c4, rfl, hn4, hb4⟩
          have HN4 := Lib.hid hn4
          have HB4 := Lib.hid (below_up (below_drewN HB2.out _) hb4)
          clear hn4 hb4
          go_wp2_with fail
          go_roundg (A - q2 * (m * DD ^ (dl A - dl m - 1)))
          case measure => exact HSUB.out
          case rel => exact ⟨_, a4, c4, rfl, by first | rfl | rw [Nat.one_mul], by rw [HTM.out]; exact HM.out, Nat.le_trans (Nat.le_of_lt HSUB.out) hAa, HN4.out, HB4.out⟩
        · have hk00 : dl A - dl m = 0 := by omega
          have hkp : ¬ 0 < dl A - dl m := by omega
          have HLE : Hid (1 * (m * DD ^ (dl A - dl m)) ≤ A) := by
            show _ ≤ _
            rw [hk00, Nat.pow_zero, Nat.mul_one, Nat.one_mul]
            exact HLEM.out
          have hkI : ¬ (0 : Int) < ((dl A - dl m : Nat) : Int) := by omega
          clear hk00 HLE1
          have hsub : A - 1 * (m * DD ^ (dl A - dl m)) < A := by
            have h1 : 0 < 1 * (m * DD ^ (dl A - dl m)) := Nat.mul_pos (by omega) (Nat.mul_pos (by omega) (Nat.pow_pos (by decide)))
            omega
          have HSUB := Lib.hid hsub
          have HTM := Lib.hid (take_mod A m (1) (DD ^ (dl A - dl m)) HLE.out)
          clear hsub
          go_wp2_with fail
          refine (refTake_any A m (1) (dl A - dl m) (A - 1 * (m * DD ^ (dl A - dl m))) _ _ _ _ (by omega) (by omega) (by omega) (by omega) (by have := HLE.out; omega) _ HN3.out HMM3.out).mono ?_
          rintro e w4 ⟨a4, c4, rfl, hn4, hb4⟩
          have HN4 := Lib.hid hn4
          have HB4 := Lib.hid (below_up HB3.out hb4)
          clear hn4 hb4
          go_wp2_with fail
          go_roundg (A - 1 * (m * DD ^ (dl A - dl m)))
          case measure => exact HSUB.out
          case rel => exact ⟨_, a4, c4, rfl, by first | rfl | rw [Nat.one_mul], by rw [HTM.out]; exact HM.out, Nat.le_trans (Nat.le_of_lt HSUB.out) hAa, HN4.out, HB4.out⟩
      · have hq1 : ((q : Int) == 0) = false := by simp; omega
        have HLE := HLE1
        clear HLE1
        have hsub : A - q * (m * DD ^ (dl A - dl m)) < A := by
          have h1 : 0 < q * (m * DD ^ (dl A - dl m)) := Nat.mul_pos (by omega) (Nat.mul_pos (by omega) (Nat.pow_pos (by decide)))
          omega
        have HSUB := Lib.hid hsub
        have HTM := Lib.hid (take_mod A m (q) (DD ^ (dl A - dl m)) HLE.out)
        clear hsub
        go_wp2_with fail
        refine (refTake_any A m (q) (dl A - dl m) (A - q * (m * DD ^ (dl A - dl m))) _ _ _ _ (by omega) (by omega) (by omega) (by omega) (by have := HLE.out; omega) _ HN3.out HMM3.out).mono ?_
        rintro e w4 ⟨a4, c4, rfl, hn4, hb4⟩
        have HN4 := Lib.hid hn4
        have HB4 := Lib.hid (below_up HB3.out hb4)
        clear hn4 hb4
        go_wp2_with fail
        go_roundg (A - q * (m * DD ^ (dl A - dl m)))
        case measure => exact HSUB.out
        case rel => exact ⟨_, a4, c4, rfl, by first | rfl | rw [Nat.one_mul], by rw [HTM.out]; exact HM.out, Nat.le_trans (Nat.le_of_lt HSUB.out) hAa, HN4.out, HB4.out⟩

end Go.Proofs.Ytipgjookfdkciaa

/- The document's powers. No condition. -/
namespace Go.Proofs.Ytipgjookfdkciaa
open Go.RowKit

def bitAt (n k : Nat) : Nat := n / 2 ^ k % 2
/-- The highest t of L bits, the highest first. -/
def bitsTo (n L t : Nat) : List Nat := (List.range t).map fun s => bitAt n (L - 1 - s)
theorem bitsTo_succ (n L t : Nat) : bitsTo n L (t + 1) = bitsTo n L t ++ [bitAt n (L - 1 - t)] := by simp [bitsTo, List.range_succ]
theorem bitsTo_at (n L t s : Nat) (h : s < t) : (bitsTo n L t)[s]? = some (bitAt n (L - 1 - s)) := by simp [bitsTo, h]

theorem bit_dg (n i j : Nat) (hj : j ≤ 15) : dg DD n i / 2 ^ (15 - j) % 2 = bitAt n (16 * i + (15 - j)) := by
  unfold dg bitAt
  have hb : DD = 2 ^ 16 := rfl
  rw [hb, ← Nat.pow_mul]
  have e : (2 : Nat) ^ 16 = 2 ^ (15 - j) * (2 * 2 ^ j) := by
    rw [← Nat.pow_succ', ← Nat.pow_add]; congr 1; omega
  rw [e, Nat.mod_mul_right_div_self, Nat.mod_mul_right_mod, Nat.div_div_eq_div_mul, ← Nat.pow_add]

structure OwnB (W w : World) (v : Value) (n L t : Nat) : Prop where
  own : w.ownsRow 0 3 1 v t ((bitsTo n L t).map dV)
  new_ : ∀ q, v.ownBlock = some q → W.heap.size ≤ q
  below : Below W.heap.size W w
theorem OwnB.nil (W : World) (n L : Nat) : OwnB W W (.slice none 0 0) n L 0 := ⟨World.ownsRow_nil _ _ _ _, fun q h => by simp [Value.ownBlock] at h, Below.refl _ _⟩
theorem OwnB.push {W w w1 : World} {v : Value} {n L k g c : Nat} (h : OwnB W w v n L k) (hown : w1.ownsRow 0 3 1 (.slice (some ⟨g, 0, none⟩) (k + 1) c) (k + 1) ((bitsTo n L k).map dV ++ [.int .i64 (bitAt n (L - 1 - k) : Int)])) (hp : Pushed w w1 v g) : OwnB W w1 (.slice (some ⟨g, 0, none⟩) (k + 1) c) n L (k + 1) :=
  ⟨by rw [bitsTo_succ, List.map_append]; exact hown, hp.from_ h.below.size h.new_, hp.below h.below h.below.size h.new_⟩

def BitsR (n : Nat) (w : World) (e : Ending) (w' : World) : Prop := ∃ a cap, e = .returned (.slice a (16 * dl n) cap) ∧ Sl w' w'.heap.size a ((bitsTo n (16 * dl n) (16 * dl n)).map dV) ∧ Below w.heap.size w w'


set_option maxHeartbeats 2000000 in
theorem refBits_any (n : Nat) (an : Option Addr) (cn : Nat) (hln : dl n ≤ 65536) (w : World) (hA : NumAt w an n) :
    Calls Try.prog 182 #[.slice an (dl n) cn] w (BitsR n w) := by
  obtain ⟨i0, hi, hz0, hz1, hz2⟩ := info_parts infoInt3
  have HA := Lib.hid hA
  clear hA
  go_enter Try.func182, Try.ntmps182
  go_wp2_with fail
  go_loopw [3, 4, 5] (fun u x _ wr => ∃ i : Nat, i ≤ dl n ∧ x = .int .i64 ((i : Int) - 1) ∧ Hid (OwnB w wr u n (16 * dl n) (16 * (dl n - i)))) (fun _ x _ _ => (intOf x + 1).toNat)
  case atStart => exact ⟨dl n, Nat.le_refl _, rfl, by rw [Nat.sub_self]; exact OwnB.nil w _ _⟩
  case round =>
    obtain ⟨i, hin, hxi, HO⟩ := hrel
    rcases Nat.eq_zero_or_pos i with rfl | hip
    · subst hxi
      rw [Nat.sub_zero] at HO
      go_wp2_with fail
      go_ret
      obtain ⟨a, c, rfl, _⟩ := own_form3 HO.out.own
      exact ⟨a, c, rfl, sl_of_own HO.out.own, HO.out.below⟩
    · obtain ⟨p, rfl⟩ : ∃ p, i = p + 1 := ⟨i - 1, by omega⟩
      have ei : ((p + 1 : Nat) : Int) - 1 = (p : Int) := by omega
      rw [ei] at hxi
      subst hxi
      clear ei hip
      obtain ⟨b1, o1, rfl, hb1, hcell1⟩ := HA.out.all (by omega)
      have hx1 := hcell1 p (by omega)
      have HX1 := Lib.hid hx1
      have hdp : dg DD n p < 65536 := dg_lt (B := DD) (by decide) _ _
      clear hcell1 hx1
      obtain ⟨W2, rfl⟩ : ∃ W2 : World, W2 = wr := ⟨_, rfl⟩
      go_wp2_with fail
      go_loopw [3, 5] (fun u x wr => ∃ j : Nat, j ≤ 16 ∧ x = .int .i64 (32768 / 2 ^ j : Nat) ∧ Hid (OwnB w wr u n (16 * dl n) (16 * (dl n - (p + 1)) + j))) (fun _ x _ => (intOf x).toNat)
      case atStart => exact ⟨0, Nat.zero_le _, rfl, HO.out⟩
      case round =>
        clear HO
        obtain ⟨j, hj, rfl, HO⟩ := hrel
        by_cases hjl : j < 16
        · have hP : 32768 / 2 ^ j = 2 ^ (15 - j) := by
            show 2 ^ 15 / 2 ^ j = _
            exact Nat.pow_div (by omega) (by omega)
          have hP2 : ((32768 / 2 ^ j : Nat) : Int) / 2 = ((32768 / 2 ^ (j + 1) : Nat) : Int) := by
            rw [Nat.pow_succ, ← Nat.div_div_eq_div_mul]; omega
          have hbit := bit_dg n p j (by omega)
          have hpos : 0 < 32768 / 2 ^ j := by rw [hP]; exact Nat.pow_pos (by omega)
          have hle : 32768 / 2 ^ j ≤ 32768 := Nat.div_le_self _ _
          have hdec : 32768 / 2 ^ (j + 1) < 32768 / 2 ^ j := by
            rw [Nat.pow_succ, ← Nat.div_div_eq_div_mul]; exact Nat.div_lt_self hpos (by decide)
          rw [← hP, show 16 * p + (15 - j) = 16 * dl n - 1 - (16 * (dl n - (p + 1)) + j) by omega] at hbit
          have hx1 : wr.cell? ⟨b1, o1 + p, none⟩ = some (.int .i64 (dg DD n p : Int)) := by rw [HO.out.below.cell (p := ⟨b1, o1 + p, none⟩) hb1]; exact HX1.out
          generalize dg DD n p = d at *
          generalize 32768 / 2 ^ j = P at *
          generalize hP1 : 32768 / 2 ^ (j + 1) = P1 at *
          have hq9 : (d : Int) / (P : Int) = ((d / P : Nat) : Int) := by simp
          have hx9l : d / P ≤ d := Nat.div_le_self _ _
          generalize hx9 : d / P = x9 at *
          have HX9 := Lib.hid hx9
          have hbI : (x9 : Int) % 2 = (bitAt n (16 * dl n - 1 - (16 * (dl n - (p + 1)) + j)) : Int) := by omega
          clear hx9
          have hHP := Lib.hid hP
          have HP1 := Lib.hid hP1
          generalize hT : 16 * (dl n - (p + 1)) + j = T at *
          have hTl : T ≤ 1048576 := by omega
          have HT := Lib.hid hT
          generalize hB : bitAt n (16 * dl n - 1 - T) = bb at *
          have HBB := Lib.hid hB
          clear hP hP1 hbit hT hB
          go_wp2_with (at_builtin; refine wpList_push wr rfl _ _ 35 rfl 3 i0 _ 1 8 Try.underlying35 hi hz0 hz1 hz2 rfl (by omega) u3 T ((bitsTo n (16 * dl n) T).map dV) rfl HO.out.own _ _ _ rfl rfl rfl (by simp [Value.oneCell']) (by omega) (by unfold maxLen; omega) ?_)
          intro g gc w1 hown hp
          have HO1 := Lib.hid (HO.out.push (by rw [HBB.out]; exact hown) hp)
          clear hown hp
          go_wp2_with fail
          go_roundw
          case rel => exact ⟨j + 1, by omega, by first | rw [hP2, HP1.out] | rw [HP1.out], by rw [← Nat.add_assoc, HT.out]; exact HO1.out⟩
          case measure => simp [intOf]; omega
        · have hj16 : j = 16 := by omega
          subst hj16
          have h0 : ((32768 / 2 ^ 16 : Nat) : Int) = 0 := by decide
          rw [h0]
          clear h0
          go_wp2_with fail
          go_roundw
          case rel => exact ⟨p, by omega, rfl, by rw [show 16 * (dl n - p) = 16 * (dl n - (p + 1)) + 16 by omega]; exact HO.out⟩
          case measure => first | (simp [intOf]; done) | (simp [intOf]; omega)

theorem lt32 (x y : Nat) (hx : x < DD ^ 16) (hy : y < DD ^ 16) : dl (x * y) ≤ 1048576 := by
  refine Nat.le_trans (dl_of_lt (x * y) 32 ?_) (by decide)
  have e : DD ^ 32 = DD ^ 16 * DD ^ 16 := by rw [← Nat.pow_add]
  rw [e]
  exact Nat.lt_of_le_of_lt (Nat.mul_le_mul_left _ (Nat.le_of_lt hy)) (Nat.mul_lt_mul_of_pos_right hx (Nat.pow_pos (by decide)))
theorem lt16 (x : Nat) (hx : x < DD ^ 16) : dl x ≤ 1048576 := small_dl x hx

theorem pow_sq (a e m : Nat) : (a ^ e % m * (a ^ e % m)) % m = a ^ (2 * e) % m := by
  rw [← Nat.mul_mod, ← Nat.pow_add, Nat.two_mul]
theorem pow_one_more (a e m : Nat) : (a ^ (2 * e) % m * a) % m = a ^ (2 * e + 1) % m := by
  rw [Nat.mod_mul_mod, ← Nat.pow_succ]
theorem dl_one_of (v : Nat) (h : dl v = 1) : dg DD v 0 = v := by
  have := lt_dl v
  rw [h, Nat.pow_one] at this
  unfold dg
  rw [Nat.pow_zero, Nat.div_one, Nat.mod_eq_of_lt this]



set_option maxHeartbeats 2000000 in
theorem refPower_any (a n m : Nat) (aa an am : Option Addr) (ca cn cm : Nat) (ha : a < DD ^ 16) (hn : dl n ≤ 65536) (hm1 : 1 < m) (hm2 : m < DD ^ 16) (w : World) (hA : NumAt w aa a) (hN : NumAt w an n) (hM : NumAt w am m) :
    Calls Try.prog 141 #[.slice aa (dl a) ca, .slice an (dl n) cn, .slice am (dl m) cm] w fun e w' => NumR w e w' (a ^ n % m) := by
  have HA := Lib.hid hA
  have HNN := Lib.hid hN
  have HMM := Lib.hid hM
  have HA16 := Lib.hid ha
  have HM16 := Lib.hid hm2
  have hmp : 0 < m := by omega
  clear hA hN hM ha hm2
  go_enter Try.func141, Try.ntmps141
  go_wp2_with fail
  refine (refOf_any 1 (by omega) w).mono ?_
  rintro e9 w1 ⟨a1, c1, rfl, hn1, hb1⟩
  have HN1 := Lib.hid hn1
  have HB1 := Lib.hid hb1
  clear hn1 hb1
  go_wp2_with fail
  refine (refBits_any n an cn hn w1 (HNN.out.up HB1.out)).mono ?_
  rintro e9 w2 ⟨ab, cb, rfl, hs2, hb2⟩
  have HS := Lib.hid hs2
  have HBS := Lib.hid hb2
  have HN2 := Lib.hid (HN1.out.up hb2)
  have HB2 := Lib.hid (below_up HB1.out hb2)
  have hL : 16 * dl n ≤ 1048576 := by omega
  have HL0 : Hid (n / 2 ^ (16 * dl n) = 0) := by
    have h := lt_dl n
    have hb : DD = 2 ^ 16 := rfl
    rw [hb, ← Nat.pow_mul] at h
    exact Nat.div_eq_of_lt h
  clear hs2 hb2 HN1 HB1
  have HA := Lib.hid (HA.out.up HB2.out)
  have HMM := Lib.hid (HMM.out.up HB2.out)
  generalize hLL : 16 * dl n = L at *
  clear hLL
  have hzw2 := HB2.out.size
  go_wp2_with fail
  go_loopw [7, 9, 14] (fun u _ x wr => ∃ (t v : Nat) (a1 : Option Addr) (c1 : Nat), t ≤ L ∧ x = .int .i64 t ∧ u = .slice a1 (dl v) c1 ∧ Hid (v = a ^ (n / 2 ^ (L - t)) % m) ∧ Hid (NumAt wr a1 v) ∧ Hid (Below w2.heap.size w2 wr)) (fun _ _ x _ => L - (intOf x).toNat)
  case atStart => exact ⟨0, 1, a1, c1, Nat.zero_le _, rfl, rfl, by show _ = _; rw [Nat.sub_zero, HL0.out, Nat.pow_zero, Nat.mod_eq_of_lt hm1], HN2.out, Below.refl _ _⟩
  case round =>
    clear HN2
    obtain ⟨t, v, a1, c1, ht, rfl, rfl, HV, HN, HBW⟩ := hrel
    have HB := HBW
    by_cases htl : t < L
    · obtain ⟨b3, o3, rfl, hb3, hc3⟩ := (HS.out.up HBW.out).at t (by simp [bitsTo]; omega)
      have hcell : wr.cell? ⟨b3, o3 + t, none⟩ = some (.int .i64 (bitAt n (L - 1 - t) : Int)) := by
        rw [hc3]
        simp [bitsTo, dV]
      have hbb : bitAt n (L - 1 - t) = 0 ∨ bitAt n (L - 1 - t) = 1 := by unfold bitAt; omega
      have he1 : n / 2 ^ (L - (t + 1)) = 2 * (n / 2 ^ (L - t)) + bitAt n (L - 1 - t) := by
        unfold bitAt
        rw [show L - t = L - 1 - t + 1 by omega, show L - (t + 1) = L - 1 - t by omega, Nat.pow_succ, ← Nat.div_div_eq_div_mul]
        omega
      have HE1 := Lib.hid he1
      clear hc3 he1
      generalize bitAt n (L - 1 - t) = bb at *
      generalize n / 2 ^ (L - t) = e at *
      obtain rfl := HV.out
      clear HV
      by_cases hv1 : a ^ e % m = 1
      · have hd1 : dl (a ^ e % m) = 1 := by rw [hv1]; rfl
        obtain ⟨b4, o4, rfl, hb4, hcell4⟩ := HN.out.all (by omega)
        have hx4 := hcell4 0 (by omega)
        rw [dl_one_of _ hd1, hv1, Nat.add_zero] at hx4
        have hne : ((dl (a ^ e % m) : Int) != 1) = false := by rw [hd1]; rfl
        have hdpos : (0 : Int) < (dl (a ^ e % m) : Int) := by omega
        have HNq : Hid (NumAt wr (some ⟨b4, o4, none⟩) (a ^ (2 * e) % m)) := by
          show NumAt _ _ _
          rw [← pow_sq, hv1, Nat.mul_one, Nat.mod_eq_of_lt hm1, ← hv1]
          exact HN.out
        have HDq : Hid (dl (a ^ e % m) = dl (a ^ (2 * e) % m)) := by
          show _ = _
          rw [← pow_sq, hv1, Nat.mul_one, Nat.mod_eq_of_lt hm1]
        clear hv1 hd1 hcell4
        rw [HDq.out] at hne hdpos ⊢
        clear HDq HN
        have HN := HNq
        clear HNq
        rcases hbb with hb0 | hb0
        · have hbf : ((bb : Int) == 1) = false := by rw [hb0]; rfl
          have HRES : Hid (a ^ (2 * e) % m = a ^ (2 * e + bb) % m) := by show _ = _; rw [hb0]; rfl
          clear hb0
          go_wp2_with fail
          go_roundw
          case rel => exact ⟨t + 1, a ^ (2 * e) % m, (some ⟨b4, o4, none⟩), c1, by omega, by go_num, rfl, by rw [HE1.out]; exact HRES.out, HN.out, HB.out⟩
          case measure => simp [intOf]; omega
        · have hbf : ((bb : Int) == 1) = true := by rw [hb0]; rfl
          have HRES : Hid (a ^ (2 * e + 1) % m = a ^ (2 * e + bb) % m) := by show _ = _; rw [hb0]
          clear hb0
          go_wp2_with fail
          refine (refTimes_any (a ^ (2 * e) % m) a (some ⟨b4, o4, none⟩) aa c1 ca (lt16 _ (Nat.lt_trans (Nat.mod_lt _ hmp) HM16.out)) (lt16 _ HA16.out) wr HN.out (HA.out.up HB.out)).mono ?_
          rintro e9 w7 ⟨a7, c7, rfl, hn7, hb7⟩
          have HN7 := Lib.hid hn7
          have HB7 := Lib.hid (below_up HB.out hb7)
          clear hn7 hb7
          go_wp2_with fail
          refine (refMod_any (a ^ (2 * e) % m * a) m a7 am c7 cm (lt32 _ _ (Nat.lt_trans (Nat.mod_lt _ hmp) HM16.out) HA16.out) hmp w7 HN7.out (HMM.out.up HB7.out)).mono ?_
          rintro e9 w8 ⟨a8, c8, rfl, hn8, hb8⟩
          rw [pow_one_more] at hn8 ⊢
          have HN8 := Lib.hid hn8
          have HB8 := Lib.hid (below_up HB7.out hb8)
          clear hn8 hb8
          go_wp2_with fail
          go_roundw
          case rel => exact ⟨t + 1, _, a8, c8, by omega, by go_num, rfl, by rw [HE1.out]; exact HRES.out, HN8.out, HB8.out⟩
          case measure => simp [intOf]; omega
      · by_cases hd1 : dl (a ^ e % m) = 1
        · obtain ⟨b4, o4, rfl, hb4, hcell4⟩ := HN.out.all (by omega)
          have hx4 := hcell4 0 (by omega)
          rw [dl_one_of _ hd1, Nat.add_zero] at hx4
          have hne : ((dl (a ^ e % m) : Int) != 1) = false := by rw [hd1]; rfl
          have hdpos : (0 : Int) < (dl (a ^ e % m) : Int) := by omega
          have hv2 : ((a : Int) ^ e % (m : Int) != 1) = true := by rw [bne_iff_ne]; intro h; apply hv1; exact_mod_cast h
          clear hcell4 hv1 hd1
          go_wp2_with fail
          refine (refTimes_any (a ^ e % m) (a ^ e % m) (some ⟨b4, o4, none⟩) (some ⟨b4, o4, none⟩) c1 c1 (lt16 _ (Nat.lt_trans (Nat.mod_lt _ hmp) HM16.out)) (lt16 _ (Nat.lt_trans (Nat.mod_lt _ hmp) HM16.out)) wr HN.out HN.out).mono ?_
          rintro e9 w4 ⟨a4, c4, rfl, hn4, hb4⟩
          have HN4 := Lib.hid hn4
          have HB4 := Lib.hid (below_up HB.out hb4)
          clear hn4 hb4
          go_wp2_with fail
          refine (refMod_any (a ^ e % m * (a ^ e % m)) m a4 am c4 cm (lt32 _ _ (Nat.lt_trans (Nat.mod_lt _ hmp) HM16.out) (Nat.lt_trans (Nat.mod_lt _ hmp) HM16.out)) hmp w4 HN4.out (HMM.out.up HB4.out)).mono ?_
          rintro e9 w5 ⟨a5, c5, rfl, hn5, hb5⟩
          rw [pow_sq] at hn5 ⊢
          have HN5 := Lib.hid hn5
          have HB5 := Lib.hid (below_up HB4.out hb5)
          clear hn5 hb5
          rcases hbb with hb0 | hb0
          · have hbf : ((bb : Int) == 1) = false := by rw [hb0]; rfl
            have HRES : Hid (a ^ (2 * e) % m = a ^ (2 * e + bb) % m) := by show _ = _; rw [hb0]; rfl
            clear hb0
            go_wp2_with fail
            go_roundw
            case rel => exact ⟨t + 1, a ^ (2 * e) % m, a5, c5, by omega, by go_num, rfl, by rw [HE1.out]; exact HRES.out, HN5.out, HB5.out⟩
            case measure => simp [intOf]; omega
          · have hbf : ((bb : Int) == 1) = true := by rw [hb0]; rfl
            have HRES : Hid (a ^ (2 * e + 1) % m = a ^ (2 * e + bb) % m) := by show _ = _; rw [hb0]
            clear hb0
            go_wp2_with fail
            refine (refTimes_any (a ^ (2 * e) % m) a a5 aa c5 ca (lt16 _ (Nat.lt_trans (Nat.mod_lt _ hmp) HM16.out)) (lt16 _ HA16.out) w5 HN5.out (HA.out.up HB5.out)).mono ?_
            rintro e9 w7 ⟨a7, c7, rfl, hn7, hb7⟩
            have HN7 := Lib.hid hn7
            have HB7 := Lib.hid (below_up HB5.out hb7)
            clear hn7 hb7
            go_wp2_with fail
            refine (refMod_any (a ^ (2 * e) % m * a) m a7 am c7 cm (lt32 _ _ (Nat.lt_trans (Nat.mod_lt _ hmp) HM16.out) HA16.out) hmp w7 HN7.out (HMM.out.up HB7.out)).mono ?_
            rintro e9 w8 ⟨a8, c8, rfl, hn8, hb8⟩
            rw [pow_one_more] at hn8 ⊢
            have HN8 := Lib.hid hn8
            have HB8 := Lib.hid (below_up HB7.out hb8)
            clear hn8 hb8
            go_wp2_with fail
            go_roundw
            case rel => exact ⟨t + 1, _, a8, c8, by omega, by go_num, rfl, by rw [HE1.out]; exact HRES.out, HN8.out, HB8.out⟩
            case measure => simp [intOf]; omega
        · have hne : ((dl (a ^ e % m) : Int) != 1) = true := by simp; omega
          clear hd1 hv1
          go_wp2_with fail
          refine (refTimes_any (a ^ e % m) (a ^ e % m) a1 a1 c1 c1 (lt16 _ (Nat.lt_trans (Nat.mod_lt _ hmp) HM16.out)) (lt16 _ (Nat.lt_trans (Nat.mod_lt _ hmp) HM16.out)) wr HN.out HN.out).mono ?_
          rintro e9 w4 ⟨a4, c4, rfl, hn4, hb4⟩
          have HN4 := Lib.hid hn4
          have HB4 := Lib.hid (below_up HB.out hb4)
          clear hn4 hb4
          go_wp2_with fail
          refine (refMod_any (a ^ e % m * (a ^ e % m)) m a4 am c4 cm (lt32 _ _ (Nat.lt_trans (Nat.mod_lt _ hmp) HM16.out) (Nat.lt_trans (Nat.mod_lt _ hmp) HM16.out)) hmp w4 HN4.out (HMM.out.up HB4.out)).mono ?_
          rintro e9 w5 ⟨a5, c5, rfl, hn5, hb5⟩
          rw [pow_sq] at hn5 ⊢
          have HN5 := Lib.hid hn5
          have HB5 := Lib.hid (below_up HB4.out hb5)
          clear hn5 hb5
          rcases hbb with hb0 | hb0
          · have hbf : ((bb : Int) == 1) = false := by rw [hb0]; rfl
            have HRES : Hid (a ^ (2 * e) % m = a ^ (2 * e + bb) % m) := by show _ = _; rw [hb0]; rfl
            clear hb0
            go_wp2_with fail
            go_roundw
            case rel => exact ⟨t + 1, a ^ (2 * e) % m, a5, c5, by omega, by go_num, rfl, by rw [HE1.out]; exact HRES.out, HN5.out, HB5.out⟩
            case measure => simp [intOf]; omega
          · have hbf : ((bb : Int) == 1) = true := by rw [hb0]; rfl
            have HRES : Hid (a ^ (2 * e + 1) % m = a ^ (2 * e + bb) % m) := by show _ = _; rw [hb0]
            clear hb0
            go_wp2_with fail
            refine (refTimes_any (a ^ (2 * e) % m) a a5 aa c5 ca (lt16 _ (Nat.lt_trans (Nat.mod_lt _ hmp) HM16.out)) (lt16 _ HA16.out) w5 HN5.out (HA.out.up HB5.out)).mono ?_
            rintro e9 w7 ⟨a7, c7, rfl, hn7, hb7⟩
            have HN7 := Lib.hid hn7
            have HB7 := Lib.hid (below_up HB5.out hb7)
            clear hn7 hb7
            go_wp2_with fail
            refine (refMod_any (a ^ (2 * e) % m * a) m a7 am c7 cm (lt32 _ _ (Nat.lt_trans (Nat.mod_lt _ hmp) HM16.out) HA16.out) hmp w7 HN7.out (HMM.out.up HB7.out)).mono ?_
            rintro e9 w8 ⟨a8, c8, rfl, hn8, hb8⟩
            rw [pow_one_more] at hn8 ⊢
            have HN8 := Lib.hid hn8
            have HB8 := Lib.hid (below_up HB7.out hb8)
            clear hn8 hb8
            go_wp2_with fail
            go_roundw
            case rel => exact ⟨t + 1, _, a8, c8, by omega, by go_num, rfl, by rw [HE1.out]; exact HRES.out, HN8.out, HB8.out⟩
            case measure => simp [intOf]; omega
    · have htL : t = L := by omega
      subst htL
      rw [Nat.sub_self, Nat.pow_zero, Nat.div_one] at HV
      obtain rfl := HV.out
      go_wp2_with fail
      go_ret
      exact ⟨a1, c1, rfl, HN.out, below_up HB2.out HBW.out⟩

end Go.Proofs.Ytipgjookfdkciaa

/- The document's scalars: Minus, Add, Sub, Mul. No condition. -/
namespace Go.Proofs.Ytipgjookfdkciaa
open Go.RowKit

/-- The document's group, as a value. -/
def gR (sz q p : Nat) (aq ap : Option Addr) (cq cp : Nat) : List Value := [.int .i64 (sz : Int), .slice aq (dl q) cq, .slice ap (dl p) cp]

theorem take_minus (a b R : Nat) (h : a = R + b) : a = R + 1 * (b * DD ^ 0) := by rw [Nat.pow_zero, Nat.mul_one, Nat.one_mul]; exact h

set_option maxRecDepth 100000 in
set_option maxHeartbeats 1000000 in
theorem refMinus_any (a b R : Nat) (aa ab : Option Addr) (ca cb : Nat) (hla : dl a ≤ 1048576) (hlb : dl b ≤ 1048576) (hR : a = R + b) (w : World) (hA : NumAt w aa a) (hB : NumAt w ab b) :
    Calls Try.prog 142 #[.slice aa (dl a) ca, .slice ab (dl b) cb] w fun e w' => NumR w e w' R := by
  have hT : Calls Try.prog 183 #[.slice aa (dl a) ca, .slice ab (dl b) cb, .int .i64 1, .int .i64 0] w fun e w' => NumR w e w' R := refTake_any a b 1 0 R aa ab ca cb hla hlb (by omega) (by omega) (take_minus a b R hR) w hA hB
  have HT := Lib.hid hT
  clear hT hR
  clear hA hB
  go_enter Try.func142, Try.ntmps142
  go_wp2_with fail
  refine HT.out.mono ?_
  rintro e w1 ⟨a1, c1, rfl, hn1, hb1⟩
  have HN1 := Lib.hid hn1
  have HB1 := Lib.hid hb1
  clear hn1 hb1
  go_wp2_with fail
  go_ret
  exact ⟨a1, c1, rfl, HN1.out, HB1.out⟩





theorem plus_dl (a b : Nat) (ha : a < DD ^ 16) (hb : b < DD ^ 16) : dl (a + b) ≤ 1048576 := by
  refine Nat.le_trans (dl_of_lt (a + b) 17 ?_) (by decide)
  have : DD ^ 17 = DD ^ 16 * 65536 := Nat.pow_succ ..
  omega

set_option maxRecDepth 100000 in
set_option maxHeartbeats 2000000 in
theorem refAdd_any (a b sz q p : Nat) (aa ab aq ap : Option Addr) (ca cb cq cp : Nat) (ha : a < DD ^ 16) (hb : b < DD ^ 16) (hq : 0 < q) (w : World) (hA : NumAt w aa a) (hB : NumAt w ab b) (hQ : NumAt w aq q) :
    Calls Try.prog 152 #[.agg #[.int .i64 (sz : Int), .slice aq (dl q) cq, .slice ap (dl p) cp], .slice aa (dl a) ca, .slice ab (dl b) cb] w fun e w' => NumR w e w' ((a + b) % q) := by
  have HA := Lib.hid hA
  have HBB := Lib.hid hB
  have HQ := Lib.hid hQ
  clear hA hB hQ
  go_enter Try.func152, Try.ntmps152
  have hzz : Bx (w.alloc (.cells #[.int .i64 (sz : Int), .slice aq (dl q) cq, .slice ap (dl p) cp] 98)) w.heap.size 98 (gR sz q p aq ap cq cp) := Bx.new w _ _ _ rfl
  have hbz : Below w.heap.size w (w.alloc (.cells #[.int .i64 (sz : Int), .slice aq (dl q) cq, .slice ap (dl p) cp] 98)) := (Below.refl w.heap.size w).alloc (Nat.le_refl _) _
  obtain ⟨W2, hW2⟩ : ∃ W9 : World, (w.alloc (.cells #[.int .i64 (sz : Int), .slice aq (dl q) cq, .slice ap (dl p) cp] 98)) = W9 := ⟨_, rfl⟩
  rw [hW2] at hzz hbz
  have HZ := Lib.hid hzz
  have HBZ := Lib.hid hbz
  have hz_0 := HZ.out.cell (i := 0) rfl
  have hz_1 := HZ.out.cell (i := 1) rfl
  have hz_2 := HZ.out.cell (i := 2) rfl
  have hzl := HZ.out.lt
  clear hzz hbz
  go_wp2_with fail
  have HW0 : Hid (Below W2.heap.size W2 W2.drew) := (Below.refl _ _).drew
  refine wp_region_tree (fun w' => ∃ E : Over W2, w' = E.w) (.qs [0, 1, 3, 4] (.a 2 (.a 5 (.q 6 .done)))) (by kernel_rfl) (by kernel_rfl) (fun _ _ d _ _ h => by cases d <;> exact h) ⟨⟨_, HW0.out⟩, rfl⟩ ?_
  have hov := fun (E : Over W2) o => E.cell (b := w.heap.size) o hzl
  simp only [Tree.qs]
  repeat (refine tree_q rfl rfl ?_; go_big_quiet_step (fail); refine wpQuiet_nil ?_)
  refine tree_a rfl (fun K hK => ?_)
  go_simp
  refine (refPlus_any a b aa ab ca cb (small_dl a ha) (small_dl b hb) _ (HA.out.up (below_up HBZ.out HW0.out)) (HBB.out.up (below_up HBZ.out HW0.out))).mono ?_
  rintro e w4 ⟨a4, c4, rfl, hn9, hb9⟩
  have HN4 := Lib.hid hn9
  have HW4 := Lib.hid (below_up HW0.out hb9)
  clear hn9 hb9
  refine hK _ _ ⟨⟨⟨w4, HW4.out⟩, rfl⟩, ?_⟩
  clear hK K
  refine tree_a rfl (fun K hK => ?_)
  go_simp
  refine (refMod_any (a + b) q a4 aq c4 cq (plus_dl a b ha hb) hq w4 HN4.out (HQ.out.up (below_up HBZ.out HW4.out))).mono ?_
  rintro e w5 ⟨a5, c5, rfl, hn9, hb9⟩
  have HN5 := Lib.hid hn9
  have HW5 := Lib.hid (below_up HW4.out hb9)
  clear hn9 hb9
  refine hK _ _ ⟨⟨⟨w5, HW5.out⟩, rfl⟩, ?_⟩
  clear hK K
  refine tree_q rfl rfl ?_
  go_big_quiet_step (fail)
  refine wpQuiet_nil ?_
  refine tree_end ?_
  have HF := Lib.hid (below_up HBZ.out HW5.out)
  clear hov
  go_wp2_with fail
  go_ret
  exact ⟨a5, c5, rfl, HN5.out, HF.out⟩

set_option maxRecDepth 100000 in
set_option maxHeartbeats 2000000 in
theorem refMul_any (a b sz q p : Nat) (aa ab aq ap : Option Addr) (ca cb cq cp : Nat) (ha : a < DD ^ 16) (hb : b < DD ^ 16) (hq : 0 < q) (w : World) (hA : NumAt w aa a) (hB : NumAt w ab b) (hQ : NumAt w aq q) :
    Calls Try.prog 71 #[.agg #[.int .i64 (sz : Int), .slice aq (dl q) cq, .slice ap (dl p) cp], .slice aa (dl a) ca, .slice ab (dl b) cb] w fun e w' => NumR w e w' (a * b % q) := by
  have HA := Lib.hid hA
  have HBB := Lib.hid hB
  have HQ := Lib.hid hQ
  clear hA hB hQ
  go_enter Try.func71, Try.ntmps71
  have hzz : Bx (w.alloc (.cells #[.int .i64 (sz : Int), .slice aq (dl q) cq, .slice ap (dl p) cp] 98)) w.heap.size 98 (gR sz q p aq ap cq cp) := Bx.new w _ _ _ rfl
  have hbz : Below w.heap.size w (w.alloc (.cells #[.int .i64 (sz : Int), .slice aq (dl q) cq, .slice ap (dl p) cp] 98)) := (Below.refl w.heap.size w).alloc (Nat.le_refl _) _
  obtain ⟨W2, hW2⟩ : ∃ W9 : World, (w.alloc (.cells #[.int .i64 (sz : Int), .slice aq (dl q) cq, .slice ap (dl p) cp] 98)) = W9 := ⟨_, rfl⟩
  rw [hW2] at hzz hbz
  have HZ := Lib.hid hzz
  have HBZ := Lib.hid hbz
  have hz_0 := HZ.out.cell (i := 0) rfl
  have hz_1 := HZ.out.cell (i := 1) rfl
  have hz_2 := HZ.out.cell (i := 2) rfl
  have hzl := HZ.out.lt
  clear hzz hbz
  go_wp2_with fail
  have HW0 : Hid (Below W2.heap.size W2 W2.drew) := (Below.refl _ _).drew
  refine wp_region_tree (fun w' => ∃ E : Over W2, w' = E.w) (.qs [0, 1, 3, 4] (.a 2 (.a 5 (.q 6 .done)))) (by kernel_rfl) (by kernel_rfl) (fun _ _ d _ _ h => by cases d <;> exact h) ⟨⟨_, HW0.out⟩, rfl⟩ ?_
  have hov := fun (E : Over W2) o => E.cell (b := w.heap.size) o hzl
  simp only [Tree.qs]
  repeat (refine tree_q rfl rfl ?_; go_big_quiet_step (fail); refine wpQuiet_nil ?_)
  refine tree_a rfl (fun K hK => ?_)
  go_simp
  refine (refTimes_any a b aa ab ca cb (small_dl a ha) (small_dl b hb) _ (HA.out.up (below_up HBZ.out HW0.out)) (HBB.out.up (below_up HBZ.out HW0.out))).mono ?_
  rintro e w4 ⟨a4, c4, rfl, hn9, hb9⟩
  have HN4 := Lib.hid hn9
  have HW4 := Lib.hid (below_up HW0.out hb9)
  clear hn9 hb9
  refine hK _ _ ⟨⟨⟨w4, HW4.out⟩, rfl⟩, ?_⟩
  clear hK K
  refine tree_a rfl (fun K hK => ?_)
  go_simp
  refine (refMod_any (a * b) q a4 aq c4 cq (lt32 a b ha hb) hq w4 HN4.out (HQ.out.up (below_up HBZ.out HW4.out))).mono ?_
  rintro e w5 ⟨a5, c5, rfl, hn9, hb9⟩
  have HN5 := Lib.hid hn9
  have HW5 := Lib.hid (below_up HW4.out hb9)
  clear hn9 hb9
  refine hK _ _ ⟨⟨⟨w5, HW5.out⟩, rfl⟩, ?_⟩
  clear hK K
  refine tree_q rfl rfl ?_
  go_big_quiet_step (fail)
  refine wpQuiet_nil ?_
  refine tree_end ?_
  have HF := Lib.hid (below_up HBZ.out HW5.out)
  clear hov
  go_wp2_with fail
  go_ret
  exact ⟨a5, c5, rfl, HN5.out, HF.out⟩

set_option maxRecDepth 100000 in
set_option maxHeartbeats 2000000 in
theorem refSub_any (a b sz q p : Nat) (aa ab aq ap : Option Addr) (ca cb cq cp : Nat) (ha : a < DD ^ 16) (hb : b ≤ q) (hq : 0 < q) (hq2 : q < DD ^ 16) (w : World) (hA : NumAt w aa a) (hB : NumAt w ab b) (hQ : NumAt w aq q) :
    Calls Try.prog 68 #[.agg #[.int .i64 (sz : Int), .slice aq (dl q) cq, .slice ap (dl p) cp], .slice aa (dl a) ca, .slice ab (dl b) cb] w fun e w' => NumR w e w' ((a + q - b) % q) := by
  have hb2 : b < DD ^ 16 := Nat.lt_of_le_of_lt hb hq2
  have HA := Lib.hid hA
  have HBB := Lib.hid hB
  have HQ := Lib.hid hQ
  clear hA hB hQ
  go_enter Try.func68, Try.ntmps68
  have hzz : Bx (w.alloc (.cells #[.int .i64 (sz : Int), .slice aq (dl q) cq, .slice ap (dl p) cp] 98)) w.heap.size 98 (gR sz q p aq ap cq cp) := Bx.new w _ _ _ rfl
  have hbz : Below w.heap.size w (w.alloc (.cells #[.int .i64 (sz : Int), .slice aq (dl q) cq, .slice ap (dl p) cp] 98)) := (Below.refl w.heap.size w).alloc (Nat.le_refl _) _
  obtain ⟨W2, hW2⟩ : ∃ W9 : World, (w.alloc (.cells #[.int .i64 (sz : Int), .slice aq (dl q) cq, .slice ap (dl p) cp] 98)) = W9 := ⟨_, rfl⟩
  rw [hW2] at hzz hbz
  have HZ := Lib.hid hzz
  have HBZ := Lib.hid hbz
  have hz_0 := HZ.out.cell (i := 0) rfl
  have hz_1 := HZ.out.cell (i := 1) rfl
  have hz_2 := HZ.out.cell (i := 2) rfl
  have hzl := HZ.out.lt
  clear hzz hbz
  go_wp2_with fail
  have HW0 : Hid (Below W2.heap.size W2 W2.drew) := (Below.refl _ _).drew
  refine wp_region_tree (fun w' => ∃ E : Over W2, w' = E.w) (.qs [0, 1, 2, 4, 6, 7] (.a 3 (.a 5 (.a 8 (.q 9 .done))))) (by kernel_rfl) (by kernel_rfl) (fun _ _ d _ _ h => by cases d <;> exact h) ⟨⟨_, HW0.out⟩, rfl⟩ ?_
  have hov := fun (E : Over W2) o => E.cell (b := w.heap.size) o hzl
  simp only [Tree.qs]
  repeat (refine tree_q rfl rfl ?_; go_big_quiet_step (fail); refine wpQuiet_nil ?_)
  refine tree_a rfl (fun K hK => ?_)
  go_simp
  refine (refPlus_any a q aa aq ca cq (small_dl a ha) (small_dl q hq2) _ (HA.out.up (below_up HBZ.out HW0.out)) (HQ.out.up (below_up HBZ.out HW0.out))).mono ?_
  rintro e w4 ⟨a4, c4, rfl, hn9, hb9⟩
  have HN4 := Lib.hid hn9
  have HW4 := Lib.hid (below_up HW0.out hb9)
  clear hn9 hb9
  refine hK _ _ ⟨⟨⟨w4, HW4.out⟩, rfl⟩, ?_⟩
  clear hK K
  refine tree_a rfl (fun K hK => ?_)
  go_simp
  refine (refMinus_any (a + q) b (a + q - b) a4 ab c4 cb (plus_dl a q ha hq2) (small_dl b hb2) (by omega) w4 HN4.out (HBB.out.up (below_up HBZ.out HW4.out))).mono ?_
  rintro e w5 ⟨a5, c5, rfl, hn9, hb9⟩
  have HN5 := Lib.hid hn9
  have HW5 := Lib.hid (below_up HW4.out hb9)
  clear hn9 hb9
  refine hK _ _ ⟨⟨⟨w5, HW5.out⟩, rfl⟩, ?_⟩
  clear hK K
  refine tree_a rfl (fun K hK => ?_)
  go_simp
  refine (refMod_any (a + q - b) q a5 aq c5 cq (Nat.le_trans (dl_mono _ _ (Nat.sub_le _ _)) (plus_dl a q ha hq2)) hq w5 HN5.out (HQ.out.up (below_up HBZ.out HW5.out))).mono ?_
  rintro e w6 ⟨a6, c6, rfl, hn9, hb9⟩
  have HN6 := Lib.hid hn9
  have HW6 := Lib.hid (below_up HW5.out hb9)
  clear hn9 hb9
  refine hK _ _ ⟨⟨⟨w6, HW6.out⟩, rfl⟩, ?_⟩
  clear hK K
  refine tree_q rfl rfl ?_
  go_big_quiet_step (fail)
  refine wpQuiet_nil ?_
  refine tree_end ?_
  have HF := Lib.hid (below_up HBZ.out HW6.out)
  clear hov
  go_wp2_with fail
  go_ret
  exact ⟨a6, c6, rfl, HN6.out, HF.out⟩

end Go.Proofs.Ytipgjookfdkciaa
