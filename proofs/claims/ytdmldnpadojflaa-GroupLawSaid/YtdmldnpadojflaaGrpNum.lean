/- The group of a kind: numbers, and what is reduced. No condition. -/
import Derived.Test.YtdmldnpadojflaaGrpScan
namespace Go.Proofs.Ytdmldnpadojflaa
open Go.RowKit

theorem numL_snoc (c : UInt8) : ∀ l : List UInt8, numL (l ++ [c]) = numL l * 256 + c.toNat
  | [] => by simp [numL]
  | d :: t => by
    rw [List.cons_append, numL, numL, numL_snoc c t, List.length_append, List.length_singleton, Nat.pow_succ, Nat.add_mul, Nat.mul_assoc, Nat.add_assoc]

/-- What the first k bytes are. -/
def numHead (s : ByteArray) (k : Nat) : Nat := numL (s.data.toList.take k)
theorem numHead_zero (s : ByteArray) : numHead s 0 = 0 := by simp [numHead, numL]
theorem numHead_all (s : ByteArray) : numHead s s.size = numOf s := by
  have : s.data.toList.take s.size = s.data.toList := List.take_of_length_le (Nat.le_refl _)
  simp only [numHead, this, numOf]
theorem numHead_succ (s : ByteArray) (k : Nat) (hk : k < s.size) : numHead s (k + 1) = numHead s k * 256 + s[k].toNat := by
  have h : s.data.toList.take (k + 1) = s.data.toList.take k ++ [s[k]] := by
    rw [List.take_succ_eq_append_getElem (by simpa using hk)]; rfl
  rw [numHead, h, numL_snoc, numHead]

theorem numL_bytes (a : Nat) : ∀ size, numL ((textL a size size).map fun n => UInt8.ofNat n.toNat) = a % 256 ^ size
  | 0 => by simp [textL, numL, Nat.mod_one]
  | size + 1 => by
    have e : textL a (size + 1) (size + 1) = (byteAt a size : Int) :: textL a size size := by
      unfold textL
      rw [List.range_succ_eq_map, List.map_cons, List.map_map]
      congr 1
      · simp
      · refine List.map_congr_left fun p hp => ?_
        have hp' : p < size := by simpa using hp
        simp only [Function.comp_apply]
        rw [if_pos (by omega), if_pos (by omega), show size + 1 - 1 - (p + 1) = size - 1 - p by omega]
    rw [e, List.map_cons, numL, numL_bytes a size, List.length_map, textL_length]
    have hb : (UInt8.ofNat ((byteAt a size : Nat) : Int).toNat).toNat = a / 256 ^ size % 256 := by
      rw [Int.toNat_natCast, UInt8.toNat_ofNat']
      unfold byteAt
      omega
    rw [hb, Nat.pow_succ, Nat.mod_mul, Nat.add_comm, Nat.mul_comm]
theorem numOf_textS (a size : Nat) : numOf (textS a size) = a % 256 ^ size := numL_bytes a size
theorem textS_size (a size : Nat) : (textS a size).size = size := by rw [textS, strOfNums_size, textL_length]

theorem scV_mod (G : GP) (x : Nat) : scV G (x % G.q.m) = scV G x := by unfold scV; rw [mont_mod]
theorem scV_eq (G : GP) {x y : Nat} (h : x % G.q.m = y % G.q.m) : scV G x = scV G y := by rw [← scV_mod G x, ← scV_mod G y, h]

set_option maxHeartbeats 1000000 in
theorem gByte_any (G : GP) (ok : G.Ok) (gb c : Nat) (hc : c < 256) (w : World) (hG : GroupAt w gb G) :
    Calls Try.prog 118 #[.pointer (some ⟨gb, 0, none⟩), .int .u8 (c : Int)] w fun e w' => e = .returned (scV G c) ∧ Below w.heap.size w w' := by
  have OK := Lib.hid ok
  clear ok
  unfold scV limbV
  go_enter Try.func118, Try.ntmps118
  go_wp2_with fail
  obtain ⟨W0, hW0⟩ : ∃ W9 : World, (w.alloc (Obj.cells #[.int .u64 0, .int .u64 0, .int .u64 0, .int .u64 0] 93)) = W9 := ⟨_, rfl⟩
  rw [hW0]
  have hC : Blk W0 (w.heap.size) 93 [0, 0, 0, 0] := by
    rw [← hW0]
    have h := (Blk.new w 93 [0, 0, 0, 0] _ rfl)
    exact h
  have hBW : Below w.heap.size w W0 := by rw [← hW0]; exact ((Below.refl w.heap.size w).alloc (Nat.le_refl _) _)
  clear hW0
  have hG0 := hG.up hBW
  have HC := Lib.hid hC
  have HBW := Lib.hid hBW
  clear hC hBW hG
  refine wp_region_otail 12 (by kernel_rfl) (by kernel_rfl) ?_
  simp only [List.take_succ_cons, List.take_zero, List.drop_succ_cons, List.drop_zero]
  repeat (go_big_quiet_step (first | (go_at_call 128; exact calls_over (onceSmall G.q OK.out.q gb 15 c hc OK.out.odd _ (hG0.up (Over.h _)).q)) | (go_at_call 112; exact calls_over (inSmall G.q OK.out.q gb 15 c (by simp only [BB]; omega) _ (hG0.up (Over.h _)).q))))
  all_goals (try unfold limbV)
  repeat (go_big_quiet_step (first | (go_at_call 128; exact calls_over (onceSmall G.q OK.out.q gb 15 c hc OK.out.odd _ (hG0.up (Over.h _)).q)) | (go_at_call 112; exact calls_over (inSmall G.q OK.out.q gb 15 c (by simp only [BB]; omega) _ (hG0.up (Over.h _)).q))))
  all_goals (try unfold limbV)
  repeat (go_big_quiet_step (first | (go_at_call 128; exact calls_over (onceSmall G.q OK.out.q gb 15 c hc OK.out.odd _ (hG0.up (Over.h _)).q)) | (go_at_call 112; exact calls_over (inSmall G.q OK.out.q gb 15 c (by simp only [BB]; omega) _ (hG0.up (Over.h _)).q))))
  refine wpQuiet_nil ?_
  rintro _ ⟨E, rfl⟩
  have HZ := Lib.hid (HC.out.below E.h HC.out.lt)
  have HBB := Lib.hid (below_up HBW.out E.h)
  generalize E.w = w3 at *
  have HB5 := Lib.hid (below_fill (n := mont G.q.m c) (b := w.heap.size) HBB.out (by omega))
  have HS5 := Lib.hid (HZ.out.fill rfl (mont G.q.m c))
  have hz_0 := HZ.out.cell (i := 0) (x := 0) rfl
  have hz_1 := HZ.out.cell (i := 1) (x := 0) rfl
  have hz_2 := HZ.out.cell (i := 2) (x := 0) rfl
  have hz_3 := HZ.out.cell (i := 3) (x := 0) rfl
  have hzf_0 := HZ.out.frozen 0
  have hzf_1 := HZ.out.frozen 1
  have hzf_2 := HZ.out.frozen 2
  have hzf_3 := HZ.out.frozen 3
  go_wp2_with fail
  generalize (((((w3).setCell ⟨w.heap.size, 0, none⟩ (.int .u64 (dig (mont G.q.m c) 0 : Int))).setCell ⟨w.heap.size, 1, none⟩ (.int .u64 (dig (mont G.q.m c) 1 : Int))).setCell ⟨w.heap.size, 2, none⟩ (.int .u64 (dig (mont G.q.m c) 2 : Int))).setCell ⟨w.heap.size, 3, none⟩ (.int .u64 (dig (mont G.q.m c) 3 : Int))) = w5 at *
  clear hz_0 hz_1 hz_2 hz_3
  have hg_0 := HS5.out.cell (i := 0) (x := (dig (mont G.q.m c) 0 : Int)) rfl
  have hg_1 := HS5.out.cell (i := 1) (x := (dig (mont G.q.m c) 1 : Int)) rfl
  have hg_2 := HS5.out.cell (i := 2) (x := (dig (mont G.q.m c) 2 : Int)) rfl
  have hg_3 := HS5.out.cell (i := 3) (x := (dig (mont G.q.m c) 3 : Int)) rfl
  simp [bodyPost, results, Try.results118, go_sem, hg_0, hg_1, hg_2, hg_3]
  exact HB5.out

theorem Blk.fillOther {W : World} {b c : Nat} {t : TypeId} {xs : List Int} (h : Blk W b t xs) (hne : b ≠ c) (n : Nat) : Blk (((((W).setCell ⟨c, 0, none⟩ (.int .u64 (dig (n) 0 : Int))).setCell ⟨c, 1, none⟩ (.int .u64 (dig (n) 1 : Int))).setCell ⟨c, 2, none⟩ (.int .u64 (dig (n) 2 : Int))).setCell ⟨c, 3, none⟩ (.int .u64 (dig (n) 3 : Int))) b t xs :=
  (((h.other hne _ _).other hne _ _).other hne _ _).other hne _ _

set_option maxHeartbeats 1000000 in
theorem gReduce_any (G : GP) (ok : G.Ok) (gb : Nat) (s : ByteArray) (hs : s.size ≤ maxLen) (w : World) (hG : GroupAt w gb G) :
    Calls Try.prog 85 #[.pointer (some ⟨gb, 0, none⟩), .string s] w fun e w' => e = .returned (scV G (numOf s)) ∧ Below w.heap.size w w' := by
  unfold maxLen at hs
  have OK := Lib.hid ok
  clear ok
  unfold scV limbV
  go_enter Try.func85, Try.ntmps85
  go_wp2_with fail
  obtain ⟨W0, hW0⟩ : ∃ W9 : World, (((w.alloc (Obj.cells #[.int .u64 0, .int .u64 0, .int .u64 0, .int .u64 0] 93)).alloc (Obj.cells #[.int .u64 0, .int .u64 0, .int .u64 0, .int .u64 0] 93)).alloc (Obj.cells #[.int .u64 0, .int .u64 0, .int .u64 0, .int .u64 0] 93)) = W9 := ⟨_, rfl⟩
  rw [hW0]
  have hC : Blk W0 (w.heap.size) 93 [0, 0, 0, 0] := by
    rw [← hW0]
    have h := (((Blk.new w 93 [0, 0, 0, 0] _ rfl).alloc (Obj.cells #[.int .u64 0, .int .u64 0, .int .u64 0, .int .u64 0] 93)).alloc (Obj.cells #[.int .u64 0, .int .u64 0, .int .u64 0, .int .u64 0] 93))
    exact h
  have hO : Blk W0 (w.heap.size + 1) 93 [0, 0, 0, 0] := by
    rw [← hW0]
    have h := ((Blk.new (w.alloc (Obj.cells #[.int .u64 0, .int .u64 0, .int .u64 0, .int .u64 0] 93)) 93 [0, 0, 0, 0] _ rfl).alloc (Obj.cells #[.int .u64 0, .int .u64 0, .int .u64 0, .int .u64 0] 93))
    rw [World.size_alloc] at h
    exact h
  have hS : Blk W0 (w.heap.size + 2) 93 [0, 0, 0, 0] := by
    rw [← hW0]
    have h := (Blk.new ((w.alloc (Obj.cells #[.int .u64 0, .int .u64 0, .int .u64 0, .int .u64 0] 93)).alloc (Obj.cells #[.int .u64 0, .int .u64 0, .int .u64 0, .int .u64 0] 93)) 93 [0, 0, 0, 0] _ rfl)
    rw [World.size_alloc, World.size_alloc] at h
    exact h
  have hBW : Below w.heap.size w W0 := by rw [← hW0]; exact ((((Below.refl w.heap.size w).alloc (Nat.le_refl _) _).alloc (by simp) _).alloc (by simp; omega) _)
  clear hW0
  have HG := Lib.hid hG
  have HC := Lib.hid hC
  have HO := Lib.hid hO
  have HS := Lib.hid hS
  have HBW := Lib.hid hBW
  clear hG hC hO hS hBW
  refine (inSmall G.q OK.out.q gb 15 256 (by decide) W0 (HG.out.below HBW.out HG.out.lt).q).mono ?_
  rintro e w2 ⟨rfl, hb2⟩
  have HS2 := Lib.hid (HS.out.below hb2 HS.out.lt)
  have HB2 := Lib.hid (below_up HBW.out hb2)
  have HO3 : Hid (Blk (((((w2).setCell ⟨w.heap.size + 2, 0, none⟩ (.int .u64 (dig (mont G.q.m 256) 0 : Int))).setCell ⟨w.heap.size + 2, 1, none⟩ (.int .u64 (dig (mont G.q.m 256) 1 : Int))).setCell ⟨w.heap.size + 2, 2, none⟩ (.int .u64 (dig (mont G.q.m 256) 2 : Int))).setCell ⟨w.heap.size + 2, 3, none⟩ (.int .u64 (dig (mont G.q.m 256) 3 : Int))) (w.heap.size + 1) 93 (lim (mont G.q.m (numHead s 0)))) := by
    rw [numHead_zero, mont_zero]
    exact (HO.out.below hb2 HO.out.lt).fillOther (by omega) _
  have HC3 : Hid (Blk (((((w2).setCell ⟨w.heap.size + 2, 0, none⟩ (.int .u64 (dig (mont G.q.m 256) 0 : Int))).setCell ⟨w.heap.size + 2, 1, none⟩ (.int .u64 (dig (mont G.q.m 256) 1 : Int))).setCell ⟨w.heap.size + 2, 2, none⟩ (.int .u64 (dig (mont G.q.m 256) 2 : Int))).setCell ⟨w.heap.size + 2, 3, none⟩ (.int .u64 (dig (mont G.q.m 256) 3 : Int))) w.heap.size 93 [0, 0, 0, 0]) := (HC.out.below hb2 HC.out.lt).fillOther (by omega) _
  clear hb2 HO HS HC HBW
  unfold limbV
  have HS3 := Lib.hid (HS2.out.fill rfl (mont G.q.m 256))
  have HB3 := Lib.hid (below_fill (n := mont G.q.m 256) (b := w.heap.size + 2) HB2.out (by omega))
  have hz_0 := HS2.out.cell (i := 0) (x := 0) rfl
  have hz_1 := HS2.out.cell (i := 1) (x := 0) rfl
  have hz_2 := HS2.out.cell (i := 2) (x := 0) rfl
  have hz_3 := HS2.out.cell (i := 3) (x := 0) rfl
  have hzf_0 := HS2.out.frozen 0
  have hzf_1 := HS2.out.frozen 1
  have hzf_2 := HS2.out.frozen 2
  have hzf_3 := HS2.out.frozen 3
  go_wp2_with fail
  generalize (((((w2).setCell ⟨w.heap.size + 1 + 1, 0, none⟩ (.int .u64 (dig (mont G.q.m 256) 0 : Int))).setCell ⟨w.heap.size + 1 + 1, 1, none⟩ (.int .u64 (dig (mont G.q.m 256) 1 : Int))).setCell ⟨w.heap.size + 1 + 1, 2, none⟩ (.int .u64 (dig (mont G.q.m 256) 2 : Int))).setCell ⟨w.heap.size + 1 + 1, 3, none⟩ (.int .u64 (dig (mont G.q.m 256) 3 : Int))) = W3 at *
  clear hz_0 hz_1 hz_2 hz_3 hzf_0 hzf_1 hzf_2 hzf_3 HS2 HB2
  go_loopw [7, 16] (fun _ i wr => ∃ k : Nat, k ≤ s.size ∧ i = .int .i64 k ∧ Hid (Blk wr (w.heap.size + 1) 93 (lim (mont G.q.m (numHead s k)))) ∧ Hid (Blk wr (w.heap.size + 2) 93 (lim (mont G.q.m 256))) ∧ Hid (Blk wr w.heap.size 93 [0, 0, 0, 0]) ∧ Hid (Below w.heap.size w wr)) (fun _ i _ => s.size - (intOf i).toNat)
  case atStart => exact ⟨0, Nat.zero_le _, rfl, HO3.out, HS3.out, HC3.out, HB3.out⟩
  case round =>
    clear HO3 HS3 HC3 HB3
    obtain ⟨k, hk, rfl, HO, HS, HC, HB⟩ := hrel
    have ho_0 := HO.out.cell (i := 0) (x := (dig (mont G.q.m (numHead s k)) 0 : Int)) rfl
    have ho_1 := HO.out.cell (i := 1) (x := (dig (mont G.q.m (numHead s k)) 1 : Int)) rfl
    have ho_2 := HO.out.cell (i := 2) (x := (dig (mont G.q.m (numHead s k)) 2 : Int)) rfl
    have ho_3 := HO.out.cell (i := 3) (x := (dig (mont G.q.m (numHead s k)) 3 : Int)) rfl
    have hlo := HO.out.lt
    by_cases hkl : k < s.size
    · have hs_0 := HS.out.cell (i := 0) (x := (dig (mont G.q.m 256) 0 : Int)) rfl
      have hs_1 := HS.out.cell (i := 1) (x := (dig (mont G.q.m 256) 1 : Int)) rfl
      have hs_2 := HS.out.cell (i := 2) (x := (dig (mont G.q.m 256) 2 : Int)) rfl
      have hs_3 := HS.out.cell (i := 3) (x := (dig (mont G.q.m 256) 3 : Int)) rfl
      have hls := HS.out.lt
      have hG0 := HG.out.below HB.out HG.out.lt
      have hc256 := (s[k]'hkl).toNat_lt
      go_wp2_with fail
      refine wp_region_otail 11 (by kernel_rfl) (by kernel_rfl) ?_
      simp only [List.take_succ_cons, List.take_zero, List.drop_succ_cons, List.drop_zero]
      have hov0 := fun (E : Over wr) o => E.cell (b := w.heap.size + 1) o hlo
      have hov1 := fun (E : Over wr) o => E.cell (b := w.heap.size + 2) o hls
      repeat (go_big_quiet_step (first | (go_at_call 95; exact calls_over (gMul_any G OK.out gb (numHead s k) 256 _ (hG0.up (Over.h _)))) | (go_at_call 118; exact calls_over (gByte_any G OK.out gb (s[k]'hkl).toNat hc256 _ (hG0.up (Over.h _)))) | (go_at_call 93; exact calls_over (gAdd_any G OK.out gb (numHead s k * 256) (s[k]'hkl).toNat _ (hG0.up (Over.h _))))))
      all_goals (try unfold limbV)
      repeat (go_big_quiet_step (first | (go_at_call 95; exact calls_over (gMul_any G OK.out gb (numHead s k) 256 _ (hG0.up (Over.h _)))) | (go_at_call 118; exact calls_over (gByte_any G OK.out gb (s[k]'hkl).toNat hc256 _ (hG0.up (Over.h _)))) | (go_at_call 93; exact calls_over (gAdd_any G OK.out gb (numHead s k * 256) (s[k]'hkl).toNat _ (hG0.up (Over.h _))))))
      all_goals (try unfold limbV)
      repeat (go_big_quiet_step (first | (go_at_call 95; exact calls_over (gMul_any G OK.out gb (numHead s k) 256 _ (hG0.up (Over.h _)))) | (go_at_call 118; exact calls_over (gByte_any G OK.out gb (s[k]'hkl).toNat hc256 _ (hG0.up (Over.h _)))) | (go_at_call 93; exact calls_over (gAdd_any G OK.out gb (numHead s k * 256) (s[k]'hkl).toNat _ (hG0.up (Over.h _))))))
      refine wpQuiet_nil ?_
      rintro _ ⟨E, rfl⟩
      have HO2 := Lib.hid (HO.out.below E.h HO.out.lt)
      have HS2 := Lib.hid (HS.out.below E.h HS.out.lt)
      have HC2 := Lib.hid (HC.out.below E.h HC.out.lt)
      have HB2 := Lib.hid (HB.out.trans (E.h.mono HB.out.size))
      clear hov0 hov1 ho_0 ho_1 ho_2 ho_3 hs_0 hs_1 hs_2 hs_3 hG0
      generalize E.w = w3 at *
      rw [← numHead_succ s k hkl]
      unfold scV limbV
      have ho_0 := HO2.out.cell (i := 0) (x := (dig (mont G.q.m (numHead s k)) 0 : Int)) rfl
      have ho_1 := HO2.out.cell (i := 1) (x := (dig (mont G.q.m (numHead s k)) 1 : Int)) rfl
      have ho_2 := HO2.out.cell (i := 2) (x := (dig (mont G.q.m (numHead s k)) 2 : Int)) rfl
      have ho_3 := HO2.out.cell (i := 3) (x := (dig (mont G.q.m (numHead s k)) 3 : Int)) rfl
      have hof_0 := HO2.out.frozen 0
      have hof_1 := HO2.out.frozen 1
      have hof_2 := HO2.out.frozen 2
      have hof_3 := HO2.out.frozen 3
      have HO4 := Lib.hid (HO2.out.fill rfl (mont G.q.m (numHead s (k + 1))))
      have HS4 := Lib.hid (HS2.out.fillOther (c := w.heap.size + 1) (by omega) (mont G.q.m (numHead s (k + 1))))
      have HC4 := Lib.hid (HC2.out.fillOther (c := w.heap.size + 1) (by omega) (mont G.q.m (numHead s (k + 1))))
      have HB4 := Lib.hid (below_fill (n := mont G.q.m (numHead s (k + 1))) (b := w.heap.size + 1) HB2.out (by omega))
      go_wp2_with fail
      go_roundw
      case rel => exact ⟨k + 1, by omega, by go_num, HO4.out, HS4.out, HC4.out, HB4.out⟩
      case measure => simp [intOf]; omega
    · have hks : k = s.size := by omega
      subst hks
      rw [numHead_all] at ho_0 ho_1 ho_2 ho_3
      have HZ := HC
      have HBB := HB
      have HB5 := Lib.hid (below_fill (n := mont G.q.m (numOf s)) (b := w.heap.size) HBB.out (by omega))
      have HS5 := Lib.hid (HZ.out.fill rfl (mont G.q.m (numOf s)))
      have hz_0 := HZ.out.cell (i := 0) (x := 0) rfl
      have hz_1 := HZ.out.cell (i := 1) (x := 0) rfl
      have hz_2 := HZ.out.cell (i := 2) (x := 0) rfl
      have hz_3 := HZ.out.cell (i := 3) (x := 0) rfl
      have hzf_0 := HZ.out.frozen 0
      have hzf_1 := HZ.out.frozen 1
      have hzf_2 := HZ.out.frozen 2
      have hzf_3 := HZ.out.frozen 3
      go_wp2_with fail
      generalize (((((wr).setCell ⟨w.heap.size, 0, none⟩ (.int .u64 (dig (mont G.q.m (numOf s)) 0 : Int))).setCell ⟨w.heap.size, 1, none⟩ (.int .u64 (dig (mont G.q.m (numOf s)) 1 : Int))).setCell ⟨w.heap.size, 2, none⟩ (.int .u64 (dig (mont G.q.m (numOf s)) 2 : Int))).setCell ⟨w.heap.size, 3, none⟩ (.int .u64 (dig (mont G.q.m (numOf s)) 3 : Int))) = w5 at *
      clear hz_0 hz_1 hz_2 hz_3
      have hg_0 := HS5.out.cell (i := 0) (x := (dig (mont G.q.m (numOf s)) 0 : Int)) rfl
      have hg_1 := HS5.out.cell (i := 1) (x := (dig (mont G.q.m (numOf s)) 1 : Int)) rfl
      have hg_2 := HS5.out.cell (i := 2) (x := (dig (mont G.q.m (numOf s)) 2 : Int)) rfl
      have hg_3 := HS5.out.cell (i := 3) (x := (dig (mont G.q.m (numOf s)) 3 : Int)) rfl
      simp [bodyPost, results, Try.results85, go_sem, hg_0, hg_1, hg_2, hg_3]
      exact HB5.out

end Go.Proofs.Ytdmldnpadojflaa
