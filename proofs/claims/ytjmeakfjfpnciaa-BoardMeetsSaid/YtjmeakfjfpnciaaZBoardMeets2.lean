/- Texts of this seat, one behind the other: what BoardMeets leans on. No condition beyond those that each names. -/
import Derived.Test.YtjmeakfjfpnciaaZBoardMeets1
import Derived.Outline
import Derived.Lib.IndexBytes
import Derived.LoopTactic
import Derived.Deep.OwnRows

set_option maxRecDepth 100000
set_option maxHeartbeats 4000000
set_option linter.unusedVariables false
set_option linter.unusedSimpArgs false
namespace Go.Proofs.Ytjmeakfjfpnciaa
open Go.RowKit Go.Lib
def z64 : List UInt8 := List.replicate 64 0
def begC (h : WL) : List Value := foldC h 0 z64 0
theorem infoF : (Try.prog.info? 266).map (·.size) = some 74 := by kernel_rfl
theorem foldC_one (h : WL) (n : Nat) (hb : List UInt8) (k : Nat) : ∀ v ∈ foldC h n hb k, v.oneCell' = true := fun v hv => by
 unfold foldC at hv
 simp only [List.mem_append, List.mem_singleton] at hv
 rcases hv with hv | rfl | hv | rfl
 ·exact wl_one h v hv
 ·rfl
 ·exact byteCells_one hb v hv
 ·rfl
theorem begin_any (w : World) : Calls Try.prog 193 #[.string ⟨#[]⟩] w fun e w' => e = .returned (.agg (foldC h0B 0 z64 0).toArray) ∧ Below w.heap.size w w' := by
 have HI := Lib.hid (show (Try.prog.info? 266).map (·.size) = some (begC startV).length from infoF)
 have HZ := Lib.hid (show (begC (zw 8)).length = (begC startV).length from rfl)
 go_enter Try.func193, Try.ntmps193
 go_upto_region 1 with (fail)
 have hz0 : Try.zeroCells266 = (begC (zw 8)).toArray := by kernel_rfl
 rw [hz0]
 have hs : (wlV startV).toArray = #[.int .u32 1779033703, .int .u32 3144134277, .int .u32 1013904242, .int .u32 2773480762, .int .u32 1359893119, .int .u32 2600822924, .int .u32 528734635, .int .u32 1541459225] := rfl
 obtain ⟨w1, hq1, hb9, hz9, Hr⟩ := new1 w 266 (begC (zw 8))
 rw [hq1]
 clear hq1
 have HB := Lib.hid hb9
 have HZS := hz9
 clear hb9 hz9
 go_wp2_with fail
 refine (start_any w1).mono ?_
 rintro e w2 ⟨rfl, hb9⟩
 replace Hr := Lib.hid (Hr.out.up hb9)
 replace HB := hbu HB hb9
 replace HZS := sz HZS hb9.size
 clear hb9
 have hln : (begC (zw 8)).length = 74 := rfl
 rw [hs]
 go_upto_region 2 with (refine wpList_store_new rfl 266 266 (.tmp 3) (.tmp 5) rfl (begC (zw 8)) (begC startV) rfl rfl HI.out HZ.out (foldC_one _ _ _ _) ?_)
 obtain ⟨w3, hq3, hb9, hz9, Hf⟩ := new1 w2 266 (begC startV)
 rw [hq3]
 clear hq3
 replace Hr := Lib.hid (Hr.out.up hb9)
 replace HB := hbu HB hb9
 replace HZS := sz HZS hz9.out
 clear hb9 hz9 hs hln
 have c0 : w3.cell? ⟨w2.heap.size, 0, none⟩ = some (.int .u32 1779033703) := Hf.out.cell rfl
 have hx0 : bits BinOp.xor IntKind.u32 1779033703 16842784 = 1795745351 := by decide
 have f4_f := Hf.out.frozen
 obtain ⟨w4, hq4, hg9, hz9, hx9⟩ := put1 Hf 0 (.int .u32 1795745351) _ rfl
 replace Hr := Lib.hid (Hr.out.grown hg9.out (sne (by have g0 := HZS.out; omega)))
 replace HB := hbg HB hg9 (by have g0 := HZS.out; omega)
 replace HZS := sz HZS hz9.out
 replace Hf := hx9
 clear hx9 hg9 hz9
 replace Hf := Lib.hid (show Bx w4 w2.heap.size 266 (foldC h0B 0 z64 0) from Hf.out)
 have HI2 := Lib.hid (show (Try.prog.info? 266).map (·.size) = some (foldC h0B 0 z64 0).length from infoF)
 obtain ⟨w5, hq5, hg5, hz5, hr5⟩ := puts Hr 0 (foldC h0B 0 z64 0) (foldC h0B 0 z64 0) (putL_all _ _ rfl)
 have HB5 := hbg HB hg5 (by omega)
 go_wp2_with (first | refine wpList_load_mid rfl 266 (.tmp 3) rfl w2.heap.size 0 rfl (foldC h0B 0 z64 0) _ Hf.out.range Try.underlying266 rfl HI2.out ?_ | refine wpList_store_mid rfl 266 (.tmp 2) (.tmp 25) rfl w.heap.size 0 (foldC h0B 0 z64 0).toArray rfl rfl (Hr.out.there (by simp; decide)) (by simpa using HI2.out) (all_oneCell_toArray (foldC_one _ _ _ _)) ?_)
 rw [hq5]
 exact ret_arr Try.results193 hr5.out _ rfl Try.underlying266 rfl HI2.out rfl ⟨rfl, HB5.out⟩
theorem byte_int (m : Nat) : (((UInt8.ofNat (m % 256)).toNat : Nat) : Int) = (m : Int) % 256 := by
 rw [UInt8.toNat_ofNat_of_lt' (by have := Nat.mod_lt m (show 0 < 256 by decide); exact this)]; omega
theorem four_any (n : Nat) (hn : n < 9223372036854775808) (w : World) : Calls Try.prog 195 #[.int .i64 (n : Int)] w fun e w' => e = .returned (.string (fourS n)) ∧ Below w.heap.size w w' := by
 go_enter Try.func195, Try.ntmps195
 obtain ⟨w1, hq1, hb9, hz9, Hr⟩ := new1 w 5 [.int .u8 ((n : Int) / 16777216 % 256), .int .u8 ((n : Int) / 65536 % 256), .int .u8 ((n : Int) / 256 % 256), .int .u8 ((n : Int) % 256)]
 have HB := Lib.hid hb9
 have HZS := hz9
 clear hb9 hz9
 have r_ := Hr.out.c4
 have hcv := run_convert_bytes_arg (P := Try.prog) w1 155 5 Try.underlying155 Try.underlying5 w.heap.size 0 4 4 [(n : Int) / 16777216 % 256, (n : Int) / 65536 % 256, (n : Int) / 256 % 256, (n : Int) % 256] rfl (fun i hi => by
  rcases (show i = 0 ∨ i = 1 ∨ i = 2 ∨ i = 3 by omega) with rfl | rfl | rfl | rfl
  ·exact Hr.out.cell (i := 0) rfl
  ·exact Hr.out.cell (i := 1) rfl
  ·exact Hr.out.cell (i := 2) rfl
  ·exact Hr.out.cell (i := 3) rfl) 9 Try.underlying9
 go_wp2_with fail
 clear hq1
 go_ret
 exact ⟨rfl, HB.out⟩
end Go.Proofs.Ytjmeakfjfpnciaa
namespace Go.Proofs.Ytjmeakfjfpnciaa
open Go.RowKit Go.Lib
theorem bytesOf_len (x : ByteArray) : (bytesOf x).length = x.size := by unfold bytesOf; rw [Array.length_toList]; rfl
def strLen : Value → Nat
 | .string y => y.size
 | _ => 0
theorem foldC_lay {h : WL} {n k : Nat} {hb : List UInt8} (hh : h.length = 8) (hl : hb.length = 64) (j : Nat) (y : ByteArray) (m : Nat) (hm : ((bytesOf y).take (64 - j)).length = m) (hj : j + m ≤ 64) : putL (foldC h n hb k) (9 + j) ((byteCells y.data.toList).take (64 - j)) = foldC h n (hb.take j ++ (bytesOf y).take (64 - j) ++ hb.drop (j + m)) k := by
 subst hm
 rw [← byteCells_take]
 exact foldC_putb hh hl j ((bytesOf y).take (64 - j)) hj
theorem bytesOf_drop (y : ByteArray) (m : Nat) : bytesOf (y.extract m y.size) = (bytesOf y).drop m := Lib.extract_to_end y m
theorem take_min (y : ByteArray) (m k : Nat) (h : Nat.min y.size k = m) : (bytesOf y).take k = (bytesOf y).take m := by
 rw [← h, List.take_eq_take_iff, bytesOf_len]
 show min k y.size = min (min y.size k) y.size
 omega
theorem take_any (b : Nat) (s : List UInt8) (x : ByteArray) (hsz : s.length + x.size < 4611686018427387904) (w : World) (hF : FoldAt w b s) :
  Calls Try.prog 194 #[.pointer (some ⟨b, 0, none⟩), .string x] w fun e w' => e = .returned (.tuple #[]) ∧ FoldAt w' b (s ++ bytesOf x) ∧ Kept (fun q => q = b) w w' := by
 have HF0 := Lib.hid hF
 have HSZ := Lib.hid hsz
 clear hF hsz
 go_enter Try.func194, Try.ntmps194
 go_wp2_with fail
 go_loopw [1] (fun c wr => ∃ (y : ByteArray) (t : List UInt8), c = .string y ∧ Hid (t ++ bytesOf y = bytesOf x) ∧ Hid (FoldAt wr b (s ++ t)) ∧ Hid (Kept (fun q9 => q9 = b) w wr)) (fun c _ => strLen c)
 case atStart => exact ⟨x, [], rfl, rfl, by rw [List.append_nil]; exact HF0, Lib.hid (Kept.refl _ _)⟩
 case round =>
  obtain ⟨y, t, rfl, HT, HQ, HK⟩ := hrel
  clear HF0
  by_cases hy : 0 < y.size
  ·obtain ⟨h, n, hb, k, hx, hh, hf, h0⟩ := HQ.out
   have Hf := Lib.hid hx
   clear hx h0 HQ
   have hn : n < 4611686018427387904 := by
    have h1 := hf.sum
    have h2 := congrArg List.length HT.out
    have h3 := HSZ.out
    rw [List.length_append] at h1 h2
    rw [bytesOf_len, bytesOf_len] at h2
    omega
   by_cases hk : k = 64
   ·have hke : ((k : Int) == 64) = true := by rw [hk]; rfl
    have HL8 := Lib.hid hh
    have HHB := Lib.hid hf.len
    have HPR := Lib.hid (show Fold (s ++ t) (pressB h (wordsB hb 64) (n + 64) false) (n + 64) hb 0 from (hk ▸ hf).press)
    have HRL := Lib.hid (pressB_len h (wordsB hb 64) (n + 64) false)
    clear hh hf hk
    have c73 := Hf.out.cell (foldC_k HL8.out HHB.out)
    have c8 := Hf.out.cell (foldC_n HL8.out)
    have f1_f := Hf.out.frozen
    obtain ⟨w1, hq1, hg9, hz9, hx9⟩ := put1 Hf 8 (.int .u64 ((n : Int) + 64)) _ rfl
    replace HK := Lib.hid (Kept.grown HK.out hg9.out (fun q9 e9 => by obtain rfl := Option.some.inj e9; exact Or.inr (rfl)))
    have HZS := hz9
    replace Hf := hx9
    clear hx9 hg9 hz9
    go_wp2_with fail
    clear hq1 f1_f c73 c8
    have Hf2 := Lib.hid (show Bx w1 b 266 (foldC h (n + 64) hb k) from by have h9 := Hf.out; rwa [show ((n : Int) + 64) = ((n + 64 : Nat) : Int) from by omega, foldC_setn HL8.out] at h9)
    clear Hf
    have Hf := Hf2
    clear Hf2
    have hN : n + 64 < 18446744073709551616 := by omega
    have hN2 : n + 64 < 4611686018427387904 + 64 := by omega
    generalize n + 64 = N at *
    have c8 := Hf.out.cell (foldC_n HL8.out)
    have HPC := Lib.hid (fun w => Press_any h (wordsB hb 64) HL8.out (wordsB_len _ _) N hN false w)
    have HWC := Lib.hid (fun w hx => words_any h N hb k HL8.out HHB.out b w hx)
    have HI8 := Lib.hid (show (Try.prog.info? 224).map (·.size) = some (wlV h).length by rw [wlV_len, HL8.out]; exact info8)
    obtain ⟨R, hR⟩ : ∃ R, pressB h (wordsB hb 64) N false = R := ⟨_, rfl⟩
    rw [hR] at HPR HRL HPC
    clear hR
    generalize wordsB hb 64 = M at *
    refine wp_region_otail 14 (by kernel_rfl) (by kernel_rfl) ?_
    simp only [List.take_succ_cons, List.take_zero, List.drop_succ_cons, List.drop_zero]
    have hov_b := fun (E : Over w1) o => E.cell (b := b) o Hf.out.lt
    repeat (first | (refine wpQuiet_load rfl 224 (.tmp 23) rfl b 0 rfl (wlV h) _ (fun _ ⟨E, e⟩ => e ▸ foldC_h (Hf.out.up E.h)) Try.underlying224 rfl HI8.out ?_; simp only [Act.put, List.setIfInBounds_toArray, List.set_cons_succ, List.set_cons_zero]) | go_big_quiet_step (first | (go_at_call 205; exact calls_over (HWC.out _ (Hf.out.up (Over.h _)))) | (go_at_call 204; exact calls_over (HPC.out _))))
    all_goals (try unfold elV limbV)
    repeat (first | (refine wpQuiet_load rfl 224 (.tmp 23) rfl b 0 rfl (wlV h) _ (fun _ ⟨E, e⟩ => e ▸ foldC_h (Hf.out.up E.h)) Try.underlying224 rfl HI8.out ?_; simp only [Act.put, List.setIfInBounds_toArray, List.set_cons_succ, List.set_cons_zero]) | go_big_quiet_step (first | (go_at_call 205; exact calls_over (HWC.out _ (Hf.out.up (Over.h _)))) | (go_at_call 204; exact calls_over (HPC.out _))))
    all_goals (try unfold elV limbV)
    repeat (first | (refine wpQuiet_load rfl 224 (.tmp 23) rfl b 0 rfl (wlV h) _ (fun _ ⟨E, e⟩ => e ▸ foldC_h (Hf.out.up E.h)) Try.underlying224 rfl HI8.out ?_; simp only [Act.put, List.setIfInBounds_toArray, List.set_cons_succ, List.set_cons_zero]) | go_big_quiet_step (first | (go_at_call 205; exact calls_over (HWC.out _ (Hf.out.up (Over.h _)))) | (go_at_call 204; exact calls_over (HPC.out _))))
    all_goals (try unfold ciphV)
    refine wpQuiet_nil ?_
    rintro _ ⟨E, rfl⟩
    clear hov_b
    replace Hf := Lib.hid (Hf.out.up E.h)
    replace HK := Lib.hid (Kept.up HK.out E.h)
    replace HZS := sz HZS E.h.size
    obtain ⟨w2, hq9⟩ : ∃ W9 : World, E.w = W9 := ⟨_, rfl⟩
    rw [hq9] at Hf HK HZS ⊢
    clear hq9 E c8 HPC HWC HI8
    have HRI := Lib.hid (show (Try.prog.info? 224).map (·.size) = some (wlV R).length by rw [wlV_len, HRL.out]; exact info8)
    obtain ⟨w5, hq5, hg9, hz9, hx9⟩ := puts Hf 0 (wlV R) _ (foldC_puth HL8.out R HRL.out)
    refine wpList_store_mid rfl 224 (.tmp 33) (.tmp 31) rfl b 0 (wlV R).toArray rfl rfl (Hf.out.there (by rw [foldC_len HL8.out HHB.out, List.size_toArray, wlV_len, HRL.out]; decide)) (by simpa using HRI.out) (all_oneCell_toArray (wl_one R)) ?_
    rw [List.toList_toArray, hq5]
    replace HK := Lib.hid (Kept.grown HK.out hg9.out (fun q9 e9 => by obtain rfl := Option.some.inj e9; exact Or.inr (rfl)))
    replace HZS := sz HZS hz9.out
    replace Hf := hx9
    clear hx9 hg9 hz9 HL8 hq5
    have c73 := Hf.out.cell (foldC_k HRL.out HHB.out)
    have f3_f := Hf.out.frozen
    obtain ⟨w3, hq3, hg9, hz9, hx9⟩ := put1 Hf 73 (.int .i64 0) _ rfl
    replace HK := Lib.hid (Kept.grown HK.out hg9.out (fun q9 e9 => by obtain rfl := Option.some.inj e9; exact Or.inr (rfl)))
    replace HZS := sz HZS hz9.out
    replace Hf := hx9
    clear hx9 hg9 hz9
    go_upto_region 5 with (fail)
    clear c73
    have Hf2 := Lib.hid (show Bx w3 b 266 (foldC R N hb 0) from by have h9 := Hf.out; rwa [show (0 : Int) = ((0 : Nat) : Int) from rfl, foldC_setk HRL.out HHB.out] at h9)
    clear Hf hke
    have Hf := Hf2
    clear Hf2
    have hh := HRL.out
    have hf := HPR.out
    clear HPR HHB HRL HRI
    obtain ⟨z, hz0⟩ : ∃ z : Nat, z = 0 := ⟨0, rfl⟩
    rw [← hz0] at Hf hf
    have hk6 : z < 64 := by omega
    clear hz0
    have HL8 := Lib.hid hh
    have HF := Lib.hid hf
    have HHB := Lib.hid hf.len
    clear hh hf
    have c73 := Hf.out.cell (foldC_k HL8.out HHB.out)
    have k1 : (0 : Int) ≤ (z : Int) := by omega
    have k2 : (z : Int) ≤ 64 := by omega
    go_wp2_with fail
    clear hq3 f3_f
    refine wp_region_otail 9 (by kernel_rfl) (by kernel_rfl) ?_
    simp only [List.take_succ_cons, List.take_zero, List.drop_succ_cons, List.drop_zero]
    have hov_b := fun (E : Over w3) o => E.cell (b := b) o Hf.out.lt
    repeat (go_big_quiet_step (first | fail))
    all_goals (try unfold elV limbV)
    repeat (go_big_quiet_step (first | fail))
    all_goals (try unfold elV limbV)
    repeat (go_big_quiet_step (first | fail))
    all_goals (try unfold ciphV)
    refine wpQuiet_nil ?_
    rintro _ ⟨E, rfl⟩
    clear hov_b
    replace Hf := Lib.hid (Hf.out.up E.h)
    replace HK := Lib.hid (Kept.up HK.out E.h)
    replace HZS := sz HZS E.h.size
    obtain ⟨w4, hq9⟩ : ∃ W9 : World, E.w = W9 := ⟨_, rfl⟩
    rw [hq9] at Hf HK HZS ⊢
    clear hq9 E c73 k1 k2
    obtain ⟨m, hm⟩ : ∃ m, Nat.min y.size (64 - z) = m := ⟨_, rfl⟩
    have hm1 : m ≤ y.size := hm ▸ Nat.min_le_left _ _
    have hm2 : m ≤ 64 - z := hm ▸ Nat.min_le_right _ _
    have hm3 : 0 < m := by rw [← hm]; exact Nat.lt_min.2 ⟨hy, by omega⟩
    have HTL := Lib.hid (show ((bytesOf y).take (64 - z)).length = m by rw [List.length_take, bytesOf_len]; exact (Nat.min_comm _ _).trans hm)
    have HPB := Lib.hid (foldC_lay (n := N) (k := z) HL8.out HHB.out z y m HTL.out (by omega))
    have HFL := Lib.hid (HF.out.lay ((bytesOf y).take (64 - z)) (by rw [HTL.out]; omega))
    rw [HTL.out] at HFL
    generalize hb.take z ++ (bytesOf y).take (64 - z) ++ hb.drop (z + m) = hb2 at *
    have HHB0 := HHB
    clear HF HHB
    refine wpList_copyS rfl (.tmp 44) (.tmp 45) 155 9 rfl 5 Try.underlying155 infoB b (9 + z) (64 - z) (64 - z) y rfl rfl (foldC R N hb z) 266 Hf.out (by rw [foldC_len HL8.out HHB0.out]; omega) _ HPB.out ?_
    intro wc hg9 hz9 hx9
    replace HK := Lib.hid (Kept.grown HK.out hg9.out (fun q9 e9 => by obtain rfl := Option.some.inj e9; exact Or.inr (rfl)))
    replace HZS := sz HZS hz9.out
    replace Hf := hx9
    clear hx9 hg9 hz9
    rw [hm]
    have HM := Lib.hid hm
    clear hm
    have HHB := Lib.hid HFL.out.len
    have c73 := Hf.out.cell (foldC_k HL8.out HHB.out)
    have k3 : (z : Int) + (m : Int) ≤ 64 := by omega
    have f5_f := Hf.out.frozen
    obtain ⟨w5, hq5, hg9, hz9, hx9⟩ := put1 Hf 73 (.int .i64 ((z : Int) + (m : Int))) _ rfl
    replace HK := Lib.hid (Kept.grown HK.out hg9.out (fun q9 e9 => by obtain rfl := Option.some.inj e9; exact Or.inr (rfl)))
    replace HZS := sz HZS hz9.out
    replace Hf := hx9
    clear hx9 hg9 hz9
    go_wp2_with fail
    clear hq5 f5_f c73
    have HY := Lib.hid (show t ++ ((bytesOf y).take (64 - z)) ++ bytesOf (y.extract m y.size) = bytesOf x from by
     rw [bytesOf_drop y m, take_min y m (64 - z) HM.out, List.append_assoc, List.take_append_drop, HT.out])
    refine ⟨⟨_, t ++ (bytesOf y).take (64 - z), rfl, HY, Lib.hid ⟨R, N, hb2, z + m, ?_, HL8.out, ?_, Or.inr (by omega)⟩, HK⟩, ?_⟩
    ·have h9 := Hf.out
     rwa [← Int.natCast_add, foldC_setk HL8.out HHB.out] at h9
    ·rw [← List.append_assoc]; exact HFL.out
    ·show (y.extract m y.size).size < y.size
     simp
     omega
   ·have hk6 : k < 64 := by have := hf.le; omega
    have hke : ((k : Int) == 64) = false := by simp; omega
    have HL8 := Lib.hid hh
    have HF := Lib.hid hf
    have HHB := Lib.hid hf.len
    clear hh hf
    have c73 := Hf.out.cell (foldC_k HL8.out HHB.out)
    have k1 : (0 : Int) ≤ (k : Int) := by omega
    have k2 : (k : Int) ≤ 64 := by omega
    go_wp2_with fail
    refine wp_region_otail 9 (by kernel_rfl) (by kernel_rfl) ?_
    simp only [List.take_succ_cons, List.take_zero, List.drop_succ_cons, List.drop_zero]
    have hov_b := fun (E : Over wr) o => E.cell (b := b) o Hf.out.lt
    repeat (go_big_quiet_step (first | fail))
    all_goals (try unfold elV limbV)
    repeat (go_big_quiet_step (first | fail))
    all_goals (try unfold elV limbV)
    repeat (go_big_quiet_step (first | fail))
    all_goals (try unfold ciphV)
    refine wpQuiet_nil ?_
    rintro _ ⟨E, rfl⟩
    clear hov_b
    replace Hf := Lib.hid (Hf.out.up E.h)
    replace HK := Lib.hid (Kept.up HK.out E.h)
    have HZS := Lib.hid E.h.size
    obtain ⟨w1, hq9⟩ : ∃ W9 : World, E.w = W9 := ⟨_, rfl⟩
    rw [hq9] at Hf HK HZS ⊢
    clear hq9 E c73 k1 k2
    obtain ⟨m, hm⟩ : ∃ m, Nat.min y.size (64 - k) = m := ⟨_, rfl⟩
    have hm1 : m ≤ y.size := hm ▸ Nat.min_le_left _ _
    have hm2 : m ≤ 64 - k := hm ▸ Nat.min_le_right _ _
    have hm3 : 0 < m := by rw [← hm]; exact Nat.lt_min.2 ⟨hy, by omega⟩
    have HTL := Lib.hid (show ((bytesOf y).take (64 - k)).length = m by rw [List.length_take, bytesOf_len]; exact (Nat.min_comm _ _).trans hm)
    have HPB := Lib.hid (foldC_lay (n := n) (k := k) HL8.out HHB.out k y m HTL.out (by omega))
    have HFL := Lib.hid (HF.out.lay ((bytesOf y).take (64 - k)) (by rw [HTL.out]; omega))
    rw [HTL.out] at HFL
    generalize hb.take k ++ (bytesOf y).take (64 - k) ++ hb.drop (k + m) = hb2 at *
    have HHB0 := HHB
    clear HF HHB
    refine wpList_copyS rfl (.tmp 44) (.tmp 45) 155 9 rfl 5 Try.underlying155 infoB b (9 + k) (64 - k) (64 - k) y rfl rfl (foldC h n hb k) 266 Hf.out (by rw [foldC_len HL8.out HHB0.out]; omega) _ HPB.out ?_
    intro wc hg9 hz9 hx9
    replace HK := Lib.hid (Kept.grown HK.out hg9.out (fun q9 e9 => by obtain rfl := Option.some.inj e9; exact Or.inr (rfl)))
    replace HZS := sz HZS hz9.out
    replace Hf := hx9
    clear hx9 hg9 hz9
    rw [hm]
    have HM := Lib.hid hm
    clear hm
    have HHB := Lib.hid HFL.out.len
    have c73 := Hf.out.cell (foldC_k HL8.out HHB.out)
    have k3 : (k : Int) + (m : Int) ≤ 64 := by omega
    have f2_f := Hf.out.frozen
    obtain ⟨w2, hq2, hg9, hz9, hx9⟩ := put1 Hf 73 (.int .i64 ((k : Int) + (m : Int))) _ rfl
    replace HK := Lib.hid (Kept.grown HK.out hg9.out (fun q9 e9 => by obtain rfl := Option.some.inj e9; exact Or.inr (rfl)))
    replace HZS := sz HZS hz9.out
    replace Hf := hx9
    clear hx9 hg9 hz9
    go_wp2_with fail
    clear hq2 f2_f c73
    have HY := Lib.hid (show t ++ ((bytesOf y).take (64 - k)) ++ bytesOf (y.extract m y.size) = bytesOf x from by
     rw [bytesOf_drop y m, take_min y m (64 - k) HM.out, List.append_assoc, List.take_append_drop, HT.out])
    refine ⟨⟨_, t ++ (bytesOf y).take (64 - k), rfl, HY, Lib.hid ⟨h, n, hb2, k + m, ?_, HL8.out, ?_, Or.inr (by omega)⟩, HK⟩, ?_⟩
    ·have h9 := Hf.out
     rwa [← Int.natCast_add, foldC_setk HL8.out HHB.out] at h9
    ·rw [← List.append_assoc]; exact HFL.out
    ·show (y.extract m y.size).size < y.size
     simp
     omega
  ·have hy0 : y.size = 0 := by omega
   have hyn : bytesOf y = [] := List.eq_nil_of_length_eq_zero (by rw [bytesOf_len]; exact hy0)
   have hyd : (y.size : Int) = 0 := by omega
   have HE := Lib.hid (show t = bytesOf x from by have h9 := HT.out; rwa [hyn, List.append_nil] at h9)
   clear hyn hy0 hy HT
   go_wp2_with fail
   go_end0
   exact ⟨rfl, HE.out ▸ HQ.out, HK.out⟩
end Go.Proofs.Ytjmeakfjfpnciaa
namespace Go.Proofs.Ytjmeakfjfpnciaa
open Go.RowKit
theorem wpList_pushM {P : Program} (N : Nat) (w0 : World) (hN : N ≤ w0.heap.size) {ops : Array Oper} {rest : List Oper} {o : Oper} {a : Act} {Q : Exit → Act → World → Prop} (hgd : o.guard = none) (s x : Operand) (t : TypeId)
  (ho : o.op = .call { callee := .builtin .append, args := #[s, x], argTypes := #[t, t] })
  (e : TypeId) (i : TypeInfo) (z : Value) (size bytes m : Nat) (ht : P.underlying t = some (.slice e)) (hi : P.info? e = some i) (hz : i.zero = some z)
  (hsize : i.size = size) (hby : i.bytes = bytes) (hzs : z.cells.size = size) (hsz : 0 < size) (hm : 0 < m)
  (v : Value) (n : Nat) (xs : List Value) (hs : a.eval s = v) (hown : RowO N w0 e size v n xs)
  (news : Array Value) (e2 : TypeId) (b : Nat) (hb : w0.heap.size = b) (hx : a.eval x = .slice (some ⟨b, 0, none⟩) m m) (hl : news.size = m * size) (h1 : ∀ u ∈ news.toList, u.oneCell' = true)
  (h63 : (n + m) * bytes ≤ 140737488355328) (hn : n + m ≤ maxLen)
  (h : ∀ g cap w', RowO N w' e size (.slice (some ⟨g, 0, none⟩) (n + m) cap) (n + m) (xs ++ news.toList) → w0.grownBy w' v.ownBlock → wpList P ops Q rest (a.put o.dst (.slice (some ⟨g, 0, none⟩) (n + m) cap)) w') :
  wpList P ops Q (o :: rest) a (w0.alloc (.cells news e2)) := by
 subst hb
 refine wpList_append_lies _ hgd s x t ho N e i z size bytes ht hi hz hsize hby hzs hsz v n xs hs (World.ownsRow.alloc hown _) ⟨w0.heap.size, 0, none⟩ m m news.toList hx (by simpa using hl)
  (World.news_of_block (heap_alloc_new w0 _)) h1 hm hn h63 (by simp; omega) _ rfl ?_
 intro g cap w' hown' hg _ _
 refine h g cap w' hown' ⟨hg.os, hg.tape, hg.output, ?_, ?_⟩
 ·have := hg.size; simp at this; omega
 ·intro k hk hne
  rw [hg.block k (by simp; omega) hne]
  exact Below.heap_alloc _ _ _ hk
end Go.Proofs.Ytjmeakfjfpnciaa
namespace Go.Proofs.Ytjmeakfjfpnciaa
open Go.RowKit Go.Lib
theorem zeroB (w : World) : (zeroValue 5).run Try.prog w = .ok (.int .u8 0) w := by kernel_rfl
theorem clear_cells (m : Nat) : List.replicate m (Value.int .u8 0) = byteCells (List.replicate m 0) := by unfold byteCells; rw [List.map_replicate]; rfl
theorem foldC_clear {h : WL} {n k : Nat} {hb : List UInt8} (hh : h.length = 8) (hl : hb.length = 64) (hk : k ≤ 64) : putL (foldC h n hb k) (9 + k) (List.replicate (64 - k) (Value.int .u8 0)) = foldC h n (hb.take k ++ List.replicate (64 - k) 0) k := by
 rw [clear_cells, foldC_putb hh hl k _ (by rw [List.length_replicate]; omega), List.length_replicate, List.drop_eq_nil_of_le (by omega), List.append_nil]
theorem clear_len {hb : List UInt8} {k : Nat} (hl : hb.length = 64) (hk : k ≤ 64) : (hb.take k ++ List.replicate (64 - k) 0).length = 64 := by simp [hl]; omega
theorem out_snoc (R : WL) (i : Nat) (hi : i < R.length) : byteCells (outB (R.take (i + 1))) = byteCells (outB (R.take i)) ++ [.int .u8 (((R.getD i 0).toNat : Int) % 256), .int .u8 (((R.getD i 0).toNat : Int) / 256 % 256), .int .u8 (((R.getD i 0).toNat : Int) / 65536 % 256), .int .u8 (((R.getD i 0).toNat : Int) / 16777216)] := by
 have e0 : R[i] = R.getD i 0 := by simp [List.getD, hi]
 rw [List.take_succ_eq_append_getElem hi, e0]
 unfold outB
 rw [List.flatMap_append, byteCells_app]
 congr 1
 generalize R.getD i 0 = X
 have e : ∀ m : Nat, Value.int .u8 ((UInt8.ofNat (m % 256)).toNat : Int) = .int .u8 ((m : Int) % 256) := fun m => by rw [byte_int]
 have hX := X.isLt
 simp only [List.flatMap_cons, List.flatMap_nil, List.append_nil, byteCells, List.map_cons, List.map_nil, e]
 rw [show ((X.toNat / 16777216 : Nat) : Int) % 256 = (X.toNat : Int) / 16777216 by omega]
 rfl
theorem out_str (s : List UInt8) : strOfNums ((digB s).map fun b => (b.toNat : Int)) = digS s := by
 unfold strOfNums digS
 rw [List.map_map]
 congr 2
 conv => rhs; rw [← List.map_id (digB s)]
 apply List.map_congr_left
 intro x _
 simp
theorem out_take8 (R : WL) (h : R.length = 8) : R.take 8 = R := List.take_of_length_le (by omega)
theorem row_byte {N : Nat} {w : World} {g n c : Nat} {l : List UInt8} (h : RowO N w 5 1 (.slice (some ⟨g, 0, none⟩) n c) n (byteCells l)) (i : Nat) (hi : i < l.length) : w.cell? ⟨g, 0 + i, none⟩ = some (.int .u8 ((l.map fun b => (b.toNat : Int)).getD i 0)) := by
 obtain ⟨b, o, e, _, hc⟩ := h.sl.at i (by rw [byteCells_length]; exact hi)
 cases e
 rw [hc]
 unfold byteCells
 simp [List.getD, hi]
theorem end_any (b : Nat) (s : List UInt8) (hsz : s.length < 4611686018427387904) (w : World) (hF : FoldAt w b s) :
  Calls Try.prog 196 #[.pointer (some ⟨b, 0, none⟩)] w fun e w' => e = .returned (.string (digS s)) ∧ Kept (fun q => q = b) w w' := by
 obtain ⟨h, n, hb, k, hx, hh, hf, h0⟩ := hF
 have HLB := Lib.hid hx.lt
 have Hf := Lib.hid hx
 have HL8 := Lib.hid hh
 have HHB := Lib.hid hf.len
 have HFN := Lib.hid (hf.fin h0)
 have hk6 : k ≤ 64 := hf.le
 have hn : n + k < 4611686018427387904 := by have := hf.sum; omega
 clear hh hf h0 hsz hx
 go_enter Try.func196, Try.ntmps196
 go_wp2_with fail
 have HZS := HLB
 have HK := Lib.hid (Kept.refl (fun q9 => q9 = b) w)
 have c73 := Hf.out.cell (foldC_k HL8.out HHB.out)
 have c8 := Hf.out.cell (foldC_n HL8.out)
 refine wp_region_otail 12 (by kernel_rfl) (by kernel_rfl) ?_
 simp only [List.take_succ_cons, List.take_zero, List.drop_succ_cons, List.drop_zero]
 have hov_b := fun (E : Over w) o => E.cell (b := b) o Hf.out.lt
 repeat (go_big_quiet_step (first | fail))
 all_goals (try unfold elV limbV)
 repeat (go_big_quiet_step (first | fail))
 all_goals (try unfold elV limbV)
 repeat (go_big_quiet_step (first | fail))
 all_goals (try unfold ciphV)
 refine wpQuiet_nil ?_
 rintro _ ⟨E, rfl⟩
 clear hov_b
 replace Hf := Lib.hid (Hf.out.up E.h)
 replace HK := Lib.hid (Kept.up HK.out E.h)
 replace HZS := sz HZS E.h.size
 obtain ⟨w1, hq9⟩ : ∃ W9 : World, E.w = W9 := ⟨_, rfl⟩
 rw [hq9] at Hf HK HZS ⊢
 clear hq9 E c73 c8
 have c8 := Hf.out.cell (foldC_n HL8.out)
 have f2_f := Hf.out.frozen
 obtain ⟨w2, hq2, hg9, hz9, hx9⟩ := put1 Hf 8 (.int .u64 ((n : Int) + (k : Int))) _ rfl
 replace HK := Lib.hid (Kept.grown HK.out hg9.out (fun q9 e9 => by obtain rfl := Option.some.inj e9; exact Or.inr (rfl)))
 replace HZS := sz HZS hz9.out
 replace Hf := hx9
 clear hx9 hg9 hz9
 go_wp2_with fail
 clear hq2 f2_f c8
 have Hf2 := Lib.hid (show Bx w2 b 266 (foldC h (n + k) hb k) from by have h9 := Hf.out; rwa [← Int.natCast_add, foldC_setn HL8.out] at h9)
 clear Hf
 have Hf := Hf2
 clear Hf2
 generalize n + k = N at *
 have c73 := Hf.out.cell (foldC_k HL8.out HHB.out)
 have HCL := Lib.hid (foldC_clear (n := N) HL8.out HHB.out hk6)
 have HB2 := Lib.hid (clear_len HHB.out hk6)
 generalize hb.take k ++ List.replicate (64 - k) 0 = hb2 at *
 by_cases hk : k = 64
 ·subst hk
  refine wp_region_otail 8 (by kernel_rfl) (by kernel_rfl) ?_
  simp only [List.take_succ_cons, List.take_zero, List.drop_succ_cons, List.drop_zero]
  have hov_b := fun (E : Over w2) o => E.cell (b := b) o Hf.out.lt
  repeat (go_big_quiet_step (first | fail))
  all_goals (try unfold elV limbV)
  repeat (go_big_quiet_step (first | fail))
  all_goals (try unfold elV limbV)
  repeat (go_big_quiet_step (first | fail))
  all_goals (try unfold ciphV)
  refine wpQuiet_nil ?_
  rintro _ ⟨E, rfl⟩
  clear hov_b
  replace Hf := Lib.hid (Hf.out.up E.h)
  replace HK := Lib.hid (Kept.up HK.out E.h)
  replace HZS := sz HZS E.h.size
  obtain ⟨w3, hq9⟩ : ∃ W9 : World, E.w = W9 := ⟨_, rfl⟩
  rw [hq9] at Hf HK HZS ⊢
  clear hq9 E c73
  refine wpList_clearB rfl (.tmp 25) 155 rfl 5 (.int .u8 0) Try.underlying155 zeroB rfl rfl b 9 0 0 rfl (foldC h N hb 64) 266 Hf.out (by rw [foldC_len HL8.out HHB.out]; omega) _ rfl ?_
  intro wc hg9 hz9 hx9
  replace HK := Lib.hid (Kept.grown HK.out hg9.out (fun q9 e9 => by obtain rfl := Option.some.inj e9; exact Or.inr (rfl)))
  replace HZS := sz HZS hz9.out
  replace Hf := hx9
  clear hx9 hg9 hz9
  obtain ⟨k, hk⟩ : ∃ k : Nat, k = 64 := ⟨64, rfl⟩
  have Hf2 := Lib.hid (show Bx wc b 266 (foldC h N hb2 k) from by rw [hk]; have e : foldC h N hb 64 = foldC h N hb2 64 := HCL.out; rw [← e]; exact Hf.out)
  clear Hf
  have Hf := Hf2
  clear Hf2 HCL
  have HCL := HB2
  go_wp2_with fail
  have c8 := Hf.out.cell (foldC_n HL8.out)
  have HPC := Lib.hid (fun w => Press_any h (wordsB hb2 64) HL8.out (wordsB_len _ _) N (by omega) true w)
  have HWC := Lib.hid (fun w hx => words_any h N hb2 k HL8.out HB2.out b w hx)
  have HI8 := Lib.hid (show (Try.prog.info? 224).map (·.size) = some (wlV h).length by rw [wlV_len, HL8.out]; exact info8)
  rw [HFN.out] at HPC
  have HRL := Lib.hid (digW_len s)
  obtain ⟨R, hR⟩ : ∃ R, digW s = R := ⟨_, rfl⟩
  have HRE := Lib.hid hR
  rw [hR] at HPC HRL
  clear hR HFN HCL
  generalize wordsB hb2 64 = M at *
  go_simp
  refine wp_region_otail 14 (by kernel_rfl) (by kernel_rfl) ?_
  simp only [List.take_succ_cons, List.take_zero, List.drop_succ_cons, List.drop_zero]
  have hov_b := fun (E : Over wc) o => E.cell (b := b) o Hf.out.lt
  repeat (first | (refine wpQuiet_load rfl 224 (.tmp 29) rfl b 0 rfl (wlV h) _ (fun _ ⟨E, e⟩ => e ▸ foldC_h (Hf.out.up E.h)) Try.underlying224 rfl HI8.out ?_; simp only [Act.put, List.setIfInBounds_toArray, List.set_cons_succ, List.set_cons_zero]) | go_big_quiet_step (first | (go_at_call 205; exact calls_over (HWC.out _ (Hf.out.up (Over.h _)))) | (go_at_call 204; exact calls_over (HPC.out _))))
  all_goals (try unfold elV limbV)
  repeat (first | (refine wpQuiet_load rfl 224 (.tmp 29) rfl b 0 rfl (wlV h) _ (fun _ ⟨E, e⟩ => e ▸ foldC_h (Hf.out.up E.h)) Try.underlying224 rfl HI8.out ?_; simp only [Act.put, List.setIfInBounds_toArray, List.set_cons_succ, List.set_cons_zero]) | go_big_quiet_step (first | (go_at_call 205; exact calls_over (HWC.out _ (Hf.out.up (Over.h _)))) | (go_at_call 204; exact calls_over (HPC.out _))))
  all_goals (try unfold elV limbV)
  repeat (first | (refine wpQuiet_load rfl 224 (.tmp 29) rfl b 0 rfl (wlV h) _ (fun _ ⟨E, e⟩ => e ▸ foldC_h (Hf.out.up E.h)) Try.underlying224 rfl HI8.out ?_; simp only [Act.put, List.setIfInBounds_toArray, List.set_cons_succ, List.set_cons_zero]) | go_big_quiet_step (first | (go_at_call 205; exact calls_over (HWC.out _ (Hf.out.up (Over.h _)))) | (go_at_call 204; exact calls_over (HPC.out _))))
  all_goals (try unfold ciphV)
  refine wpQuiet_nil ?_
  rintro _ ⟨E, rfl⟩
  clear hov_b
  replace Hf := Lib.hid (Hf.out.up E.h)
  replace HK := Lib.hid (Kept.up HK.out E.h)
  replace HZS := sz HZS E.h.size
  obtain ⟨w4, hq9⟩ : ∃ W9 : World, E.w = W9 := ⟨_, rfl⟩
  rw [hq9] at Hf HK HZS ⊢
  clear hq9 E c8 HPC HWC HI8
  have HRI := Lib.hid (show (Try.prog.info? 224).map (·.size) = some (wlV R).length by rw [wlV_len, HRL.out]; exact info8)
  obtain ⟨wz5, hq5, hg9, hz9, hx9⟩ := puts Hf 0 (wlV R) _ (foldC_puth HL8.out R HRL.out)
  refine wpList_store_mid rfl 224 (.tmp 39) (.tmp 37) rfl b 0 (wlV R).toArray rfl rfl (Hf.out.there (by rw [foldC_len HL8.out HB2.out, List.size_toArray, wlV_len, HRL.out]; decide)) (by simpa using HRI.out) (all_oneCell_toArray (wl_one R)) ?_
  rw [List.toList_toArray, hq5]
  replace HK := Lib.hid (Kept.grown HK.out hg9.out (fun q9 e9 => by obtain rfl := Option.some.inj e9; exact Or.inr (rfl)))
  replace HZS := sz HZS hz9.out
  replace Hf := hx9
  clear hx9 hg9 hz9 HL8 hq5
  obtain ⟨i9, hi9, hz90, hz91, hz92⟩ := info_parts infoByte
  go_wp2_with (at_make; refine wpList_make_own _ rfl _ _ 155 rfl (wz5.heap.size) 5 i9 _ 1 Try.underlying155 hi9 hz90 hz91 _ _ _ (32) rfl rfl ?c1 ?c2 ?c3 ?c4 ?_)
  case c1 => rfl
  case c2 => rw [hz92]; omega
  case c3 => unfold maxLen; omega
  case c4 => have g0 := HZS.out; omega
  intro w5 hown9 hg9
  have hb9 : Below wz5.heap.size wz5 w5 := (Below.refl _ _).grown hg9 (Nat.le_refl _) (fun q hq => by cases hq)
  replace Hf := Lib.hid (Hf.out.up hb9)
  replace HK := Lib.hid (Kept.up HK.out hb9)
  replace HZS := sz HZS hb9.size
  have Hr : Hid (RowO (wz5.heap.size) w5 5 1 (.slice (some ⟨wz5.heap.size, 0, none⟩) 0 (32)) 0 []) := Lib.hid hown9
  clear hb9 hown9 hg9 hi9 hz90 hz91 hz92
  go_wp2_with (refine wpList_load_mid rfl 224 (.tmp 43) rfl b 0 rfl (wlV R) _ (foldC_h Hf.out) Try.underlying224 rfl HRI.out ?_)
  go_loopw [45, 3] (fun c v wr => ∃ i g cap : Nat, i ≤ 8 ∧ c = .int .i64 i ∧ v = .slice (some ⟨g, 0, none⟩) (4 * i) cap ∧ Hid (RowO wz5.heap.size wr 5 1 (.slice (some ⟨g, 0, none⟩) (4 * i) cap) (4 * i) (byteCells (outB (R.take i)))) ∧ Hid (Kept (fun q9 => q9 = b) w wr)) (fun c _ _ => 8 - (RowKit.intOf c).toNat)
  case atStart => exact ⟨0, _, _, by omega, rfl, rfl, Hr, HK⟩
  case round =>
   obtain ⟨i, g, cap, hi, rfl, rfl, HQ, HK1⟩ := hrel
   clear HK Hr Hf
   have HK := HK1
   have Hr := HQ
   clear HK1 HQ
   have HSW := Lib.hid HK.out.size
   have HSM := Lib.hid (Hr.out.lt g rfl)
   replace HZS := sz HZS HSW.out
   replace HZS := sz HZS HSM.out
   by_cases hi8 : i < 8
   ·have hix := fun W => run_index_arr (P := Try.prog) W 224 221 .u32 8 (wlV R) i _ (wlV_get R i (by rw [HRL.out]; exact hi8)) Try.underlying224 (by rw [wlV_len, HRL.out]) infoW Try.underlying221
    have HON := Lib.hid (out_snoc R i (by rw [HRL.out]; exact hi8))
    have hX := (R.getD i 0).isLt
    generalize R.getD i 0 = X at *
    go_upto_region 8 with (fail)
    clear hix
    obtain ⟨i9, hi9, hz90, hz91, hz92⟩ := info_parts infoByte
    go_wp2_with (at_builtin; refine wpList_pushM (wz5.heap.size) wr (by have g0 := HZS.out; omega) rfl _ _ 155 rfl 5 i9 _ 1 1 4 Try.underlying155 hi9 hz90 hz91 hz92 rfl (by omega) (by omega) ((.slice (some ⟨g, 0, none⟩) (4 * i) cap)) ((4 * i)) ((byteCells (outB (R.take i)))) rfl Hr.out _ _ _ rfl rfl rfl (by simp [Value.oneCell']) (by omega) (by unfold maxLen; omega) ?_)
    intro g6 c6 w6 hown9 hg9
    replace HK := Lib.hid (Kept.grown HK.out hg9 (fun q hq => Or.inl (Nat.le_trans (show w.heap.size ≤ wz5.heap.size by have g0 := HZS.out; omega) (Hr.out.lt q hq).1)))
    replace HZS := sz HZS hg9.size
    clear Hr
    have Hr := Lib.hid hown9
    clear hown9 hg9 hi9 hz90 hz91 hz92
    have HQ := Lib.hid (Hr.out.eq (ys := byteCells (outB (R.take (i + 1)))) (m := 4 * (i + 1)) (by rw [HON.out]) rfl)
    go_wp2_with fail
    go_roundw
    case rel => exact ⟨i + 1, _, _, by omega, by go_num, rfl, HQ, HK⟩
    case measure => simp [RowKit.intOf]; omega
   ·have hi8' : i = 8 := by omega
    subst hi8'
    have HQ := Hr.out
    rw [out_take8 R HRL.out, show outB R = digB s by rw [← HRE.out]; rfl] at HQ
    have hcv := run_convert_bytes_arg (P := Try.prog) wr 155 5 Try.underlying155 Try.underlying5 g 0 32 cap ((digB s).map fun b => (b.toNat : Int)) (by rw [List.length_map, digB_len]) (fun j hj => row_byte HQ j (by rw [digB_len]; exact hj)) 9 Try.underlying9
    rw [out_str] at hcv
    clear HQ
    go_wp2_with fail
    go_ret
    exact ⟨rfl, HK.out⟩
 ·have k1 : (0 : Int) ≤ (k : Int) := by omega
  have k2 : (k : Int) ≤ 64 := by omega
  have k3 : k < 64 := by omega
  refine wp_region_otail 8 (by kernel_rfl) (by kernel_rfl) ?_
  simp only [List.take_succ_cons, List.take_zero, List.drop_succ_cons, List.drop_zero]
  have hov_b := fun (E : Over w2) o => E.cell (b := b) o Hf.out.lt
  repeat (go_big_quiet_step (first | fail))
  all_goals (try unfold elV limbV)
  repeat (go_big_quiet_step (first | fail))
  all_goals (try unfold elV limbV)
  repeat (go_big_quiet_step (first | fail))
  all_goals (try unfold ciphV)
  refine wpQuiet_nil ?_
  rintro _ ⟨E, rfl⟩
  clear hov_b
  replace Hf := Lib.hid (Hf.out.up E.h)
  replace HK := Lib.hid (Kept.up HK.out E.h)
  replace HZS := sz HZS E.h.size
  obtain ⟨w3, hq9⟩ : ∃ W9 : World, E.w = W9 := ⟨_, rfl⟩
  rw [hq9] at Hf HK HZS ⊢
  clear hq9 E c73 k1 k2
  refine wpList_clearB rfl (.tmp 25) 155 rfl 5 (.int .u8 0) Try.underlying155 zeroB rfl rfl b (9 + k) (64 - k) (64 - k) rfl (foldC h N hb k) 266 Hf.out (by rw [foldC_len HL8.out HHB.out]; omega) _ HCL.out ?_
  intro wc hg9 hz9 hx9
  replace HK := Lib.hid (Kept.grown HK.out hg9.out (fun q9 e9 => by obtain rfl := Option.some.inj e9; exact Or.inr (rfl)))
  replace HZS := sz HZS hz9.out
  replace Hf := hx9
  clear hx9 hg9 hz9
  go_wp2_with fail
  have c8 := Hf.out.cell (foldC_n HL8.out)
  have HPC := Lib.hid (fun w => Press_any h (wordsB hb2 64) HL8.out (wordsB_len _ _) N (by omega) true w)
  have HWC := Lib.hid (fun w hx => words_any h N hb2 k HL8.out HB2.out b w hx)
  have HI8 := Lib.hid (show (Try.prog.info? 224).map (·.size) = some (wlV h).length by rw [wlV_len, HL8.out]; exact info8)
  rw [HFN.out] at HPC
  have HRL := Lib.hid (digW_len s)
  obtain ⟨R, hR⟩ : ∃ R, digW s = R := ⟨_, rfl⟩
  have HRE := Lib.hid hR
  rw [hR] at HPC HRL
  clear hR HFN HCL
  generalize wordsB hb2 64 = M at *
  go_simp
  refine wp_region_otail 14 (by kernel_rfl) (by kernel_rfl) ?_
  simp only [List.take_succ_cons, List.take_zero, List.drop_succ_cons, List.drop_zero]
  have hov_b := fun (E : Over wc) o => E.cell (b := b) o Hf.out.lt
  repeat (first | (refine wpQuiet_load rfl 224 (.tmp 29) rfl b 0 rfl (wlV h) _ (fun _ ⟨E, e⟩ => e ▸ foldC_h (Hf.out.up E.h)) Try.underlying224 rfl HI8.out ?_; simp only [Act.put, List.setIfInBounds_toArray, List.set_cons_succ, List.set_cons_zero]) | go_big_quiet_step (first | (go_at_call 205; exact calls_over (HWC.out _ (Hf.out.up (Over.h _)))) | (go_at_call 204; exact calls_over (HPC.out _))))
  all_goals (try unfold elV limbV)
  repeat (first | (refine wpQuiet_load rfl 224 (.tmp 29) rfl b 0 rfl (wlV h) _ (fun _ ⟨E, e⟩ => e ▸ foldC_h (Hf.out.up E.h)) Try.underlying224 rfl HI8.out ?_; simp only [Act.put, List.setIfInBounds_toArray, List.set_cons_succ, List.set_cons_zero]) | go_big_quiet_step (first | (go_at_call 205; exact calls_over (HWC.out _ (Hf.out.up (Over.h _)))) | (go_at_call 204; exact calls_over (HPC.out _))))
  all_goals (try unfold elV limbV)
  repeat (first | (refine wpQuiet_load rfl 224 (.tmp 29) rfl b 0 rfl (wlV h) _ (fun _ ⟨E, e⟩ => e ▸ foldC_h (Hf.out.up E.h)) Try.underlying224 rfl HI8.out ?_; simp only [Act.put, List.setIfInBounds_toArray, List.set_cons_succ, List.set_cons_zero]) | go_big_quiet_step (first | (go_at_call 205; exact calls_over (HWC.out _ (Hf.out.up (Over.h _)))) | (go_at_call 204; exact calls_over (HPC.out _))))
  all_goals (try unfold ciphV)
  refine wpQuiet_nil ?_
  rintro _ ⟨E, rfl⟩
  clear hov_b
  replace Hf := Lib.hid (Hf.out.up E.h)
  replace HK := Lib.hid (Kept.up HK.out E.h)
  replace HZS := sz HZS E.h.size
  obtain ⟨w4, hq9⟩ : ∃ W9 : World, E.w = W9 := ⟨_, rfl⟩
  rw [hq9] at Hf HK HZS ⊢
  clear hq9 E c8 HPC HWC HI8
  have HRI := Lib.hid (show (Try.prog.info? 224).map (·.size) = some (wlV R).length by rw [wlV_len, HRL.out]; exact info8)
  obtain ⟨wz5, hq5, hg9, hz9, hx9⟩ := puts Hf 0 (wlV R) _ (foldC_puth HL8.out R HRL.out)
  refine wpList_store_mid rfl 224 (.tmp 39) (.tmp 37) rfl b 0 (wlV R).toArray rfl rfl (Hf.out.there (by rw [foldC_len HL8.out HB2.out, List.size_toArray, wlV_len, HRL.out]; decide)) (by simpa using HRI.out) (all_oneCell_toArray (wl_one R)) ?_
  rw [List.toList_toArray, hq5]
  replace HK := Lib.hid (Kept.grown HK.out hg9.out (fun q9 e9 => by obtain rfl := Option.some.inj e9; exact Or.inr (rfl)))
  replace HZS := sz HZS hz9.out
  replace Hf := hx9
  clear hx9 hg9 hz9 HL8 hq5
  obtain ⟨i9, hi9, hz90, hz91, hz92⟩ := info_parts infoByte
  go_wp2_with (at_make; refine wpList_make_own _ rfl _ _ 155 rfl (wz5.heap.size) 5 i9 _ 1 Try.underlying155 hi9 hz90 hz91 _ _ _ (32) rfl rfl ?c1 ?c2 ?c3 ?c4 ?_)
  case c1 => rfl
  case c2 => rw [hz92]; omega
  case c3 => unfold maxLen; omega
  case c4 => have g0 := HZS.out; omega
  intro w5 hown9 hg9
  have hb9 : Below wz5.heap.size wz5 w5 := (Below.refl _ _).grown hg9 (Nat.le_refl _) (fun q hq => by cases hq)
  replace Hf := Lib.hid (Hf.out.up hb9)
  replace HK := Lib.hid (Kept.up HK.out hb9)
  replace HZS := sz HZS hb9.size
  have Hr : Hid (RowO (wz5.heap.size) w5 5 1 (.slice (some ⟨wz5.heap.size, 0, none⟩) 0 (32)) 0 []) := Lib.hid hown9
  clear hb9 hown9 hg9 hi9 hz90 hz91 hz92
  go_wp2_with (refine wpList_load_mid rfl 224 (.tmp 43) rfl b 0 rfl (wlV R) _ (foldC_h Hf.out) Try.underlying224 rfl HRI.out ?_)
  go_loopw [45, 3] (fun c v wr => ∃ i g cap : Nat, i ≤ 8 ∧ c = .int .i64 i ∧ v = .slice (some ⟨g, 0, none⟩) (4 * i) cap ∧ Hid (RowO wz5.heap.size wr 5 1 (.slice (some ⟨g, 0, none⟩) (4 * i) cap) (4 * i) (byteCells (outB (R.take i)))) ∧ Hid (Kept (fun q9 => q9 = b) w wr)) (fun c _ _ => 8 - (RowKit.intOf c).toNat)
  case atStart => exact ⟨0, _, _, by omega, rfl, rfl, Hr, HK⟩
  case round =>
   obtain ⟨i, g, cap, hi, rfl, rfl, HQ, HK1⟩ := hrel
   clear HK Hr Hf
   have HK := HK1
   have Hr := HQ
   clear HK1 HQ
   have HSW := Lib.hid HK.out.size
   have HSM := Lib.hid (Hr.out.lt g rfl)
   replace HZS := sz HZS HSW.out
   replace HZS := sz HZS HSM.out
   by_cases hi8 : i < 8
   ·have hix := fun W => run_index_arr (P := Try.prog) W 224 221 .u32 8 (wlV R) i _ (wlV_get R i (by rw [HRL.out]; exact hi8)) Try.underlying224 (by rw [wlV_len, HRL.out]) infoW Try.underlying221
    have HON := Lib.hid (out_snoc R i (by rw [HRL.out]; exact hi8))
    have hX := (R.getD i 0).isLt
    generalize R.getD i 0 = X at *
    go_upto_region 8 with (fail)
    clear hix
    obtain ⟨i9, hi9, hz90, hz91, hz92⟩ := info_parts infoByte
    go_wp2_with (at_builtin; refine wpList_pushM (wz5.heap.size) wr (by have g0 := HZS.out; omega) rfl _ _ 155 rfl 5 i9 _ 1 1 4 Try.underlying155 hi9 hz90 hz91 hz92 rfl (by omega) (by omega) ((.slice (some ⟨g, 0, none⟩) (4 * i) cap)) ((4 * i)) ((byteCells (outB (R.take i)))) rfl Hr.out _ _ _ rfl rfl rfl (by simp [Value.oneCell']) (by omega) (by unfold maxLen; omega) ?_)
    intro g6 c6 w6 hown9 hg9
    replace HK := Lib.hid (Kept.grown HK.out hg9 (fun q hq => Or.inl (Nat.le_trans (show w.heap.size ≤ wz5.heap.size by have g0 := HZS.out; omega) (Hr.out.lt q hq).1)))
    replace HZS := sz HZS hg9.size
    clear Hr
    have Hr := Lib.hid hown9
    clear hown9 hg9 hi9 hz90 hz91 hz92
    have HQ := Lib.hid (Hr.out.eq (ys := byteCells (outB (R.take (i + 1)))) (m := 4 * (i + 1)) (by rw [HON.out]) rfl)
    go_wp2_with fail
    go_roundw
    case rel => exact ⟨i + 1, _, _, by omega, by go_num, rfl, HQ, HK⟩
    case measure => simp [RowKit.intOf]; omega
   ·have hi8' : i = 8 := by omega
    subst hi8'
    have HQ := Hr.out
    rw [out_take8 R HRL.out, show outB R = digB s by rw [← HRE.out]; rfl] at HQ
    have hcv := run_convert_bytes_arg (P := Try.prog) wr 155 5 Try.underlying155 Try.underlying5 g 0 32 cap ((digB s).map fun b => (b.toNat : Int)) (by rw [List.length_map, digB_len]) (fun j hj => row_byte HQ j (by rw [digB_len]; exact hj)) 9 Try.underlying9
    rw [out_str] at hcv
    clear HQ
    go_wp2_with fail
    go_ret
    exact ⟨rfl, HK.out⟩
end Go.Proofs.Ytjmeakfjfpnciaa
namespace Go.Proofs.Ytjmeakfjfpnciaa
open Go.RowKit Go.Lib
theorem FoldAt.up {W W' : World} {b : Nat} {s : List UInt8} (h : FoldAt W b s) (hb : Below W.heap.size W W') : FoldAt W' b s :=
 let ⟨h1, n, hb1, k, hx, h2⟩ := h
 ⟨h1, n, hb1, k, hx.up hb, h2⟩
theorem joinL_eq (label : ByteArray) (ps : List ByteArray) : joinL label ps = (label :: ps).flatMap pfxL := by unfold joinL; rw [List.flatMap_cons]
theorem join_snoc (l : List ByteArray) (j : Nat) (h : j < l.length) : (l.take (j + 1)).flatMap pfxL = (l.take j).flatMap pfxL ++ (fourL l[j].size ++ bytesOf l[j]) := by
 rw [List.take_succ_eq_append_getElem h, List.flatMap_append]
 simp [pfxL]
theorem join_len (l : List ByteArray) (j : Nat) (h : j < l.length) : ((l.take j).flatMap pfxL).length + 4 + l[j].size ≤ (l.flatMap pfxL).length := by
 have e : l.flatMap pfxL = (l.take (j + 1)).flatMap pfxL ++ (l.drop (j + 1)).flatMap pfxL := by rw [← List.flatMap_append, List.take_append_drop]
 rw [e, join_snoc l j h, List.length_append, List.length_append, List.length_append, bytesOf_len, show (fourL l[j].size).length = 4 from rfl]
 omega
theorem fourS_bytes (n : Nat) : bytesOf (fourS n) = fourL n := rfl
theorem fold0 {W : World} {b : Nat} (h : Bx W b 266 (foldC h0B 0 z64 0)) : FoldAt W b [] := ⟨h0B, 0, z64, 0, h, rfl, Fold.nil z64 rfl, Or.inl rfl⟩
theorem join_ge (l : List ByteArray) : 4 * l.length ≤ (l.flatMap pfxL).length := by
 induction l with
 | nil => exact Nat.le_refl _
 | cons x l ih => rw [List.flatMap_cons, List.length_append, List.length_cons]; have : 4 ≤ (pfxL x).length := by unfold pfxL; rw [List.length_append]; exact Nat.le_add_right 4 _
                  omega
theorem tag_any (label : ByteArray) (ps : List ByteArray) (n : Nat) (hpn : ps.length = n) (hsz : (joinL label ps).length < 2305843009213693952) (a : Option Addr) (c : Nat) (w : World) (hX : Sl w w.heap.size a (ps.map Value.string)) :
  Calls Try.prog 158 #[.string label, .slice a n c] w fun e w' => e = .returned (.string (tagS label ps)) ∧ Below w.heap.size w w' := by
 have HPN := Lib.hid hpn
 have HSZ := Lib.hid (show ((label :: ps).flatMap pfxL).length < 2305843009213693952 from joinL_eq label ps ▸ hsz)
 have HX := Lib.hid hX
 have hn6 : n < 1152921504606846976 := by
  have := join_ge (label :: ps)
  rw [← joinL_eq, List.length_cons, hpn] at this
  omega
 clear hpn hsz hX
 have hz0 : Try.zeroCells266 = (begC (zw 8)).toArray := by kernel_rfl
 have HI := Lib.hid (show (Try.prog.info? 266).map (·.size) = some (foldC h0B 0 z64 0).length from infoF)
 have HZ := Lib.hid (show (begC (zw 8)).length = (foldC h0B 0 z64 0).length from rfl)
 go_enter Try.func158, Try.ntmps158
 go_wp2_with fail
 refine (begin_any w).mono ?_
 rintro e w1 ⟨rfl, hb9⟩
 have HB := Lib.hid hb9
 have HZS := Lib.hid hb9.size
 clear hb9
 have HFB := Lib.hid HB.out.size
 go_upto_region 2 with (refine wpList_store_new rfl 266 266 (.tmp 5) (.tmp 8) rfl (begC (zw 8)) (foldC h0B 0 z64 0) rfl rfl HI.out HZ.out (foldC_one _ _ _ _) ?_)
 obtain ⟨w2, hq2, hb9, hz9, Hf⟩ := new1 w1 266 (foldC h0B 0 z64 0)
 rw [hq2]
 clear hq2
 replace HB := hbu HB hb9
 replace HZS := sz HZS hz9.out
 clear hb9 hz9 hz0 HI HZ
 have HF := Lib.hid (fold0 Hf.out)
 clear Hf HZS
 generalize w1.heap.size = fb at *
 go_wp2_with fail
 go_loopw [6] (fun c wr => ∃ j : Nat, j ≤ n + 1 ∧ c = .int .i64 ((j : Int) - 1) ∧ Hid (FoldAt wr fb (((label :: ps).take j).flatMap pfxL)) ∧ Hid (Below w.heap.size w wr)) (fun c _ => (n - RowKit.intOf c).toNat)
 case atStart => exact ⟨0, by omega, rfl, HF, HB⟩
 case round =>
  clear HF HB
  obtain ⟨j, hj, rfl, HF, HB⟩ := hrel
  by_cases hj0 : j = 0
  ·subst hj0
   have hn0 : (0 : Int) ≤ (n : Int) := by omega
   have hl9 := join_len (label :: ps) 0 (by rw [List.length_cons, HPN.out]; omega)
   have hs9 := join_snoc (label :: ps) 0 (by rw [List.length_cons, HPN.out]; omega)
   rw [List.getElem_cons_zero] at hl9 hs9
   have HS9 := Lib.hid hs9
   have hl8 : (((label :: ps).take 0).flatMap pfxL).length + 4 + label.size < 2305843009213693952 := by have := HSZ.out; omega
   clear hs9 hl9
   generalize ((label :: ps).take 0).flatMap pfxL = s at *
   go_wp2_with fail
   refine (four_any label.size (by omega) _).mono ?_
   rintro e w5 ⟨rfl, hb5⟩
   have HF5 := Lib.hid (HF.out.up hb5)
   have HB5 := hbu HB hb5
   clear HF HB hb5
   go_wp2_with fail
   refine (take_any fb s (fourS label.size) (by rw [fourS_size]; omega) _ HF5.out).mono ?_
   rintro e w6 ⟨rfl, hf6, hk6⟩
   have HF6 := Lib.hid hf6
   have HB6 := Lib.hid (Below.keptP HB5.out hk6 HB5.out.size (fun q hq => hq ▸ HFB.out))
   clear HF5 HB5 hf6 hk6
   go_wp2_with fail
   refine (take_any fb _ label (by rw [List.length_append, fourS_bytes]; show s.length + 4 + label.size < _; omega) _ HF6.out).mono ?_
   rintro e w7 ⟨rfl, hf7, hk7⟩
   have HF7 := Lib.hid hf7
   have HB7 := Lib.hid (Below.keptP HB6.out hk7 HB6.out.size (fun q hq => hq ▸ HFB.out))
   clear HF6 HB6 hf7 hk7
   have HQ := Lib.hid (show FoldAt w7 fb (((label :: ps).take (0 + 1)).flatMap pfxL) from by rw [HS9.out, ← List.append_assoc]; exact HF7.out)
   clear HF7 HS9
   go_wp2_with fail
   exact ⟨⟨1, by omega, rfl, HQ, HB7⟩, by simp [RowKit.intOf]⟩
  ·by_cases hjn : j < n + 1
   ·obtain ⟨m, rfl⟩ : ∃ m, j = m + 1 := ⟨j - 1, by omega⟩
    have hmn : m < n := by omega
    have hmp : m < ps.length := by rw [HPN.out]; exact hmn
    have e1 : ((m + 1 : Nat) : Int) - 1 = (m : Int) := by omega
    rw [e1]
    clear e1
    obtain ⟨xb, xo, rfl, hxl, hxc⟩ := (HX.out.up HB.out).at m (by rw [List.length_map]; exact hmp)
    rw [List.getElem_map] at hxc
    obtain ⟨x, hx⟩ : ∃ x, ps[m] = x := ⟨_, rfl⟩
    rw [hx] at hxc
    have hl9 := join_len (label :: ps) (m + 1) (by rw [List.length_cons, HPN.out]; omega)
    have hs9 := join_snoc (label :: ps) (m + 1) (by rw [List.length_cons, HPN.out]; omega)
    rw [List.getElem_cons_succ, hx] at hl9 hs9
    have HS9 := Lib.hid hs9
    have hl8 : (((label :: ps).take (m + 1)).flatMap pfxL).length + 4 + x.size < 2305843009213693952 := by have := HSZ.out; omega
    clear hs9 hl9
    generalize ((label :: ps).take (m + 1)).flatMap pfxL = s at *
    go_wp2_with fail
    refine (four_any x.size (by omega) _).mono ?_
    rintro e w5 ⟨rfl, hb5⟩
    have HF5 := Lib.hid (HF.out.up hb5)
    have HB5 := hbu HB hb5
    clear HF HB hb5
    go_wp2_with fail
    refine (take_any fb s (fourS x.size) (by rw [fourS_size]; omega) _ HF5.out).mono ?_
    rintro e w6 ⟨rfl, hf6, hk6⟩
    have HF6 := Lib.hid hf6
    have HB6 := Lib.hid (Below.keptP HB5.out hk6 HB5.out.size (fun q hq => hq ▸ HFB.out))
    clear HF5 HB5 hf6 hk6
    go_wp2_with fail
    refine (take_any fb _ x (by rw [List.length_append, fourS_bytes]; show s.length + 4 + x.size < _; omega) _ HF6.out).mono ?_
    rintro e w7 ⟨rfl, hf7, hk7⟩
    have HF7 := Lib.hid hf7
    have HB7 := Lib.hid (Below.keptP HB6.out hk7 HB6.out.size (fun q hq => hq ▸ HFB.out))
    clear HF6 HB6 hf7 hk7
    have HQ := Lib.hid (show FoldAt w7 fb (((label :: ps).take ((m + 1) + 1)).flatMap pfxL) from by rw [HS9.out, ← List.append_assoc]; exact HF7.out)
    clear HF7 HS9
    go_wp2_with fail
    exact ⟨⟨m + 1 + 1, by omega, by go_num, HQ, HB7⟩, by simp [RowKit.intOf]; omega⟩
   ·have hjn' : j = n + 1 := by omega
    subst hjn'
    rw [List.take_of_length_le (by rw [List.length_cons, HPN.out]; exact Nat.le_refl _)] at HF
    have HEN := Lib.hid (fun w h => end_any fb ((label :: ps).flatMap pfxL) (by have := HSZ.out; omega) w h)
    have e1 : ((n + 1 : Nat) : Int) - 1 = (n : Int) := by omega
    rw [e1]
    clear e1
    go_wp2_with fail
    refine (HEN.out _ HF.out).mono ?_
    rintro e w5 ⟨rfl, hk5⟩
    have HB5 := Lib.hid (Below.keptP HB.out hk5 HB.out.size (fun q hq => hq ▸ HFB.out))
    clear hk5
    go_wp2_with fail
    go_ret
    exact ⟨rfl, HB5.out⟩
theorem Tag_any (label : ByteArray) (ps : List ByteArray) (n : Nat) (hpn : ps.length = n) (hsz : (joinL label ps).length < 2305843009213693952) (a : Option Addr) (c : Nat) (w : World) (hX : Sl w w.heap.size a (ps.map Value.string)) :
  Calls Try.prog 103 #[.string label, .slice a n c] w fun e w' => e = .returned (.string (tagS label ps)) ∧ Below w.heap.size w w' := by
 have HT := Lib.hid (tag_any label ps n hpn hsz a c w hX)
 clear hpn hsz hX
 go_enter Try.func103, Try.ntmps103
 go_wp2_with fail
 refine (HT.out).mono ?_
 rintro e w1 ⟨rfl, hb9⟩
 have HB := Lib.hid hb9
 have HZS := Lib.hid hb9.size
 clear hb9
 go_wp2_with fail
 go_ret
 exact ⟨rfl, HB.out⟩
end Go.Proofs.Ytjmeakfjfpnciaa
namespace Go.Proofs.Ytjmeakfjfpnciaa
open Go.RowKit
section
variable {P : Program} {ops : Array Oper} {S : World → Prop} {Q : Exit → Act → World → Prop} {k : Nat} {md : Region.Mode}
def wpAnyK (P : Program) (md : Region.Mode) (ops : Array Oper) (Q : Exit → Act → World → Prop) (S : World → Prop) (k : Nat) : Nat → Array Bool → Act → World → Prop
 | 0, listed, a, w => Region.ready md ops listed = [] ∧ Q .normal a w
 | fuel + 1, listed, a, w =>
  (Region.ready md ops listed = [] → Q .normal a w) ∧
  ∀ i ∈ Region.ready md ops listed, wpOp P ops Q i (fun a' w' => ((listed.setIfInBounds i true).getD k false = false → S w') ∧ wpAnyK P md ops Q S k fuel (listed.setIfInBounds i true) a' w') a w
theorem any_of_K : ∀ (fuel : Nat) (listed : Array Bool) (a : Act) (w : World), wpAnyK P md ops Q S k fuel listed a w → wpAny P md ops Q fuel listed a w
 | 0, _, _, _, h => h
 | fuel + 1, _, _, _, h => ⟨h.1, fun i hi => wpOp_mono (fun a' w' h' => any_of_K fuel _ a' w' h'.2) (h.2 i hi)⟩
theorem anyK_first {SS : World → Prop} (C : Array Bool → Prop) {i : Nat} {oi : Oper} {v : Value} (hi : ops[i]? = some oi) (hik : i ≠ k) (hsel : ∀ (j : Nat) (o : Oper) cs b, ops[j]? = some o → o.op ≠ .select cs b)
  (hQ : ∀ c a w, Q (.panic c) (a.put oi.dst v) w → Q (.panic c) a w)
  (hstep : ∀ listed j, C listed → i ∈ Region.ready md ops listed → j ∈ Region.ready md ops listed → j ≠ i → C (listed.setIfInBounds j true))
  (hSS : ∀ listed w, C listed → (listed.getD k false = false → S w) → SS w) :
  ∀ (fuel : Nat) (listed : Array Bool) (a : Act) (w : World),
   (∀ j oj, ops[j]? = some oj → j ≠ i → listed.getD j true = false → (∀ e ∈ oj.after, Region.binds md e = true → e.on ≠ i) → oi.apart ops oj = true) →
   i ∈ Region.ready md ops listed → C listed → YieldsIf P ops SS oi v a → (listed.getD k false = false → S w) →
   wpAnyK P md ops Q S k fuel (listed.setIfInBounds i true) (a.put oi.dst v) w → wpAnyK P md ops Q S k (fuel + 1) listed a w := by
 intro fuel
 induction fuel with
 | zero =>
  intro listed a w _ hr hC hy hS H
  refine ⟨fun h => (by rw [h] at hr; cases hr), fun j hj => ?_⟩
  by_cases hji : j = i
  ·subst hji; exact hy.wpOp hi (hSS listed w hC hS) ⟨fun h => hS (by rwa [getD_set_ne false hik] at h), H⟩
  ·have := ready_mono hj hji
   rw [H.1] at this
   cases this
 | succ fuel ih =>
  intro listed a w hfree hr hC hy hS H
  refine ⟨fun h => (by rw [h] at hr; cases hr), fun j hj => ?_⟩
  by_cases hji : j = i
  ·subst hji; exact hy.wpOp hi (hSS listed w hC hS) ⟨fun h => hS (by rwa [getD_set_ne false hik] at h), H⟩
  ·have h1 := H.2 j (ready_mono hj hji)
   obtain ⟨hjun, oj, hoj, hall⟩ := mem_ready.1 hj
   have hnot : ∀ e ∈ oj.after, Region.binds md e = true → e.on ≠ i := fun e he hb heq => by
    have h1 := hall e he hb
    have h0 := (mem_ready.1 hr).1
    rw [heq] at h1
    rcases Nat.lt_or_ge i listed.size with h' | h'
    ·simp [h'] at h0 h1; rw [h0] at h1; cases h1
    ·simp [Array.getElem?_eq_none h'] at h1
   have h2 := wpOp_putIf hoj (hfree j oj hoj hji hjun hnot) (fun cs b => hsel i oi cs b hi) (fun cs b => hsel j oj cs b hoj) hQ hy h1
   have hfree' : ∀ m om, ops[m]? = some om → m ≠ i → (listed.setIfInBounds j true).getD m true = false →
     (∀ e ∈ om.after, Region.binds md e = true → e.on ≠ i) → oi.apart ops om = true := fun m om hm hmi hun hno => by
    refine hfree m om hm hmi ?_ hno
    by_cases hjm : j = m
    ·subst hjm; exact hjun
    ·rw [getD_set_ne true hjm] at hun; exact hun
   have hkk : ((listed.setIfInBounds i true).setIfInBounds j true).getD k false = (listed.setIfInBounds j true).getD k false := by
    rw [Array.setIfInBounds_comm _ _ (Ne.symm hji), getD_set_ne false hik]
   have hr' := ready_mono hr (Ne.symm hji)
   refine wpOp_mono (fun a' w' h3 => ?_) h2
   have hS' : (listed.setIfInBounds j true).getD k false = false → S w' := fun h => h3.2.1 (by rw [hkk]; exact h)
   refine ⟨hS', ih (listed.setIfInBounds j true) a' w' hfree' hr' (hstep listed j hC hr hj hji) h3.1 hS' ?_⟩
   rw [Array.setIfInBounds_comm _ _ hji]
   exact h3.2.2
def chainB (md : Region.Mode) (ops : Array Oper) : Nat → List Nat → Bool
 | _, [] => true
 | i, j :: l => (match ops[j]? with | some o => o.after.any (fun e => Region.binds md e && e.on == i) | none => false) && chainB md ops j l
theorem chain_step {i j : Nat} {l : List Nat} {listed : Array Bool} : ∀ (i : Nat) (l : List Nat), chainB md ops i l = true → listed.getD i true = false → (∀ c ∈ l, listed.getD c true = false) → j ∈ Region.ready md ops listed → j ∉ l
 | _, [], _, _, _, _ => by simp
 | i, c :: l, hB, h0, hl, hj => by
  simp only [chainB, Bool.and_eq_true] at hB
  have ih := chain_step (listed := listed) (j := j) (i := i) (l := l) c l hB.2 (hl c (by simp)) (fun d hd => hl d (by simp [hd])) hj
  intro hm
  rcases List.mem_cons.1 hm with rfl | hm
  ·obtain ⟨_, o, ho, hall⟩ := mem_ready.1 hj
   have hB1 := hB.1
   rw [ho] at hB1
   simp only [Array.any_eq_true', Bool.and_eq_true, beq_iff_eq] at hB1
   obtain ⟨e, he, hb, hon⟩ := hB1
   have h1 := hall e he hb
   rw [hon] at h1
   rcases Nat.lt_or_ge i listed.size with h' | h'
   ·simp [h'] at h0 h1; rw [h0] at h1; cases h1
   ·simp [Array.getElem?_eq_none h'] at h1
  ·exact ih hm
inductive TreeK where
 | done : TreeK
 | q : Nat → TreeK → TreeK
 | e : Nat → List Nat → TreeK → TreeK
 | a : Nat → TreeK → TreeK
 | z : Nat → TreeK → TreeK
 | two : Nat → TreeK → Nat → TreeK → TreeK
def TreeK.qs : List Nat → TreeK → TreeK
 | [], t => t
 | i :: l, t => .q i (TreeK.qs l t)
def TreeK.size : TreeK → Nat
 | .done => 0
 | .q _ r => r.size + 1
 | .e _ _ r => r.size + 1
 | .a _ r => r.size + 1
 | .z _ r => r.size + 1
 | .two _ r _ _ => r.size + 1
def wpTreeK (P : Program) (ops : Array Oper) (S : World → Prop) (Q : Exit → Act → World → Prop) (k : Nat) : TreeK → Act → World → Prop
 | .done, a, w => Q .normal a w
 | .q i r, a, w => match ops[i]? with
  | none => False
  | some o => easyOp o = true ∧ wpQuiet P ops (fun _ => True) (fun a' => wpTreeK P ops S Q k r a' w) [o] a
 | .e i _ r, a, w => match ops[i]? with
  | none => False
  | some o => easyOp o = true ∧ wpQuiet P ops S (fun a' => wpTreeK P ops S Q k r a' w) [o] a
 | .a i r, a, w => wpOp P ops Q i (fun a' w' => (i ≠ k → S w') ∧ wpTreeK P ops S Q k r a' w') a w
 | .z i r, a, w => wpOp P ops Q i (fun a' w' => wpTreeK P ops S Q k r a' w') a w
 | .two i r j s, a, w => wpOp P ops Q i (fun a' w' => (i ≠ k → S w') ∧ wpTreeK P ops S Q k r a' w') a w ∧ wpOp P ops Q j (fun a' w' => (j ≠ k → S w') ∧ wpTreeK P ops S Q k s a' w') a w
def treeKB (md : Region.Mode) (ops : Array Oper) (k : Nat) : TreeK → Array Bool → Bool
 | .done, listed => (Region.ready md ops listed).isEmpty
 | .q i r, listed => (Region.ready md ops listed).contains i && Region.free md ops listed i && !(i == k) && treeKB md ops k r (listed.setIfInBounds i true)
 | .e i ch r, listed => (Region.ready md ops listed).contains i && Region.free md ops listed i && !(i == k) && chainB md ops i (ch ++ [k]) && (ch ++ [k]).all (fun c => !listed.getD c true) && !(i ∈ ch ++ [k]) && treeKB md ops k r (listed.setIfInBounds i true)
 | .a i r, listed => decide (Region.ready md ops listed = [i]) && treeKB md ops k r (listed.setIfInBounds i true)
 | .z i r, listed => decide (Region.ready md ops listed = [i]) && listed.getD k false && !(i == k) && treeKB md ops k r (listed.setIfInBounds i true)
 | .two i r j s, listed => decide (Region.ready md ops listed = [i, j]) && decide (r.size = s.size) && treeKB md ops k r (listed.setIfInBounds i true) && treeKB md ops k s (listed.setIfInBounds j true)
theorem listed_k {listed : Array Bool} {i : Nat} (hi : i ∈ Region.ready md ops listed) {w' : World} (h : i ≠ k → S w') : (listed.setIfInBounds i true).getD k false = false → S w' := by
 intro h9
 refine h (fun e => ?_)
 subst e
 have h0 := (mem_ready.1 hi).1
 rcases Nat.lt_or_ge i listed.size with h' | h'
 ·simp [h'] at h9
 ·simp [h'] at h0
theorem K_of_tree (hsel : Region.noSelect ops = true) (hQ : ∀ c a d v w, Q (.panic c) (a.put d v) w → Q (.panic c) a w) :
  ∀ (t : TreeK) (listed : Array Bool) (a : Act) (w : World), (listed.getD k false = false → S w) → treeKB md ops k t listed = true → wpTreeK P ops S Q k t a w → wpAnyK P md ops Q S k t.size listed a w
 | .done, listed, a, w, _, hB, h => ⟨by simpa [treeKB] using hB, h⟩
 | .q i r, listed, a, w, hS, hB, h => by
  unfold wpTreeK at h
  split at h
  ·cases h
  ·rename_i o ho
   obtain ⟨hp, hq⟩ := h
   obtain ⟨v, hy, hK⟩ := yieldsIf_easy hp hq
   simp only [treeKB, Bool.and_eq_true, Bool.not_eq_true', beq_eq_false_iff_ne] at hB
   exact anyK_first (fun _ => True) ho hB.1.2 (Region.noSelect_spec hsel) (fun c a w hq => hQ c a _ _ w hq) (fun _ _ _ _ _ _ => trivial) (fun _ _ _ _ => trivial) _ listed a w (Region.free_spec ho hB.1.1.2) (by simpa using hB.1.1.1) trivial hy hS
    (K_of_tree hsel hQ r _ _ w (fun h9 => hS (by rwa [getD_set_ne false hB.1.2] at h9)) hB.2 hK)
 | .e i ch r, listed, a, w, hS, hB, h => by
  unfold wpTreeK at h
  split at h
  ·cases h
  ·rename_i o ho
   obtain ⟨hp, hq⟩ := h
   obtain ⟨v, hy, hK⟩ := yieldsIf_easy hp hq
   simp only [treeKB, Bool.and_eq_true, Bool.not_eq_true', beq_eq_false_iff_ne, List.all_eq_true, decide_eq_false_iff_not] at hB
   obtain ⟨⟨⟨⟨⟨⟨h1, h2⟩, h3⟩, h4⟩, h5⟩, h6⟩, h7⟩ := hB
   refine anyK_first (SS := S) (fun l => ∀ c ∈ ch ++ [k], l.getD c true = false) ho h3 (Region.noSelect_spec hsel) (fun c a w hq => hQ c a _ _ w hq) ?_ ?_ _ listed a w (Region.free_spec ho h2) (by simpa using h1) h5 hy hS
    (K_of_tree hsel hQ r _ _ w (fun h9 => hS (by rwa [getD_set_ne false h3] at h9)) h7 hK)
   ·intro l j hC hr hj hji c hc
    have hn := chain_step (i := i) (l := ch) (j := j) i (ch ++ [k]) h4 (mem_ready.1 hr).1 hC hj
    rw [getD_set_ne true (fun e => hn (by rw [e]; exact hc))]
    exact hC c hc
   ·intro l w' hC h9
    refine h9 ?_
    have := hC k (by simp)
    rcases Nat.lt_or_ge k l.size with h' | h'
    ·simp [h'] at this ⊢; exact this
    ·simp [h'] at this
 | .a i r, listed, a, w, hS, hB, h => by
  simp only [treeKB, Bool.and_eq_true, decide_eq_true_eq] at hB
  unfold wpTreeK at h
  refine ⟨fun h9 => (by rw [hB.1] at h9; cases h9), fun j hj => ?_⟩
  have hj' : j = i := by rw [hB.1] at hj; simpa using hj
  subst hj'
  exact wpOp_mono (fun a' w' ⟨hS', h'⟩ => ⟨listed_k hj hS', K_of_tree hsel hQ r _ a' w' (listed_k hj hS') hB.2 h'⟩) h
 | .z i r, listed, a, w, hS, hB, h => by
  simp only [treeKB, Bool.and_eq_true, decide_eq_true_eq, Bool.not_eq_true', beq_eq_false_iff_ne] at hB
  unfold wpTreeK at h
  refine ⟨fun h9 => (by rw [hB.1.1.1] at h9; cases h9), fun j hj => ?_⟩
  have hj' : j = i := by rw [hB.1.1.1] at hj; simpa using hj
  subst hj'
  have hk : ∀ W : World, (listed.setIfInBounds j true).getD k false = false → S W := fun W h9 => by
   rw [getD_set_ne false hB.1.2, hB.1.1.2] at h9
   cases h9
  exact wpOp_mono (fun a' w' h' => ⟨hk w', K_of_tree hsel hQ r _ a' w' (hk w') hB.2 h'⟩) h
 | .two i r j s, listed, a, w, hS, hB, h => by
  simp only [treeKB, Bool.and_eq_true, decide_eq_true_eq] at hB
  obtain ⟨⟨⟨h1, h2⟩, h3⟩, h4⟩ := hB
  unfold wpTreeK at h
  refine ⟨fun h9 => (by rw [h1] at h9; cases h9), fun m hm => ?_⟩
  rcases (by rw [h1] at hm; simpa using hm : m = i ∨ m = j) with rfl | rfl
  ·exact wpOp_mono (fun a' w' ⟨hS', h'⟩ => ⟨listed_k hm hS', K_of_tree hsel hQ r _ a' w' (listed_k hm hS') h3 h'⟩) h.1
  ·exact wpOp_mono (fun a' w' ⟨hS', h'⟩ => ⟨listed_k hm hS', by rw [h2]; exact K_of_tree hsel hQ s _ a' w' (listed_k hm hS') h4 h'⟩) h.2
theorem wp_region_treek {id : Nat} {a : Act} {w : World} {l : List Oper} (S : World → Prop) (k : Nat) (t : TreeK) (hm : P.follows .mixedOrders = true)
  (hB : (Region.noSelect l.toArray && decide (t.size = l.toArray.size) && treeKB .any l.toArray k t (Array.replicate l.toArray.size false)) = true)
  (hQ : ∀ c a d v w, Q (.panic c) (a.put d v) w → Q (.panic c) a w) (hS : S w.drew) (h : wpTreeK P l.toArray S Q k t a w.drew) : (Code.region id l.toArray true).wp P Q a w := by
 simp only [Bool.and_eq_true, decide_eq_true_eq] at hB
 refine wp_region_any hm (any_of_K (S := S) (k := k) _ _ _ _ ?_)
 have := K_of_tree hB.1.1 hQ t _ a _ (fun _ => hS) hB.2 h
 rw [hB.1.2] at this
 exact this
theorem treek_q {l : List Oper} {i : Nat} {r : TreeK} {o : Oper} {a : Act} {w : World} (ho : l[i]? = some o) (hp : easyOp o = true) (h : wpQuiet P l.toArray (fun _ => True) (fun a' => wpTreeK P l.toArray S Q k r a' w) [o] a) :
  wpTreeK P l.toArray S Q k (.q i r) a w := by
 unfold wpTreeK
 rw [List.getElem?_toArray, ho]
 exact ⟨hp, h⟩
theorem treek_e {l ch : List _} {i : Nat} {r : TreeK} {o : Oper} {a : Act} {w : World} (ho : l[i]? = some o) (hp : easyOp o = true) (h : wpQuiet P l.toArray S (fun a' => wpTreeK P l.toArray S Q k r a' w) [o] a) :
  wpTreeK P l.toArray S Q k (.e i ch r) a w := by
 unfold wpTreeK
 rw [List.getElem?_toArray, ho]
 exact ⟨hp, h⟩
theorem treek_a {l : List Oper} {i : Nat} {r : TreeK} {o : Oper} {a : Act} {w : World} (ho : l[i]? = some o)
  (h : ∀ K : Act → World → Prop, (∀ a w, (i ≠ k → S w) ∧ wpTreeK P l.toArray S Q k r a w → K a w) → if Region.wanted o (yielded l.toArray a.tmps) = true then Oper.wp P o a w K Q else K (a.put o.dst undef) w) :
  wpTreeK P l.toArray S Q k (.a i r) a w := by
 unfold wpTreeK
 exact wpOp_step (by rw [List.getElem?_toArray, ho]) h
theorem treek_z {l : List Oper} {i : Nat} {r : TreeK} {o : Oper} {a : Act} {w : World} (ho : l[i]? = some o)
  (h : ∀ K : Act → World → Prop, (∀ a w, wpTreeK P l.toArray S Q k r a w → K a w) → if Region.wanted o (yielded l.toArray a.tmps) = true then Oper.wp P o a w K Q else K (a.put o.dst undef) w) :
  wpTreeK P l.toArray S Q k (.z i r) a w := by
 unfold wpTreeK
 exact wpOp_step (by rw [List.getElem?_toArray, ho]) h
theorem treek_two {l : List Oper} {i j : Nat} {r s : TreeK} {o u : Oper} {a : Act} {w : World} (ho : l[i]? = some o) (hu : l[j]? = some u)
  (h : ∀ K : Act → World → Prop, (∀ a w, (i ≠ k → S w) ∧ wpTreeK P l.toArray S Q k r a w → K a w) → if Region.wanted o (yielded l.toArray a.tmps) = true then Oper.wp P o a w K Q else K (a.put o.dst undef) w)
  (h' : ∀ K : Act → World → Prop, (∀ a w, (j ≠ k → S w) ∧ wpTreeK P l.toArray S Q k s a w → K a w) → if Region.wanted u (yielded l.toArray a.tmps) = true then Oper.wp P u a w K Q else K (a.put u.dst undef) w) :
  wpTreeK P l.toArray S Q k (.two i r j s) a w := by
 unfold wpTreeK
 exact ⟨wpOp_step (by rw [List.getElem?_toArray, ho]) h, wpOp_step (by rw [List.getElem?_toArray, hu]) h'⟩
theorem treek_end {a : Act} {w : World} (h : Q .normal a w) : wpTreeK P ops S Q k .done a w := h
end
end Go.Proofs.Ytjmeakfjfpnciaa
namespace Go.Proofs.Ytjmeakfjfpnciaa
open Go.RowKit
theorem rot1_nat (x : BitVec 32) : ((rot1 x).toNat : Int) = (x.toNat : Int) / 2 + (x.toNat : Int) % 2 * 2147483648 := by
 have := x.isLt
 unfold rot1
 rw [BitVec.toNat_ofNat, Nat.mod_eq_of_lt (by omega)]
 omega
theorem right_any (x : BitVec 32) (n : Nat) (hn : n ≤ 16) (w : World) : Calls Try.prog 207 #[.int .u32 (x.toNat : Int), .int .i64 (n : Int)] w fun e w' => e = .returned (.int .u32 ((rotB x n).toNat : Int)) ∧ Below w.heap.size w w' := by
 have HR := Lib.hid (rotI_eq x n hn)
 go_enter Try.func207, Try.ntmps207
 go_wp2_with fail
 go_loop [0, 5] (fun v c => ∃ j : Nat, j ≤ n ∧ c = .int .i64 j ∧ v = .int .u32 ((rotI j x).toNat : Int)) (fun _ c => n - (intOf c).toNat)
 case atStart => exact ⟨0, by omega, rfl, rfl⟩
 case round =>
  obtain ⟨j, hj, rfl, rfl⟩ := hrel
  by_cases hjn : j < n
  ·have hr := rot1_nat (rotI j x)
   have HS := Lib.hid (show rotI (j + 1) x = rot1 (rotI j x) from rfl)
   generalize rot1 (rotI j x) = z at *
   generalize rotI j x = y at *
   have hy := y.isLt
   have HRN := Lib.hid hr
   clear hr
   go_wp2_with fail
   go_round
   case rel => exact ⟨j + 1, by omega, by go_num, by rw [HS.out, HRN.out]⟩
   case measure => simp [intOf]; omega
  ·have hjn' : j = n := by omega
   subst hjn'
   go_wp2_with fail
   go_ret
   exact ⟨by rw [HR.out]; rfl, Below.refl _ _⟩
def hexN (d : Nat) : Nat := if d < 10 then 48 + d else 87 + d
def hexB : ByteArray := ⟨#[48, 49, 50, 51, 52, 53, 54, 55, 56, 57, 97, 98, 99, 100, 101, 102]⟩
theorem hex_tab : ∀ k : Fin 16, (hexB.data.getD k.1 0).toNat = hexN k.1 := by decide +kernel
theorem hex_at (i : Nat) (h : i < hexB.size) : (hexB[i].toNat : Int) = (hexN i : Int) := by
 rw [← hex_tab ⟨i, h⟩]
 congr 2
 unfold Array.getD
 exact (dif_pos h).symm
theorem hexN_inj {i d : Nat} (hi : i < 16) (hd : d < 16) (h : hexN i = hexN d) : i = d := by unfold hexN at h; split at h <;> split at h <;> omega
theorem digit_any (d : Nat) (hd : d < 16) (w : World) : Calls Try.prog 212 #[.int .u8 (hexN d : Int)] w fun e w' => e = .returned (.int .i64 (d : Int)) ∧ Below w.heap.size w w' := by
 have HI := Lib.hid (fun (i : Nat) (hi : i < 16) => hexN_inj (d := d) hi hd)
 obtain ⟨c, hc⟩ : ∃ c, hexN d = c := ⟨_, rfl⟩
 have HC := Lib.hid hc
 rw [hc] at HI ⊢
 clear hc
 go_enter Try.func212, Try.ntmps212
 go_wp2_with fail
 go_loop [3] (fun v => ∃ j : Nat, j ≤ d ∧ v = .int .i64 j) (fun v => d - (intOf v).toNat)
 case atStart => exact ⟨0, by omega, rfl⟩
 case round =>
  obtain ⟨j, hj, rfl⟩ := hrel
  have hj6 : j < 16 := by omega
  have hb := hex_at j hj6
  unfold hexB at hb
  by_cases hjd : j = d
  ·have hcj : ((hexN j : Int) == (c : Int)) = true := by rw [hjd, HC.out]; simp
   subst hjd
   clear HC
   go_wp2_with fail
   go_ret
   exact ⟨rfl, Below.refl _ _⟩
  ·have hcj : ((hexN j : Int) == (c : Int)) = false := by
    rw [beq_eq_false_iff_ne]
    intro e
    exact hjd (HI.out j hj6 (by omega))
   have hjd2 : j < d := by omega
   clear hjd
   go_wp2_with fail
   exact ⟨⟨j + 1, by omega, by go_num⟩, by simp [intOf]; omega⟩
def rowB (r : Nat) : ByteArray := ⟨((List.range 16).map fun i => UInt8.ofNat (hexN (ordN r i))).toArray⟩
def rowsV : List Value := (List.range 10).map fun r => .string (rowB r)
theorem rows_any (w : World) : Calls Try.prog 210 #[] w fun e w' => ∃ b, e = .returned (.slice (some ⟨b, 0, none⟩) 10 10) ∧ Bx w' b 9 rowsV ∧ w.heap.size ≤ b ∧ Below w.heap.size w w' := by
 go_enter Try.func210, Try.ntmps210
 go_wp2_with fail
 go_ret
 refine ⟨_, rfl, Bx.new w _ rowsV _ ?_, Nat.le_refl _, (Below.refl _ _).alloc (Nat.le_refl _) _⟩
 kernel_rfl
def quad (i : Nat) : List Value := [.int .i64 (cA i : Int), .int .i64 (cB i : Int), .int .i64 (cC i : Int), .int .i64 (cD i : Int)]
def quads : List Value := (List.range 8).flatMap quad
theorem quads_at : ∀ (i : Fin 8) (k : Fin 4), quads[i.1 * 4 + k.1]? = (quad i.1)[k.1]? := by
 intro i k
 have h := flat_at quad 4 (fun _ => rfl) (List.range 8) i.1 k.1 (by simp) k.2
 rw [List.getElem_range] at h
 exact h
theorem infoQ : (Try.prog.info? 289).map (·.size) = some 32 := by kernel_rfl
theorem rfour_any (i : Nat) (hi : i < 8) (w : World) : Calls Try.prog 211 #[.int .i64 (i : Int)] w fun e w' => e = .returned (.agg #[.int .i64 (cA i : Int), .int .i64 (cB i : Int), .int .i64 (cC i : Int), .int .i64 (cD i : Int)]) ∧ Below w.heap.size w w' := by
 have q0 := quads_at ⟨i, hi⟩ 0
 have q1 := quads_at ⟨i, hi⟩ 1
 have q2 := quads_at ⟨i, hi⟩ 2
 have q3 := quads_at ⟨i, hi⟩ 3
 have HQ0 := Lib.hid (show quads[i * 4]? = some (.int .i64 (cA i : Int)) from q0)
 have HQ1 := Lib.hid (show quads[i * 4 + 1]? = some (.int .i64 (cB i : Int)) from q1)
 have HQ2 := Lib.hid (show quads[i * 4 + 2]? = some (.int .i64 (cC i : Int)) from q2)
 have HQ3 := Lib.hid (show quads[i * 4 + 3]? = some (.int .i64 (cD i : Int)) from q3)
 clear q0 q1 q2 q3
 generalize cA i = A at *
 generalize cB i = B at *
 generalize cC i = C at *
 generalize cD i = D at *
 go_enter Try.func211, Try.ntmps211
 go_upto_region 1 with (fail)
 obtain ⟨w1, hq1, hb9, hz9, Hr⟩ := new1 w 284 [.int .i64 0, .int .i64 0, .int .i64 0, .int .i64 0]
 rw [hq1]
 clear hq1
 have HB := Lib.hid hb9
 have HZS := hz9
 clear hb9 hz9
 have r_ := Hr.out.c4
 go_upto_region 2 with (refine wpList_store_new rfl 289 289 (.tmp 3) (.tmp 12) rfl (List.replicate 32 (.int .i64 0)) quads rfl rfl infoQ rfl (by decide) ?_)
 clear r_
 obtain ⟨w2, hq2, hb9, hz9, Hq⟩ := new1 w1 289 (quads)
 rw [hq2]
 clear hq2
 replace Hr := Lib.hid (Hr.out.up hb9)
 replace HB := hbu HB hb9
 replace HZS := sz HZS hz9.out
 clear hb9 hz9
 have r_ := Hr.out.c4
 have c0 := Hq.out.cell HQ0.out
 have c1 := Hq.out.cell HQ1.out
 have c2 := Hq.out.cell HQ2.out
 have c3 := Hq.out.cell HQ3.out
 have a1 : (0 : Int) ≤ (i : Int) := by omega
 have a2 : (i : Int) < 8 := by omega
 have f3_r := Hr.out.frozen
 have o3_r_ := r_; clear r_
 obtain ⟨w3, hq3, hg9, hz9, hx9⟩ := put4 Hr 0 (.int .i64 (A : Int)) 1 (.int .i64 (B : Int)) 2 (.int .i64 (C : Int)) 3 (.int .i64 (D : Int)) [.int .i64 (A : Int), .int .i64 (B : Int), .int .i64 (C : Int), .int .i64 (D : Int)] rfl
 replace Hq := Lib.hid (Hq.out.grown hg9.out (sne (by have g0 := HZS.out; omega)))
 replace HB := hbg HB hg9 (by have g0 := HZS.out; omega)
 replace HZS := sz HZS hz9.out
 replace Hr := hx9
 clear hx9 hg9 hz9
 have r_ := Hr.out.c4
 go_wp2_with fail
 clear hq3 o3_r_ f3_r
 simp [bodyPost, results, Try.results211, go_sem, r_]
 exact HB.out
end Go.Proofs.Ytjmeakfjfpnciaa
namespace Go.Proofs.Ytjmeakfjfpnciaa
open Go.RowKit
def moreV (m : Option Nat) : Int := match m with | some k => (k : Int) | none => -1
def stpV (s : Stp) : List Value := [.int .i64 (s.a : Int), .int .i64 (s.o : Int), .int .i64 (moreV s.m), .int .i64 (s.t : Int)]
theorem stpV_len (s : Stp) : (stpV s).length = 4 := rfl
def halfL (r i : Nat) : List Stp := ((List.range r).flatMap rowL) ++ ((List.range i).flatMap fun i => quartL i (ordN r (2 * i)) (ordN r (2 * i + 1)))
theorem halfL_succ (r i : Nat) : halfL r (i + 1) = halfL r i ++ quartL i (ordN r (2 * i)) (ordN r (2 * i + 1)) := by
 unfold halfL
 rw [List.range_succ (n := i), List.flatMap_append, ← List.append_assoc]
 simp
theorem halfL_row (r : Nat) : halfL r 8 = halfL (r + 1) 0 := by
 unfold halfL
 rw [List.range_succ (n := r), List.flatMap_append]
 simp [rowL]
theorem halfL_all : halfL 10 0 = allL := by unfold halfL allL; simp
theorem infoStep : (Try.prog.info? 279).map (fun i => (i.zero, i.size, i.bytes)) = some (some (.agg #[.int .i64 0, .int .i64 0, .int .i64 0, .int .i64 0]), 4, 32) := by kernel_rfl
theorem rows_cell {W : World} {b : Nat} {t : TypeId} (h : Bx W b t rowsV) (r : Nat) (hr : r < 10) : W.cell? ⟨b, r, none⟩ = some (.string (rowB r)) := h.cell (by unfold rowsV; simp [hr])
theorem rowB_at (r i : Nat) (hi : i < 16) (hr : r < 10) (h : i < (rowB r).size) : ((rowB r)[i].toNat : Int) = (hexN (ordN r i) : Int) := by
 have gen : ∀ (l : List UInt8) (h : i < l.length), (⟨l.toArray⟩ : ByteArray)[i]'h = l[i] := fun l h => rfl
 have e : (rowB r)[i] = UInt8.ofNat (hexN (ordN r i)) := (gen _ (by simp; exact hi)).trans (by rw [List.getElem_map, List.getElem_range])
 have := ordN_lt hr hi
 rw [e, UInt8.toNat_ofNat_of_lt' (by show hexN _ < 256; unfold hexN; split <;> omega)]
theorem rowB_size (r : Nat) : (rowB r).size = 16 := by
 show (rowB r).data.size = 16
 unfold rowB
 simp
theorem run_index_str {P : Program} (w : World) (t : TypeId) (s : ByteArray) (i : Nat) (j : Int) (hj : j = (i : Int)) (hi : i < s.size) (x : Int) (hx : (s[i].toNat : Int) = x) (hu : P.underlying t = some .string) : (Instr.index t (.string s) (.int .i64 j)).run P w = .ok (.int .u8 x) w := by
 subst hj
 have e : s[i]? = some s[i] := getElem?_pos s i hi
 simp [Instr.index, asIntOf, run_underlying hu, e, hx]
theorem rowO_le {N : Nat} {w : World} {e : TypeId} {k : Nat} {g : Option Addr} {m n c : Nat} {xs : List Value} (h : RowO N w e k (.slice g m c) n xs) {x : Addr} (hx : g = some x) : N ≤ x.block := by
 subst hx
 exact (h.lt x.block rfl).1
def fourA (A B C D j : Nat) : List Value := [.int .i64 (A : Int), .int .i64 (B : Int), .int .i64 (j : Int), .int .i64 0, .int .i64 (D : Int), .int .i64 (A : Int), .int .i64 (-1), .int .i64 16, .int .i64 (C : Int), .int .i64 (D : Int), .int .i64 (-1), .int .i64 0, .int .i64 (B : Int), .int .i64 (C : Int), .int .i64 (-1), .int .i64 12]
def fourB (A B C D j : Nat) : List Value := [.int .i64 (A : Int), .int .i64 (B : Int), .int .i64 (j : Int), .int .i64 0, .int .i64 (D : Int), .int .i64 (A : Int), .int .i64 (-1), .int .i64 8, .int .i64 (C : Int), .int .i64 (D : Int), .int .i64 (-1), .int .i64 0, .int .i64 (B : Int), .int .i64 (C : Int), .int .i64 (-1), .int .i64 7]
theorem steps_snoc (r i : Nat) : (halfL r (i + 1)).flatMap stpV = (halfL r i).flatMap stpV ++ fourA (cA i) (cB i) (cC i) (cD i) (ordN r (2 * i)) ++ fourB (cA i) (cB i) (cC i) (cD i) (ordN r (2 * i + 1)) := by
 rw [halfL_succ, List.flatMap_append, List.append_assoc]
 rfl
theorem steps_any (w : World) : Calls Try.prog 206 #[] w fun e w' => ∃ a c, e = .returned (.slice a 640 c) ∧ Sl w' w'.heap.size a (allL.flatMap stpV) ∧ (∀ x, a = some x → w.heap.size ≤ x.block) ∧ Below w.heap.size w w' := by
 go_enter Try.func206, Try.ntmps206
 go_wp2_with fail
 refine (rows_any w).mono ?_
 rintro e w1 ⟨rb, rfl, hrb, _, hb9⟩
 have HB := Lib.hid hb9
 have HZS := Lib.hid hb9.size
 have Hb := Lib.hid hrb
 clear hrb hb9
 have HBS := Lib.hid HB.out.size
 have HB0 := HB
 have Hb0 := Hb
 have HRB := Lib.hid Hb.out.lt
 replace HZS := sz HZS HRB.out
 go_wp2_with fail
 go_loopw [10, 1] (fun c v wr => ∃ (r : Nat) (g : Option Addr) (cap : Nat), r ≤ 10 ∧ c = .int .i64 r ∧ v = .slice g (64 * r) cap ∧ Hid (Below w1.heap.size w1 wr) ∧ Hid (RowO w1.heap.size wr 279 4 (.slice g (64 * r) cap) (64 * r) ((halfL r 0).flatMap stpV))) (fun c _ _ => 10 - (intOf c).toNat)
 case atStart => exact ⟨0, none, 0, by omega, rfl, rfl, Lib.hid (Below.refl _ _), RowO.nil⟩
 case round =>
  obtain ⟨r, g, cap, hr, rfl, rfl, HL9, Hl⟩ := hrel
  clear HB Hb
  have HB := hbu HB0 HL9.out
  have Hb := Lib.hid (Hb0.out.up HL9.out)
  have HSW := Lib.hid HL9.out.size
  have BL := HL9
  clear HL9
  replace HZS := sz HZS HBS.out
  replace HZS := sz HZS HRB.out
  replace HZS := sz HZS HSW.out
  by_cases hr10 : r < 10
  ·have hdr : decide ((r : Int) < 10) = true := by simp; omega
   have c1 := rows_cell Hb.out r hr10
   have a1 : (0 : Int) ≤ (r : Int) := by omega
   have a2 : (r : Int) < 10 := by omega
   obtain ⟨wo, rfl⟩ : ∃ wo : World, wo = wr := ⟨_, rfl⟩
   go_wp2_with fail
   clear c1
   go_loopw [4, 1] (fun c v wr => ∃ (i : Nat) (g : Option Addr) (cap : Nat), i ≤ 8 ∧ c = .int .i64 i ∧ v = .slice g (64 * r + 8 * i) cap ∧ Hid (Below w1.heap.size w1 wr) ∧ Hid (RowO w1.heap.size wr 279 4 (.slice g (64 * r + 8 * i) cap) (64 * r + 8 * i) ((halfL r i).flatMap stpV))) (fun c _ _ => 8 - (intOf c).toNat)
   case atStart => exact ⟨0, _, _, by omega, rfl, rfl, BL, Hl⟩
   case round =>
    obtain ⟨i, g2, cap2, hi, rfl, rfl, HL9, Hl2⟩ := hrel
    clear HB Hb BL Hl
    have Hl := Hl2
    have HB := hbu HB0 HL9.out
    have Hb := Lib.hid (Hb0.out.up HL9.out)
    have HSV := Lib.hid HL9.out.size
    have BL := HL9
    clear HL9 Hl2
    replace HZS := sz HZS HBS.out
    replace HZS := sz HZS HRB.out
    replace HZS := sz HZS HSV.out
    by_cases hi8 : i < 8
    ·have HNP := Lib.hid Hl.out.lt
     have HST := Lib.hid (steps_snoc r i)
     have HF4 := Lib.hid (fun w => rfour_any i hi8 w)
     have hix1 := fun W => run_index_str (P := Try.prog) W 9 (rowB r) (2 * i) (2 * (i : Int)) (by omega) (by rw [rowB_size]; omega) _ (rowB_at r (2 * i) (by omega) hr10 (by rw [rowB_size]; omega)) Try.underlying9
     have hix2 := fun W => run_index_str (P := Try.prog) W 9 (rowB r) (2 * i + 1) (2 * (i : Int) + 1) (by omega) (by rw [rowB_size]; omega) _ (rowB_at r (2 * i + 1) (by omega) hr10 (by rw [rowB_size]; omega)) Try.underlying9
     have o1 : ordN r (2 * i) < 16 := ordN_lt hr10 (by omega)
     have o2 : ordN r (2 * i + 1) < 16 := ordN_lt hr10 (by omega)
     have HD1 := Lib.hid (fun w => digit_any (ordN r (2 * i)) o1 w)
     have HD2 := Lib.hid (fun w => digit_any (ordN r (2 * i + 1)) o2 w)
     generalize cA i = A at *
     generalize cB i = B at *
     generalize cC i = C at *
     generalize cD i = D at *
     generalize ordN r (2 * i) = j1 at *
     generalize ordN r (2 * i + 1) = j2 at *
     generalize hexN j1 = h1 at *
     generalize hexN j2 = h2 at *
     go_wp2_with fail
     refine (HF4.out wr).mono ?_
     rintro e w2 ⟨rfl, hb9⟩
     replace Hb := Lib.hid (Hb.out.up hb9)
     replace Hl := Lib.hid (Hl.out.up hb9)
     replace BL := hbu BL hb9
     replace HB := hbu HB hb9
     replace HZS := sz HZS hb9.size
     clear hb9
     obtain ⟨w3, hq3, hb9, hz9, Hp⟩ := new1 w2 284 [.int .i64 (A : Int), .int .i64 (B : Int), .int .i64 (C : Int), .int .i64 (D : Int)]
     replace Hb := Lib.hid (Hb.out.up hb9)
     replace Hl := Lib.hid (Hl.out.up hb9)
     replace BL := hbu BL hb9
     replace HB := hbu HB hb9
     replace HZS := sz HZS hz9.out
     clear hb9 hz9
     have p_ := Hp.out.c4
     go_wp2_with fail
     clear hq3
     have hl_p := Hp.out.lt
     refine wp_region_over (by kernel_rfl) (by kernel_rfl) ?_
     have hov_p := fun (E : Over w3) o => E.cell (b := w2.heap.size) o hl_p
     repeat (go_big_quiet_step (first | (go_at_call 212; exact calls_over ((by first | with_reducible exact HD1.out _ | with_reducible exact HD2.out _)))))
     all_goals (try unfold elV limbV)
     repeat (go_big_quiet_step (first | (go_at_call 212; exact calls_over ((by first | with_reducible exact HD1.out _ | with_reducible exact HD2.out _)))))
     all_goals (try unfold elV limbV)
     repeat (go_big_quiet_step (first | (go_at_call 212; exact calls_over ((by first | with_reducible exact HD1.out _ | with_reducible exact HD2.out _)))))
     all_goals (try unfold ciphV)
     refine wpQuiet_nil ?_
     rintro _ ⟨E, rfl⟩
     clear hov_p hl_p
     replace Hb := Lib.hid (Hb.out.up E.h)
     clear p_
     replace Hp := Lib.hid (Hp.out.up E.h)
     replace Hl := Lib.hid (Hl.out.up E.h)
     replace BL := hbu BL E.h
     replace HB := hbu HB E.h
     replace HZS := sz HZS E.h.size
     obtain ⟨w4, hq9⟩ : ∃ W9 : World, E.w = W9 := ⟨_, rfl⟩
     rw [hq9] at Hb Hp Hl BL HB HZS ⊢
     clear hq9 E
     have p_ := Hp.out.c4
     clear hix1 hix2
     obtain ⟨i9, hi9, hz90, hz91, hz92⟩ := info_parts infoStep
     go_wp2_with (at_builtin; refine wpList_pushM (w1.heap.size) w4 (by have g0 := HZS.out; omega) rfl _ _ 276 rfl 279 i9 _ 4 32 4 Try.underlying276 hi9 hz90 hz91 hz92 rfl (by omega) (by omega) ((.slice g2 (64 * r + 8 * i) cap2)) ((64 * r + 8 * i)) (((halfL r i).flatMap stpV)) rfl Hl.out _ _ _ rfl rfl rfl (by simp [Value.oneCell']) (by omega) (by unfold maxLen; omega) ?_)
     intro g5 c5 w5 hown9 hg9
     clear p_
     have hb9 := Below.grown HB.out hg9 (by have g0 := HZS.out; omega) (fun q hq => Nat.le_trans (show w.heap.size ≤ w1.heap.size by have g0 := HZS.out; omega) (Hl.out.lt q hq).1)
     replace Hb := Lib.hid (Hb.out.grown hg9 (fun e9 => by have a2 := HNP.out _ e9; have a1 := Hl.out.lt _ e9; have g0 := HZS.out; omega))
     replace Hp := Lib.hid (Hp.out.grown hg9 (fun e9 => by have a2 := HNP.out _ e9; have a1 := Hl.out.lt _ e9; have g0 := HZS.out; omega))
     replace BL := Lib.hid (Below.grown BL.out hg9 (by have g0 := HZS.out; omega) (fun q hq => Nat.le_trans (show w1.heap.size ≤ w1.heap.size by have g0 := HZS.out; omega) (Hl.out.lt q hq).1))
     replace HZS := sz HZS hg9.size
     clear Hl HB
     have Hl := Lib.hid hown9
     have HB := Lib.hid hb9
     clear hb9 hown9 hg9 hi9 hz90 hz91 hz92
     have p_ := Hp.out.c4
     have HQ := Lib.hid (Hl.out.eq (ys := (halfL r i).flatMap stpV ++ fourA A B C D j1) (m := 64 * r + 8 * i + 4) (by simp [fourA]) rfl)
     clear Hl HNP
     have Hl := HQ
     clear HQ
     go_upto_region 11 with (fail)
     obtain ⟨i9, hi9, hz90, hz91, hz92⟩ := info_parts infoStep
     go_wp2_with (at_builtin; refine wpList_pushM (w1.heap.size) w5 (by have g0 := HZS.out; omega) rfl _ _ 276 rfl 279 i9 _ 4 32 4 Try.underlying276 hi9 hz90 hz91 hz92 rfl (by omega) (by omega) ((.slice (some ⟨g5, 0, none⟩) ((64 * r + 8 * i) + 4) c5)) ((64 * r + 8 * i + 4)) (((halfL r i).flatMap stpV ++ fourA A B C D j1)) rfl Hl.out _ _ _ rfl rfl rfl (by simp [Value.oneCell']) (by omega) (by unfold maxLen; omega) ?_)
     intro g6 c6 w6 hown9 hg9
     clear p_ Hp
     have hb9 := Below.grown HB.out hg9 (by have g0 := HZS.out; omega) (fun q hq => Nat.le_trans (show w.heap.size ≤ w1.heap.size by have g0 := HZS.out; omega) (Hl.out.lt q hq).1)
     replace Hb := Lib.hid (Hb.out.grown hg9 (fun e9 => by have a1 := Hl.out.lt _ e9; have g0 := HZS.out; omega))
     replace BL := Lib.hid (Below.grown BL.out hg9 (by have g0 := HZS.out; omega) (fun q hq => Nat.le_trans (show w1.heap.size ≤ w1.heap.size by have g0 := HZS.out; omega) (Hl.out.lt q hq).1))
     replace HZS := sz HZS hg9.size
     clear Hl HB
     have Hl := Lib.hid hown9
     have HB := Lib.hid hb9
     clear hb9 hown9 hg9 hi9 hz90 hz91 hz92
     have HQ := Lib.hid (Hl.out.eq (ys := (halfL r (i + 1)).flatMap stpV) (m := 64 * r + 8 * (i + 1)) (by rw [HST.out]; simp [fourB]) rfl)
     go_wp2_with fail
     exact ⟨⟨i + 1, _, _, by omega, by go_num, rfl, BL, HQ⟩, by simp [intOf]; omega⟩
    ·have hi8' : i = 8 := by omega
     subst hi8'
     have HQ := Lib.hid (Hl.out.eq (ys := (halfL (r + 1) 0).flatMap stpV) (m := 64 * (r + 1)) (by rw [halfL_row]) rfl)
     go_wp2_with fail
     go_roundw
     case rel => exact ⟨r + 1, _, _, by omega, by go_num, rfl, BL, HQ⟩
     case measure => simp [intOf]; omega
  ·have hr10' : r = 10 := by omega
   subst hr10'
   rw [halfL_all] at Hl
   go_wp2_with fail
   go_ret
   exact ⟨_, _, rfl, Hl.out.sl, fun x hx => Nat.le_trans HBS.out (rowO_le Hl.out hx), HB.out⟩
end Go.Proofs.Ytjmeakfjfpnciaa
namespace Go.Proofs.Ytjmeakfjfpnciaa
open Go.RowKit
def okStp (s : Stp) : Bool := decide (s.a < 16) && decide (s.o < 16) && (match s.m with | some j => decide (j < 16) | none => true) && (decide (s.t = 0) || decide (s.t ≤ 16))
theorem allL_ok : allL.all okStp = true := by decide +kernel
theorem allL_len : allL.length = 640 := by decide +kernel
def partS (m v : WL) (k : Nat) : WL := (allL.take k).foldl (stepB m) v
theorem partS_len (m v : WL) (k : Nat) : (partS m v k).length = v.length := steps_len _ _ _
theorem partS_succ (m v : WL) (k : Nat) (h : k < allL.length) : partS m v (k + 1) = stepB m (partS m v k) allL[k] := by
 unfold partS
 rw [List.take_succ_eq_append_getElem h, List.foldl_append]
 rfl
theorem partS_all (m v : WL) : partS m v 640 = stirB v m := by
 unfold partS stirB
 rw [List.take_of_length_le (by rw [allL_len]; exact Nat.le_refl _)]
theorem rStir_any (v m : WL) (hv : v.length = 16) (hm : m.length = 16) (w : World) :
  Calls Try.prog 197 #[.agg (wlV v).toArray, .agg (wlV m).toArray] w fun e w' => e = .returned (.agg (wlV (stirB v m)).toArray) ∧ Below w.heap.size w w' := by
 have HV := Lib.hid hv
 have HM := Lib.hid hm
 clear hv hm
 have hz : (#[.int .u32 0, .int .u32 0, .int .u32 0, .int .u32 0, .int .u32 0, .int .u32 0, .int .u32 0, .int .u32 0, .int .u32 0, .int .u32 0, .int .u32 0, .int .u32 0, .int .u32 0, .int .u32 0, .int .u32 0, .int .u32 0] : Array Value) = (wlV (zw 16)).toArray := rfl
 go_enter Try.func197, Try.ntmps197
 go_upto_region 1 with (fail)
 obtain ⟨w1, hq1, hb9, hz9, Ha, Hb, Hr⟩ := new3 w 226 (wlV v) 226 (wlV m) 226 (wlV (zw 16))
 rw [hq1]
 clear hq1
 have HB := Lib.hid hb9
 have HZS := hz9
 clear hb9 hz9 hz
 go_wp2_with fail
 refine (steps_any w1).mono ?_
 rintro e w2 ⟨sa, sc, rfl, hsl, hsf, hb9⟩
 replace Ha := Lib.hid (Ha.out.up hb9)
 replace Hb := Lib.hid (Hb.out.up hb9)
 replace Hr := Lib.hid (Hr.out.up hb9)
 replace HB := hbu HB hb9
 replace HZS := sz HZS hb9.size
 have HSL := Lib.hid hsl
 clear hsl
 have HSF := Lib.hid hsf
 clear hsf hb9
 have HK := Lib.hid (Kept.refl (fun q9 => q9 = w.heap.size) w2)
 go_wp2_with fail
 go_loopw [9] (fun c wr => ∃ k : Nat, k ≤ 640 ∧ c = .int .i64 k ∧ Hid (Bx wr w.heap.size 226 (wlV (partS m v k))) ∧ Hid (Kept (fun q9 => q9 = w.heap.size) w2 wr)) (fun c _ => 640 - (intOf c).toNat)
 case atStart => exact ⟨0, by omega, rfl, Ha, HK⟩
 case round =>
  obtain ⟨k, hk, rfl, HQ, HK1⟩ := hrel
  clear HK
  have HSK := Lib.hid (HSL.out.kept HK1.out (fun x hx => by have h1 := HSF.out x hx; have g0 := HZS.out; omega))
  have hg9 := HK1.out
  clear Ha
  replace Hb := Lib.hid (Bx.keptP (P := fun q9 => q9 = w.heap.size) Hb.out hg9 (show ¬ (w.heap.size + 1 = w.heap.size) by have g0 := HZS.out; omega))
  replace Hr := Lib.hid (Bx.keptP (P := fun q9 => q9 = w.heap.size) Hr.out hg9 (show ¬ (w.heap.size + 2 = w.heap.size) by have g0 := HZS.out; omega))
  replace HB := Lib.hid (Below.keptP HB.out hg9 (by have g0 := HZS.out; omega) (fun q9 h9 => (show w.heap.size ≤ _ by subst h9; have g0 := HZS.out; omega)))
  replace HZS := sz HZS (show w2.heap.size ≤ wr.heap.size from hg9.size)
  clear hg9
  have Ha := HQ
  clear HQ
  have HAL := Lib.hid (show (partS m v k).length = 16 by rw [partS_len]; exact HV.out)
  by_cases hk6 : k < 640
  ·have hkl : k < allL.length := by rw [allL_len]; exact hk6
   have HS := Lib.hid (partS_succ m v k hkl)
   have HOK := Lib.hid (List.all_eq_true.1 allL_ok _ (List.getElem_mem hkl))
   obtain ⟨xb, xo, rfl, hxl, hxc⟩ := HSK.out.elem stpV_len (by decide) k hkl
   have HXC := Lib.hid hxc
   clear hxc
   generalize allL[k] = s at *
   generalize partS m v k = V at *
   obtain ⟨A, O, M, t⟩ := s
   have hA : A < 16 := by have := HOK.out; simp [okStp] at this; omega
   have hO : O < 16 := by have := HOK.out; simp [okStp] at this; omega
   have ht : t ≤ 16 := by have := HOK.out; simp [okStp] at this; omega
   have hc0 := HXC.out 0 _ rfl
   have hc1 := HXC.out 1 _ rfl
   have hc2 := HXC.out 2 _ rfl
   have hc3 := HXC.out 3 _ rfl
   rw [Nat.add_zero] at hc0
   have a1 : (0 : Int) ≤ (A : Int) := by omega
   have a2 : (A : Int) < 16 := by omega
   have a3 : (0 : Int) ≤ (O : Int) := by omega
   have a4 : (O : Int) < 16 := by omega
   have k1 : (0 : Int) ≤ (k : Int) := by omega
   have k2 : (k : Int) < 640 := by omega
   by_cases ht0 : t = 0
   ·subst ht0
    cases M
    case none =>
     have hst : stepB m V ⟨A, O, none, 0⟩ = V.set A (V.getD A 0 + V.getD O 0) := by unfold stepB; rw [if_pos rfl]; simp
     have HSB := Lib.hid (HS.out.trans hst)
     clear HS hst
     have hd2 : wr.cell? ⟨xb, xo + k * 4 + 2, none⟩ = some (.int .i64 (-1)) := hc2
     have hd3 : wr.cell? ⟨xb, xo + k * 4 + 3, none⟩ = some (.int .i64 (0)) := hc3
     clear hc2 hc3
     go_wp2_with fail
     obtain ⟨w3, hq3, hb9, hz9, Hs⟩ := new1 wr 279 [.int .i64 (A : Int), .int .i64 (O : Int), .int .i64 (-1), .int .i64 (0)]
     rw [hq3]
     clear hq3
     replace Hb := Lib.hid (Hb.out.up hb9)
     replace Hr := Lib.hid (Hr.out.up hb9)
     replace Ha := Lib.hid (Ha.out.up hb9)
     replace HK1 := Lib.hid (Kept.up HK1.out hb9)
     replace HB := hbu HB hb9
     replace HZS := sz HZS hz9.out
     clear hb9 hz9
     have s_ := Hs.out.c4
     clear hc0 hc1 hd2 hd3
     have cA1 := wl_cell Ha.out A (by rw [HAL.out]; exact hA)
     have cO1 := wl_cell Ha.out O (by rw [HAL.out]; exact hO)
     obtain ⟨x, hx⟩ : ∃ x, V.getD A 0 = x := ⟨_, rfl⟩
     obtain ⟨y, hy⟩ : ∃ y, V.getD O 0 = y := ⟨_, rfl⟩
     rw [hx] at cA1
     rw [hy] at cO1
     have g1 := add32 x y
     obtain ⟨u, e1⟩ : ∃ u, x + y = u := ⟨_, rfl⟩
     rw [e1] at g1
     have hl_s := Hs.out.lt
     refine wp_region_otail 12 (by kernel_rfl) (by kernel_rfl) ?_
     simp only [List.take_succ_cons, List.take_zero, List.drop_succ_cons, List.drop_zero]
     have hov_s := fun (E : Over w3) o => E.cell (b := wr.heap.size) o hl_s
     have hov_w_heap_size := fun (E : Over w3) o => E.cell (b := w.heap.size) o Ha.out.lt
     repeat (go_big_quiet_step (first | fail))
     all_goals (try unfold elV limbV)
     repeat (go_big_quiet_step (first | fail))
     all_goals (try unfold elV limbV)
     repeat (go_big_quiet_step (first | fail))
     all_goals (try unfold ciphV)
     refine wpQuiet_nil ?_
     rintro _ ⟨E, rfl⟩
     clear hov_s hl_s hov_w_heap_size
     replace Hb := Lib.hid (Hb.out.up E.h)
     replace Hr := Lib.hid (Hr.out.up E.h)
     replace Ha := Lib.hid (Ha.out.up E.h)
     clear s_
     replace Hs := Lib.hid (Hs.out.up E.h)
     replace HK1 := Lib.hid (Kept.up HK1.out E.h)
     replace HB := hbu HB E.h
     replace HZS := sz HZS E.h.size
     obtain ⟨w4, hq9⟩ : ∃ W9 : World, E.w = W9 := ⟨_, rfl⟩
     rw [hq9] at Hb Hr Ha Hs HK1 HB HZS ⊢
     clear hq9 E
     have s_ := Hs.out.c4
     clear cA1 cO1
     have cA1 := Ha.out.cell (wlV_get V A (by rw [HAL.out]; exact hA))
     have f5_a := Ha.out.frozen
     have o5_s_ := s_; clear s_
     obtain ⟨w5, hq5, hg9, hz9, hx9⟩ := put1 Ha A (.int .u32 (u.toNat : Int)) _ rfl
     replace Hb := Lib.hid (Hb.out.grown hg9.out (sne (by have g0 := HZS.out; omega)))
     replace Hr := Lib.hid (Hr.out.grown hg9.out (sne (by have g0 := HZS.out; omega)))
     replace Hs := Lib.hid (Hs.out.grown hg9.out (sne (by have g0 := HZS.out; omega)))
     replace HK1 := Lib.hid (Kept.grown HK1.out hg9.out (fun q9 e9 => by obtain rfl := Option.some.inj e9; exact Or.inr (rfl)))
     replace HB := hbg HB hg9 (by have g0 := HZS.out; omega)
     replace HZS := sz HZS hz9.out
     replace Ha := hx9
     clear hx9 hg9 hz9
     have s_ := Hs.out.c4
     replace Ha := Lib.hid Ha.out.wset
     rw [hx, hy, e1] at HSB
     have HQ := Lib.hid (show Bx w5 w.heap.size 226 (wlV (partS m v (k + 1))) from by rw [HSB.out]; exact Ha.out)
     clear hx hy e1
     go_wp2_with fail
     clear hq5 o5_s_ f5_a cA1 g1
     go_roundw
     case rel => exact ⟨k + 1, by omega, by go_num, HQ, HK1⟩
     case measure => simp [intOf]; omega
    case some j =>
     have hj : j < 16 := by have := HOK.out; simp [okStp] at this; omega
     have hst : stepB m V ⟨A, O, some j, 0⟩ = V.set A (V.getD A 0 + V.getD O 0 + m.getD j 0) := by unfold stepB; rw [if_pos rfl]
     have HSB := Lib.hid (HS.out.trans hst)
     clear HS hst
     have hd2 : wr.cell? ⟨xb, xo + k * 4 + 2, none⟩ = some (.int .i64 ((j : Int))) := hc2
     have hd3 : wr.cell? ⟨xb, xo + k * 4 + 3, none⟩ = some (.int .i64 (0)) := hc3
     clear hc2 hc3
     go_wp2_with fail
     obtain ⟨w3, hq3, hb9, hz9, Hs⟩ := new1 wr 279 [.int .i64 (A : Int), .int .i64 (O : Int), .int .i64 ((j : Int)), .int .i64 (0)]
     rw [hq3]
     clear hq3
     replace Hb := Lib.hid (Hb.out.up hb9)
     replace Hr := Lib.hid (Hr.out.up hb9)
     replace Ha := Lib.hid (Ha.out.up hb9)
     replace HK1 := Lib.hid (Kept.up HK1.out hb9)
     replace HB := hbu HB hb9
     replace HZS := sz HZS hz9.out
     clear hb9 hz9
     have s_ := Hs.out.c4
     clear hc0 hc1 hd2 hd3
     have cA1 := wl_cell Ha.out A (by rw [HAL.out]; exact hA)
     have cO1 := wl_cell Ha.out O (by rw [HAL.out]; exact hO)
     obtain ⟨x, hx⟩ : ∃ x, V.getD A 0 = x := ⟨_, rfl⟩
     obtain ⟨y, hy⟩ : ∃ y, V.getD O 0 = y := ⟨_, rfl⟩
     rw [hx] at cA1
     rw [hy] at cO1
     have g1 := add32 x y
     obtain ⟨u, e1⟩ : ∃ u, x + y = u := ⟨_, rfl⟩
     rw [e1] at g1
     have hl_s := Hs.out.lt
     refine wp_region_otail 12 (by kernel_rfl) (by kernel_rfl) ?_
     simp only [List.take_succ_cons, List.take_zero, List.drop_succ_cons, List.drop_zero]
     have hov_s := fun (E : Over w3) o => E.cell (b := wr.heap.size) o hl_s
     have hov_w_heap_size := fun (E : Over w3) o => E.cell (b := w.heap.size) o Ha.out.lt
     repeat (go_big_quiet_step (first | fail))
     all_goals (try unfold elV limbV)
     repeat (go_big_quiet_step (first | fail))
     all_goals (try unfold elV limbV)
     repeat (go_big_quiet_step (first | fail))
     all_goals (try unfold ciphV)
     refine wpQuiet_nil ?_
     rintro _ ⟨E, rfl⟩
     clear hov_s hl_s hov_w_heap_size
     replace Hb := Lib.hid (Hb.out.up E.h)
     replace Hr := Lib.hid (Hr.out.up E.h)
     replace Ha := Lib.hid (Ha.out.up E.h)
     clear s_
     replace Hs := Lib.hid (Hs.out.up E.h)
     replace HK1 := Lib.hid (Kept.up HK1.out E.h)
     replace HB := hbu HB E.h
     replace HZS := sz HZS E.h.size
     obtain ⟨w4, hq9⟩ : ∃ W9 : World, E.w = W9 := ⟨_, rfl⟩
     rw [hq9] at Hb Hr Ha Hs HK1 HB HZS ⊢
     clear hq9 E
     have s_ := Hs.out.c4
     clear cA1 cO1
     have cA1 := Ha.out.cell (wlV_get V A (by rw [HAL.out]; exact hA))
     have f5_a := Ha.out.frozen
     have o5_s_ := s_; clear s_
     obtain ⟨w5, hq5, hg9, hz9, hx9⟩ := put1 Ha A (.int .u32 (u.toNat : Int)) _ rfl
     replace Hb := Lib.hid (Hb.out.grown hg9.out (sne (by have g0 := HZS.out; omega)))
     replace Hr := Lib.hid (Hr.out.grown hg9.out (sne (by have g0 := HZS.out; omega)))
     replace Hs := Lib.hid (Hs.out.grown hg9.out (sne (by have g0 := HZS.out; omega)))
     replace HK1 := Lib.hid (Kept.grown HK1.out hg9.out (fun q9 e9 => by obtain rfl := Option.some.inj e9; exact Or.inr (rfl)))
     replace HB := hbg HB hg9 (by have g0 := HZS.out; omega)
     replace HZS := sz HZS hz9.out
     replace Ha := hx9
     clear hx9 hg9 hz9
     have s_ := Hs.out.c4
     replace Ha := Lib.hid Ha.out.wset
     have j1 : (0 : Int) ≤ (j : Int) := by omega
     have j2 : (j : Int) < 16 := by omega
     go_upto_region 8 with (fail)
     clear cA1 g1
     have hA2 : A < (V.set A u).length := by rw [List.length_set, HAL.out]; exact hA
     have cA1 := wl_cell Ha.out A hA2
     have cM1 := wl_cell Hb.out j (by rw [HM.out]; exact hj)
     rw [set_same V A u (by rw [HAL.out]; exact hA)] at cA1
     obtain ⟨z, hz⟩ : ∃ z, m.getD j 0 = z := ⟨_, rfl⟩
     rw [hz] at cM1
     have g1 := add32 u z
     obtain ⟨u2, e2⟩ : ∃ u2, u + z = u2 := ⟨_, rfl⟩
     rw [e2] at g1
     have hl_s := Hs.out.lt
     refine wp_region_otail 12 (by kernel_rfl) (by kernel_rfl) ?_
     simp only [List.take_succ_cons, List.take_zero, List.drop_succ_cons, List.drop_zero]
     have hov_s := fun (E : Over w5) o => E.cell (b := wr.heap.size) o hl_s
     have hov_w_heap_size := fun (E : Over w5) o => E.cell (b := w.heap.size) o Ha.out.lt
     have hov_w_heap_size___1 := fun (E : Over w5) o => E.cell (b := w.heap.size + 1) o Hb.out.lt
     repeat (go_big_quiet_step (first | fail))
     all_goals (try unfold elV limbV)
     repeat (go_big_quiet_step (first | fail))
     all_goals (try unfold elV limbV)
     repeat (go_big_quiet_step (first | fail))
     all_goals (try unfold ciphV)
     refine wpQuiet_nil ?_
     rintro _ ⟨E, rfl⟩
     clear hov_s hl_s hov_w_heap_size hov_w_heap_size___1
     replace Hb := Lib.hid (Hb.out.up E.h)
     replace Hr := Lib.hid (Hr.out.up E.h)
     replace Ha := Lib.hid (Ha.out.up E.h)
     clear s_
     replace Hs := Lib.hid (Hs.out.up E.h)
     replace HK1 := Lib.hid (Kept.up HK1.out E.h)
     replace HB := hbu HB E.h
     replace HZS := sz HZS E.h.size
     obtain ⟨w6, hq9⟩ : ∃ W9 : World, E.w = W9 := ⟨_, rfl⟩
     rw [hq9] at Hb Hr Ha Hs HK1 HB HZS ⊢
     clear hq9 E
     have s_ := Hs.out.c4
     clear cA1 cM1
     have cA1 := Ha.out.cell (wlV_get (V.set A u) A hA2)
     have f7_a := Ha.out.frozen
     have o7_s_ := s_; clear s_
     obtain ⟨w7, hq7, hg9, hz9, hx9⟩ := put1 Ha A (.int .u32 (u2.toNat : Int)) _ rfl
     replace Hb := Lib.hid (Hb.out.grown hg9.out (sne (by have g0 := HZS.out; omega)))
     replace Hr := Lib.hid (Hr.out.grown hg9.out (sne (by have g0 := HZS.out; omega)))
     replace Hs := Lib.hid (Hs.out.grown hg9.out (sne (by have g0 := HZS.out; omega)))
     replace HK1 := Lib.hid (Kept.grown HK1.out hg9.out (fun q9 e9 => by obtain rfl := Option.some.inj e9; exact Or.inr (rfl)))
     replace HB := hbg HB hg9 (by have g0 := HZS.out; omega)
     replace HZS := sz HZS hz9.out
     replace Ha := hx9
     clear hx9 hg9 hz9
     have s_ := Hs.out.c4
     replace Ha := Lib.hid Ha.out.wset
     rw [hx, hy, e1, hz, e2] at HSB
     have HQ := Lib.hid (show Bx w7 w.heap.size 226 (wlV (partS m v (k + 1))) from by rw [HSB.out]; have h9 := Ha.out; rwa [List.set_set] at h9)
     clear hx hy e1 hz e2
     go_wp2_with fail
     clear hq7 o7_s_ f7_a hq5 o5_s_ f5_a cA1 g1
     go_roundw
     case rel => exact ⟨k + 1, by omega, by go_num, HQ, HK1⟩
     case measure => simp [intOf]; omega
   ·have htd : 0 < t := by omega
    have hst : stepB m V ⟨A, O, M, t⟩ = V.set A (rotB (V.getD A 0 ^^^ V.getD O 0) t) := by unfold stepB; rw [if_neg ht0]
    have HSB := Lib.hid (HS.out.trans hst)
    clear HS hst HOK
    simp only [] at hc0 hc1 hc2 hc3
    generalize moreV M = mm at *
    have hd2 : wr.cell? ⟨xb, xo + k * 4 + 2, none⟩ = some (.int .i64 (mm)) := hc2
    have hd3 : wr.cell? ⟨xb, xo + k * 4 + 3, none⟩ = some (.int .i64 ((t : Int))) := hc3
    clear hc2 hc3
    go_wp2_with fail
    obtain ⟨w3, hq3, hb9, hz9, Hs⟩ := new1 wr 279 [.int .i64 (A : Int), .int .i64 (O : Int), .int .i64 (mm), .int .i64 ((t : Int))]
    rw [hq3]
    clear hq3
    replace Hb := Lib.hid (Hb.out.up hb9)
    replace Hr := Lib.hid (Hr.out.up hb9)
    replace Ha := Lib.hid (Ha.out.up hb9)
    replace HK1 := Lib.hid (Kept.up HK1.out hb9)
    replace HB := hbu HB hb9
    replace HZS := sz HZS hz9.out
    clear hb9 hz9
    have s_ := Hs.out.c4
    clear hc0 hc1 hd2 hd3
    have cA1 := wl_cell Ha.out A (by rw [HAL.out]; exact hA)
    have cO1 := wl_cell Ha.out O (by rw [HAL.out]; exact hO)
    obtain ⟨x, hx⟩ : ∃ x, V.getD A 0 = x := ⟨_, rfl⟩
    obtain ⟨y, hy⟩ : ∃ y, V.getD O 0 = y := ⟨_, rfl⟩
    rw [hx] at cA1
    rw [hy] at cO1
    have g1 := bits_xor x y
    obtain ⟨z, e1⟩ : ∃ z, x ^^^ y = z := ⟨_, rfl⟩
    rw [e1] at g1
    have HR := Lib.hid (fun w => right_any z t ht w)
    obtain ⟨u, e2⟩ : ∃ u, rotB z t = u := ⟨_, rfl⟩
    rw [e2] at HR
    rw [hx, hy, e1, e2] at HSB
    clear hx hy e1 e2
    have hl_s := Hs.out.lt
    refine wp_region_otail 15 (by kernel_rfl) (by kernel_rfl) ?_
    simp only [List.take_succ_cons, List.take_zero, List.drop_succ_cons, List.drop_zero]
    have hov_s := fun (E : Over w3) o => E.cell (b := wr.heap.size) o hl_s
    have hov_w_heap_size := fun (E : Over w3) o => E.cell (b := w.heap.size) o Ha.out.lt
    repeat (go_big_quiet_step (first | (go_at_call 207; exact calls_over (HR.out _))))
    all_goals (try unfold elV limbV)
    repeat (go_big_quiet_step (first | (go_at_call 207; exact calls_over (HR.out _))))
    all_goals (try unfold elV limbV)
    repeat (go_big_quiet_step (first | (go_at_call 207; exact calls_over (HR.out _))))
    all_goals (try unfold ciphV)
    refine wpQuiet_nil ?_
    rintro _ ⟨E, rfl⟩
    clear hov_s hl_s hov_w_heap_size
    replace Hb := Lib.hid (Hb.out.up E.h)
    replace Hr := Lib.hid (Hr.out.up E.h)
    replace Ha := Lib.hid (Ha.out.up E.h)
    clear s_
    replace Hs := Lib.hid (Hs.out.up E.h)
    replace HK1 := Lib.hid (Kept.up HK1.out E.h)
    replace HB := hbu HB E.h
    replace HZS := sz HZS E.h.size
    obtain ⟨w4, hq9⟩ : ∃ W9 : World, E.w = W9 := ⟨_, rfl⟩
    rw [hq9] at Hb Hr Ha Hs HK1 HB HZS ⊢
    clear hq9 E
    have s_ := Hs.out.c4
    clear cA1 cO1 HR
    have cA1 := Ha.out.cell (wlV_get V A (by rw [HAL.out]; exact hA))
    have f5_a := Ha.out.frozen
    have o5_s_ := s_; clear s_
    obtain ⟨w5, hq5, hg9, hz9, hx9⟩ := put1 Ha A (.int .u32 (u.toNat : Int)) _ rfl
    replace Hb := Lib.hid (Hb.out.grown hg9.out (sne (by have g0 := HZS.out; omega)))
    replace Hr := Lib.hid (Hr.out.grown hg9.out (sne (by have g0 := HZS.out; omega)))
    replace Hs := Lib.hid (Hs.out.grown hg9.out (sne (by have g0 := HZS.out; omega)))
    replace HK1 := Lib.hid (Kept.grown HK1.out hg9.out (fun q9 e9 => by obtain rfl := Option.some.inj e9; exact Or.inr (rfl)))
    replace HB := hbg HB hg9 (by have g0 := HZS.out; omega)
    replace HZS := sz HZS hz9.out
    replace Ha := hx9
    clear hx9 hg9 hz9
    have s_ := Hs.out.c4
    replace Ha := Lib.hid Ha.out.wset
    have HQ := Lib.hid (show Bx w5 w.heap.size 226 (wlV (partS m v (k + 1))) from by rw [HSB.out]; exact Ha.out)
    go_wp2_with fail
    clear hq5 o5_s_ f5_a cA1 g1
    go_roundw
    case rel => exact ⟨k + 1, by omega, by go_num, HQ, HK1⟩
    case measure => simp [intOf]; omega
  ·have hk' : k = 640 := by omega
   subst hk'
   rw [partS_all] at Ha
   have HSL2 := Lib.hid (stirB_len v m)
   obtain ⟨S, hS⟩ : ∃ S, stirB v m = S := ⟨_, rfl⟩
   rw [hS] at Ha HSL2
   have HSE := Lib.hid hS
   clear hS
   have HSI := Lib.hid (show (Try.prog.info? 226).map (·.size) = some (wlV S).length by rw [wlV_len, HSL2.out, HV.out]; exact info16)
   have HZ := Lib.hid (show (wlV S).length = (wlV (zw 16)).length by rw [wlV_len, wlV_len, HSL2.out, HV.out]; rfl)
   obtain ⟨wz, hqz, hgz, hzz, hrz⟩ := puts Hr 0 (wlV S) (wlV S) (putL_all _ _ HZ.out)
   have HBZ := hbg HB hgz (by omega)
   go_wp2_with (first | refine wpList_load_mid rfl 226 (.tmp 2) rfl w.heap.size 0 rfl (wlV S) _ Ha.out.range Try.underlying226 rfl HSI.out ?_ | refine wpList_store_mid rfl 226 (.tmp 4) (.tmp 59) rfl (w.heap.size + 2) 0 (wlV S).toArray rfl rfl (Hr.out.there (by simp [HZ.out])) (by simpa using HSI.out) (all_oneCell_toArray (wl_one S)) ?_)
   rw [hqz]
   exact ret_arr Try.results197 hrz.out _ rfl Try.underlying226 rfl HSI.out rfl ⟨by rw [HSE.out], HBZ.out⟩
end Go.Proofs.Ytjmeakfjfpnciaa
namespace Go.Proofs.Ytjmeakfjfpnciaa
open Go.RowKit
theorem rstart_any (w : World) : Calls Try.prog 159 #[] w fun e w' => e = .returned (.agg (wlV startV).toArray) ∧ Below w.heap.size w w' := by
 go_enter Try.func159, Try.ntmps159
 go_wp2_with fail
 obtain ⟨w1, hq1, hb9, hz9, Hr⟩ := new1 w 224 [.int .u32 1779033703, .int .u32 3144134277, .int .u32 1013904242, .int .u32 2773480762, .int .u32 1359893119, .int .u32 2600822924, .int .u32 528734635, .int .u32 1541459225]
 rw [hq1]
 clear hq1
 have HB := Lib.hid hb9
 have HZS := hz9
 clear hb9 hz9
 have r_ := Hr.out.c8
 simp [bodyPost, results, Try.results159, go_sem, r_]
 exact ⟨rfl, HB.out⟩
def cpB (h : WL) (k : Nat) : WL := (List.range 16).map fun j => if j < 8 then (if j < k then h.getD j 0 else 0) else if j - 8 < k then startV.getD (j - 8) 0 else 0
theorem cpB_len (h : WL) (k : Nat) : (cpB h k).length = 16 := by unfold cpB; simp
theorem cpB_at (h : WL) (k j : Nat) (hj : j < (cpB h k).length) : (cpB h k)[j] = if j < 8 then (if j < k then h.getD j 0 else 0) else if j - 8 < k then startV.getD (j - 8) 0 else 0 := by simp only [cpB, List.getElem_map, List.getElem_range]
theorem cpB_zero (h : WL) : cpB h 0 = zw 16 := by
 apply List.ext_getElem (by rw [cpB_len, zw_len])
 intro i h1 h2
 rw [cpB_at]
 simp only [Nat.not_lt_zero, if_false, ite_self, zw, List.getElem_replicate]
theorem cpB_succ (h : WL) (k : Nat) : cpB h (k + 1) = ((cpB h k).set k (h.getD k 0)).set (k + 8) (startV.getD k 0) ∨ 8 ≤ k := by
 by_cases hk : 8 ≤ k
 ·exact Or.inr hk
 ·left
  apply List.ext_getElem (by rw [List.length_set, List.length_set, cpB_len, cpB_len])
  intro i h1 h2
  rw [List.getElem_set, List.getElem_set, cpB_at, cpB_at]
  have h16 : i < 16 := by rwa [cpB_len] at h1
  by_cases e : k + 8 = i
  ·subst e; rw [if_pos rfl, if_neg (by omega), if_pos (by omega), show k + 8 - 8 = k by omega]
  ·rw [if_neg e]
   by_cases e2 : k = i
   ·subst e2; rw [if_pos rfl, if_pos (by omega), if_pos (by omega)]
   ·rw [if_neg e2]
    by_cases h8 : i < 8
    ·rw [if_pos h8, if_pos h8]
     by_cases hik : i < k
     ·rw [if_pos hik, if_pos (by omega)]
     ·rw [if_neg hik, if_neg (by omega)]
    ·rw [if_neg h8, if_neg h8]
     by_cases hik : i - 8 < k
     ·rw [if_pos hik, if_pos (by omega)]
     ·rw [if_neg hik, if_neg (by omega)]
theorem cpB_all (h : WL) (hh : h.length = 8) : cpB h 8 = h ++ startV := by
 apply List.ext_getElem (by rw [cpB_len, List.length_append, hh]; rfl)
 intro i h1 h2
 have h16 : i < 16 := by rwa [cpB_len] at h1
 rw [cpB_at]
 by_cases h8 : i < 8
 ·rw [if_pos h8, if_pos h8, List.getElem_append_left (by omega)]
  simp [List.getD, hh, h8]
 ·rw [if_neg h8, if_pos (by omega), List.getElem_append_right (by omega)]
  have : i - 8 < startV.length := by rw [startB_len]; omega
  simp [List.getD, hh, this]
theorem rPress_any (h m : WL) (hh : h.length = 8) (hm : m.length = 16) (n : Nat) (hn : n < 18446744073709551616) (last : Bool) (w : World) :
  Calls Try.prog 161 #[.agg (wlV h).toArray, .agg (wlV m).toArray, .int .u64 (n : Int), .bool last] w fun e w' => e = .returned (.agg (wlV (pressB h m n last)).toArray) ∧ Below w.heap.size w w' := by
 have HH := Lib.hid hh
 have HM := Lib.hid hm
 have HL8 := Lib.hid (show (wlV h).length = 8 by rw [wlV_len, hh])
 have HI8 := Lib.hid (show (Try.prog.info? 224).map (·.size) = some (wlV startV).length from info8)
 have HZ8 := Lib.hid (show (wlV (zw 8)).length = (wlV startV).length from rfl)
 have HIM := Lib.hid (show (Try.prog.info? 226).map (·.size) = some (wlV m).length by rw [wlV_len, hm]; exact info16)
 have hz : (#[.int .u32 0, .int .u32 0, .int .u32 0, .int .u32 0, .int .u32 0, .int .u32 0, .int .u32 0, .int .u32 0, .int .u32 0, .int .u32 0, .int .u32 0, .int .u32 0, .int .u32 0, .int .u32 0, .int .u32 0, .int .u32 0] : Array Value) = (wlV (zw 16)).toArray := rfl
 have hz8 : (#[.int .u32 0, .int .u32 0, .int .u32 0, .int .u32 0, .int .u32 0, .int .u32 0, .int .u32 0, .int .u32 0] : Array Value) = (wlV (zw 8)).toArray := rfl
 have hx12 := xor_lo n
 have hx13 := xor_hi n hn
 clear hh hm
 go_enter Try.func161, Try.ntmps161
 go_upto_region 2 with (fail)
 obtain ⟨w1, hq1, hb9, hz9, Ha, Hb, Hr, Hv⟩ := new4 w 224 (wlV h) 226 (wlV m) 224 (wlV (zw 8)) 226 (wlV (zw 16))
 rw [hq1]
 clear hq1
 have HB := Lib.hid hb9
 have HZS := hz9
 clear hb9 hz9
 go_wp2_with fail
 refine (rstart_any w1).mono ?_
 rintro e w2 ⟨rfl, hb9⟩
 replace Ha := Lib.hid (Ha.out.up hb9)
 replace Hb := Lib.hid (Hb.out.up hb9)
 replace Hr := Lib.hid (Hr.out.up hb9)
 replace Hv := Lib.hid (Hv.out.up hb9)
 replace HB := hbu HB hb9
 replace HZS := sz HZS hb9.size
 clear hb9
 go_upto_region 3 with (refine wpList_store_new rfl 224 224 (.tmp 10) (.tmp 14) rfl (wlV (zw 8)) (wlV startV) rfl rfl HI8.out HZ8.out (wl_one startV) ?_)
 obtain ⟨w3, hq3, hb9, hz9, Hs⟩ := new1 w2 224 (wlV startV)
 rw [hq3]
 clear hq3
 replace Ha := Lib.hid (Ha.out.up hb9)
 replace Hb := Lib.hid (Hb.out.up hb9)
 replace Hr := Lib.hid (Hr.out.up hb9)
 replace Hv := Lib.hid (Hv.out.up hb9)
 replace HB := hbu HB hb9
 replace HZS := sz HZS hz9.out
 clear hb9 hz9
 have HK := Lib.hid (Kept.refl (fun q9 => q9 = w.heap.size + 3) w3)
 rw [← cpB_zero h] at Hv
 have HB0 := HB
 have Ha0 := Ha
 have Hb0 := Hb
 have Hr0 := Hr
 have Hs0 := Hs
 have HBS := Lib.hid HB.out.size
 go_wp2_with fail
 go_loopw [11] (fun c wr => ∃ k : Nat, k ≤ 8 ∧ c = .int .i64 k ∧ Hid (Bx wr (w.heap.size + 3) 226 (wlV (cpB h k))) ∧ Hid (Kept (fun q9 => q9 = w.heap.size + 3) w3 wr)) (fun c _ => 8 - (intOf c).toNat)
 case atStart => exact ⟨0, by omega, rfl, Hv, HK⟩
 case round =>
  obtain ⟨k, hk, rfl, HQ, HK1⟩ := hrel
  clear HK
  have hg9 := HK1.out
  clear Hv
  replace Ha := Lib.hid (Bx.keptP (P := fun q9 => q9 = w.heap.size + 3) Ha.out hg9 (show ¬ (w.heap.size = w.heap.size + 3) by have g0 := HZS.out; omega))
  replace Hb := Lib.hid (Bx.keptP (P := fun q9 => q9 = w.heap.size + 3) Hb.out hg9 (show ¬ (w.heap.size + 1 = w.heap.size + 3) by have g0 := HZS.out; omega))
  replace Hr := Lib.hid (Bx.keptP (P := fun q9 => q9 = w.heap.size + 3) Hr.out hg9 (show ¬ (w.heap.size + 2 = w.heap.size + 3) by have g0 := HZS.out; omega))
  replace Hs := Lib.hid (Bx.keptP (P := fun q9 => q9 = w.heap.size + 3) Hs.out hg9 (show ¬ (w2.heap.size = w.heap.size + 3) by have g0 := HZS.out; omega))
  replace HB := Lib.hid (Below.keptP HB.out hg9 (by have g0 := HZS.out; omega) (fun q9 h9 => (show w.heap.size ≤ _ by subst h9; have g0 := HZS.out; omega)))
  replace HZS := sz HZS (show w3.heap.size ≤ wr.heap.size from hg9.size)
  clear hg9
  have Hv := HQ
  clear HQ
  have HCL := Lib.hid (cpB_len h k)
  by_cases hk8 : k < 8
  ·have HCS := Lib.hid ((cpB_succ h k).resolve_right (by omega))
   have c1 := wl_cell Ha.out k (by rw [HH.out]; exact hk8)
   have c2 := wl_cell Hs.out k (by rw [startB_len]; exact hk8)
   have c3 := Hv.out.cell (wlV_get (cpB h k) k (by rw [HCL.out]; omega))
   generalize h.getD k 0 = x at *
   obtain ⟨y, hy⟩ : ∃ y, startV.getD k 0 = y := ⟨_, rfl⟩
   have HY := Lib.hid hy
   rw [hy] at c2 HCS
   clear hy
   generalize cpB h k = V at *
   have f4_v := Hv.out.frozen
   obtain ⟨w4, hq4, hg9, hz9, hx9⟩ := put1 Hv k (.int .u32 (x.toNat : Int)) _ rfl
   replace Ha := Lib.hid (Ha.out.grown hg9.out (sne (by have g0 := HZS.out; omega)))
   replace Hb := Lib.hid (Hb.out.grown hg9.out (sne (by have g0 := HZS.out; omega)))
   replace Hr := Lib.hid (Hr.out.grown hg9.out (sne (by have g0 := HZS.out; omega)))
   replace Hs := Lib.hid (Hs.out.grown hg9.out (sne (by have g0 := HZS.out; omega)))
   replace HK1 := Lib.hid (Kept.grown HK1.out hg9.out (fun q9 e9 => by obtain rfl := Option.some.inj e9; exact Or.inr (rfl)))
   replace HB := hbg HB hg9 (by have g0 := HZS.out; omega)
   replace HZS := sz HZS hz9.out
   replace Hv := hx9
   clear hx9 hg9 hz9
   replace Hv := Lib.hid Hv.out.wset
   go_upto_region 7 with (fail)
   clear c1 c2 c3
   have c2 := wl_cell Hs.out k (by rw [startB_len]; exact hk8)
   rw [HY.out] at c2
   have HSL9 : (V.set k x).length = 16 := by rw [List.length_set]; exact HCL.out
   have c3 := Hv.out.cell (wlV_get (V.set k x) (k + 8) (by rw [HSL9]; omega))
   have f5_v := Hv.out.frozen
   obtain ⟨w5, hq5, hg9, hz9, hx9⟩ := put1 Hv (k + 8) (.int .u32 (y.toNat : Int)) _ rfl
   replace Ha := Lib.hid (Ha.out.grown hg9.out (sne (by have g0 := HZS.out; omega)))
   replace Hb := Lib.hid (Hb.out.grown hg9.out (sne (by have g0 := HZS.out; omega)))
   replace Hr := Lib.hid (Hr.out.grown hg9.out (sne (by have g0 := HZS.out; omega)))
   replace Hs := Lib.hid (Hs.out.grown hg9.out (sne (by have g0 := HZS.out; omega)))
   replace HK1 := Lib.hid (Kept.grown HK1.out hg9.out (fun q9 e9 => by obtain rfl := Option.some.inj e9; exact Or.inr (rfl)))
   replace HB := hbg HB hg9 (by have g0 := HZS.out; omega)
   replace HZS := sz HZS hz9.out
   replace Hv := hx9
   clear hx9 hg9 hz9
   replace Hv := Lib.hid Hv.out.wset
   have HQ := Hv
   rw [← HCS.out] at HQ
   go_wp2_with fail
   clear hq5 f5_v hq4 f4_v c2 c3
   exact ⟨⟨k + 1, by omega, by go_num, HQ, HK1⟩, by simp [intOf]; omega⟩
  ·have hk' : k = 8 := by omega
   subst hk'
   rw [cpB_all h HH.out] at Hv
   have hdk : decide ((8 : Int) < 8) = false := rfl
   go_upto_region 8 with (fail)
   clear Hs
   have c12 : wr.cell? ⟨w.heap.size + 3, 12, none⟩ = some (.int .u32 1359893119) := Hv.out.cell (by rw [show 12 = 8 + 4 from rfl, pre_cell h HH.out 4 (by decide)]; rfl)
   obtain ⟨z12, e12⟩ : ∃ z, startB.getD 4 0 ^^^ BitVec.ofNat 32 n = z := ⟨_, rfl⟩
   obtain ⟨z13, e13⟩ : ∃ z, startB.getD 5 0 ^^^ BitVec.ofNat 32 (n / 4294967296) = z := ⟨_, rfl⟩
   rw [e12] at hx12
   rw [e13] at hx13
   have HPR := Lib.hid (show ∀ b, preB h n b = if b then (((h ++ startV).set 12 z12).set 13 z13).set 14 (~~~ startB.getD 6 0) else ((h ++ startV).set 12 z12).set 13 z13 from fun b => by rw [← e12, ← e13]; rfl)
   clear e12 e13
   have f4_v := Hv.out.frozen
   obtain ⟨w4, hq4, hg9, hz9, hx9⟩ := put1 Hv 12 (.int .u32 (z12.toNat : Int)) _ rfl
   replace Ha := Lib.hid (Ha.out.grown hg9.out (sne (by have g0 := HZS.out; omega)))
   replace Hb := Lib.hid (Hb.out.grown hg9.out (sne (by have g0 := HZS.out; omega)))
   replace Hr := Lib.hid (Hr.out.grown hg9.out (sne (by have g0 := HZS.out; omega)))
   replace HK1 := Lib.hid (Kept.grown HK1.out hg9.out (fun q9 e9 => by obtain rfl := Option.some.inj e9; exact Or.inr (rfl)))
   replace HB := hbg HB hg9 (by have g0 := HZS.out; omega)
   replace HZS := sz HZS hz9.out
   replace Hv := hx9
   clear hx9 hg9 hz9
   replace Hv := Lib.hid Hv.out.wset
   go_upto_region 9 with (fail)
   clear c12
   have c13 : w4.cell? ⟨w.heap.size + 3, 13, none⟩ = some (.int .u32 2600822924) := Hv.out.cell (by rw [wl_ne _ _ _ _ (by decide), show 13 = 8 + 5 from rfl, pre_cell h HH.out 5 (by decide)]; rfl)
   have f5_v := Hv.out.frozen
   obtain ⟨w5, hq5, hg9, hz9, hx9⟩ := put1 Hv 13 (.int .u32 (z13.toNat : Int)) _ rfl
   replace Ha := Lib.hid (Ha.out.grown hg9.out (sne (by have g0 := HZS.out; omega)))
   replace Hb := Lib.hid (Hb.out.grown hg9.out (sne (by have g0 := HZS.out; omega)))
   replace Hr := Lib.hid (Hr.out.grown hg9.out (sne (by have g0 := HZS.out; omega)))
   replace HK1 := Lib.hid (Kept.grown HK1.out hg9.out (fun q9 e9 => by obtain rfl := Option.some.inj e9; exact Or.inr (rfl)))
   replace HB := hbg HB hg9 (by have g0 := HZS.out; omega)
   replace HZS := sz HZS hz9.out
   replace Hv := hx9
   clear hx9 hg9 hz9
   replace Hv := Lib.hid Hv.out.wset
   go_upto_region 10 with (fail)
   clear c13 hx12 hx13
   have HLV := Lib.hid (show (((h ++ startV).set 12 z12).set 13 z13).length = 16 by rw [List.length_set, List.length_set, List.length_append, HH.out]; rfl)
   have c14 : w5.cell? ⟨w.heap.size + 3, 14, none⟩ = some (.int .u32 528734635) := Hv.out.cell (by rw [wl_ne _ _ _ _ (by decide), wl_ne _ _ _ _ (by decide), show 14 = 8 + 6 from rfl, pre_cell h HH.out 6 (by decide)]; rfl)
   generalize ((h ++ startV).set 12 z12).set 13 z13 = V1 at *
   cases last
   case true =>
    obtain ⟨z14, e14⟩ : ∃ z, ~~~ startB.getD 6 0 = z := ⟨_, rfl⟩
    have HX14 := Lib.hid (show (z14.toNat : Int) = 3766232660 by rw [← e14]; rfl)
    rw [e14] at HPR
    clear e14
    have f6_v := Hv.out.frozen
    obtain ⟨w6, hq6, hg9, hz9, hx9⟩ := put1 Hv 14 (.int .u32 3766232660) _ rfl
    replace Ha := Lib.hid (Ha.out.grown hg9.out (sne (by have g0 := HZS.out; omega)))
    replace Hb := Lib.hid (Hb.out.grown hg9.out (sne (by have g0 := HZS.out; omega)))
    replace Hr := Lib.hid (Hr.out.grown hg9.out (sne (by have g0 := HZS.out; omega)))
    replace HK1 := Lib.hid (Kept.grown HK1.out hg9.out (fun q9 e9 => by obtain rfl := Option.some.inj e9; exact Or.inr (rfl)))
    replace HB := hbg HB hg9 (by have g0 := HZS.out; omega)
    replace HZS := sz HZS hz9.out
    replace Hv := hx9
    clear hx9 hg9 hz9
    replace Hv := Lib.hid (show Bx w6 (w.heap.size + 3) 226 (wlV (V1.set 14 z14)) from by rw [← wlV_set, HX14.out]; exact Hv.out)
    have HPV := Lib.hid (show V1.set 14 z14 = preB h n true from (HPR.out true).symm)
    have HVL := Lib.hid (show (preB h n true).length = 16 by rw [← HPV.out, List.length_set]; exact HLV.out)
    rw [HPV.out] at Hv
    clear HPV HPR HLV
    go_upto_region 12 with (fail)
    clear c14
    have HVI := Lib.hid (show (Try.prog.info? 226).map (·.size) = some (wlV (preB h n true)).length by rw [wlV_len, HVL.out]; exact info16)
    have HSA := Lib.hid (fun w => rStir_any (preB h n true) m HVL.out HM.out w)
    have HSL := Lib.hid (stirB_len (preB h n true) m)
    have HPE := Lib.hid (show mixB h (stirB (preB h n true) m) 8 = pressB h m n true from rfl)
    generalize stirB (preB h n true) m = S at *
    generalize preB h n true = V at *
    go_wp2_with (first | refine wpList_load_mid rfl 226 (.tmp 9) rfl (w.heap.size + 3) 0 rfl (wlV V) _ Hv.out.range Try.underlying226 rfl HVI.out ?_ | refine wpList_load_mid rfl 226 (.tmp 5) rfl (w.heap.size + 1) 0 rfl (wlV m) _ Hb.out.range Try.underlying226 rfl HIM.out ?_)
    refine (HSA.out w6).mono ?_
    rintro e w7 ⟨rfl, hb9⟩
    replace Ha := Lib.hid (Ha.out.up hb9)
    replace Hb := Lib.hid (Hb.out.up hb9)
    replace Hr := Lib.hid (Hr.out.up hb9)
    replace Hv := Lib.hid (Hv.out.up hb9)
    replace HK1 := Lib.hid (Kept.up HK1.out hb9)
    replace HB := hbu HB hb9
    replace HZS := sz HZS hb9.size
    clear hb9
    have HIS := Lib.hid (show (Try.prog.info? 226).map (·.size) = some (wlV S).length by rw [wlV_len, HSL.out, HVL.out]; exact info16)
    have HZS2 := Lib.hid (show (wlV (zw 16)).length = (wlV S).length by rw [wlV_len, wlV_len, HSL.out, HVL.out]; rfl)
    go_upto_region 13 with (refine wpList_store_new rfl 226 226 (.tmp 12) (.tmp 51) rfl (wlV (zw 16)) (wlV S) rfl rfl HIS.out HZS2.out (wl_one S) ?_)
    clear HVI HSA HIM HZS2 HIS Hv Hb
    obtain ⟨w8, hq8, hb9, hz9, Hs⟩ := new1 w7 226 (wlV S)
    rw [hq8]
    clear hq8
    replace Ha := Lib.hid (Ha.out.up hb9)
    replace Hr := Lib.hid (Hr.out.up hb9)
    replace HK1 := Lib.hid (Kept.up HK1.out hb9)
    replace HB := hbu HB hb9
    replace HZS := sz HZS hz9.out
    clear hb9 hz9
    rw [show wlV h = wlV (mixB h S 0) by rw [mixB_zero h S HH.out]] at Ha
    clear hz hz8
    have HK := Lib.hid (Kept.refl (fun q9 => q9 = w.heap.size) w8)
    go_wp2_with fail
    clear hq6 f6_v hq5 f5_v hq4 f4_v
    go_loopw [13] (fun c wr => ∃ k : Nat, k ≤ 8 ∧ c = .int .i64 k ∧ Hid (Bx wr w.heap.size 224 (wlV (mixB h S k))) ∧ Hid (Kept (fun q9 => q9 = w.heap.size) w8 wr)) (fun c _ => 8 - (intOf c).toNat)
    case atStart => exact ⟨0, by omega, rfl, Ha, HK⟩
    case round =>
     obtain ⟨k, hk, rfl, HQ, HK1⟩ := hrel
     clear HK
     have hg9 := HK1.out
     clear Ha
     replace Hr := Lib.hid (Bx.keptP (P := fun q9 => q9 = w.heap.size) Hr.out hg9 (show ¬ (w.heap.size + 2 = w.heap.size) by have g0 := HZS.out; omega))
     replace Hs := Lib.hid (Bx.keptP (P := fun q9 => q9 = w.heap.size) Hs.out hg9 (show ¬ (w7.heap.size = w.heap.size) by have g0 := HZS.out; omega))
     replace HB := Lib.hid (Below.keptP HB.out hg9 (by have g0 := HZS.out; omega) (fun q9 h9 => (show w.heap.size ≤ _ by subst h9; have g0 := HZS.out; omega)))
     replace HZS := sz HZS (show w8.heap.size ≤ wr.heap.size from hg9.size)
     clear hg9
     have Ha := HQ
     clear HQ
     have HAL := Lib.hid (mixB_len h S k)
     by_cases hk8 : k < 8
     ·have hs := mixB_succ h S k
      have c1 := wl_cell Ha.out k (by rw [HAL.out]; exact hk8)
      have e1 : (mixB h S k).getD k 0 = h.getD k 0 := by
       show ((mixB h S k)[k]?).getD 0 = _
       rw [List.getElem?_eq_getElem (by rw [HAL.out]; exact hk8)]
       exact (mixB_at h S k k (by rw [HAL.out]; exact hk8)).trans (if_neg (by omega))
      rw [e1] at c1
      have c2 := wl_cell Hs.out k (by rw [HSL.out, HVL.out]; omega)
      have c3 := wl_cell Hs.out (k + 8) (by rw [HSL.out, HVL.out]; omega)
      generalize h.getD k 0 = x at *
      generalize S.getD k 0 = y at *
      generalize S.getD (k + 8) 0 = z at *
      have g1 := bits_xor x y
      obtain ⟨yz, e2⟩ : ∃ u, x ^^^ y = u := ⟨_, rfl⟩
      rw [e2] at g1
      have g2 := bits_xor yz z
      obtain ⟨u, e3⟩ : ∃ u, yz ^^^ z = u := ⟨_, rfl⟩
      rw [e3] at g2
      rw [show x ^^^ y ^^^ z = u by rw [← e3, ← e2]] at hs
      have HSS := Lib.hid hs
      clear hs e1 e2 e3
      generalize mixB h S k = M at *
      go_wp2_with fail
      refine wp_region_otail 14 (by kernel_rfl) (by kernel_rfl) ?_
      simp only [List.take_succ_cons, List.take_zero, List.drop_succ_cons, List.drop_zero]
      have hov_w_heap_size := fun (E : Over wr) o => E.cell (b := w.heap.size) o Ha.out.lt
      have hov_w7_heap_size := fun (E : Over wr) o => E.cell (b := w7.heap.size) o Hs.out.lt
      repeat (go_big_quiet_step (first | fail))
      all_goals (try unfold elV limbV)
      repeat (go_big_quiet_step (first | fail))
      all_goals (try unfold elV limbV)
      repeat (go_big_quiet_step (first | fail))
      all_goals (try unfold ciphV)
      refine wpQuiet_nil ?_
      rintro _ ⟨E, rfl⟩
      clear hov_w_heap_size hov_w7_heap_size
      replace Hr := Lib.hid (Hr.out.up E.h)
      replace Hs := Lib.hid (Hs.out.up E.h)
      replace Ha := Lib.hid (Ha.out.up E.h)
      replace HK1 := Lib.hid (Kept.up HK1.out E.h)
      replace HB := hbu HB E.h
      replace HZS := sz HZS E.h.size
      obtain ⟨w9, hq9⟩ : ∃ W9 : World, E.w = W9 := ⟨_, rfl⟩
      rw [hq9] at Hr Hs Ha HK1 HB HZS ⊢
      clear hq9 E c1 c2 c3
      have c1 := Ha.out.cell (wlV_get M k (by rw [HAL.out]; exact hk8))
      have f10_a := Ha.out.frozen
      obtain ⟨w10, hq10, hg9, hz9, hx9⟩ := put1 Ha k (.int .u32 (u.toNat : Int)) _ rfl
      replace Hr := Lib.hid (Hr.out.grown hg9.out (sne (by have g0 := HZS.out; omega)))
      replace Hs := Lib.hid (Hs.out.grown hg9.out (sne (by have g0 := HZS.out; omega)))
      replace HK1 := Lib.hid (Kept.grown HK1.out hg9.out (fun q9 e9 => by obtain rfl := Option.some.inj e9; exact Or.inr (rfl)))
      replace HB := hbg HB hg9 (by have g0 := HZS.out; omega)
      replace HZS := sz HZS hz9.out
      replace Ha := hx9
      clear hx9 hg9 hz9
      replace Ha := Lib.hid Ha.out.wset
      go_wp2_with fail
      clear hq10 f10_a c1 g1 g2
      have HQ := Ha
      rw [← HSS.out] at HQ
      exact ⟨⟨k + 1, by omega, by go_num, HQ, HK1⟩, by simp [intOf]; omega⟩
     ·have hk' : k = 8 := by omega
      subst hk'
      rw [HPE.out] at Ha
      have HR := Lib.hid (pressB_len h m n true)
      obtain ⟨R, hR⟩ : ∃ R, pressB h m n true = R := ⟨_, rfl⟩
      rw [hR] at Ha HR
      have HRE := Lib.hid hR
      clear hR
      have HRI := Lib.hid (show (Try.prog.info? 224).map (·.size) = some (wlV R).length by rw [wlV_len, HR.out]; exact info8)
      have HRZ := Lib.hid (show (wlV R).length = (wlV (zw 8)).length by rw [wlV_len, wlV_len, HR.out]; rfl)
      obtain ⟨w5, hq5, hg5, hz5, hr5⟩ := puts Hr 0 (wlV R) (wlV R) (putL_all _ _ HRZ.out)
      have HB5 := hbg HB hg5 (by omega)
      go_wp2_with (first | refine wpList_load_mid rfl 224 (.tmp 4) rfl w.heap.size 0 rfl (wlV R) _ Ha.out.range Try.underlying224 rfl HRI.out ?_ | refine wpList_store_mid rfl 224 (.tmp 8) (.tmp 70) rfl (w.heap.size + 2) 0 (wlV R).toArray rfl rfl (Hr.out.there (by simp [HRZ.out])) (by simpa using HRI.out) (all_oneCell_toArray (wl_one R)) ?_)
      rw [hq5]
      exact ret_arr Try.results161 hr5.out _ rfl Try.underlying224 rfl HRI.out rfl ⟨by rw [HRE.out], HB5.out⟩
   case false =>
    have HPV := Lib.hid (show V1 = preB h n false from (HPR.out false).symm)
    have HVL := Lib.hid (show (preB h n false).length = 16 by rw [← HPV.out]; exact HLV.out)
    rw [HPV.out] at Hv
    clear HPV HPR HLV
    go_upto_region 12 with (fail)
    clear c14
    have HVI := Lib.hid (show (Try.prog.info? 226).map (·.size) = some (wlV (preB h n false)).length by rw [wlV_len, HVL.out]; exact info16)
    have HSA := Lib.hid (fun w => rStir_any (preB h n false) m HVL.out HM.out w)
    have HSL := Lib.hid (stirB_len (preB h n false) m)
    have HPE := Lib.hid (show mixB h (stirB (preB h n false) m) 8 = pressB h m n false from rfl)
    generalize stirB (preB h n false) m = S at *
    generalize preB h n false = V at *
    go_wp2_with (first | refine wpList_load_mid rfl 226 (.tmp 9) rfl (w.heap.size + 3) 0 rfl (wlV V) _ Hv.out.range Try.underlying226 rfl HVI.out ?_ | refine wpList_load_mid rfl 226 (.tmp 5) rfl (w.heap.size + 1) 0 rfl (wlV m) _ Hb.out.range Try.underlying226 rfl HIM.out ?_)
    refine (HSA.out w5).mono ?_
    rintro e w6 ⟨rfl, hb9⟩
    replace Ha := Lib.hid (Ha.out.up hb9)
    replace Hb := Lib.hid (Hb.out.up hb9)
    replace Hr := Lib.hid (Hr.out.up hb9)
    replace Hv := Lib.hid (Hv.out.up hb9)
    replace HK1 := Lib.hid (Kept.up HK1.out hb9)
    replace HB := hbu HB hb9
    replace HZS := sz HZS hb9.size
    clear hb9
    have HIS := Lib.hid (show (Try.prog.info? 226).map (·.size) = some (wlV S).length by rw [wlV_len, HSL.out, HVL.out]; exact info16)
    have HZS2 := Lib.hid (show (wlV (zw 16)).length = (wlV S).length by rw [wlV_len, wlV_len, HSL.out, HVL.out]; rfl)
    go_upto_region 13 with (refine wpList_store_new rfl 226 226 (.tmp 12) (.tmp 51) rfl (wlV (zw 16)) (wlV S) rfl rfl HIS.out HZS2.out (wl_one S) ?_)
    clear HVI HSA HIM HZS2 HIS Hv Hb
    obtain ⟨w7, hq7, hb9, hz9, Hs⟩ := new1 w6 226 (wlV S)
    rw [hq7]
    clear hq7
    replace Ha := Lib.hid (Ha.out.up hb9)
    replace Hr := Lib.hid (Hr.out.up hb9)
    replace HK1 := Lib.hid (Kept.up HK1.out hb9)
    replace HB := hbu HB hb9
    replace HZS := sz HZS hz9.out
    clear hb9 hz9
    rw [show wlV h = wlV (mixB h S 0) by rw [mixB_zero h S HH.out]] at Ha
    clear hz hz8
    have HK := Lib.hid (Kept.refl (fun q9 => q9 = w.heap.size) w7)
    go_wp2_with fail
    clear hq5 f5_v hq4 f4_v
    go_loopw [13] (fun c wr => ∃ k : Nat, k ≤ 8 ∧ c = .int .i64 k ∧ Hid (Bx wr w.heap.size 224 (wlV (mixB h S k))) ∧ Hid (Kept (fun q9 => q9 = w.heap.size) w7 wr)) (fun c _ => 8 - (intOf c).toNat)
    case atStart => exact ⟨0, by omega, rfl, Ha, HK⟩
    case round =>
     obtain ⟨k, hk, rfl, HQ, HK1⟩ := hrel
     clear HK
     have hg9 := HK1.out
     clear Ha
     replace Hr := Lib.hid (Bx.keptP (P := fun q9 => q9 = w.heap.size) Hr.out hg9 (show ¬ (w.heap.size + 2 = w.heap.size) by have g0 := HZS.out; omega))
     replace Hs := Lib.hid (Bx.keptP (P := fun q9 => q9 = w.heap.size) Hs.out hg9 (show ¬ (w6.heap.size = w.heap.size) by have g0 := HZS.out; omega))
     replace HB := Lib.hid (Below.keptP HB.out hg9 (by have g0 := HZS.out; omega) (fun q9 h9 => (show w.heap.size ≤ _ by subst h9; have g0 := HZS.out; omega)))
     replace HZS := sz HZS (show w7.heap.size ≤ wr.heap.size from hg9.size)
     clear hg9
     have Ha := HQ
     clear HQ
     have HAL := Lib.hid (mixB_len h S k)
     by_cases hk8 : k < 8
     ·have hs := mixB_succ h S k
      have c1 := wl_cell Ha.out k (by rw [HAL.out]; exact hk8)
      have e1 : (mixB h S k).getD k 0 = h.getD k 0 := by
       show ((mixB h S k)[k]?).getD 0 = _
       rw [List.getElem?_eq_getElem (by rw [HAL.out]; exact hk8)]
       exact (mixB_at h S k k (by rw [HAL.out]; exact hk8)).trans (if_neg (by omega))
      rw [e1] at c1
      have c2 := wl_cell Hs.out k (by rw [HSL.out, HVL.out]; omega)
      have c3 := wl_cell Hs.out (k + 8) (by rw [HSL.out, HVL.out]; omega)
      generalize h.getD k 0 = x at *
      generalize S.getD k 0 = y at *
      generalize S.getD (k + 8) 0 = z at *
      have g1 := bits_xor x y
      obtain ⟨yz, e2⟩ : ∃ u, x ^^^ y = u := ⟨_, rfl⟩
      rw [e2] at g1
      have g2 := bits_xor yz z
      obtain ⟨u, e3⟩ : ∃ u, yz ^^^ z = u := ⟨_, rfl⟩
      rw [e3] at g2
      rw [show x ^^^ y ^^^ z = u by rw [← e3, ← e2]] at hs
      have HSS := Lib.hid hs
      clear hs e1 e2 e3
      generalize mixB h S k = M at *
      go_wp2_with fail
      refine wp_region_otail 14 (by kernel_rfl) (by kernel_rfl) ?_
      simp only [List.take_succ_cons, List.take_zero, List.drop_succ_cons, List.drop_zero]
      have hov_w_heap_size := fun (E : Over wr) o => E.cell (b := w.heap.size) o Ha.out.lt
      have hov_w6_heap_size := fun (E : Over wr) o => E.cell (b := w6.heap.size) o Hs.out.lt
      repeat (go_big_quiet_step (first | fail))
      all_goals (try unfold elV limbV)
      repeat (go_big_quiet_step (first | fail))
      all_goals (try unfold elV limbV)
      repeat (go_big_quiet_step (first | fail))
      all_goals (try unfold ciphV)
      refine wpQuiet_nil ?_
      rintro _ ⟨E, rfl⟩
      clear hov_w_heap_size hov_w6_heap_size
      replace Hr := Lib.hid (Hr.out.up E.h)
      replace Hs := Lib.hid (Hs.out.up E.h)
      replace Ha := Lib.hid (Ha.out.up E.h)
      replace HK1 := Lib.hid (Kept.up HK1.out E.h)
      replace HB := hbu HB E.h
      replace HZS := sz HZS E.h.size
      obtain ⟨w8, hq9⟩ : ∃ W9 : World, E.w = W9 := ⟨_, rfl⟩
      rw [hq9] at Hr Hs Ha HK1 HB HZS ⊢
      clear hq9 E c1 c2 c3
      have c1 := Ha.out.cell (wlV_get M k (by rw [HAL.out]; exact hk8))
      have f9_a := Ha.out.frozen
      obtain ⟨w9, hq9, hg9, hz9, hx9⟩ := put1 Ha k (.int .u32 (u.toNat : Int)) _ rfl
      replace Hr := Lib.hid (Hr.out.grown hg9.out (sne (by have g0 := HZS.out; omega)))
      replace Hs := Lib.hid (Hs.out.grown hg9.out (sne (by have g0 := HZS.out; omega)))
      replace HK1 := Lib.hid (Kept.grown HK1.out hg9.out (fun q9 e9 => by obtain rfl := Option.some.inj e9; exact Or.inr (rfl)))
      replace HB := hbg HB hg9 (by have g0 := HZS.out; omega)
      replace HZS := sz HZS hz9.out
      replace Ha := hx9
      clear hx9 hg9 hz9
      replace Ha := Lib.hid Ha.out.wset
      go_wp2_with fail
      clear hq9 f9_a c1 g1 g2
      have HQ := Ha
      rw [← HSS.out] at HQ
      exact ⟨⟨k + 1, by omega, by go_num, HQ, HK1⟩, by simp [intOf]; omega⟩
     ·have hk' : k = 8 := by omega
      subst hk'
      rw [HPE.out] at Ha
      have HR := Lib.hid (pressB_len h m n false)
      obtain ⟨R, hR⟩ : ∃ R, pressB h m n false = R := ⟨_, rfl⟩
      rw [hR] at Ha HR
      have HRE := Lib.hid hR
      clear hR
      have HRI := Lib.hid (show (Try.prog.info? 224).map (·.size) = some (wlV R).length by rw [wlV_len, HR.out]; exact info8)
      have HRZ := Lib.hid (show (wlV R).length = (wlV (zw 8)).length by rw [wlV_len, wlV_len, HR.out]; rfl)
      obtain ⟨w5, hq5, hg5, hz5, hr5⟩ := puts Hr 0 (wlV R) (wlV R) (putL_all _ _ HRZ.out)
      have HB5 := hbg HB hg5 (by omega)
      go_wp2_with (first | refine wpList_load_mid rfl 224 (.tmp 4) rfl w.heap.size 0 rfl (wlV R) _ Ha.out.range Try.underlying224 rfl HRI.out ?_ | refine wpList_store_mid rfl 224 (.tmp 8) (.tmp 70) rfl (w.heap.size + 2) 0 (wlV R).toArray rfl rfl (Hr.out.there (by simp [HRZ.out])) (by simpa using HRI.out) (all_oneCell_toArray (wl_one R)) ?_)
      rw [hq5]
      exact ret_arr Try.results161 hr5.out _ rfl Try.underlying224 rfl HRI.out rfl ⟨by rw [HRE.out], HB5.out⟩
end Go.Proofs.Ytjmeakfjfpnciaa
namespace Go.Proofs.Ytjmeakfjfpnciaa
open Go.RowKit Go.Lib
theorem power_any (r : Nat) (hr : r < 4) (w : World) : Calls Try.prog 160 #[.int .i64 (r : Int)] w fun e w' => e = .returned (.int .u32 ((256 ^ r : Nat) : Int)) ∧ Below w.heap.size w w' := by
 go_enter Try.func160, Try.ntmps160
 go_wp2_with fail
 go_loop [3, 4] (fun v c => ∃ j : Nat, j ≤ r ∧ c = .int .i64 j ∧ v = .int .u32 ((256 ^ j : Nat) : Int)) (fun _ c => r - (RowKit.intOf c).toNat)
 case atStart => exact ⟨0, by omega, rfl, rfl⟩
 case round =>
  obtain ⟨j, hj, rfl, rfl⟩ := hrel
  by_cases hjr : j < r
  ·have HS := Lib.hid (show ((256 ^ (j + 1) : Nat) : Int) = ((256 ^ j : Nat) : Int) * 256 by rw [Nat.pow_succ]; omega)
   have hb : ((256 ^ j : Nat) : Int) ≤ 65536 := by
    have := Nat.pow_le_pow_right (show 0 < 256 by decide) (show j ≤ 2 by omega)
    have e : (256 : Nat) ^ 2 = 65536 := rfl
    omega
   have hb0 : (0 : Int) ≤ ((256 ^ j : Nat) : Int) := Int.natCast_nonneg _
   generalize ((256 ^ j : Nat) : Int) = p at *
   go_wp2_with fail
   exact ⟨⟨j + 1, by omega, by go_num, by rw [HS.out]⟩, by simp [RowKit.intOf]; omega⟩
  ·have hjr' : j = r := by omega
   subst hjr'
   go_wp2_with fail
   go_ret
   exact ⟨rfl, Below.refl _ _⟩
theorem wordsB_full (l : List UInt8) (_h : l.length ≤ 64) : wordsB l l.length = wordsB l 64 := by
 apply wordsB_congr
 intro j hj
 unfold byteW
 rw [if_pos hj]
 by_cases e : j < l.length
 ·rw [if_pos e]
 ·rw [if_neg e]
  simp [List.getD, List.getElem?_eq_none (show l.length ≤ j by omega)]
def keyW (s : List UInt8) (k : Nat) : WL := if k ≤ lastB s then allB s k else digW s
theorem keyW_len (s : List UInt8) (k : Nat) : (keyW s k).length = 8 := by unfold keyW; split; exact allB_len s k; exact digW_len s
theorem piece_get (s : List UInt8) (k i : Nat) (h : i < 64) : (pieceB s k).getD i 0 = s.getD (64 * k + i) 0 := by
 unfold pieceB List.getD
 rw [List.getElem?_take_of_lt h, List.getElem?_drop]
theorem piece_len (s : List UInt8) (k : Nat) : (pieceB s k).length = min 64 (s.length - 64 * k) := by unfold pieceB; rw [List.length_take, List.length_drop]
theorem word_mul (l : List UInt8) (i : Nat) : (((l.getD i 0).toNat : Int) * ((256 ^ (i % 4) : Nat) : Int)) % 4294967296 = ((BitVec.ofNat 32 ((l.getD i 0).toNat * 256 ^ (i % 4))).toNat : Int) := by
 rw [BitVec.toNat_ofNat]
 omega
def outP (s : List UInt8) (i : Nat) : List UInt8 := (digB s).take i ++ List.replicate (32 - i) 0
theorem outP_len (s : List UInt8) (i : Nat) (h : i ≤ 32) : (outP s i).length = 32 := by unfold outP; simp [digB_len]; omega
theorem outB_at : ∀ (w : WL) (i : Nat), i / 4 < w.length → (outB w)[i]? = some (UInt8.ofNat ((w.getD (i / 4) 0).toNat / 256 ^ (i % 4) % 256))
 | [], i, h => by simp at h
 | x :: w, i, h => by
   show ([_, _, _, _] ++ outB w)[i]? = _
   by_cases h4 : i < 4
   ·rcases (show i = 0 ∨ i = 1 ∨ i = 2 ∨ i = 3 by omega) with rfl | rfl | rfl | rfl <;> simp [List.getD]
   ·rw [List.getElem?_append_right (by simp; omega)]
    have e1 : i / 4 = (i - 4) / 4 + 1 := by omega
    have e2 : i % 4 = (i - 4) % 4 := by omega
    rw [e1, e2]
    exact outB_at w (i - 4) (by rw [List.length_cons] at h; omega)
theorem dig_get (s : List UInt8) (i : Nat) (h : i < 32) : (digB s).getD i 0 = UInt8.ofNat (((digW s).getD (i / 4) 0).toNat / 256 ^ (i % 4) % 256) := by
 unfold digB List.getD
 rw [outB_at _ _ (by rw [digW_len]; omega)]
 rfl
theorem digB_div (s : List UInt8) (i : Nat) (h : i < 32) : (((digW s).getD (i / 4) 0).toNat : Int) / ((256 ^ (i % 4) : Nat) : Int) % 256 = (((digB s).getD i 0).toNat : Int) := by
 rw [dig_get s i h, byte_int]
 omega
theorem outP_succ (s : List UInt8) (i : Nat) (h : i < 32) : outP s (i + 1) = (outP s i).set i ((digB s).getD i 0) := by
 have hl := digB_len s
 have e : (digB s).getD i 0 = (digB s)[i]'(by omega) := by simp [List.getD, hl, h]
 unfold outP
 rw [List.set_append_right _ _ (by rw [List.length_take]; omega), List.length_take, Nat.min_eq_left (by omega), Nat.sub_self, show 32 - i = (32 - (i + 1)) + 1 by omega, List.replicate_succ, List.set_cons_zero, List.take_succ_eq_append_getElem (by omega), List.append_assoc, e]
 rfl
theorem outP_all (s : List UInt8) : outP s 32 = digB s := by unfold outP; rw [List.take_of_length_le (by rw [digB_len]; exact Nat.le_refl _)]; simp
theorem make32 (s : List UInt8) (W : World) : (Instr.makeSlice 155 (.int .i64 32) (.int .i64 32)).run Try.prog W = .ok (.slice (some ⟨W.heap.size, 0, none⟩) 32 32) (W.alloc (.cells (byteCells (outP s 0)).toArray 5)) := by
 have e : madeCells #[Value.int .u8 0] 32 = (byteCells (outP s 0)).toArray := by
  unfold outP
  rw [List.take_zero, List.nil_append]
  kernel_rfl
 have h := Go.run_make_row' (P := Try.prog) 155 5 (.int .u8 0) 1 Try.underlying155 infoByte rfl .i64 .i64 32 (by decide) (by decide) W
 rw [e] at h
 exact h
theorem byteCells_set (l : List UInt8) (i : Nat) (y : UInt8) : (byteCells l).set i (.int .u8 (y.toNat : Int)) = byteCells (l.set i y) := by unfold byteCells; rw [List.map_set]
theorem Keyed_any (b : ByteArray) (hsz : b.size < 2305843009213693952) (w : World) :
  Calls Try.prog 108 #[.string ⟨#[]⟩, .string b] w fun e w' => e = .returned (.tuple #[.string (digS (bytesOf b)), .bool true]) ∧ Below w.heap.size w w' := by
 have hb0 : (0 : Int) ≤ (b.size : Int) := by omega
 by_cases hb : b.size = 0
 ·have hP : (((b.size : Int) + 63) / 64 == 0) = true := by rw [hb]; rfl
  have HPL := Lib.hid (show 1 = lastB (bytesOf b) + 1 by unfold lastB; rw [bytesOf_len, hb])
  clear hb
  go_enter Try.func108, Try.ntmps108
  go_wp2_with fail
  refine (rstart_any w).mono ?_
  rintro e w1 ⟨rfl, hb9⟩
  have HB := Lib.hid hb9
  have HZS := Lib.hid hb9.size
  clear hb9
  have HI8 := Lib.hid (show (Try.prog.info? 224).map (·.size) = some (wlV startV).length from info8)
  have HZ8 := Lib.hid (show (wlV (zw 8)).length = (wlV startV).length from rfl)
  have hz8 : (#[.int .u32 0, .int .u32 0, .int .u32 0, .int .u32 0, .int .u32 0, .int .u32 0, .int .u32 0, .int .u32 0] : Array Value) = (wlV (zw 8)).toArray := rfl
  go_upto_region 14 with (refine wpList_store_new rfl 224 224 (.tmp 10) (.tmp 40) rfl (wlV (zw 8)) (wlV startV) rfl rfl HI8.out HZ8.out (wl_one startV) ?_)
  clear hz8 HZ8 HI8
  have HBW := Lib.hid HB.out.size
  obtain ⟨w2, hq2, hb9, hz9, Hh⟩ := new1 w1 224 (wlV startV)
  rw [hq2]
  clear hq2
  replace HB := hbu HB hb9
  replace HZS := sz HZS hz9.out
  clear hb9 hz9
  have c0 : w2.cell? ⟨w1.heap.size, 0, none⟩ = some (.int .u32 1779033703) := Hh.out.cell rfl
  have hx0 : bits BinOp.xor IntKind.u32 1779033703 16842784 = 1795745351 := by decide
  have f3_h := Hh.out.frozen
  obtain ⟨w3, hq3, hg9, hz9, hx9⟩ := put1 Hh 0 (.int .u32 1795745351) _ rfl
  replace HB := hbg HB hg9 (by have g0 := HZS.out; omega)
  replace HZS := sz HZS hz9.out
  replace Hh := hx9
  clear hx9 hg9 hz9
  replace Hh := Lib.hid (show Bx w3 w1.heap.size 224 (wlV h0B) from Hh.out)
  go_wp2_with fail
  clear hq3 f3_h c0 hx0
  have HZ0 := Lib.hid (show w.heap.size ≤ w1.heap.size from HBW.out)
  have HP9 := Lib.hid hP
  clear hP HBW
  generalize w1.heap.size = hB at *
  have HQ0 := Lib.hid (show Bx w3 hB 224 (wlV (keyW (bytesOf b) 0)) from Hh.out)
  clear Hh
  go_loopw [11] (fun c wr => ∃ k : Nat, k ≤ 1 ∧ c = .int .i64 k ∧ Hid (Bx wr hB 224 (wlV (keyW (bytesOf b) k))) ∧ Hid (Below w.heap.size w wr)) (fun c _ => 1 - (RowKit.intOf c).toNat)
  case atStart => exact ⟨0, by omega, rfl, HQ0, HB⟩
  case round =>
   obtain ⟨k, hk, rfl, HQ, HB9⟩ := hrel
   clear HQ0 HB
   have HB := HB9
   have Hh := HQ
   clear HB9 HQ
   have HSB := Lib.hid HB.out.size
   have HSH := Lib.hid Hh.out.lt
   replace HZS := sz HZS HZ0.out
   replace HZS := sz HZS HSB.out
   replace HZS := sz HZS HSH.out
   by_cases hkP : k < 1
   ·have HKE := Lib.hid (show keyW (bytesOf b) k = allB (bytesOf b) k from by unfold keyW; rw [if_pos (by have := HPL.out; omega)])
    rw [HKE.out] at Hh
    have hz16 : (#[.int .u32 0, .int .u32 0, .int .u32 0, .int .u32 0, .int .u32 0, .int .u32 0, .int .u32 0, .int .u32 0, .int .u32 0, .int .u32 0, .int .u32 0, .int .u32 0, .int .u32 0, .int .u32 0, .int .u32 0, .int .u32 0] : Array Value) = (wlV (wordsB (pieceB (bytesOf b) k) 0)).toArray := by rw [wordsB_zero]; rfl
    have hkd : decide ((k : Int) < (1 : Int)) = true := by simp; omega
    have HCL := Lib.hid (show (pieceB (bytesOf b) k).length = min 64 (b.size - 64 * k) from by rw [piece_len, bytesOf_len])
    have hk64 : 64 * k ≤ b.size := by have := HPL.out; unfold lastB at this; rw [bytesOf_len] at this; omega
    go_upto_region 19 with (fail)
    obtain ⟨wo, rfl⟩ : ∃ wo : World, wo = wr := ⟨_, rfl⟩
    obtain ⟨w4, hq4, hb9, hz9, Hm⟩ := new1 wo 226 (wlV (wordsB (pieceB (bytesOf b) k) 0))
    rw [hq4]
    clear hq4
    replace Hh := Lib.hid (Hh.out.up hb9)
    replace HB := hbu HB hb9
    replace HZS := sz HZS hz9.out
    clear hb9 hz9 hz16
    have HK := Lib.hid (Kept.refl (fun q9 => q9 = wo.heap.size) w4)
    go_wp2_with fail
    go_loopw [13] (fun c wr => ∃ i : Nat, i ≤ (pieceB (bytesOf b) k).length ∧ c = .int .i64 i ∧ Hid (Bx wr wo.heap.size 226 (wlV (wordsB (pieceB (bytesOf b) k) i))) ∧ Hid (Kept (fun q9 => q9 = wo.heap.size) w4 wr)) (fun c _ => 64 - (RowKit.intOf c).toNat)
    case atStart => exact ⟨0, by omega, rfl, Hm, HK⟩
    case round =>
     obtain ⟨i, hi, rfl, HQ, HK1⟩ := hrel
     clear HK
     have hg9 := HK1.out
     clear Hm
     replace Hh := Lib.hid (Bx.keptP (P := fun q9 => q9 = wo.heap.size) Hh.out hg9 (show ¬ (hB = wo.heap.size) by have g0 := HZS.out; omega))
     replace HB := Lib.hid (Below.keptP HB.out hg9 (by have g0 := HZS.out; omega) (fun q9 h9 => (show w.heap.size ≤ _ by subst h9; have g0 := HZS.out; omega)))
     replace HZS := sz HZS (show w4.heap.size ≤ wr.heap.size from hg9.size)
     clear hg9
     have Hm := HQ
     clear HQ
     have HWL := Lib.hid (wordsB_len (pieceB (bytesOf b) k) i)
     have hi64 : i ≤ 64 := by have := HCL.out; omega
     by_cases hic : i < (pieceB (bytesOf b) k).length
     ·have hi6 : i < 64 := by have := HCL.out; omega
      have hin : 64 * k + i < b.size := by have := HCL.out; omega
      have hbb : (bytesOf b).getD (64 * k + i) 0 = b[64 * k + i] := by unfold bytesOf List.getD; rw [List.getElem?_eq_getElem (by rw [Array.length_toList]; exact hin)]; rfl
      have hix := fun W => run_index_str (P := Try.prog) W 9 b (64 * k + i) (64 * (k : Int) + (i : Int)) (by omega) hin (((pieceB (bytesOf b) k).getD i 0).toNat : Int) (by rw [piece_get _ _ _ hi6, hbb]) Try.underlying9
      have HWS := Lib.hid (wordsB_succ (pieceB (bytesOf b) k) i hi6)
      have HPW := fun w => power_any (i % 4) (by omega) w
      rw [show ((i % 4 : Nat) : Int) = (i : Int) % 4 from by omega] at HPW
      have HPW := Lib.hid HPW
      have hmul := word_mul (pieceB (bytesOf b) k) i
      have c1 := wl_cell Hm.out (i / 4) (by rw [HWL.out]; omega)
      generalize (wordsB (pieceB (bytesOf b) k) i).getD (i / 4) 0 = X at *
      generalize BitVec.ofNat 32 (((pieceB (bytesOf b) k).getD i 0).toNat * 256 ^ (i % 4)) = z at *
      clear hbb
      have hcb := ((pieceB (bytesOf b) k).getD i 0).toNat_lt
      generalize ((pieceB (bytesOf b) k).getD i 0).toNat = cb at *
      generalize ((256 ^ (i % 4) : Nat) : Int) = p at *
      have hadd := add32 X z
      obtain ⟨Z, hZ⟩ : ∃ Z, X + z = Z := ⟨_, rfl⟩
      rw [hZ] at hadd HWS
      clear hZ
      have a1 : (0 : Int) ≤ ((i / 4 : Nat) : Int) := by omega
      have a2 : ((i / 4 : Nat) : Int) < 16 := by omega
      have hdi : decide ((i : Int) < 64) = true := by simp; omega
      have hdn : decide (64 * (k : Int) + (i : Int) < (b.size : Int)) = true := by simp; omega
      go_wp2_with fail
      refine wp_region_otail 19 (by kernel_rfl) (by kernel_rfl) ?_
      simp only [List.take_succ_cons, List.take_zero, List.drop_succ_cons, List.drop_zero]
      have hov_wo_heap_size := fun (E : Over wr) o => E.cell (b := wo.heap.size) o Hm.out.lt
      repeat (go_big_quiet_step (first | (go_at_call 160; exact calls_over (HPW.out _))))
      all_goals (try unfold elV limbV)
      repeat (go_big_quiet_step (first | (go_at_call 160; exact calls_over (HPW.out _))))
      all_goals (try unfold elV limbV)
      repeat (go_big_quiet_step (first | (go_at_call 160; exact calls_over (HPW.out _))))
      all_goals (try unfold ciphV)
      refine wpQuiet_nil ?_
      rintro _ ⟨E, rfl⟩
      clear hov_wo_heap_size
      replace Hh := Lib.hid (Hh.out.up E.h)
      replace Hm := Lib.hid (Hm.out.up E.h)
      replace HK1 := Lib.hid (Kept.up HK1.out E.h)
      replace HB := hbu HB E.h
      replace HZS := sz HZS E.h.size
      obtain ⟨w5, hq9⟩ : ∃ W9 : World, E.w = W9 := ⟨_, rfl⟩
      rw [hq9] at Hh Hm HK1 HB HZS ⊢
      clear hq9 E c1 hix HPW
      have c1 := Hm.out.cell (wlV_get (wordsB (pieceB (bytesOf b) k) i) (i / 4) (by rw [HWL.out]; omega))
      have f6_m := Hm.out.frozen
      obtain ⟨w6, hq6, hg9, hz9, hx9⟩ := put1 Hm (i / 4) (.int .u32 (Z.toNat : Int)) _ rfl
      replace Hh := Lib.hid (Hh.out.grown hg9.out (sne (by have g0 := HZS.out; omega)))
      replace HK1 := Lib.hid (Kept.grown HK1.out hg9.out (fun q9 e9 => by obtain rfl := Option.some.inj e9; exact Or.inr (rfl)))
      replace HB := hbg HB hg9 (by have g0 := HZS.out; omega)
      replace HZS := sz HZS hz9.out
      replace Hm := hx9
      clear hx9 hg9 hz9
      replace Hm := Lib.hid Hm.out.wset
      rw [← HWS.out] at Hm
      go_wp2_with fail
      clear hq6 f6_m
      exact ⟨⟨i + 1, hic, by go_num, Hm, HK1⟩, by simp [RowKit.intOf]; omega⟩
     ·have hie : i = (pieceB (bytesOf b) k).length := by omega
      have hpl : (pieceB (bytesOf b) k).length ≤ 64 := by rw [← hie]; exact hi64
      rw [hie, wordsB_full _ hpl] at Hm
      have hcl := HCL.out
      rw [← hie] at hcl
      have hpl9 := HPL.out
      unfold lastB at hpl9
      rw [bytesOf_len] at hpl9
      have HHL := Lib.hid (allB_len (bytesOf b) k)
      have HHI := Lib.hid (show (Try.prog.info? 224).map (·.size) = some (wlV (allB (bytesOf b) k)).length by rw [wlV_len, HHL.out]; exact info8)
      have HMI := Lib.hid (show (Try.prog.info? 226).map (·.size) = some (wlV (wordsB (pieceB (bytesOf b) k) 64)).length by rw [wlV_len, wordsB_len]; exact info16)
      clear hie hpl
      by_cases hi6 : i < 64
      ·have hdi : decide ((i : Int) < 64) = true := by simp; omega
       have hdn : decide (64 * (k : Int) + (i : Int) < (b.size : Int)) = false := by simp; omega
       have hgt : (b.size : Int) < 64 * (k : Int) + 64 := by omega
       have hke : ((k : Int) == 0) = true := by rw [beq_iff_eq]; omega
       have HKN := Lib.hid (show keyW (bytesOf b) (k + 1) = pressB (allB (bytesOf b) k) (wordsB (pieceB (bytesOf b) k) 64) b.size true from by
        have e : k = lastB (bytesOf b) := by have := HPL.out; omega
        unfold keyW
        rw [if_neg (by omega), e]
        unfold digW
        rw [bytesOf_len])
       have HPR := Lib.hid (fun w => rPress_any (allB (bytesOf b) k) (wordsB (pieceB (bytesOf b) k) 64) HHL.out (wordsB_len _ _) b.size (by omega) true w)
       clear hcl hpl9
       go_wp2_with (first | refine wpList_load_mid rfl 224 (.tmp 10) rfl hB 0 rfl (wlV (allB (bytesOf b) k)) _ Hh.out.range Try.underlying224 rfl HHI.out ?_ | refine wpList_load_mid rfl 226 (.tmp 12) rfl wo.heap.size 0 rfl (wlV (wordsB (pieceB (bytesOf b) k) 64)) _ Hm.out.range Try.underlying226 rfl HMI.out ?_)
       refine (HPR.out wr).mono ?_
       rintro e w5 ⟨rfl, hb9⟩
       replace Hh := Lib.hid (Hh.out.up hb9)
       replace Hm := Lib.hid (Hm.out.up hb9)
       replace HK1 := Lib.hid (Kept.up HK1.out hb9)
       replace HB := hbu HB hb9
       replace HZS := sz HZS hb9.size
       clear hb9
       rw [← HKN.out]
       have HRL := Lib.hid (keyW_len (bytesOf b) (k + 1))
       obtain ⟨R, hR⟩ : ∃ R, keyW (bytesOf b) (k + 1) = R := ⟨_, rfl⟩
       rw [hR] at HRL ⊢
       have HRE := Lib.hid hR
       clear hR
       have HRI := Lib.hid (show (Try.prog.info? 224).map (·.size) = some (wlV R).length by rw [wlV_len, HRL.out]; exact info8)
       have HRZ := Lib.hid (show (wlV R).length = (wlV (allB (bytesOf b) k)).length by rw [wlV_len, wlV_len, HRL.out, HHL.out])
       obtain ⟨wz, hqz, hgz, hzz, hrz⟩ := puts Hh 0 (wlV R) (wlV R) (putL_all _ _ HRZ.out)
       have HBZ := hbg HB hgz (by have g0 := HZS.out; omega)
       go_wp2_with (refine wpList_store_mid rfl 224 (.tmp 10) (.tmp 101) rfl hB 0 (wlV R).toArray rfl rfl (Hh.out.there (by simp [HRZ.out])) (by simpa using HRI.out) (all_oneCell_toArray (wl_one R)) ?_)
       exact ⟨⟨k + 1, by omega, by go_num, by rw [HRE.out]; exact hrz, HBZ⟩, by simp [RowKit.intOf]; omega⟩
      ·have hdi : decide ((i : Int) < 64) = false := by simp; omega
       have hgt : 64 * (k : Int) + 64 ≤ (b.size : Int) := by omega
       by_cases hkl : k + 1 < 1
       ·omega
       ·have hke : ((k : Int) == 0) = true := by rw [beq_iff_eq]; omega
        have HKN := Lib.hid (show keyW (bytesOf b) (k + 1) = pressB (allB (bytesOf b) k) (wordsB (pieceB (bytesOf b) k) 64) (64 * k + 64) true from by
         have e : k = lastB (bytesOf b) := by have := HPL.out; omega
         have e2 : b.size = 64 * k + 64 := by omega
         unfold keyW
         rw [if_neg (by omega), ← e2, e]
         unfold digW
         rw [bytesOf_len])
        have hpr := fun w => rPress_any (allB (bytesOf b) k) (wordsB (pieceB (bytesOf b) k) 64) HHL.out (wordsB_len _ _) (64 * k + 64) (by omega) true w
        rw [show ((64 * k + 64 : Nat) : Int) = 64 * (k : Int) + 64 from by omega] at hpr
        have HPR := Lib.hid hpr
        clear hpr hcl hpl9
        go_wp2_with (first | refine wpList_load_mid rfl 224 (.tmp 10) rfl hB 0 rfl (wlV (allB (bytesOf b) k)) _ Hh.out.range Try.underlying224 rfl HHI.out ?_ | refine wpList_load_mid rfl 226 (.tmp 12) rfl wo.heap.size 0 rfl (wlV (wordsB (pieceB (bytesOf b) k) 64)) _ Hm.out.range Try.underlying226 rfl HMI.out ?_)
        refine (HPR.out wr).mono ?_
        rintro e w5 ⟨rfl, hb9⟩
        replace Hh := Lib.hid (Hh.out.up hb9)
        replace Hm := Lib.hid (Hm.out.up hb9)
        replace HK1 := Lib.hid (Kept.up HK1.out hb9)
        replace HB := hbu HB hb9
        replace HZS := sz HZS hb9.size
        clear hb9
        rw [← HKN.out]
        have HRL := Lib.hid (keyW_len (bytesOf b) (k + 1))
        obtain ⟨R, hR⟩ : ∃ R, keyW (bytesOf b) (k + 1) = R := ⟨_, rfl⟩
        rw [hR] at HRL ⊢
        have HRE := Lib.hid hR
        clear hR
        have HRI := Lib.hid (show (Try.prog.info? 224).map (·.size) = some (wlV R).length by rw [wlV_len, HRL.out]; exact info8)
        have HRZ := Lib.hid (show (wlV R).length = (wlV (allB (bytesOf b) k)).length by rw [wlV_len, wlV_len, HRL.out, HHL.out])
        obtain ⟨wz, hqz, hgz, hzz, hrz⟩ := puts Hh 0 (wlV R) (wlV R) (putL_all _ _ HRZ.out)
        have HBZ := hbg HB hgz (by have g0 := HZS.out; omega)
        go_wp2_with (refine wpList_store_mid rfl 224 (.tmp 10) (.tmp 101) rfl hB 0 (wlV R).toArray rfl rfl (Hh.out.there (by simp [HRZ.out])) (by simpa using HRI.out) (all_oneCell_toArray (wl_one R)) ?_)
        exact ⟨⟨k + 1, by omega, by go_num, by rw [HRE.out]; exact hrz, HBZ⟩, by simp [RowKit.intOf]; omega⟩
   ·have hkP' : k = 1 := by omega
    have HKD := Lib.hid (show keyW (bytesOf b) k = digW (bytesOf b) from by unfold keyW; rw [if_neg (by have := HPL.out; omega)])
    rw [HKD.out] at Hh
    have hkd : decide ((k : Int) < (1 : Int)) = false := by simp; omega
    clear HKD
    have hmk := make32 (bytesOf b)
    go_upto_region 28 with (fail)
    clear hmk
    obtain ⟨wo, rfl⟩ : ∃ wo : World, wo = wr := ⟨_, rfl⟩
    obtain ⟨w4, hq4, hb9, hz9, Ho⟩ := new1 wo 5 (byteCells (outP (bytesOf b) 0))
    rw [hq4]
    clear hq4
    replace Hh := Lib.hid (Hh.out.up hb9)
    replace HB := hbu HB hb9
    replace HZS := sz HZS hz9.out
    clear hb9 hz9
    have HK := Lib.hid (Kept.refl (fun q9 => q9 = wo.heap.size) w4)
    have HRL := Lib.hid (digW_len (bytesOf b))
    go_wp2_with fail
    go_loopw [16] (fun c wr => ∃ i : Nat, i ≤ 32 ∧ c = .int .i64 i ∧ Hid (Bx wr wo.heap.size 5 (byteCells (outP (bytesOf b) i))) ∧ Hid (Kept (fun q9 => q9 = wo.heap.size) w4 wr)) (fun c _ => 32 - (RowKit.intOf c).toNat)
    case atStart => exact ⟨0, by omega, rfl, Ho, HK⟩
    case round =>
     obtain ⟨i, hi, rfl, HQ, HK1⟩ := hrel
     clear HK
     have hg9 := HK1.out
     clear Ho
     replace Hh := Lib.hid (Bx.keptP (P := fun q9 => q9 = wo.heap.size) Hh.out hg9 (show ¬ (hB = wo.heap.size) by have g0 := HZS.out; omega))
     replace HB := Lib.hid (Below.keptP HB.out hg9 (by have g0 := HZS.out; omega) (fun q9 h9 => (show w.heap.size ≤ _ by subst h9; have g0 := HZS.out; omega)))
     replace HZS := sz HZS (show w4.heap.size ≤ wr.heap.size from hg9.size)
     clear hg9
     have Ho := HQ
     clear HQ
     by_cases hi3 : i < 32
     ·have HPW := fun w => power_any (i % 4) (by omega) w
      rw [show ((i % 4 : Nat) : Int) = (i : Int) % 4 from by omega] at HPW
      have HPW := Lib.hid HPW
      have c1 := wl_cell Hh.out (i / 4) (by rw [HRL.out]; omega)
      have hdv := digB_div (bytesOf b) i hi3
      have HON := Lib.hid (outP_succ (bytesOf b) i hi3)
      have hp1 : (1 : Int) ≤ ((256 ^ (i % 4) : Nat) : Int) := by have := Nat.pow_pos (n := i % 4) (show 0 < 256 by decide); omega
      generalize (digW (bytesOf b)).getD (i / 4) 0 = X at *
      generalize ((256 ^ (i % 4) : Nat) : Int) = p at *
      obtain ⟨y, hy⟩ : ∃ y, (digB (bytesOf b)).getD i 0 = y := ⟨_, rfl⟩
      rw [hy] at hdv HON
      clear hy
      have hyl := y.toNat_lt
      have HOL := Lib.hid (outP_len (bytesOf b) i hi)
      have a1 : (0 : Int) ≤ ((i / 4 : Nat) : Int) := by omega
      have a2 : ((i / 4 : Nat) : Int) < 8 := by omega
      go_wp2_with fail
      refine wp_region_otail 13 (by kernel_rfl) (by kernel_rfl) ?_
      simp only [List.take_succ_cons, List.take_zero, List.drop_succ_cons, List.drop_zero]
      have hov_hB := fun (E : Over wr) o => E.cell (b := hB) o Hh.out.lt
      repeat (go_big_quiet_step (first | (go_at_call 160; exact calls_over (HPW.out _))))
      all_goals (try unfold elV limbV)
      repeat (go_big_quiet_step (first | (go_at_call 160; exact calls_over (HPW.out _))))
      all_goals (try unfold elV limbV)
      repeat (go_big_quiet_step (first | (go_at_call 160; exact calls_over (HPW.out _))))
      all_goals (try unfold ciphV)
      refine wpQuiet_nil ?_
      rintro _ ⟨E, rfl⟩
      clear hov_hB
      replace Hh := Lib.hid (Hh.out.up E.h)
      replace Ho := Lib.hid (Ho.out.up E.h)
      replace HK1 := Lib.hid (Kept.up HK1.out E.h)
      replace HB := hbu HB E.h
      replace HZS := sz HZS E.h.size
      obtain ⟨w5, hq9⟩ : ∃ W9 : World, E.w = W9 := ⟨_, rfl⟩
      rw [hq9] at Hh Ho HK1 HB HZS ⊢
      clear hq9 E c1 HPW
      have c1 := Ho.out.cell (byte_cell (outP (bytesOf b) i) i (by rw [HOL.out]; exact hi3))
      have f6_o := Ho.out.frozen
      obtain ⟨w6, hq6, hg9, hz9, hx9⟩ := put1 Ho i (.int .u8 (y.toNat : Int)) _ rfl
      replace Hh := Lib.hid (Hh.out.grown hg9.out (sne (by have g0 := HZS.out; omega)))
      replace HK1 := Lib.hid (Kept.grown HK1.out hg9.out (fun q9 e9 => by obtain rfl := Option.some.inj e9; exact Or.inr (rfl)))
      replace HB := hbg HB hg9 (by have g0 := HZS.out; omega)
      replace HZS := sz HZS hz9.out
      replace Ho := hx9
      clear hx9 hg9 hz9
      replace Ho := Lib.hid (show Bx w6 wo.heap.size 5 (byteCells (outP (bytesOf b) (i + 1))) from by rw [HON.out, ← byteCells_set]; exact Ho.out)
      go_wp2_with fail
      clear hq6 f6_o
      exact ⟨⟨i + 1, by omega, by go_num, Ho, HK1⟩, by simp [RowKit.intOf]; omega⟩
     ·have hi3' : i = 32 := by omega
      subst hi3'
      rw [outP_all] at Ho
      have hcv := run_convert_bytes_arg (P := Try.prog) wr 155 5 Try.underlying155 Try.underlying5 wo.heap.size 0 32 32 ((digB (bytesOf b)).map fun b => (b.toNat : Int)) (by rw [List.length_map, digB_len]) (fun j hj => by rw [Nat.zero_add, Ho.out.cell (byte_cell _ j (by rw [digB_len]; exact hj))]; simp [List.getD, digB_len, hj]) 9 Try.underlying9
      rw [out_str] at hcv
      go_wp2_with fail
      go_ret2
      exact ⟨rfl, HB.out⟩
 ·have hP : (((b.size : Int) + 63) / 64 == 0) = false := by rw [beq_eq_false_iff_ne]; omega
  obtain ⟨P, hp⟩ : ∃ P : Nat, lastB (bytesOf b) + 1 = P := ⟨_, rfl⟩
  have HPL := Lib.hid hp.symm
  have hPP : ((b.size : Int) + 63) / 64 = (P : Int) := by rw [← hp]; unfold lastB; rw [bytesOf_len]; omega
  rw [hPP] at hP
  clear hb hp
  go_enter Try.func108, Try.ntmps108
  go_wp2_with fail
  refine (rstart_any w).mono ?_
  rintro e w1 ⟨rfl, hb9⟩
  have HB := Lib.hid hb9
  have HZS := Lib.hid hb9.size
  clear hb9
  have HI8 := Lib.hid (show (Try.prog.info? 224).map (·.size) = some (wlV startV).length from info8)
  have HZ8 := Lib.hid (show (wlV (zw 8)).length = (wlV startV).length from rfl)
  have hz8 : (#[.int .u32 0, .int .u32 0, .int .u32 0, .int .u32 0, .int .u32 0, .int .u32 0, .int .u32 0, .int .u32 0] : Array Value) = (wlV (zw 8)).toArray := rfl
  go_upto_region 14 with (refine wpList_store_new rfl 224 224 (.tmp 10) (.tmp 40) rfl (wlV (zw 8)) (wlV startV) rfl rfl HI8.out HZ8.out (wl_one startV) ?_)
  clear hz8 HZ8 HI8
  have HBW := Lib.hid HB.out.size
  obtain ⟨w2, hq2, hb9, hz9, Hh⟩ := new1 w1 224 (wlV startV)
  rw [hq2]
  clear hq2
  replace HB := hbu HB hb9
  replace HZS := sz HZS hz9.out
  clear hb9 hz9
  have c0 : w2.cell? ⟨w1.heap.size, 0, none⟩ = some (.int .u32 1779033703) := Hh.out.cell rfl
  have hx0 : bits BinOp.xor IntKind.u32 1779033703 16842784 = 1795745351 := by decide
  have f3_h := Hh.out.frozen
  obtain ⟨w3, hq3, hg9, hz9, hx9⟩ := put1 Hh 0 (.int .u32 1795745351) _ rfl
  replace HB := hbg HB hg9 (by have g0 := HZS.out; omega)
  replace HZS := sz HZS hz9.out
  replace Hh := hx9
  clear hx9 hg9 hz9
  replace Hh := Lib.hid (show Bx w3 w1.heap.size 224 (wlV h0B) from Hh.out)
  go_wp2_with fail
  clear hq3 f3_h c0 hx0
  have HZ0 := Lib.hid (show w.heap.size ≤ w1.heap.size from HBW.out)
  have HP9 := Lib.hid hP
  clear hP HBW
  generalize w1.heap.size = hB at *
  have HQ0 := Lib.hid (show Bx w3 hB 224 (wlV (keyW (bytesOf b) 0)) from Hh.out)
  clear Hh
  go_loopw [11] (fun c wr => ∃ k : Nat, k ≤ P ∧ c = .int .i64 k ∧ Hid (Bx wr hB 224 (wlV (keyW (bytesOf b) k))) ∧ Hid (Below w.heap.size w wr)) (fun c _ => P - (RowKit.intOf c).toNat)
  case atStart => exact ⟨0, by omega, rfl, HQ0, HB⟩
  case round =>
   obtain ⟨k, hk, rfl, HQ, HB9⟩ := hrel
   clear HQ0 HB
   have HB := HB9
   have Hh := HQ
   clear HB9 HQ
   have HSB := Lib.hid HB.out.size
   have HSH := Lib.hid Hh.out.lt
   replace HZS := sz HZS HZ0.out
   replace HZS := sz HZS HSB.out
   replace HZS := sz HZS HSH.out
   by_cases hkP : k < P
   ·have HKE := Lib.hid (show keyW (bytesOf b) k = allB (bytesOf b) k from by unfold keyW; rw [if_pos (by have := HPL.out; omega)])
    rw [HKE.out] at Hh
    have hz16 : (#[.int .u32 0, .int .u32 0, .int .u32 0, .int .u32 0, .int .u32 0, .int .u32 0, .int .u32 0, .int .u32 0, .int .u32 0, .int .u32 0, .int .u32 0, .int .u32 0, .int .u32 0, .int .u32 0, .int .u32 0, .int .u32 0] : Array Value) = (wlV (wordsB (pieceB (bytesOf b) k) 0)).toArray := by rw [wordsB_zero]; rfl
    have hkd : decide ((k : Int) < (P : Int)) = true := by simp; omega
    have HCL := Lib.hid (show (pieceB (bytesOf b) k).length = min 64 (b.size - 64 * k) from by rw [piece_len, bytesOf_len])
    have hk64 : 64 * k ≤ b.size := by have := HPL.out; unfold lastB at this; rw [bytesOf_len] at this; omega
    go_upto_region 19 with (fail)
    obtain ⟨wo, rfl⟩ : ∃ wo : World, wo = wr := ⟨_, rfl⟩
    obtain ⟨w4, hq4, hb9, hz9, Hm⟩ := new1 wo 226 (wlV (wordsB (pieceB (bytesOf b) k) 0))
    rw [hq4]
    clear hq4
    replace Hh := Lib.hid (Hh.out.up hb9)
    replace HB := hbu HB hb9
    replace HZS := sz HZS hz9.out
    clear hb9 hz9 hz16
    have HK := Lib.hid (Kept.refl (fun q9 => q9 = wo.heap.size) w4)
    go_wp2_with fail
    go_loopw [13] (fun c wr => ∃ i : Nat, i ≤ (pieceB (bytesOf b) k).length ∧ c = .int .i64 i ∧ Hid (Bx wr wo.heap.size 226 (wlV (wordsB (pieceB (bytesOf b) k) i))) ∧ Hid (Kept (fun q9 => q9 = wo.heap.size) w4 wr)) (fun c _ => 64 - (RowKit.intOf c).toNat)
    case atStart => exact ⟨0, by omega, rfl, Hm, HK⟩
    case round =>
     obtain ⟨i, hi, rfl, HQ, HK1⟩ := hrel
     clear HK
     have hg9 := HK1.out
     clear Hm
     replace Hh := Lib.hid (Bx.keptP (P := fun q9 => q9 = wo.heap.size) Hh.out hg9 (show ¬ (hB = wo.heap.size) by have g0 := HZS.out; omega))
     replace HB := Lib.hid (Below.keptP HB.out hg9 (by have g0 := HZS.out; omega) (fun q9 h9 => (show w.heap.size ≤ _ by subst h9; have g0 := HZS.out; omega)))
     replace HZS := sz HZS (show w4.heap.size ≤ wr.heap.size from hg9.size)
     clear hg9
     have Hm := HQ
     clear HQ
     have HWL := Lib.hid (wordsB_len (pieceB (bytesOf b) k) i)
     have hi64 : i ≤ 64 := by have := HCL.out; omega
     by_cases hic : i < (pieceB (bytesOf b) k).length
     ·have hi6 : i < 64 := by have := HCL.out; omega
      have hin : 64 * k + i < b.size := by have := HCL.out; omega
      have hbb : (bytesOf b).getD (64 * k + i) 0 = b[64 * k + i] := by unfold bytesOf List.getD; rw [List.getElem?_eq_getElem (by rw [Array.length_toList]; exact hin)]; rfl
      have hix := fun W => run_index_str (P := Try.prog) W 9 b (64 * k + i) (64 * (k : Int) + (i : Int)) (by omega) hin (((pieceB (bytesOf b) k).getD i 0).toNat : Int) (by rw [piece_get _ _ _ hi6, hbb]) Try.underlying9
      have HWS := Lib.hid (wordsB_succ (pieceB (bytesOf b) k) i hi6)
      have HPW := fun w => power_any (i % 4) (by omega) w
      rw [show ((i % 4 : Nat) : Int) = (i : Int) % 4 from by omega] at HPW
      have HPW := Lib.hid HPW
      have hmul := word_mul (pieceB (bytesOf b) k) i
      have c1 := wl_cell Hm.out (i / 4) (by rw [HWL.out]; omega)
      generalize (wordsB (pieceB (bytesOf b) k) i).getD (i / 4) 0 = X at *
      generalize BitVec.ofNat 32 (((pieceB (bytesOf b) k).getD i 0).toNat * 256 ^ (i % 4)) = z at *
      clear hbb
      have hcb := ((pieceB (bytesOf b) k).getD i 0).toNat_lt
      generalize ((pieceB (bytesOf b) k).getD i 0).toNat = cb at *
      generalize ((256 ^ (i % 4) : Nat) : Int) = p at *
      have hadd := add32 X z
      obtain ⟨Z, hZ⟩ : ∃ Z, X + z = Z := ⟨_, rfl⟩
      rw [hZ] at hadd HWS
      clear hZ
      have a1 : (0 : Int) ≤ ((i / 4 : Nat) : Int) := by omega
      have a2 : ((i / 4 : Nat) : Int) < 16 := by omega
      have hdi : decide ((i : Int) < 64) = true := by simp; omega
      have hdn : decide (64 * (k : Int) + (i : Int) < (b.size : Int)) = true := by simp; omega
      go_wp2_with fail
      refine wp_region_otail 19 (by kernel_rfl) (by kernel_rfl) ?_
      simp only [List.take_succ_cons, List.take_zero, List.drop_succ_cons, List.drop_zero]
      have hov_wo_heap_size := fun (E : Over wr) o => E.cell (b := wo.heap.size) o Hm.out.lt
      repeat (go_big_quiet_step (first | (go_at_call 160; exact calls_over (HPW.out _))))
      all_goals (try unfold elV limbV)
      repeat (go_big_quiet_step (first | (go_at_call 160; exact calls_over (HPW.out _))))
      all_goals (try unfold elV limbV)
      repeat (go_big_quiet_step (first | (go_at_call 160; exact calls_over (HPW.out _))))
      all_goals (try unfold ciphV)
      refine wpQuiet_nil ?_
      rintro _ ⟨E, rfl⟩
      clear hov_wo_heap_size
      replace Hh := Lib.hid (Hh.out.up E.h)
      replace Hm := Lib.hid (Hm.out.up E.h)
      replace HK1 := Lib.hid (Kept.up HK1.out E.h)
      replace HB := hbu HB E.h
      replace HZS := sz HZS E.h.size
      obtain ⟨w5, hq9⟩ : ∃ W9 : World, E.w = W9 := ⟨_, rfl⟩
      rw [hq9] at Hh Hm HK1 HB HZS ⊢
      clear hq9 E c1 hix HPW
      have c1 := Hm.out.cell (wlV_get (wordsB (pieceB (bytesOf b) k) i) (i / 4) (by rw [HWL.out]; omega))
      have f6_m := Hm.out.frozen
      obtain ⟨w6, hq6, hg9, hz9, hx9⟩ := put1 Hm (i / 4) (.int .u32 (Z.toNat : Int)) _ rfl
      replace Hh := Lib.hid (Hh.out.grown hg9.out (sne (by have g0 := HZS.out; omega)))
      replace HK1 := Lib.hid (Kept.grown HK1.out hg9.out (fun q9 e9 => by obtain rfl := Option.some.inj e9; exact Or.inr (rfl)))
      replace HB := hbg HB hg9 (by have g0 := HZS.out; omega)
      replace HZS := sz HZS hz9.out
      replace Hm := hx9
      clear hx9 hg9 hz9
      replace Hm := Lib.hid Hm.out.wset
      rw [← HWS.out] at Hm
      go_wp2_with fail
      clear hq6 f6_m
      exact ⟨⟨i + 1, hic, by go_num, Hm, HK1⟩, by simp [RowKit.intOf]; omega⟩
     ·have hie : i = (pieceB (bytesOf b) k).length := by omega
      have hpl : (pieceB (bytesOf b) k).length ≤ 64 := by rw [← hie]; exact hi64
      rw [hie, wordsB_full _ hpl] at Hm
      have hcl := HCL.out
      rw [← hie] at hcl
      have hpl9 := HPL.out
      unfold lastB at hpl9
      rw [bytesOf_len] at hpl9
      have HHL := Lib.hid (allB_len (bytesOf b) k)
      have HHI := Lib.hid (show (Try.prog.info? 224).map (·.size) = some (wlV (allB (bytesOf b) k)).length by rw [wlV_len, HHL.out]; exact info8)
      have HMI := Lib.hid (show (Try.prog.info? 226).map (·.size) = some (wlV (wordsB (pieceB (bytesOf b) k) 64)).length by rw [wlV_len, wordsB_len]; exact info16)
      clear hie hpl
      by_cases hi6 : i < 64
      ·have hdi : decide ((i : Int) < 64) = true := by simp; omega
       have hdn : decide (64 * (k : Int) + (i : Int) < (b.size : Int)) = false := by simp; omega
       have hgt : (b.size : Int) < 64 * (k : Int) + 64 := by omega
       have hke : ((k : Int) == ((P : Int) - 1)) = true := by rw [beq_iff_eq]; omega
       have HKN := Lib.hid (show keyW (bytesOf b) (k + 1) = pressB (allB (bytesOf b) k) (wordsB (pieceB (bytesOf b) k) 64) b.size true from by
        have e : k = lastB (bytesOf b) := by have := HPL.out; omega
        unfold keyW
        rw [if_neg (by omega), e]
        unfold digW
        rw [bytesOf_len])
       have HPR := Lib.hid (fun w => rPress_any (allB (bytesOf b) k) (wordsB (pieceB (bytesOf b) k) 64) HHL.out (wordsB_len _ _) b.size (by omega) true w)
       clear hcl hpl9
       go_wp2_with (first | refine wpList_load_mid rfl 224 (.tmp 10) rfl hB 0 rfl (wlV (allB (bytesOf b) k)) _ Hh.out.range Try.underlying224 rfl HHI.out ?_ | refine wpList_load_mid rfl 226 (.tmp 12) rfl wo.heap.size 0 rfl (wlV (wordsB (pieceB (bytesOf b) k) 64)) _ Hm.out.range Try.underlying226 rfl HMI.out ?_)
       refine (HPR.out wr).mono ?_
       rintro e w5 ⟨rfl, hb9⟩
       replace Hh := Lib.hid (Hh.out.up hb9)
       replace Hm := Lib.hid (Hm.out.up hb9)
       replace HK1 := Lib.hid (Kept.up HK1.out hb9)
       replace HB := hbu HB hb9
       replace HZS := sz HZS hb9.size
       clear hb9
       rw [← HKN.out]
       have HRL := Lib.hid (keyW_len (bytesOf b) (k + 1))
       obtain ⟨R, hR⟩ : ∃ R, keyW (bytesOf b) (k + 1) = R := ⟨_, rfl⟩
       rw [hR] at HRL ⊢
       have HRE := Lib.hid hR
       clear hR
       have HRI := Lib.hid (show (Try.prog.info? 224).map (·.size) = some (wlV R).length by rw [wlV_len, HRL.out]; exact info8)
       have HRZ := Lib.hid (show (wlV R).length = (wlV (allB (bytesOf b) k)).length by rw [wlV_len, wlV_len, HRL.out, HHL.out])
       obtain ⟨wz, hqz, hgz, hzz, hrz⟩ := puts Hh 0 (wlV R) (wlV R) (putL_all _ _ HRZ.out)
       have HBZ := hbg HB hgz (by have g0 := HZS.out; omega)
       go_wp2_with (refine wpList_store_mid rfl 224 (.tmp 10) (.tmp 101) rfl hB 0 (wlV R).toArray rfl rfl (Hh.out.there (by simp [HRZ.out])) (by simpa using HRI.out) (all_oneCell_toArray (wl_one R)) ?_)
       exact ⟨⟨k + 1, by omega, by go_num, by rw [HRE.out]; exact hrz, HBZ⟩, by simp [RowKit.intOf]; omega⟩
      ·have hdi : decide ((i : Int) < 64) = false := by simp; omega
       have hgt : 64 * (k : Int) + 64 ≤ (b.size : Int) := by omega
       by_cases hkl : k + 1 < P
       ·have hke : ((k : Int) == ((P : Int) - 1)) = false := by rw [beq_eq_false_iff_ne]; omega
        have HKN := Lib.hid (show keyW (bytesOf b) (k + 1) = pressB (allB (bytesOf b) k) (wordsB (pieceB (bytesOf b) k) 64) (64 * k + 64) false from by
         unfold keyW
         rw [if_pos (by have := HPL.out; omega), show 64 * k + 64 = 64 * (k + 1) by omega]
         rfl)
        have hpr := fun w => rPress_any (allB (bytesOf b) k) (wordsB (pieceB (bytesOf b) k) 64) HHL.out (wordsB_len _ _) (64 * k + 64) (by omega) false w
        rw [show ((64 * k + 64 : Nat) : Int) = 64 * (k : Int) + 64 from by omega] at hpr
        have HPR := Lib.hid hpr
        clear hpr hcl hpl9
        go_wp2_with (first | refine wpList_load_mid rfl 224 (.tmp 10) rfl hB 0 rfl (wlV (allB (bytesOf b) k)) _ Hh.out.range Try.underlying224 rfl HHI.out ?_ | refine wpList_load_mid rfl 226 (.tmp 12) rfl wo.heap.size 0 rfl (wlV (wordsB (pieceB (bytesOf b) k) 64)) _ Hm.out.range Try.underlying226 rfl HMI.out ?_)
        refine (HPR.out wr).mono ?_
        rintro e w5 ⟨rfl, hb9⟩
        replace Hh := Lib.hid (Hh.out.up hb9)
        replace Hm := Lib.hid (Hm.out.up hb9)
        replace HK1 := Lib.hid (Kept.up HK1.out hb9)
        replace HB := hbu HB hb9
        replace HZS := sz HZS hb9.size
        clear hb9
        rw [← HKN.out]
        have HRL := Lib.hid (keyW_len (bytesOf b) (k + 1))
        obtain ⟨R, hR⟩ : ∃ R, keyW (bytesOf b) (k + 1) = R := ⟨_, rfl⟩
        rw [hR] at HRL ⊢
        have HRE := Lib.hid hR
        clear hR
        have HRI := Lib.hid (show (Try.prog.info? 224).map (·.size) = some (wlV R).length by rw [wlV_len, HRL.out]; exact info8)
        have HRZ := Lib.hid (show (wlV R).length = (wlV (allB (bytesOf b) k)).length by rw [wlV_len, wlV_len, HRL.out, HHL.out])
        obtain ⟨wz, hqz, hgz, hzz, hrz⟩ := puts Hh 0 (wlV R) (wlV R) (putL_all _ _ HRZ.out)
        have HBZ := hbg HB hgz (by have g0 := HZS.out; omega)
        go_wp2_with (refine wpList_store_mid rfl 224 (.tmp 10) (.tmp 101) rfl hB 0 (wlV R).toArray rfl rfl (Hh.out.there (by simp [HRZ.out])) (by simpa using HRI.out) (all_oneCell_toArray (wl_one R)) ?_)
        exact ⟨⟨k + 1, by omega, by go_num, by rw [HRE.out]; exact hrz, HBZ⟩, by simp [RowKit.intOf]; omega⟩
       ·have hke : ((k : Int) == ((P : Int) - 1)) = true := by rw [beq_iff_eq]; omega
        have HKN := Lib.hid (show keyW (bytesOf b) (k + 1) = pressB (allB (bytesOf b) k) (wordsB (pieceB (bytesOf b) k) 64) (64 * k + 64) true from by
         have e : k = lastB (bytesOf b) := by have := HPL.out; omega
         have e2 : b.size = 64 * k + 64 := by omega
         unfold keyW
         rw [if_neg (by omega), ← e2, e]
         unfold digW
         rw [bytesOf_len])
        have hpr := fun w => rPress_any (allB (bytesOf b) k) (wordsB (pieceB (bytesOf b) k) 64) HHL.out (wordsB_len _ _) (64 * k + 64) (by omega) true w
        rw [show ((64 * k + 64 : Nat) : Int) = 64 * (k : Int) + 64 from by omega] at hpr
        have HPR := Lib.hid hpr
        clear hpr hcl hpl9
        go_wp2_with (first | refine wpList_load_mid rfl 224 (.tmp 10) rfl hB 0 rfl (wlV (allB (bytesOf b) k)) _ Hh.out.range Try.underlying224 rfl HHI.out ?_ | refine wpList_load_mid rfl 226 (.tmp 12) rfl wo.heap.size 0 rfl (wlV (wordsB (pieceB (bytesOf b) k) 64)) _ Hm.out.range Try.underlying226 rfl HMI.out ?_)
        refine (HPR.out wr).mono ?_
        rintro e w5 ⟨rfl, hb9⟩
        replace Hh := Lib.hid (Hh.out.up hb9)
        replace Hm := Lib.hid (Hm.out.up hb9)
        replace HK1 := Lib.hid (Kept.up HK1.out hb9)
        replace HB := hbu HB hb9
        replace HZS := sz HZS hb9.size
        clear hb9
        rw [← HKN.out]
        have HRL := Lib.hid (keyW_len (bytesOf b) (k + 1))
        obtain ⟨R, hR⟩ : ∃ R, keyW (bytesOf b) (k + 1) = R := ⟨_, rfl⟩
        rw [hR] at HRL ⊢
        have HRE := Lib.hid hR
        clear hR
        have HRI := Lib.hid (show (Try.prog.info? 224).map (·.size) = some (wlV R).length by rw [wlV_len, HRL.out]; exact info8)
        have HRZ := Lib.hid (show (wlV R).length = (wlV (allB (bytesOf b) k)).length by rw [wlV_len, wlV_len, HRL.out, HHL.out])
        obtain ⟨wz, hqz, hgz, hzz, hrz⟩ := puts Hh 0 (wlV R) (wlV R) (putL_all _ _ HRZ.out)
        have HBZ := hbg HB hgz (by have g0 := HZS.out; omega)
        go_wp2_with (refine wpList_store_mid rfl 224 (.tmp 10) (.tmp 101) rfl hB 0 (wlV R).toArray rfl rfl (Hh.out.there (by simp [HRZ.out])) (by simpa using HRI.out) (all_oneCell_toArray (wl_one R)) ?_)
        exact ⟨⟨k + 1, by omega, by go_num, by rw [HRE.out]; exact hrz, HBZ⟩, by simp [RowKit.intOf]; omega⟩
   ·have hkP' : k = P := by omega
    have HKD := Lib.hid (show keyW (bytesOf b) k = digW (bytesOf b) from by unfold keyW; rw [if_neg (by have := HPL.out; omega)])
    rw [HKD.out] at Hh
    have hkd : decide ((k : Int) < (P : Int)) = false := by simp; omega
    clear HKD
    have hmk := make32 (bytesOf b)
    go_upto_region 28 with (fail)
    clear hmk
    obtain ⟨wo, rfl⟩ : ∃ wo : World, wo = wr := ⟨_, rfl⟩
    obtain ⟨w4, hq4, hb9, hz9, Ho⟩ := new1 wo 5 (byteCells (outP (bytesOf b) 0))
    rw [hq4]
    clear hq4
    replace Hh := Lib.hid (Hh.out.up hb9)
    replace HB := hbu HB hb9
    replace HZS := sz HZS hz9.out
    clear hb9 hz9
    have HK := Lib.hid (Kept.refl (fun q9 => q9 = wo.heap.size) w4)
    have HRL := Lib.hid (digW_len (bytesOf b))
    go_wp2_with fail
    go_loopw [16] (fun c wr => ∃ i : Nat, i ≤ 32 ∧ c = .int .i64 i ∧ Hid (Bx wr wo.heap.size 5 (byteCells (outP (bytesOf b) i))) ∧ Hid (Kept (fun q9 => q9 = wo.heap.size) w4 wr)) (fun c _ => 32 - (RowKit.intOf c).toNat)
    case atStart => exact ⟨0, by omega, rfl, Ho, HK⟩
    case round =>
     obtain ⟨i, hi, rfl, HQ, HK1⟩ := hrel
     clear HK
     have hg9 := HK1.out
     clear Ho
     replace Hh := Lib.hid (Bx.keptP (P := fun q9 => q9 = wo.heap.size) Hh.out hg9 (show ¬ (hB = wo.heap.size) by have g0 := HZS.out; omega))
     replace HB := Lib.hid (Below.keptP HB.out hg9 (by have g0 := HZS.out; omega) (fun q9 h9 => (show w.heap.size ≤ _ by subst h9; have g0 := HZS.out; omega)))
     replace HZS := sz HZS (show w4.heap.size ≤ wr.heap.size from hg9.size)
     clear hg9
     have Ho := HQ
     clear HQ
     by_cases hi3 : i < 32
     ·have HPW := fun w => power_any (i % 4) (by omega) w
      rw [show ((i % 4 : Nat) : Int) = (i : Int) % 4 from by omega] at HPW
      have HPW := Lib.hid HPW
      have c1 := wl_cell Hh.out (i / 4) (by rw [HRL.out]; omega)
      have hdv := digB_div (bytesOf b) i hi3
      have HON := Lib.hid (outP_succ (bytesOf b) i hi3)
      have hp1 : (1 : Int) ≤ ((256 ^ (i % 4) : Nat) : Int) := by have := Nat.pow_pos (n := i % 4) (show 0 < 256 by decide); omega
      generalize (digW (bytesOf b)).getD (i / 4) 0 = X at *
      generalize ((256 ^ (i % 4) : Nat) : Int) = p at *
      obtain ⟨y, hy⟩ : ∃ y, (digB (bytesOf b)).getD i 0 = y := ⟨_, rfl⟩
      rw [hy] at hdv HON
      clear hy
      have hyl := y.toNat_lt
      have HOL := Lib.hid (outP_len (bytesOf b) i hi)
      have a1 : (0 : Int) ≤ ((i / 4 : Nat) : Int) := by omega
      have a2 : ((i / 4 : Nat) : Int) < 8 := by omega
      go_wp2_with fail
      refine wp_region_otail 13 (by kernel_rfl) (by kernel_rfl) ?_
      simp only [List.take_succ_cons, List.take_zero, List.drop_succ_cons, List.drop_zero]
      have hov_hB := fun (E : Over wr) o => E.cell (b := hB) o Hh.out.lt
      repeat (go_big_quiet_step (first | (go_at_call 160; exact calls_over (HPW.out _))))
      all_goals (try unfold elV limbV)
      repeat (go_big_quiet_step (first | (go_at_call 160; exact calls_over (HPW.out _))))
      all_goals (try unfold elV limbV)
      repeat (go_big_quiet_step (first | (go_at_call 160; exact calls_over (HPW.out _))))
      all_goals (try unfold ciphV)
      refine wpQuiet_nil ?_
      rintro _ ⟨E, rfl⟩
      clear hov_hB
      replace Hh := Lib.hid (Hh.out.up E.h)
      replace Ho := Lib.hid (Ho.out.up E.h)
      replace HK1 := Lib.hid (Kept.up HK1.out E.h)
      replace HB := hbu HB E.h
      replace HZS := sz HZS E.h.size
      obtain ⟨w5, hq9⟩ : ∃ W9 : World, E.w = W9 := ⟨_, rfl⟩
      rw [hq9] at Hh Ho HK1 HB HZS ⊢
      clear hq9 E c1 HPW
      have c1 := Ho.out.cell (byte_cell (outP (bytesOf b) i) i (by rw [HOL.out]; exact hi3))
      have f6_o := Ho.out.frozen
      obtain ⟨w6, hq6, hg9, hz9, hx9⟩ := put1 Ho i (.int .u8 (y.toNat : Int)) _ rfl
      replace Hh := Lib.hid (Hh.out.grown hg9.out (sne (by have g0 := HZS.out; omega)))
      replace HK1 := Lib.hid (Kept.grown HK1.out hg9.out (fun q9 e9 => by obtain rfl := Option.some.inj e9; exact Or.inr (rfl)))
      replace HB := hbg HB hg9 (by have g0 := HZS.out; omega)
      replace HZS := sz HZS hz9.out
      replace Ho := hx9
      clear hx9 hg9 hz9
      replace Ho := Lib.hid (show Bx w6 wo.heap.size 5 (byteCells (outP (bytesOf b) (i + 1))) from by rw [HON.out, ← byteCells_set]; exact Ho.out)
      go_wp2_with fail
      clear hq6 f6_o
      exact ⟨⟨i + 1, by omega, by go_num, Ho, HK1⟩, by simp [RowKit.intOf]; omega⟩
     ·have hi3' : i = 32 := by omega
      subst hi3'
      rw [outP_all] at Ho
      have hcv := run_convert_bytes_arg (P := Try.prog) wr 155 5 Try.underlying155 Try.underlying5 wo.heap.size 0 32 32 ((digB (bytesOf b)).map fun b => (b.toNat : Int)) (by rw [List.length_map, digB_len]) (fun j hj => by rw [Nat.zero_add, Ho.out.cell (byte_cell _ j (by rw [digB_len]; exact hj))]; simp [List.getD, digB_len, hj]) 9 Try.underlying9
      rw [out_str] at hcv
      go_wp2_with fail
      go_ret2
      exact ⟨rfl, HB.out⟩
end Go.Proofs.Ytjmeakfjfpnciaa
namespace Go.Proofs.Ytjmeakfjfpnciaa
open Go.RowKit Go.Lib
theorem Digest_any (b : ByteArray) (hsz : b.size < 2305843009213693952) (w : World) : Calls Try.prog 45 #[.string b] w fun e w' => e = .returned (.string (digS (bytesOf b))) ∧ Below w.heap.size w w' := by
 have HK := Lib.hid (fun w => Keyed_any b hsz w)
 go_enter Try.func45, Try.ntmps45
 go_wp2_with fail
 refine (HK.out w).mono ?_
 rintro e w1 ⟨rfl, hb9⟩
 have HB := Lib.hid hb9
 have HZS := Lib.hid hb9.size
 clear hb9
 go_wp2_with fail
 go_ret
 exact ⟨rfl, HB.out⟩
theorem Four_any (n : Nat) (hn : n < 9223372036854775808) (w : World) : Calls Try.prog 47 #[.int .i64 (n : Int)] w fun e w' => e = .returned (.string (fourS n)) ∧ Below w.heap.size w w' := by
 have hn0 : (0 : Int) ≤ (n : Int) := by omega
 go_enter Try.func47, Try.ntmps47
 obtain ⟨w1, hq1, hb9, hz9, Hr⟩ := new1 w 5 [.int .u8 ((n : Int) / 16777216 % 256), .int .u8 ((n : Int) / 65536 % 256), .int .u8 ((n : Int) / 256 % 256), .int .u8 ((n : Int) % 256)]
 have HB := Lib.hid hb9
 have HZS := hz9
 clear hb9 hz9
 have r_ := Hr.out.c4
 have hcv := run_convert_bytes_arg (P := Try.prog) w1 155 5 Try.underlying155 Try.underlying5 w.heap.size 0 4 4 [(n : Int) / 16777216 % 256, (n : Int) / 65536 % 256, (n : Int) / 256 % 256, (n : Int) % 256] rfl (fun i hi => by
  rcases (show i = 0 ∨ i = 1 ∨ i = 2 ∨ i = 3 by omega) with rfl | rfl | rfl | rfl
  ·exact Hr.out.cell (i := 0) rfl
  ·exact Hr.out.cell (i := 1) rfl
  ·exact Hr.out.cell (i := 2) rfl
  ·exact Hr.out.cell (i := 3) rfl) 9 Try.underlying9
 go_wp2_with fail
 clear hq1
 go_ret
 exact ⟨rfl, HB.out⟩
theorem bytesOf_app (a b : ByteArray) : bytesOf (a ++ b) = bytesOf a ++ bytesOf b := by
 unfold bytesOf
 simp
theorem Joined_any (label : ByteArray) (ps : List ByteArray) (n : Nat) (hpn : ps.length = n) (hsz : (joinL label ps).length < 2305843009213693952) (a : Option Addr) (c : Nat) (w : World) (hX : Sl w w.heap.size a (ps.map Value.string)) :
  Calls Try.prog 44 #[.string label, .slice a n c] w fun e w' => ∃ y, e = .returned (.string y) ∧ bytesOf y = joinL label ps ∧ Below w.heap.size w w' := by
 have HPN := Lib.hid hpn
 have HSZ := Lib.hid (show ((label :: ps).flatMap pfxL).length < 2305843009213693952 from joinL_eq label ps ▸ hsz)
 have HX := Lib.hid hX
 have hn6 : n < 1152921504606846976 := by
  have := join_ge (label :: ps)
  rw [← joinL_eq, List.length_cons, hpn] at this
  omega
 have hl0 := join_len (label :: ps) 0 (by simp)
 rw [List.getElem_cons_zero, ← joinL_eq] at hl0
 have hl1 : label.size < 2305843009213693952 := by omega
 clear hpn hsz hX hl0
 go_enter Try.func44, Try.ntmps44
 go_wp2_with fail
 refine (Four_any label.size (by omega) w).mono ?_
 rintro e w1 ⟨rfl, hb9⟩
 have HB := Lib.hid hb9
 have HZS := Lib.hid hb9.size
 clear hb9
 have hfs : (fourS label.size).size = 4 := rfl
 have HY0 := Lib.hid (show bytesOf (fourS label.size ++ label) = ((label :: ps).take (0 + 1)).flatMap pfxL from by rw [bytesOf_app, fourS_bytes]; simp [pfxL])
 generalize fourS label.size = f0 at *
 have hfc : ¬ (9223372036854775807 < f0.size + label.size) := by omega
 go_wp2_with fail
 go_loopw [15, 5] (fun c v wr => ∃ (j : Nat) (y : ByteArray), j ≤ n ∧ c = .int .i64 j ∧ v = .string y ∧ Hid (bytesOf y = ((label :: ps).take (j + 1)).flatMap pfxL) ∧ Hid (Below w.heap.size w wr)) (fun c _ _ => n - (RowKit.intOf c).toNat)
 case atStart => exact ⟨0, _, by omega, rfl, rfl, HY0, HB⟩
 case round =>
  clear HY0 HB hfs hfc
  obtain ⟨j, y, hj, rfl, rfl, HY, HB⟩ := hrel
  by_cases hjn : j < n
  ·have hjp : j < ps.length := by rw [HPN.out]; exact hjn
   have hl9 := join_len (label :: ps) (j + 1) (by rw [List.length_cons]; omega)
   have hs9 := join_snoc (label :: ps) (j + 1) (by rw [List.length_cons]; omega)
   rw [List.getElem_cons_succ] at hl9 hs9
   rw [← HY.out] at hl9 hs9
   rw [bytesOf_len] at hl9
   have hT := HSZ.out
   obtain ⟨xb, xo, rfl, hxl, hxc⟩ := (HX.out.up HB.out).at j (by rw [List.length_map]; exact hjp)
   rw [List.getElem_map] at hxc
   generalize ps[j] = x at *
   have hl8 : y.size + 4 + x.size < 2305843009213693952 := by omega
   have HYN := Lib.hid (show bytesOf (y ++ fourS x.size ++ x) = ((label :: ps).take (j + 1 + 1)).flatMap pfxL from by rw [bytesOf_app, bytesOf_app, fourS_bytes, hs9, List.append_assoc])
   have HF4 := Lib.hid (fun w => Four_any x.size (by omega) w)
   have hfs : (fourS x.size).size = 4 := rfl
   clear hl9 hs9 hT
   generalize fourS x.size = f at *
   have hc1 : ¬ (9223372036854775807 < y.size + f.size) := by omega
   have hc2 : ¬ (9223372036854775807 < (y ++ f).size + x.size) := by rw [ByteArray.size_append]; omega
   have hc3 : ¬ (9223372036854775807 < y.size + f.size + x.size) := by omega
   go_wp2_with fail
   refine (HF4.out wr).mono ?_
   rintro e w2 ⟨rfl, hb9⟩
   replace HB := hbu HB hb9
   replace HZS := sz HZS hb9.size
   clear hb9
   go_wp2_with fail
   go_roundw
   case rel => exact ⟨j + 1, _, by omega, by go_num, rfl, HYN, HB⟩
   case measure => simp [RowKit.intOf]; omega
  ·have hjn' : j = n := by omega
   subst hjn'
   rw [List.take_of_length_le (by rw [List.length_cons, HPN.out]; exact Nat.le_refl _), ← joinL_eq] at HY
   go_wp2_with fail
   go_ret
   exact ⟨y, rfl, HY.out, HB.out⟩
theorem rTag_any (label : ByteArray) (ps : List ByteArray) (n : Nat) (hpn : ps.length = n) (hsz : (joinL label ps).length < 2305843009213693952) (a : Option Addr) (c : Nat) (w : World) (hX : Sl w w.heap.size a (ps.map Value.string)) :
  Calls Try.prog 106 #[.string label, .slice a n c] w fun e w' => e = .returned (.string (tagS label ps)) ∧ Below w.heap.size w w' := by
 have HJ := Lib.hid (Joined_any label ps n hpn hsz a c w hX)
 have HSZ := Lib.hid hsz
 clear hpn hsz hX
 go_enter Try.func106, Try.ntmps106
 go_wp2_with fail
 refine (HJ.out).mono ?_
 rintro e w1 ⟨y, rfl, hy, hb9⟩
 have HB := Lib.hid hb9
 have HZS := Lib.hid hb9.size
 have HY := Lib.hid hy
 clear hy hb9
 go_wp2_with fail
 refine (Digest_any y (by rw [← bytesOf_len, HY.out]; exact HSZ.out) w1).mono ?_
 rintro e w2 ⟨rfl, hb9⟩
 replace HB := hbu HB hb9
 replace HZS := sz HZS hb9.size
 clear hb9
 have HE := Lib.hid (show digS (bytesOf y) = tagS label ps from by rw [HY.out]; rfl)
 rw [HE.out]
 go_wp2_with fail
 go_ret
 exact ⟨rfl, HB.out⟩
end Go.Proofs.Ytjmeakfjfpnciaa
