/- Texts of this seat, one behind the other: what SigmaEithers leans on. No condition beyond those that each names. -/
import Derived.Test.YtdlnnkbigeiilaaGreatZSigmaEithers3
import Derived.Outline
import Derived.Lib.SlBytesConst
import Derived.Lib.IndexBytes
import Derived.LoopTactic

set_option maxRecDepth 100000
set_option maxHeartbeats 4000000
set_option linter.unusedVariables false
set_option linter.unusedSimpArgs false
namespace Go.Proofs.YtdlnnkbigeiilaaGreat
open Go.RowKit
theorem info8 : (Tryz.prog.info? 208).map (·.size) = some 8 := by kernel_rfl
theorem infoW : (Tryz.prog.info? 207).map (·.size) = some 1 := by kernel_rfl
def startV : WL := startB
theorem startB_len : startV.length = 8 := rfl
theorem start_any (w : World) : Calls Tryz.prog 173 #[] w fun e w' => e = .returned (.agg (wlV startV).toArray) ∧ Below w.heap.size w w' := by
 go_enter Tryz.func173, Tryz.ntmps173
 go_wp2_with fail
 obtain ⟨w1, hq1, hb9, hz9, Hr⟩ := new1 w 208 [.int .u32 1779033703, .int .u32 3144134277, .int .u32 1013904242, .int .u32 2773480762, .int .u32 1359893119, .int .u32 2600822924, .int .u32 528734635, .int .u32 1541459225]
 rw [hq1]
 clear hq1
 have HB := Lib.hid hb9
 have HZS := hz9
 clear hb9 hz9
 have r_ := Hr.out.c8
 simp [bodyPost, results, Tryz.results173, go_sem, r_]
 exact ⟨rfl, HB.out⟩
theorem wlV_app (l m : WL) : wlV l ++ wlV m = wlV (l ++ m) := by unfold wlV; rw [List.map_append]
theorem pre_copy1 (h : WL) (hh : h.length = 8) : putL (wlV (zw 16)) 0 (wlV h) = wlV (h ++ zw 8) := by
 rw [putL_eq _ _ _ (by rw [wlV_len, wlV_len, hh]; decide), List.take_zero, List.nil_append, wlV_len, hh, ← wlV_app]
 rfl
theorem pre_copy2 (h : WL) (hh : h.length = 8) : putL (wlV (h ++ zw 8)) 8 (wlV startV) = wlV (h ++ startV) := by
 have h8 : (wlV h).length = 8 := by rw [wlV_len, hh]
 rw [putL_eq _ _ _ (by rw [wlV_len, wlV_len, List.length_append, hh]; decide), ← wlV_app, List.take_append_of_le_length (by omega), List.take_of_length_le (by omega), wlV_len, startB_len, List.drop_eq_nil_of_le (by rw [List.length_append, h8, wlV_len]; decide), List.append_nil, wlV_app]
theorem pre_cell (h : WL) (hh : h.length = 8) (j : Nat) (hj : j < 8) : (wlV (h ++ startV))[8 + j]? = (wlV startV)[j]? := by
 rw [← wlV_app, List.getElem?_append_right (by rw [wlV_len, hh]; omega), wlV_len, hh, show 8 + j - 8 = j by omega]
theorem wl_ne (l : WL) (i j : Nat) (x : BitVec 32) (h : i ≠ j) : (wlV (l.set i x))[j]? = (wlV l)[j]? := by rw [← wlV_set, List.getElem?_set_ne h]
theorem xor_lo (n : Nat) : bits BinOp.xor IntKind.u32 1359893119 ((n : Int) % 4294967296) = ((startB.getD 4 0 ^^^ BitVec.ofNat 32 n).toNat : Int) := by
 rw [← bits_xor, BitVec.toNat_ofNat]; rfl
theorem xor_hi (n : Nat) (hn : n < 18446744073709551616) : bits BinOp.xor IntKind.u32 2600822924 ((n : Int) / 4294967296) = ((startB.getD 5 0 ^^^ BitVec.ofNat 32 (n / 4294967296)).toNat : Int) := by
 rw [← bits_xor, BitVec.toNat_ofNat, Nat.mod_eq_of_lt (show n / 4294967296 < 2 ^ 32 by omega)]; rfl
theorem Press_any (h m : WL) (hh : h.length = 8) (hm : m.length = 16) (n : Nat) (hn : n < 18446744073709551616) (last : Bool) (w : World) :
  Calls Tryz.prog 174 #[.agg (wlV h).toArray, .agg (wlV m).toArray, .int .u64 (n : Int), .bool last] w fun e w' => e = .returned (.agg (wlV (pressB h m n last)).toArray) ∧ Below w.heap.size w w' := by
 have HH := Lib.hid hh
 have HM := Lib.hid hm
 have HL8 := Lib.hid (show (wlV h).length = 8 by rw [wlV_len, hh])
 have HI8 := Lib.hid (show (Tryz.prog.info? 208).map (·.size) = some (wlV startV).length from info8)
 have HZ8 := Lib.hid (show (wlV (zw 8)).length = (wlV startV).length from rfl)
 have HIM := Lib.hid (show (Tryz.prog.info? 230).map (·.size) = some (wlV m).length by rw [wlV_len, hm]; exact info16)
 have hz : (#[.int .u32 0, .int .u32 0, .int .u32 0, .int .u32 0, .int .u32 0, .int .u32 0, .int .u32 0, .int .u32 0, .int .u32 0, .int .u32 0, .int .u32 0, .int .u32 0, .int .u32 0, .int .u32 0, .int .u32 0, .int .u32 0] : Array Value) = (wlV (zw 16)).toArray := rfl
 have hz8 : (#[.int .u32 0, .int .u32 0, .int .u32 0, .int .u32 0, .int .u32 0, .int .u32 0, .int .u32 0, .int .u32 0] : Array Value) = (wlV (zw 8)).toArray := rfl
 have E1 := Lib.hid (pre_copy1 h hh)
 have E2 := Lib.hid (pre_copy2 h hh)
 have hx12 := xor_lo n
 have hx13 := xor_hi n hn
 clear hh hm
 go_enter Tryz.func174, Tryz.ntmps174
 go_upto_region 2 with (fail)
 obtain ⟨w1, hq1, hb9, hz9, Ha, Hb, Hr, Hv⟩ := new4 w 208 (wlV h) 230 (wlV m) 208 (wlV (zw 8)) 230 (wlV (zw 16))
 rw [hq1]
 clear hq1
 have HB := Lib.hid hb9
 have HZS := hz9
 clear hb9 hz9
 go_wp2_with fail
 refine (start_any w1).mono ?_
 rintro e w2 ⟨rfl, hb9⟩
 replace Ha := Lib.hid (Ha.out.up hb9)
 replace Hb := Lib.hid (Hb.out.up hb9)
 replace Hr := Lib.hid (Hr.out.up hb9)
 replace Hv := Lib.hid (Hv.out.up hb9)
 replace HB := hbu HB hb9
 replace HZS := sz HZS hb9.size
 clear hb9
 go_upto_region 3 with (refine wpList_store_new rfl 208 208 (.tmp 10) (.tmp 13) rfl (wlV (zw 8)) (wlV startV) rfl rfl HI8.out HZ8.out (wl_one startV) ?_)
 obtain ⟨w3, hq3, hb9, hz9, Hs⟩ := new1 w2 208 (wlV startV)
 rw [hq3]
 clear hq3
 replace Ha := Lib.hid (Ha.out.up hb9)
 replace Hb := Lib.hid (Hb.out.up hb9)
 replace Hr := Lib.hid (Hr.out.up hb9)
 replace Hv := Lib.hid (Hv.out.up hb9)
 replace HB := hbu HB hb9
 replace HZS := sz HZS hz9.out
 clear hb9 hz9
 go_simp
 refine wp_region_otail 2 (by kernel_rfl) (by kernel_rfl) ?_
 simp only [List.take_succ_cons, List.take_zero, List.drop_succ_cons, List.drop_zero]
 repeat (go_big_quiet_step (first | fail))
 all_goals (try unfold elV limbV)
 repeat (go_big_quiet_step (first | fail))
 all_goals (try unfold elV limbV)
 repeat (go_big_quiet_step (first | fail))
 all_goals (try unfold ciphV)
 refine wpQuiet_nil ?_
 rintro _ ⟨E, rfl⟩
 replace Ha := Lib.hid (Ha.out.up E.h)
 replace Hb := Lib.hid (Hb.out.up E.h)
 replace Hr := Lib.hid (Hr.out.up E.h)
 replace Hv := Lib.hid (Hv.out.up E.h)
 replace Hs := Lib.hid (Hs.out.up E.h)
 replace HB := hbu HB E.h
 replace HZS := sz HZS E.h.size
 obtain ⟨w4, hq9⟩ : ∃ W9 : World, E.w = W9 := ⟨_, rfl⟩
 rw [hq9] at Ha Hb Hr Hv Hs HB HZS ⊢
 clear hq9 E
 refine wpList_copyB rfl (.tmp 14) (.tmp 15) 237 237 rfl 207 Tryz.underlying237 infoW (w.heap.size + 3) 0 8 16 ⟨w.heap.size, 0, none⟩ 8 8 rfl rfl (wlV (zw 16)) 230 Hv.out (wlV h) (by rw [HL8.out]; rfl) (fun j v hv => by rw [Addr.add_mid]; exact Ha.out.range j v hv) (by rw [HL8.out]; decide) (wl_one h) _ E1.out ?_
 intro wc hg9 hz9 hx9
 replace Ha := Lib.hid (Ha.out.grown hg9.out (sne (by have g0 := HZS.out; omega)))
 replace Hb := Lib.hid (Hb.out.grown hg9.out (sne (by have g0 := HZS.out; omega)))
 replace Hr := Lib.hid (Hr.out.grown hg9.out (sne (by have g0 := HZS.out; omega)))
 replace Hs := Lib.hid (Hs.out.grown hg9.out (sne (by have g0 := HZS.out; omega)))
 replace HB := hbg HB hg9 (by have g0 := HZS.out; omega)
 replace HZS := sz HZS hz9.out
 replace Hv := hx9
 clear hx9 hg9 hz9
 go_wp2_with fail
 go_simp
 refine wp_region_otail 2 (by kernel_rfl) (by kernel_rfl) ?_
 simp only [List.take_succ_cons, List.take_zero, List.drop_succ_cons, List.drop_zero]
 repeat (go_big_quiet_step (first | fail))
 all_goals (try unfold elV limbV)
 repeat (go_big_quiet_step (first | fail))
 all_goals (try unfold elV limbV)
 repeat (go_big_quiet_step (first | fail))
 all_goals (try unfold ciphV)
 refine wpQuiet_nil ?_
 rintro _ ⟨E, rfl⟩
 replace Ha := Lib.hid (Ha.out.up E.h)
 replace Hb := Lib.hid (Hb.out.up E.h)
 replace Hr := Lib.hid (Hr.out.up E.h)
 replace Hv := Lib.hid (Hv.out.up E.h)
 replace Hs := Lib.hid (Hs.out.up E.h)
 replace HB := hbu HB E.h
 replace HZS := sz HZS E.h.size
 obtain ⟨w5, hq9⟩ : ∃ W9 : World, E.w = W9 := ⟨_, rfl⟩
 rw [hq9] at Ha Hb Hr Hv Hs HB HZS ⊢
 clear hq9 E
 refine wpList_copyB rfl (.tmp 17) (.tmp 18) 237 237 rfl 207 Tryz.underlying237 infoW (w.heap.size + 3) 8 8 8 ⟨w2.heap.size, 0, none⟩ 8 8 rfl rfl (wlV (h ++ zw 8)) 230 Hv.out (wlV startV) rfl (fun j v hv => by rw [Addr.add_mid]; exact Hs.out.range j v hv) (by rw [wlV_len, wlV_len, List.length_append, HH.out]; decide) (wl_one startV) _ E2.out ?_
 intro wd hg9 hz9 hx9
 replace Ha := Lib.hid (Ha.out.grown hg9.out (sne (by have g0 := HZS.out; omega)))
 replace Hb := Lib.hid (Hb.out.grown hg9.out (sne (by have g0 := HZS.out; omega)))
 replace Hr := Lib.hid (Hr.out.grown hg9.out (sne (by have g0 := HZS.out; omega)))
 replace Hs := Lib.hid (Hs.out.grown hg9.out (sne (by have g0 := HZS.out; omega)))
 replace HB := hbg HB hg9 (by have g0 := HZS.out; omega)
 replace HZS := sz HZS hz9.out
 replace Hv := hx9
 clear hx9 hg9 hz9 Hs
 have c12 : wd.cell? ⟨w.heap.size + 3, 12, none⟩ = some (.int .u32 1359893119) := Hv.out.cell (by rw [show 12 = 8 + 4 from rfl, pre_cell h HH.out 4 (by decide)]; rfl)
 obtain ⟨z12, e12⟩ : ∃ z, startB.getD 4 0 ^^^ BitVec.ofNat 32 n = z := ⟨_, rfl⟩
 obtain ⟨z13, e13⟩ : ∃ z, startB.getD 5 0 ^^^ BitVec.ofNat 32 (n / 4294967296) = z := ⟨_, rfl⟩
 rw [e12] at hx12
 rw [e13] at hx13
 have HPR := Lib.hid (show ∀ b, preB h n b = if b then (((h ++ startV).set 12 z12).set 13 z13).set 14 (~~~ startB.getD 6 0) else ((h ++ startV).set 12 z12).set 13 z13 from fun b => by rw [← e12, ← e13]; rfl)
 clear e12 e13
 have f6_v := Hv.out.frozen
 obtain ⟨w6, hq6, hg9, hz9, hx9⟩ := put1 Hv 12 (.int .u32 (z12.toNat : Int)) _ rfl
 replace Ha := Lib.hid (Ha.out.grown hg9.out (sne (by have g0 := HZS.out; omega)))
 replace Hb := Lib.hid (Hb.out.grown hg9.out (sne (by have g0 := HZS.out; omega)))
 replace Hr := Lib.hid (Hr.out.grown hg9.out (sne (by have g0 := HZS.out; omega)))
 replace HB := hbg HB hg9 (by have g0 := HZS.out; omega)
 replace HZS := sz HZS hz9.out
 replace Hv := hx9
 clear hx9 hg9 hz9
 replace Hv := Lib.hid Hv.out.wset
 go_upto_region 6 with (fail)
 clear c12
 have c13 : w6.cell? ⟨w.heap.size + 3, 13, none⟩ = some (.int .u32 2600822924) := Hv.out.cell (by rw [wl_ne _ _ _ _ (by decide), show 13 = 8 + 5 from rfl, pre_cell h HH.out 5 (by decide)]; rfl)
 have f7_v := Hv.out.frozen
 obtain ⟨w7, hq7, hg9, hz9, hx9⟩ := put1 Hv 13 (.int .u32 (z13.toNat : Int)) _ rfl
 replace Ha := Lib.hid (Ha.out.grown hg9.out (sne (by have g0 := HZS.out; omega)))
 replace Hb := Lib.hid (Hb.out.grown hg9.out (sne (by have g0 := HZS.out; omega)))
 replace Hr := Lib.hid (Hr.out.grown hg9.out (sne (by have g0 := HZS.out; omega)))
 replace HB := hbg HB hg9 (by have g0 := HZS.out; omega)
 replace HZS := sz HZS hz9.out
 replace Hv := hx9
 clear hx9 hg9 hz9
 replace Hv := Lib.hid Hv.out.wset
 go_upto_region 7 with (fail)
 clear c13 hx12 hx13
 have HLV := Lib.hid (show (((h ++ startV).set 12 z12).set 13 z13).length = 16 by rw [List.length_set, List.length_set, List.length_append, HH.out]; rfl)
 have c14 : w7.cell? ⟨w.heap.size + 3, 14, none⟩ = some (.int .u32 528734635) := Hv.out.cell (by rw [wl_ne _ _ _ _ (by decide), wl_ne _ _ _ _ (by decide), show 14 = 8 + 6 from rfl, pre_cell h HH.out 6 (by decide)]; rfl)
 generalize ((h ++ startV).set 12 z12).set 13 z13 = V1 at *
 cases last
 case true =>
  have hx14 : bits BinOp.xor IntKind.u32 IntKind.u32.max 528734635 = ((~~~ startB.getD 6 0).toNat : Int) := by rw [← bits_not]; rfl
  obtain ⟨z14, e14⟩ : ∃ z, ~~~ startB.getD 6 0 = z := ⟨_, rfl⟩
  rw [e14] at hx14 HPR
  clear e14
  have f8_v := Hv.out.frozen
  obtain ⟨w8, hq8, hg9, hz9, hx9⟩ := put1 Hv 14 (.int .u32 (z14.toNat : Int)) _ rfl
  replace Ha := Lib.hid (Ha.out.grown hg9.out (sne (by have g0 := HZS.out; omega)))
  replace Hb := Lib.hid (Hb.out.grown hg9.out (sne (by have g0 := HZS.out; omega)))
  replace Hr := Lib.hid (Hr.out.grown hg9.out (sne (by have g0 := HZS.out; omega)))
  replace HB := hbg HB hg9 (by have g0 := HZS.out; omega)
  replace HZS := sz HZS hz9.out
  replace Hv := hx9
  clear hx9 hg9 hz9
  replace Hv := Lib.hid Hv.out.wset
  have HPV := Lib.hid (show V1.set 14 z14 = preB h n true from (HPR.out true).symm)
  have HVL := Lib.hid (show (preB h n true).length = 16 by rw [← HPV.out, List.length_set]; exact HLV.out)
  rw [HPV.out] at Hv
  clear HPV HPR HLV
  go_upto_region 9 with (fail)
  rw [if_neg (show ¬ (IntKind.u32.signed = true) by decide), hx14, hq8]
  clear c14 hx14
  have HVI := Lib.hid (show (Tryz.prog.info? 230).map (·.size) = some (wlV (preB h n true)).length by rw [wlV_len, HVL.out]; exact info16)
  have HSA := Lib.hid (fun w => Stir_any (preB h n true) m HVL.out HM.out w)
  have HSL := Lib.hid (stirB_len (preB h n true) m)
  have HPE := Lib.hid (show mixB h (stirB (preB h n true) m) 8 = pressB h m n true from rfl)
  generalize stirB (preB h n true) m = S at *
  generalize preB h n true = V at *
  go_wp2_with (first | refine wpList_load_mid rfl 230 (.tmp 9) rfl (w.heap.size + 3) 0 rfl (wlV V) _ Hv.out.range Tryz.underlying230 rfl HVI.out ?_ | refine wpList_load_mid rfl 230 (.tmp 5) rfl (w.heap.size + 1) 0 rfl (wlV m) _ Hb.out.range Tryz.underlying230 rfl HIM.out ?_)
  refine (HSA.out w8).mono ?_
  rintro e w9 ⟨rfl, hb9⟩
  replace Ha := Lib.hid (Ha.out.up hb9)
  replace Hb := Lib.hid (Hb.out.up hb9)
  replace Hr := Lib.hid (Hr.out.up hb9)
  replace Hv := Lib.hid (Hv.out.up hb9)
  replace HB := hbu HB hb9
  replace HZS := sz HZS hb9.size
  clear hb9
  have HIS := Lib.hid (show (Tryz.prog.info? 230).map (·.size) = some (wlV S).length by rw [wlV_len, HSL.out, HVL.out]; exact info16)
  have HZS2 := Lib.hid (show (wlV (zw 16)).length = (wlV S).length by rw [wlV_len, wlV_len, HSL.out, HVL.out]; rfl)
  go_upto_region 10 with (refine wpList_store_new rfl 230 230 (.tmp 11) (.tmp 40) rfl (wlV (zw 16)) (wlV S) rfl rfl HIS.out HZS2.out (wl_one S) ?_)
  clear HVI HSA HIM HZS2 HIS Hv Hb
  obtain ⟨w10, hq10, hb9, hz9, Hs⟩ := new1 w9 230 (wlV S)
  rw [hq10]
  clear hq10
  replace Ha := Lib.hid (Ha.out.up hb9)
  replace Hr := Lib.hid (Hr.out.up hb9)
  replace HB := hbu HB hb9
  replace HZS := sz HZS hz9.out
  clear hb9 hz9
  rw [show wlV h = wlV (mixB h S 0) by rw [mixB_zero h S HH.out]] at Ha
  clear hz hz8
  have HK := Lib.hid (Kept.refl (fun q9 => q9 = w.heap.size) w10)
  go_wp2_with fail
  clear hq8 f8_v hq7 f7_v hq6 f6_v
  go_loopw [41] (fun c wr => ∃ k : Nat, k ≤ 8 ∧ c = .int .i64 k ∧ Hid (Bx wr w.heap.size 208 (wlV (mixB h S k))) ∧ Hid (Kept (fun q9 => q9 = w.heap.size) w10 wr)) (fun c _ => 8 - (intOf c).toNat)
  case atStart => exact ⟨0, by omega, rfl, Ha, HK⟩
  case round =>
   obtain ⟨k, hk, rfl, HQ, HK1⟩ := hrel
   clear HK
   have hg9 := HK1.out
   clear Ha
   replace Hr := Lib.hid (Hr.out.keptP hg9 (show ¬ (w.heap.size + 2 = w.heap.size) by have g0 := HZS.out; omega))
   replace Hs := Lib.hid (Hs.out.keptP hg9 (show ¬ (w9.heap.size = w.heap.size) by have g0 := HZS.out; omega))
   replace HB := Lib.hid (Below.keptP HB.out hg9 (by have g0 := HZS.out; omega) (fun q9 h9 => (show w.heap.size ≤ _ by subst h9; have g0 := HZS.out; omega)))
   replace HZS := sz HZS (show w10.heap.size ≤ wr.heap.size from hg9.size)
   clear hg9
   have Ha := HQ
   clear HQ
   have HAL := Lib.hid (mixB_len h S k)
   by_cases hk8 : k < 8
   ·have hs := mixB_succ h S k
    have c1 := wl_cell Ha.out k (by rw [HAL.out]; exact hk8)
    have e1 : (mixB h S k).getD k 0 = h.getD k 0 := by
     show ((mixB h S k)[k]?).getD 0 = _
     rw [List.getElem?_eq_getElem (by rw [HAL.out]; exact hk8)]
     exact (mixB_at h S k k (by rw [HAL.out]; exact hk8)).trans (if_neg (by omega))
    rw [e1] at c1
    have c2 := wl_cell Hs.out k (by rw [HSL.out, HVL.out]; omega)
    have c3 := wl_cell Hs.out (k + 8) (by rw [HSL.out, HVL.out]; omega)
    generalize h.getD k 0 = x at *
    generalize S.getD k 0 = y at *
    generalize S.getD (k + 8) 0 = z at *
    have g1 := bits_xor y z
    obtain ⟨yz, e2⟩ : ∃ u, y ^^^ z = u := ⟨_, rfl⟩
    rw [e2] at g1
    have g2 := bits_xor x yz
    obtain ⟨u, e3⟩ : ∃ u, x ^^^ yz = u := ⟨_, rfl⟩
    rw [e3] at g2
    rw [show x ^^^ y ^^^ z = u by rw [← e3, ← e2, BitVec.xor_assoc]] at hs
    have HSS := Lib.hid hs
    clear hs e1 e2 e3
    generalize mixB h S k = M at *
    go_wp2_with fail
    refine wp_region_otail 13 (by kernel_rfl) (by kernel_rfl) ?_
    simp only [List.take_succ_cons, List.take_zero, List.drop_succ_cons, List.drop_zero]
    have hov_w_heap_size := fun (E : Over wr) o => E.cell (b := w.heap.size) o Ha.out.lt
    have hov_w9_heap_size := fun (E : Over wr) o => E.cell (b := w9.heap.size) o Hs.out.lt
    repeat (go_big_quiet_step (first | fail))
    all_goals (try unfold elV limbV)
    repeat (go_big_quiet_step (first | fail))
    all_goals (try unfold elV limbV)
    repeat (go_big_quiet_step (first | fail))
    all_goals (try unfold ciphV)
    refine wpQuiet_nil ?_
    rintro _ ⟨E, rfl⟩
    clear hov_w_heap_size hov_w9_heap_size
    replace Hr := Lib.hid (Hr.out.up E.h)
    replace Hs := Lib.hid (Hs.out.up E.h)
    replace Ha := Lib.hid (Ha.out.up E.h)
    replace HK1 := Lib.hid (Kept.up HK1.out E.h)
    replace HB := hbu HB E.h
    replace HZS := sz HZS E.h.size
    obtain ⟨w11, hq9⟩ : ∃ W9 : World, E.w = W9 := ⟨_, rfl⟩
    rw [hq9] at Hr Hs Ha HK1 HB HZS ⊢
    clear hq9 E c1 c2 c3
    have c1 := Ha.out.cell (wlV_get M k (by rw [HAL.out]; exact hk8))
    have f12_a := Ha.out.frozen
    obtain ⟨w12, hq12, hg9, hz9, hx9⟩ := put1 Ha k (.int .u32 (u.toNat : Int)) _ rfl
    replace Hr := Lib.hid (Hr.out.grown hg9.out (sne (by have g0 := HZS.out; omega)))
    replace Hs := Lib.hid (Hs.out.grown hg9.out (sne (by have g0 := HZS.out; omega)))
    replace HK1 := Lib.hid (Kept.grown HK1.out hg9.out (fun q9 e9 => by obtain rfl := Option.some.inj e9; exact Or.inr (rfl)))
    replace HB := hbg HB hg9 (by have g0 := HZS.out; omega)
    replace HZS := sz HZS hz9.out
    replace Ha := hx9
    clear hx9 hg9 hz9
    replace Ha := Lib.hid Ha.out.wset
    go_wp2_with fail
    clear hq12 f12_a c1 g1 g2
    have HQ := Ha
    rw [← HSS.out] at HQ
    go_roundw
    case rel => exact ⟨k + 1, by omega, by go_num, HQ, HK1⟩
    case measure => simp [intOf]; omega
   ·have hk' : k = 8 := by omega
    subst hk'
    rw [HPE.out] at Ha
    have HR := Lib.hid (pressB_len h m n true)
    obtain ⟨R, hR⟩ : ∃ R, pressB h m n true = R := ⟨_, rfl⟩
    rw [hR] at Ha HR
    have HRE := Lib.hid hR
    clear hR
    have HRI := Lib.hid (show (Tryz.prog.info? 208).map (·.size) = some (wlV R).length by rw [wlV_len, HR.out]; exact info8)
    have HRZ := Lib.hid (show (wlV R).length = (wlV (zw 8)).length by rw [wlV_len, wlV_len, HR.out]; rfl)
    obtain ⟨w5, hq5, hg5, hz5, hr5⟩ := puts Hr 0 (wlV R) (wlV R) (putL_all _ _ HRZ.out)
    have HB5 := hbg HB hg5 (by omega)
    go_wp2_with (first | refine wpList_load_mid rfl 208 (.tmp 4) rfl w.heap.size 0 rfl (wlV R) _ Ha.out.range Tryz.underlying208 rfl HRI.out ?_ | refine wpList_store_mid rfl 208 (.tmp 8) (.tmp 58) rfl (w.heap.size + 2) 0 (wlV R).toArray rfl rfl (Hr.out.there (by simp [HRZ.out])) (by simpa using HRI.out) (all_oneCell_toArray (wl_one R)) ?_)
    rw [hq5]
    exact ret_arr Tryz.results174 hr5.out _ rfl Tryz.underlying208 rfl HRI.out rfl ⟨by rw [HRE.out], HB5.out⟩
 case false =>
  have HPV := Lib.hid (show V1 = preB h n false from (HPR.out false).symm)
  have HVL := Lib.hid (show (preB h n false).length = 16 by rw [← HPV.out]; exact HLV.out)
  rw [HPV.out] at Hv
  clear HPV HPR HLV
  go_upto_region 9 with (fail)
  clear c14
  have HVI := Lib.hid (show (Tryz.prog.info? 230).map (·.size) = some (wlV (preB h n false)).length by rw [wlV_len, HVL.out]; exact info16)
  have HSA := Lib.hid (fun w => Stir_any (preB h n false) m HVL.out HM.out w)
  have HSL := Lib.hid (stirB_len (preB h n false) m)
  have HPE := Lib.hid (show mixB h (stirB (preB h n false) m) 8 = pressB h m n false from rfl)
  generalize stirB (preB h n false) m = S at *
  generalize preB h n false = V at *
  go_wp2_with (first | refine wpList_load_mid rfl 230 (.tmp 9) rfl (w.heap.size + 3) 0 rfl (wlV V) _ Hv.out.range Tryz.underlying230 rfl HVI.out ?_ | refine wpList_load_mid rfl 230 (.tmp 5) rfl (w.heap.size + 1) 0 rfl (wlV m) _ Hb.out.range Tryz.underlying230 rfl HIM.out ?_)
  refine (HSA.out w7).mono ?_
  rintro e w8 ⟨rfl, hb9⟩
  replace Ha := Lib.hid (Ha.out.up hb9)
  replace Hb := Lib.hid (Hb.out.up hb9)
  replace Hr := Lib.hid (Hr.out.up hb9)
  replace Hv := Lib.hid (Hv.out.up hb9)
  replace HB := hbu HB hb9
  replace HZS := sz HZS hb9.size
  clear hb9
  have HIS := Lib.hid (show (Tryz.prog.info? 230).map (·.size) = some (wlV S).length by rw [wlV_len, HSL.out, HVL.out]; exact info16)
  have HZS2 := Lib.hid (show (wlV (zw 16)).length = (wlV S).length by rw [wlV_len, wlV_len, HSL.out, HVL.out]; rfl)
  go_upto_region 10 with (refine wpList_store_new rfl 230 230 (.tmp 11) (.tmp 40) rfl (wlV (zw 16)) (wlV S) rfl rfl HIS.out HZS2.out (wl_one S) ?_)
  clear HVI HSA HIM HZS2 HIS Hv Hb
  obtain ⟨w9, hq9, hb9, hz9, Hs⟩ := new1 w8 230 (wlV S)
  rw [hq9]
  clear hq9
  replace Ha := Lib.hid (Ha.out.up hb9)
  replace Hr := Lib.hid (Hr.out.up hb9)
  replace HB := hbu HB hb9
  replace HZS := sz HZS hz9.out
  clear hb9 hz9
  rw [show wlV h = wlV (mixB h S 0) by rw [mixB_zero h S HH.out]] at Ha
  clear hz hz8
  have HK := Lib.hid (Kept.refl (fun q9 => q9 = w.heap.size) w9)
  go_wp2_with fail
  clear hq7 f7_v hq6 f6_v
  go_loopw [41] (fun c wr => ∃ k : Nat, k ≤ 8 ∧ c = .int .i64 k ∧ Hid (Bx wr w.heap.size 208 (wlV (mixB h S k))) ∧ Hid (Kept (fun q9 => q9 = w.heap.size) w9 wr)) (fun c _ => 8 - (intOf c).toNat)
  case atStart => exact ⟨0, by omega, rfl, Ha, HK⟩
  case round =>
   obtain ⟨k, hk, rfl, HQ, HK1⟩ := hrel
   clear HK
   have hg9 := HK1.out
   clear Ha
   replace Hr := Lib.hid (Hr.out.keptP hg9 (show ¬ (w.heap.size + 2 = w.heap.size) by have g0 := HZS.out; omega))
   replace Hs := Lib.hid (Hs.out.keptP hg9 (show ¬ (w8.heap.size = w.heap.size) by have g0 := HZS.out; omega))
   replace HB := Lib.hid (Below.keptP HB.out hg9 (by have g0 := HZS.out; omega) (fun q9 h9 => (show w.heap.size ≤ _ by subst h9; have g0 := HZS.out; omega)))
   replace HZS := sz HZS (show w9.heap.size ≤ wr.heap.size from hg9.size)
   clear hg9
   have Ha := HQ
   clear HQ
   have HAL := Lib.hid (mixB_len h S k)
   by_cases hk8 : k < 8
   ·have hs := mixB_succ h S k
    have c1 := wl_cell Ha.out k (by rw [HAL.out]; exact hk8)
    have e1 : (mixB h S k).getD k 0 = h.getD k 0 := by
     show ((mixB h S k)[k]?).getD 0 = _
     rw [List.getElem?_eq_getElem (by rw [HAL.out]; exact hk8)]
     exact (mixB_at h S k k (by rw [HAL.out]; exact hk8)).trans (if_neg (by omega))
    rw [e1] at c1
    have c2 := wl_cell Hs.out k (by rw [HSL.out, HVL.out]; omega)
    have c3 := wl_cell Hs.out (k + 8) (by rw [HSL.out, HVL.out]; omega)
    generalize h.getD k 0 = x at *
    generalize S.getD k 0 = y at *
    generalize S.getD (k + 8) 0 = z at *
    have g1 := bits_xor y z
    obtain ⟨yz, e2⟩ : ∃ u, y ^^^ z = u := ⟨_, rfl⟩
    rw [e2] at g1
    have g2 := bits_xor x yz
    obtain ⟨u, e3⟩ : ∃ u, x ^^^ yz = u := ⟨_, rfl⟩
    rw [e3] at g2
    rw [show x ^^^ y ^^^ z = u by rw [← e3, ← e2, BitVec.xor_assoc]] at hs
    have HSS := Lib.hid hs
    clear hs e1 e2 e3
    generalize mixB h S k = M at *
    go_wp2_with fail
    refine wp_region_otail 13 (by kernel_rfl) (by kernel_rfl) ?_
    simp only [List.take_succ_cons, List.take_zero, List.drop_succ_cons, List.drop_zero]
    have hov_w_heap_size := fun (E : Over wr) o => E.cell (b := w.heap.size) o Ha.out.lt
    have hov_w8_heap_size := fun (E : Over wr) o => E.cell (b := w8.heap.size) o Hs.out.lt
    repeat (go_big_quiet_step (first | fail))
    all_goals (try unfold elV limbV)
    repeat (go_big_quiet_step (first | fail))
    all_goals (try unfold elV limbV)
    repeat (go_big_quiet_step (first | fail))
    all_goals (try unfold ciphV)
    refine wpQuiet_nil ?_
    rintro _ ⟨E, rfl⟩
    clear hov_w_heap_size hov_w8_heap_size
    replace Hr := Lib.hid (Hr.out.up E.h)
    replace Hs := Lib.hid (Hs.out.up E.h)
    replace Ha := Lib.hid (Ha.out.up E.h)
    replace HK1 := Lib.hid (Kept.up HK1.out E.h)
    replace HB := hbu HB E.h
    replace HZS := sz HZS E.h.size
    obtain ⟨w10, hq9⟩ : ∃ W9 : World, E.w = W9 := ⟨_, rfl⟩
    rw [hq9] at Hr Hs Ha HK1 HB HZS ⊢
    clear hq9 E c1 c2 c3
    have c1 := Ha.out.cell (wlV_get M k (by rw [HAL.out]; exact hk8))
    have f11_a := Ha.out.frozen
    obtain ⟨w11, hq11, hg9, hz9, hx9⟩ := put1 Ha k (.int .u32 (u.toNat : Int)) _ rfl
    replace Hr := Lib.hid (Hr.out.grown hg9.out (sne (by have g0 := HZS.out; omega)))
    replace Hs := Lib.hid (Hs.out.grown hg9.out (sne (by have g0 := HZS.out; omega)))
    replace HK1 := Lib.hid (Kept.grown HK1.out hg9.out (fun q9 e9 => by obtain rfl := Option.some.inj e9; exact Or.inr (rfl)))
    replace HB := hbg HB hg9 (by have g0 := HZS.out; omega)
    replace HZS := sz HZS hz9.out
    replace Ha := hx9
    clear hx9 hg9 hz9
    replace Ha := Lib.hid Ha.out.wset
    go_wp2_with fail
    clear hq11 f11_a c1 g1 g2
    have HQ := Ha
    rw [← HSS.out] at HQ
    go_roundw
    case rel => exact ⟨k + 1, by omega, by go_num, HQ, HK1⟩
    case measure => simp [intOf]; omega
   ·have hk' : k = 8 := by omega
    subst hk'
    rw [HPE.out] at Ha
    have HR := Lib.hid (pressB_len h m n false)
    obtain ⟨R, hR⟩ : ∃ R, pressB h m n false = R := ⟨_, rfl⟩
    rw [hR] at Ha HR
    have HRE := Lib.hid hR
    clear hR
    have HRI := Lib.hid (show (Tryz.prog.info? 208).map (·.size) = some (wlV R).length by rw [wlV_len, HR.out]; exact info8)
    have HRZ := Lib.hid (show (wlV R).length = (wlV (zw 8)).length by rw [wlV_len, wlV_len, HR.out]; rfl)
    obtain ⟨w5, hq5, hg5, hz5, hr5⟩ := puts Hr 0 (wlV R) (wlV R) (putL_all _ _ HRZ.out)
    have HB5 := hbg HB hg5 (by omega)
    go_wp2_with (first | refine wpList_load_mid rfl 208 (.tmp 4) rfl w.heap.size 0 rfl (wlV R) _ Ha.out.range Tryz.underlying208 rfl HRI.out ?_ | refine wpList_store_mid rfl 208 (.tmp 8) (.tmp 58) rfl (w.heap.size + 2) 0 (wlV R).toArray rfl rfl (Hr.out.there (by simp [HRZ.out])) (by simpa using HRI.out) (all_oneCell_toArray (wl_one R)) ?_)
    rw [hq5]
    exact ret_arr Tryz.results174 hr5.out _ rfl Tryz.underlying208 rfl HRI.out rfl ⟨by rw [HRE.out], HB5.out⟩
end Go.Proofs.YtdlnnkbigeiilaaGreat
namespace Go.Proofs.YtdlnnkbigeiilaaGreat
open Go.RowKit Go.Lib
def foldC (h : WL) (n : Nat) (hb : List UInt8) (k : Nat) : List Value := wlV h ++ ([.int .u64 (n : Int)] ++ (byteCells hb ++ [.int .i64 (k : Int)]))
section
variable {h : WL} {n k : Nat} {hb : List UInt8}
theorem foldC_len (hh : h.length = 8) (hl : hb.length = 64) : (foldC h n hb k).length = 74 := by
 unfold foldC; simp [wlV_len, hh, hl, byteCells_length]
theorem foldC_n (hh : h.length = 8) : (foldC h n hb k)[8]? = some (.int .u64 (n : Int)) := by
 unfold foldC
 rw [List.getElem?_append_right (by rw [wlV_len, hh]; exact Nat.le_refl _), wlV_len, hh]
 rfl
theorem foldC_k (hh : h.length = 8) (hl : hb.length = 64) : (foldC h n hb k)[73]? = some (.int .i64 (k : Int)) := by
 unfold foldC
 rw [List.getElem?_append_right (by rw [wlV_len, hh]; decide), wlV_len, hh, List.getElem?_append_right (by simp), List.getElem?_append_right (by rw [byteCells_length, hl]; simp), byteCells_length, hl]
 rfl
theorem foldC_setn (hh : h.length = 8) (m : Nat) : (foldC h n hb k).set 8 (.int .u64 (m : Int)) = foldC h m hb k := by
 unfold foldC
 rw [List.set_append_right _ _ (by rw [wlV_len, hh]; exact Nat.le_refl _), wlV_len, hh]
 rfl
theorem foldC_setk (hh : h.length = 8) (hl : hb.length = 64) (m : Nat) : (foldC h n hb k).set 73 (.int .i64 (m : Int)) = foldC h n hb m := by
 unfold foldC
 rw [List.set_append_right _ _ (by rw [wlV_len, hh]; decide), wlV_len, hh, List.set_append_right _ _ (by simp), List.set_append_right _ _ (by rw [byteCells_length, hl]; simp), byteCells_length, hl]
 rfl
theorem foldC_puth (hh : h.length = 8) (h' : WL) (hh' : h'.length = 8) : putL (foldC h n hb k) 0 (wlV h') = foldC h' n hb k := by
 rw [putL_eq _ _ _ (by unfold foldC; simp [wlV_len, hh, hh']), List.take_zero, List.nil_append, wlV_len, hh', Nat.zero_add]
 unfold foldC
 rw [List.drop_append_of_le_length (by rw [wlV_len, hh]; exact Nat.le_refl _), List.drop_eq_nil_of_le (by rw [wlV_len, hh]; exact Nat.le_refl _), List.nil_append]
theorem byteCells_app (a b : List UInt8) : byteCells (a ++ b) = byteCells a ++ byteCells b := by unfold byteCells; rw [List.map_append]
theorem byteCells_take (a : List UInt8) (j : Nat) : byteCells (a.take j) = (byteCells a).take j := by unfold byteCells; rw [List.map_take]
theorem byteCells_drop (a : List UInt8) (j : Nat) : byteCells (a.drop j) = (byteCells a).drop j := by unfold byteCells; rw [List.map_drop]
theorem foldC_putb (hh : h.length = 8) (hl : hb.length = 64) (j : Nat) (t : List UInt8) (ht : j + t.length ≤ 64) : putL (foldC h n hb k) (9 + j) (byteCells t) = foldC h n (hb.take j ++ t ++ hb.drop (j + t.length)) k := by
 have hw : (wlV h).length = 8 := by rw [wlV_len, hh]
 have hc : (byteCells hb).length = 64 := by rw [byteCells_length, hl]
 rw [putL_eq _ _ _ (by rw [foldC_len hh hl, byteCells_length]; omega), byteCells_length]
 unfold foldC
 rw [byteCells_app, byteCells_app, byteCells_take, byteCells_drop]
 generalize wlV h = H at *
 generalize byteCells hb = X at *
 generalize byteCells t = Y at *
 have e1 : (H ++ ([Value.int .u64 (n : Int)] ++ (X ++ [Value.int .i64 (k : Int)]))).take (9 + j) = H ++ ([.int .u64 (n : Int)] ++ X.take j) := by
  rw [List.take_append, List.take_of_length_le (by omega), hw, show 9 + j - 8 = j + 1 by omega, List.take_append, List.take_of_length_le (by simp), List.length_singleton, show j + 1 - 1 = j by omega, List.take_append_of_le_length (by omega)]
 have e2 : (H ++ ([Value.int .u64 (n : Int)] ++ (X ++ [Value.int .i64 (k : Int)]))).drop (9 + j + t.length) = X.drop (j + t.length) ++ [Value.int .i64 (k : Int)] := by
  rw [List.drop_append, List.drop_eq_nil_of_le (by omega), List.nil_append, hw, show 9 + j + t.length - 8 = j + t.length + 1 by omega, List.drop_append, List.drop_eq_nil_of_le (by simp), List.nil_append, List.length_singleton, show j + t.length + 1 - 1 = j + t.length by omega, List.drop_append_of_le_length (by omega)]
 rw [e1, e2]
 simp
theorem foldC_h {W : World} {b : Nat} {t : TypeId} (hx : Bx W b t (foldC h n hb k)) : W.rangeAt b 0 (wlV h) := hx.part (as1 := []) rfl
theorem foldC_b {W : World} {b : Nat} {t : TypeId} (hh : h.length = 8) (hx : Bx W b t (foldC h n hb k)) : W.rangeAt b 9 (byteCells hb) :=
 Bx.part (as1 := wlV h ++ [.int .u64 (n : Int)]) (bs := [.int .i64 (k : Int)]) (by unfold foldC at hx; simpa using hx) (by simp [wlV_len, hh])
end
def FoldAt (W : World) (b : Nat) (s : List UInt8) : Prop := ∃ h n hb k, Bx W b 211 (foldC h n hb k) ∧ h.length = 8 ∧ Fold s h n hb k ∧ (s = [] ∨ 0 < k)
end Go.Proofs.YtdlnnkbigeiilaaGreat
namespace Go.Proofs.YtdlnnkbigeiilaaGreat
open Go.RowKit Go.Lib
theorem info64 : (Tryz.prog.info? 209).map (·.size) = some 64 := by kernel_rfl
theorem infoB : (Tryz.prog.info? 5).map (·.size) = some 1 := by kernel_rfl
theorem byte_cell (l : List UInt8) (i : Nat) (h : i < l.length) : (byteCells l)[i]? = some (.int .u8 ((l.getD i 0).toNat : Int)) := by unfold byteCells; simp [List.getD, h]
theorem word_or (l : List UInt8) (k : Nat) (h64 : k < 64) : bits BinOp.or IntKind.u32 ((((wordsB l k).getD (k / 4) 0).toNat : Nat) : Int) (((l.getD k 0).toNat * 256 ^ (k % 4) : Nat) : Int) = (((wordsB l k).getD (k / 4) 0 + BitVec.ofNat 32 ((l.getD k 0).toNat * 256 ^ (k % 4))).toNat : Int) := by
 rw [wordsB_get _ _ _ (by omega)]
 have hb := (l.getD k 0).toNat_lt
 have hr : k % 4 = 0 ∨ k % 4 = 1 ∨ k % 4 = 2 ∨ k % 4 = 3 := by omega
 have h0 := byteW_lt l k (4 * (k / 4))
 have h1 := byteW_lt l k (4 * (k / 4) + 1)
 have h2 := byteW_lt l k (4 * (k / 4) + 2)
 have hz : ∀ j, k ≤ j → byteW l k j = 0 := fun j hj => by unfold byteW; rw [if_neg (by omega)]
 have hlt : (wordB l k (k / 4)).toNat < 256 ^ (k % 4) := by
  unfold wordB
  rw [BitVec.toNat_ofNat]
  rcases hr with hr | hr | hr | hr
  ·rw [hr, hz _ (by omega), hz _ (by omega), hz _ (by omega), hz _ (by omega)]; decide
  ·rw [hr, hz (4 * (k / 4) + 1) (by omega), hz (4 * (k / 4) + 2) (by omega), hz (4 * (k / 4) + 3) (by omega)]
   simp only [Nat.reducePow]; omega
  ·rw [hr, hz (4 * (k / 4) + 2) (by omega), hz (4 * (k / 4) + 3) (by omega)]
   simp only [Nat.reducePow]; omega
  ·rw [hr, hz (4 * (k / 4) + 3) (by omega)]
   simp only [Nat.reducePow]; omega
 generalize wordB l k (k / 4) = W at *
 generalize (l.getD k 0).toNat = c at *
 have hc : c * 256 ^ (k % 4) < 4294967296 := by rcases hr with hr | hr | hr | hr <;> rw [hr] <;> simp only [Nat.reducePow] <;> omega
 have hW := W.isLt
 rw [bits_or _ _ hW hc, BitVec.toNat_add, BitVec.toNat_ofNat, Nat.mod_eq_of_lt hc]
 have e : W.toNat ||| c * 256 ^ (k % 4) = W.toNat + c * 256 ^ (k % 4) := by
  rw [show 256 ^ (k % 4) = 2 ^ (8 * (k % 4)) by rw [Nat.pow_mul], Nat.or_comm, ← Nat.shiftLeft_eq, ← Nat.shiftLeft_add_eq_or_of_lt (by rwa [Nat.pow_mul]), Nat.add_comm]
 rw [e, Nat.mod_eq_of_lt (a := W.toNat + c * 256 ^ (k % 4))]
 rcases hr with hr | hr | hr | hr <;> rw [hr] at hlt ⊢ <;> simp only [Nat.reducePow] at * <;> omega
theorem word_or2 (l : List UInt8) (k : Nat) (h64 : k < 64) : bits BinOp.or IntKind.u32 (((wordsB l k).getD (k / 4) 0).toNat : Int) (((l.getD k 0).toNat : Int) * 2 ^ (8 * (k % 4)) % 4294967296) = (((wordsB l k).getD (k / 4) 0 + BitVec.ofNat 32 ((l.getD k 0).toNat * 256 ^ (k % 4))).toNat : Int) := by
 rw [← word_or l k h64]
 congr 1
 have hb := (l.getD k 0).toNat_lt
 have hr : k % 4 = 0 ∨ k % 4 = 1 ∨ k % 4 = 2 ∨ k % 4 = 3 := by omega
 generalize (l.getD k 0).toNat = c at *
 rcases hr with hr | hr | hr | hr <;> rw [hr] <;> simp <;> omega
theorem words_any (h : WL) (n : Nat) (hb : List UInt8) (k : Nat) (hh : h.length = 8) (hl : hb.length = 64) (b : Nat) (w : World) (hx : Bx w b 211 (foldC h n hb k)) :
  Calls Tryz.prog 175 #[.pointer (some ⟨b, 0, none⟩)] w fun e w' => e = .returned (.agg (wlV (wordsB hb 64)).toArray) ∧ Below w.heap.size w w' := by
 have HL := Lib.hid hl
 have HI := Lib.hid (show (Tryz.prog.info? 209).map (·.size) = some (byteCells hb).length by rw [byteCells_length, hl]; exact info64)
 have hz : (#[.int .u32 0, .int .u32 0, .int .u32 0, .int .u32 0, .int .u32 0, .int .u32 0, .int .u32 0, .int .u32 0, .int .u32 0, .int .u32 0, .int .u32 0, .int .u32 0, .int .u32 0, .int .u32 0, .int .u32 0, .int .u32 0] : Array Value) = (wlV (wordsB hb 0)).toArray := by rw [wordsB_zero]; rfl
 have HH := Lib.hid hh
 have Hf := Lib.hid hx
 clear hl hh hx
 go_enter Tryz.func175, Tryz.ntmps175
 go_upto_region 1 with (fail)
 obtain ⟨w1, hq1, hb9, hz9, Hr⟩ := new1 w 230 (wlV (wordsB hb 0))
 rw [hq1]
 clear hq1
 replace Hf := Lib.hid (Hf.out.up hb9)
 have HB := Lib.hid hb9
 have HZS := hz9
 clear hb9 hz9
 go_wp2_with (refine wpList_load_mid rfl 209 (.tmp 7) rfl b 9 rfl (byteCells hb) _ (foldC_b HH.out Hf.out) Tryz.underlying209 rfl HI.out ?_)
 clear hz HI Hf
 have HK := Lib.hid (Kept.refl (fun q9 => q9 = w.heap.size) w1)
 go_loopw [9] (fun c wr => ∃ j : Nat, j ≤ 64 ∧ c = .int .i64 j ∧ Hid (Bx wr w.heap.size 230 (wlV (wordsB hb j))) ∧ Hid (Below w.heap.size w wr)) (fun c _ => 64 - (RowKit.intOf c).toNat)
 case atStart => exact ⟨0, by omega, rfl, Hr, HB⟩
 case round =>
  obtain ⟨j, hj, rfl, HQ, HB2⟩ := hrel
  clear HK HB Hr
  have HB := HB2
  have Hr := HQ
  clear HB2 HQ
  have HWL := Lib.hid (wordsB_len hb j)
  by_cases hj6 : j < 64
  ·have hix := fun W => run_index_arr (P := Tryz.prog) W 209 5 .u8 64 (byteCells hb) j _ (byte_cell hb j (by rw [HL.out]; exact hj6)) Tryz.underlying209 (by rw [byteCells_length, HL.out]) infoB Tryz.underlying5
   have hs := wordsB_succ hb j hj6
   have ho := word_or2 hb j hj6
   have c1 := wl_cell Hr.out (j / 4) (by rw [HWL.out]; omega)
   have a1 : (0 : Int) ≤ ((j / 4 : Nat) : Int) := by omega
   have a2 : ((j / 4 : Nat) : Int) < 16 := by omega
   obtain ⟨Z, hZ⟩ : ∃ Z, (wordsB hb j).getD (j / 4) 0 + BitVec.ofNat 32 ((hb.getD j 0).toNat * 256 ^ (j % 4)) = Z := ⟨_, rfl⟩
   rw [hZ] at ho hs
   have HS := Lib.hid hs
   clear hs hZ
   generalize hb.getD j 0 = cb at *
   generalize (wordsB hb j).getD (j / 4) 0 = X at *
   have hcb := cb.toNat_lt
   have a3 : (0 : Int) ≤ 8 * ((j : Int) % 4) := by omega
   have a4 : 8 * ((j : Int) % 4) ≤ 24 := by omega
   go_wp2_with fail
   refine wp_region_otail 12 (by kernel_rfl) (by kernel_rfl) ?_
   simp only [List.take_succ_cons, List.take_zero, List.drop_succ_cons, List.drop_zero]
   have hov_w_heap_size := fun (E : Over wr) o => E.cell (b := w.heap.size) o Hr.out.lt
   repeat (go_big_quiet_step (first | fail))
   all_goals (try unfold elV limbV)
   repeat (go_big_quiet_step (first | fail))
   all_goals (try unfold elV limbV)
   repeat (go_big_quiet_step (first | fail))
   all_goals (try unfold ciphV)
   refine wpQuiet_nil ?_
   rintro _ ⟨E, rfl⟩
   clear hov_w_heap_size
   replace Hr := Lib.hid (Hr.out.up E.h)
   replace HB := hbu HB E.h
   replace HZS := sz HZS E.h.size
   obtain ⟨w2, hq9⟩ : ∃ W9 : World, E.w = W9 := ⟨_, rfl⟩
   rw [hq9] at Hr HB HZS ⊢
   clear hq9 E c1
   have c1 := Hr.out.cell (wlV_get (wordsB hb j) (j / 4) (by rw [HWL.out]; omega))
   have f3_r := Hr.out.frozen
   obtain ⟨w3, hq3, hg9, hz9, hx9⟩ := put1 Hr (j / 4) (.int .u32 (Z.toNat : Int)) _ rfl
   replace HB := hbg HB hg9 (by have g0 := HZS.out; omega)
   replace HZS := sz HZS hz9.out
   replace Hr := hx9
   clear hx9 hg9 hz9
   replace Hr := Lib.hid Hr.out.wset
   rw [← HS.out] at Hr
   go_wp2_with fail
   clear hq3 f3_r c1 ho hix
   go_roundw
   case rel => exact ⟨j + 1, by omega, by go_num, Hr, HB⟩
   case measure => simp [RowKit.intOf]; omega
  ·have hj' : j = 64 := by omega
   subst hj'
   have HWI := Lib.hid (show (Tryz.prog.info? 230).map (·.size) = some (wlV (wordsB hb 64)).length by rw [wlV_len, HWL.out]; exact info16)
   obtain ⟨V, hV⟩ : ∃ V, wordsB hb 64 = V := ⟨_, rfl⟩
   rw [hV] at Hr HWI HWL
   have HVE := Lib.hid hV
   clear hV
   obtain ⟨w5, hq5, hg5, hz5, hr5⟩ := puts Hr 0 (wlV V) (wlV V) (putL_all _ _ rfl)
   have HB5 := hbg HB hg5 (by omega)
   go_wp2_with (first | refine wpList_load_mid rfl 230 (.tmp 2) rfl w.heap.size 0 rfl (wlV V) _ Hr.out.range Tryz.underlying230 rfl HWI.out ?_ | refine wpList_store_mid rfl 230 (.tmp 2) (.tmp 26) rfl w.heap.size 0 (wlV V).toArray rfl rfl (Hr.out.there (by simp)) (by simpa using HWI.out) (all_oneCell_toArray (wl_one V)) ?_)
   rw [hq5]
   exact ret_arr Tryz.results175 hr5.out _ rfl Tryz.underlying230 rfl HWI.out rfl ⟨by rw [HVE.out], HB5.out⟩
end Go.Proofs.YtdlnnkbigeiilaaGreat
namespace Go.Proofs.YtdlnnkbigeiilaaGreat
open Go.RowKit Go.Lib
def z64 : List UInt8 := List.replicate 64 0
def begC (h : WL) : List Value := foldC h 0 z64 0
theorem infoF : (Tryz.prog.info? 211).map (·.size) = some 74 := by kernel_rfl
theorem foldC_one (h : WL) (n : Nat) (hb : List UInt8) (k : Nat) : ∀ v ∈ foldC h n hb k, v.oneCell' = true := fun v hv => by
 unfold foldC at hv
 simp only [List.mem_append, List.mem_singleton] at hv
 rcases hv with hv | rfl | hv | rfl
 ·exact wl_one h v hv
 ·rfl
 ·exact byteCells_one hb v hv
 ·rfl
theorem begin_any (w : World) : Calls Tryz.prog 156 #[.string ⟨#[]⟩] w fun e w' => e = .returned (.agg (foldC h0B 0 z64 0).toArray) ∧ Below w.heap.size w w' := by
 have HI := Lib.hid (show (Tryz.prog.info? 211).map (·.size) = some (begC startV).length from infoF)
 have HZ := Lib.hid (show (begC (zw 8)).length = (begC startV).length from rfl)
 go_enter Tryz.func156, Tryz.ntmps156
 go_upto_region 1 with (fail)
 have hz0 : Tryz.zeroCells211 = (begC (zw 8)).toArray := by kernel_rfl
 rw [hz0]
 have hs : (wlV startV).toArray = #[.int .u32 1779033703, .int .u32 3144134277, .int .u32 1013904242, .int .u32 2773480762, .int .u32 1359893119, .int .u32 2600822924, .int .u32 528734635, .int .u32 1541459225] := rfl
 obtain ⟨w1, hq1, hb9, hz9, Hr⟩ := new1 w 211 (begC (zw 8))
 rw [hq1]
 clear hq1
 have HB := Lib.hid hb9
 have HZS := hz9
 clear hb9 hz9
 go_wp2_with fail
 refine (start_any w1).mono ?_
 rintro e w2 ⟨rfl, hb9⟩
 replace Hr := Lib.hid (Hr.out.up hb9)
 replace HB := hbu HB hb9
 replace HZS := sz HZS hb9.size
 clear hb9
 have hln : (begC (zw 8)).length = 74 := rfl
 rw [hs]
 go_upto_region 2 with (refine wpList_store_new rfl 211 211 (.tmp 3) (.tmp 5) rfl (begC (zw 8)) (begC startV) rfl rfl HI.out HZ.out (foldC_one _ _ _ _) ?_)
 obtain ⟨w3, hq3, hb9, hz9, Hf⟩ := new1 w2 211 (begC startV)
 rw [hq3]
 clear hq3
 replace Hr := Lib.hid (Hr.out.up hb9)
 replace HB := hbu HB hb9
 replace HZS := sz HZS hz9.out
 clear hb9 hz9 hs hln
 have c0 : w3.cell? ⟨w2.heap.size, 0, none⟩ = some (.int .u32 1779033703) := Hf.out.cell rfl
 have hx0 : bits BinOp.xor IntKind.u32 1779033703 16842784 = 1795745351 := by decide
 have f4_f := Hf.out.frozen
 obtain ⟨w4, hq4, hg9, hz9, hx9⟩ := put1 Hf 0 (.int .u32 1795745351) _ rfl
 replace Hr := Lib.hid (Hr.out.grown hg9.out (sne (by have g0 := HZS.out; omega)))
 replace HB := hbg HB hg9 (by have g0 := HZS.out; omega)
 replace HZS := sz HZS hz9.out
 replace Hf := hx9
 clear hx9 hg9 hz9
 replace Hf := Lib.hid (show Bx w4 w2.heap.size 211 (foldC h0B 0 z64 0) from Hf.out)
 have HI2 := Lib.hid (show (Tryz.prog.info? 211).map (·.size) = some (foldC h0B 0 z64 0).length from infoF)
 obtain ⟨w5, hq5, hg5, hz5, hr5⟩ := puts Hr 0 (foldC h0B 0 z64 0) (foldC h0B 0 z64 0) (putL_all _ _ rfl)
 have HB5 := hbg HB hg5 (by omega)
 go_wp2_with (first | refine wpList_load_mid rfl 211 (.tmp 3) rfl w2.heap.size 0 rfl (foldC h0B 0 z64 0) _ Hf.out.range Tryz.underlying211 rfl HI2.out ?_ | refine wpList_store_mid rfl 211 (.tmp 2) (.tmp 25) rfl w.heap.size 0 (foldC h0B 0 z64 0).toArray rfl rfl (Hr.out.there (by simp; decide)) (by simpa using HI2.out) (all_oneCell_toArray (foldC_one _ _ _ _)) ?_)
 rw [hq5]
 exact ret_arr Tryz.results156 hr5.out _ rfl Tryz.underlying211 rfl HI2.out rfl ⟨rfl, HB5.out⟩
theorem byte_int (m : Nat) : (((UInt8.ofNat (m % 256)).toNat : Nat) : Int) = (m : Int) % 256 := by
 rw [UInt8.toNat_ofNat_of_lt' (by have := Nat.mod_lt m (show 0 < 256 by decide); exact this)]; omega
theorem four_any (n : Nat) (hn : n < 9223372036854775808) (w : World) : Calls Tryz.prog 158 #[.int .i64 (n : Int)] w fun e w' => e = .returned (.string (fourS n)) ∧ Below w.heap.size w w' := by
 go_enter Tryz.func158, Tryz.ntmps158
 obtain ⟨w1, hq1, hb9, hz9, Hr⟩ := new1 w 5 [.int .u8 ((n : Int) / 16777216 % 256), .int .u8 ((n : Int) / 65536 % 256), .int .u8 ((n : Int) / 256 % 256), .int .u8 ((n : Int) % 256)]
 have HB := Lib.hid hb9
 have HZS := hz9
 clear hb9 hz9
 have r_ := Hr.out.c4
 have hcv := run_convert_bytes_arg (P := Tryz.prog) w1 150 5 Tryz.underlying150 Tryz.underlying5 w.heap.size 0 4 4 [(n : Int) / 16777216 % 256, (n : Int) / 65536 % 256, (n : Int) / 256 % 256, (n : Int) % 256] rfl (fun i hi => by
  rcases (show i = 0 ∨ i = 1 ∨ i = 2 ∨ i = 3 by omega) with rfl | rfl | rfl | rfl
  ·exact Hr.out.cell (i := 0) rfl
  ·exact Hr.out.cell (i := 1) rfl
  ·exact Hr.out.cell (i := 2) rfl
  ·exact Hr.out.cell (i := 3) rfl) 9 Tryz.underlying9
 go_wp2_with fail
 clear hq1
 go_ret
 exact ⟨rfl, HB.out⟩
end Go.Proofs.YtdlnnkbigeiilaaGreat
namespace Go.Proofs.YtdlnnkbigeiilaaGreat
open Go.RowKit Go.Lib
theorem bytesOf_len (x : ByteArray) : (bytesOf x).length = x.size := by unfold bytesOf; rw [Array.length_toList]; rfl
def strLen : Value → Nat
 | .string y => y.size
 | _ => 0
theorem foldC_lay {h : WL} {n k : Nat} {hb : List UInt8} (hh : h.length = 8) (hl : hb.length = 64) (j : Nat) (y : ByteArray) (m : Nat) (hm : ((bytesOf y).take (64 - j)).length = m) (hj : j + m ≤ 64) : putL (foldC h n hb k) (9 + j) ((byteCells y.data.toList).take (64 - j)) = foldC h n (hb.take j ++ (bytesOf y).take (64 - j) ++ hb.drop (j + m)) k := by
 subst hm
 rw [← byteCells_take]
 exact foldC_putb hh hl j ((bytesOf y).take (64 - j)) hj
theorem bytesOf_drop (y : ByteArray) (m : Nat) : bytesOf (y.extract m y.size) = (bytesOf y).drop m := Lib.extract_to_end y m
theorem take_min (y : ByteArray) (m k : Nat) (h : Nat.min y.size k = m) : (bytesOf y).take k = (bytesOf y).take m := by
 rw [← h, List.take_eq_take_iff, bytesOf_len]
 show min k y.size = min (min y.size k) y.size
 omega
theorem take_any (b : Nat) (s : List UInt8) (x : ByteArray) (hsz : s.length + x.size < 4611686018427387904) (w : World) (hF : FoldAt w b s) :
  Calls Tryz.prog 157 #[.pointer (some ⟨b, 0, none⟩), .string x] w fun e w' => e = .returned (.tuple #[]) ∧ FoldAt w' b (s ++ bytesOf x) ∧ Kept (fun q => q = b) w w' := by
 have HF0 := Lib.hid hF
 have HSZ := Lib.hid hsz
 clear hF hsz
 go_enter Tryz.func157, Tryz.ntmps157
 go_wp2_with fail
 go_loopw [1] (fun c wr => ∃ (y : ByteArray) (t : List UInt8), c = .string y ∧ Hid (t ++ bytesOf y = bytesOf x) ∧ Hid (FoldAt wr b (s ++ t)) ∧ Hid (Kept (fun q9 => q9 = b) w wr)) (fun c _ => strLen c)
 case atStart => exact ⟨x, [], rfl, rfl, by rw [List.append_nil]; exact HF0, Lib.hid (Kept.refl _ _)⟩
 case round =>
  obtain ⟨y, t, rfl, HT, HQ, HK⟩ := hrel
  clear HF0
  by_cases hy : 0 < y.size
  ·obtain ⟨h, n, hb, k, hx, hh, hf, h0⟩ := HQ.out
   have Hf := Lib.hid hx
   clear hx h0 HQ
   have hn : n < 4611686018427387904 := by
    have h1 := hf.sum
    have h2 := congrArg List.length HT.out
    have h3 := HSZ.out
    rw [List.length_append] at h1 h2
    rw [bytesOf_len, bytesOf_len] at h2
    omega
   by_cases hk : k = 64
   ·have hke : ((k : Int) == 64) = true := by rw [hk]; rfl
    have HL8 := Lib.hid hh
    have HHB := Lib.hid hf.len
    have HPR := Lib.hid (show Fold (s ++ t) (pressB h (wordsB hb 64) (n + 64) false) (n + 64) hb 0 from (hk ▸ hf).press)
    have HRL := Lib.hid (pressB_len h (wordsB hb 64) (n + 64) false)
    clear hh hf hk
    have c73 := Hf.out.cell (foldC_k HL8.out HHB.out)
    have c8 := Hf.out.cell (foldC_n HL8.out)
    have f1_f := Hf.out.frozen
    obtain ⟨w1, hq1, hg9, hz9, hx9⟩ := put1 Hf 8 (.int .u64 ((n : Int) + 64)) _ rfl
    replace HK := Lib.hid (Kept.grown HK.out hg9.out (fun q9 e9 => by obtain rfl := Option.some.inj e9; exact Or.inr (rfl)))
    have HZS := hz9
    replace Hf := hx9
    clear hx9 hg9 hz9
    go_wp2_with fail
    clear hq1 f1_f c73 c8
    have Hf2 := Lib.hid (show Bx w1 b 211 (foldC h (n + 64) hb k) from by have h9 := Hf.out; rwa [show ((n : Int) + 64) = ((n + 64 : Nat) : Int) from by omega, foldC_setn HL8.out] at h9)
    clear Hf
    have Hf := Hf2
    clear Hf2
    have hN : n + 64 < 18446744073709551616 := by omega
    have hN2 : n + 64 < 4611686018427387904 + 64 := by omega
    generalize n + 64 = N at *
    have c8 := Hf.out.cell (foldC_n HL8.out)
    have HPC := Lib.hid (fun w => Press_any h (wordsB hb 64) HL8.out (wordsB_len _ _) N hN false w)
    have HWC := Lib.hid (fun w hx => words_any h N hb k HL8.out HHB.out b w hx)
    have HI8 := Lib.hid (show (Tryz.prog.info? 208).map (·.size) = some (wlV h).length by rw [wlV_len, HL8.out]; exact info8)
    obtain ⟨R, hR⟩ : ∃ R, pressB h (wordsB hb 64) N false = R := ⟨_, rfl⟩
    rw [hR] at HPR HRL HPC
    clear hR
    generalize wordsB hb 64 = M at *
    refine wp_region_otail 14 (by kernel_rfl) (by kernel_rfl) ?_
    simp only [List.take_succ_cons, List.take_zero, List.drop_succ_cons, List.drop_zero]
    have hov_b := fun (E : Over w1) o => E.cell (b := b) o Hf.out.lt
    repeat (first | (refine wpQuiet_load rfl 208 (.tmp 23) rfl b 0 rfl (wlV h) _ (fun _ ⟨E, e⟩ => e ▸ foldC_h (Hf.out.up E.h)) Tryz.underlying208 rfl HI8.out ?_; simp only [Act.put, List.setIfInBounds_toArray, List.set_cons_succ, List.set_cons_zero]) | go_big_quiet_step (first | (go_at_call 175; exact calls_over (HWC.out _ (Hf.out.up (Over.h _)))) | (go_at_call 174; exact calls_over (HPC.out _))))
    all_goals (try unfold elV limbV)
    repeat (first | (refine wpQuiet_load rfl 208 (.tmp 23) rfl b 0 rfl (wlV h) _ (fun _ ⟨E, e⟩ => e ▸ foldC_h (Hf.out.up E.h)) Tryz.underlying208 rfl HI8.out ?_; simp only [Act.put, List.setIfInBounds_toArray, List.set_cons_succ, List.set_cons_zero]) | go_big_quiet_step (first | (go_at_call 175; exact calls_over (HWC.out _ (Hf.out.up (Over.h _)))) | (go_at_call 174; exact calls_over (HPC.out _))))
    all_goals (try unfold elV limbV)
    repeat (first | (refine wpQuiet_load rfl 208 (.tmp 23) rfl b 0 rfl (wlV h) _ (fun _ ⟨E, e⟩ => e ▸ foldC_h (Hf.out.up E.h)) Tryz.underlying208 rfl HI8.out ?_; simp only [Act.put, List.setIfInBounds_toArray, List.set_cons_succ, List.set_cons_zero]) | go_big_quiet_step (first | (go_at_call 175; exact calls_over (HWC.out _ (Hf.out.up (Over.h _)))) | (go_at_call 174; exact calls_over (HPC.out _))))
    all_goals (try unfold ciphV)
    refine wpQuiet_nil ?_
    rintro _ ⟨E, rfl⟩
    clear hov_b
    replace Hf := Lib.hid (Hf.out.up E.h)
    replace HK := Lib.hid (Kept.up HK.out E.h)
    replace HZS := sz HZS E.h.size
    obtain ⟨w2, hq9⟩ : ∃ W9 : World, E.w = W9 := ⟨_, rfl⟩
    rw [hq9] at Hf HK HZS ⊢
    clear hq9 E c8 HPC HWC HI8
    have HRI := Lib.hid (show (Tryz.prog.info? 208).map (·.size) = some (wlV R).length by rw [wlV_len, HRL.out]; exact info8)
    obtain ⟨w5, hq5, hg9, hz9, hx9⟩ := puts Hf 0 (wlV R) _ (foldC_puth HL8.out R HRL.out)
    refine wpList_store_mid rfl 208 (.tmp 33) (.tmp 31) rfl b 0 (wlV R).toArray rfl rfl (Hf.out.there (by rw [foldC_len HL8.out HHB.out, List.size_toArray, wlV_len, HRL.out]; decide)) (by simpa using HRI.out) (all_oneCell_toArray (wl_one R)) ?_
    rw [List.toList_toArray, hq5]
    replace HK := Lib.hid (Kept.grown HK.out hg9.out (fun q9 e9 => by obtain rfl := Option.some.inj e9; exact Or.inr (rfl)))
    replace HZS := sz HZS hz9.out
    replace Hf := hx9
    clear hx9 hg9 hz9 HL8 hq5
    have c73 := Hf.out.cell (foldC_k HRL.out HHB.out)
    have f3_f := Hf.out.frozen
    obtain ⟨w3, hq3, hg9, hz9, hx9⟩ := put1 Hf 73 (.int .i64 0) _ rfl
    replace HK := Lib.hid (Kept.grown HK.out hg9.out (fun q9 e9 => by obtain rfl := Option.some.inj e9; exact Or.inr (rfl)))
    replace HZS := sz HZS hz9.out
    replace Hf := hx9
    clear hx9 hg9 hz9
    go_upto_region 5 with (fail)
    clear c73
    have Hf2 := Lib.hid (show Bx w3 b 211 (foldC R N hb 0) from by have h9 := Hf.out; rwa [show (0 : Int) = ((0 : Nat) : Int) from rfl, foldC_setk HRL.out HHB.out] at h9)
    clear Hf hke
    have Hf := Hf2
    clear Hf2
    have hh := HRL.out
    have hf := HPR.out
    clear HPR HHB HRL HRI
    obtain ⟨z, hz0⟩ : ∃ z : Nat, z = 0 := ⟨0, rfl⟩
    rw [← hz0] at Hf hf
    have hk6 : z < 64 := by omega
    clear hz0
    have HL8 := Lib.hid hh
    have HF := Lib.hid hf
    have HHB := Lib.hid hf.len
    clear hh hf
    have c73 := Hf.out.cell (foldC_k HL8.out HHB.out)
    have k1 : (0 : Int) ≤ (z : Int) := by omega
    have k2 : (z : Int) ≤ 64 := by omega
    go_wp2_with fail
    clear hq3 f3_f
    refine wp_region_otail 9 (by kernel_rfl) (by kernel_rfl) ?_
    simp only [List.take_succ_cons, List.take_zero, List.drop_succ_cons, List.drop_zero]
    have hov_b := fun (E : Over w3) o => E.cell (b := b) o Hf.out.lt
    repeat (go_big_quiet_step (first | fail))
    all_goals (try unfold elV limbV)
    repeat (go_big_quiet_step (first | fail))
    all_goals (try unfold elV limbV)
    repeat (go_big_quiet_step (first | fail))
    all_goals (try unfold ciphV)
    refine wpQuiet_nil ?_
    rintro _ ⟨E, rfl⟩
    clear hov_b
    replace Hf := Lib.hid (Hf.out.up E.h)
    replace HK := Lib.hid (Kept.up HK.out E.h)
    replace HZS := sz HZS E.h.size
    obtain ⟨w4, hq9⟩ : ∃ W9 : World, E.w = W9 := ⟨_, rfl⟩
    rw [hq9] at Hf HK HZS ⊢
    clear hq9 E c73 k1 k2
    obtain ⟨m, hm⟩ : ∃ m, Nat.min y.size (64 - z) = m := ⟨_, rfl⟩
    have hm1 : m ≤ y.size := hm ▸ Nat.min_le_left _ _
    have hm2 : m ≤ 64 - z := hm ▸ Nat.min_le_right _ _
    have hm3 : 0 < m := by rw [← hm]; exact Nat.lt_min.2 ⟨hy, by omega⟩
    have HTL := Lib.hid (show ((bytesOf y).take (64 - z)).length = m by rw [List.length_take, bytesOf_len]; exact (Nat.min_comm _ _).trans hm)
    have HPB := Lib.hid (foldC_lay (n := N) (k := z) HL8.out HHB.out z y m HTL.out (by omega))
    have HFL := Lib.hid (HF.out.lay ((bytesOf y).take (64 - z)) (by rw [HTL.out]; omega))
    rw [HTL.out] at HFL
    generalize hb.take z ++ (bytesOf y).take (64 - z) ++ hb.drop (z + m) = hb2 at *
    have HHB0 := HHB
    clear HF HHB
    refine wpList_copyS rfl (.tmp 44) (.tmp 45) 150 9 rfl 5 Tryz.underlying150 infoB b (9 + z) (64 - z) (64 - z) y rfl rfl (foldC R N hb z) 211 Hf.out (by rw [foldC_len HL8.out HHB0.out]; omega) _ HPB.out ?_
    intro wc hg9 hz9 hx9
    replace HK := Lib.hid (Kept.grown HK.out hg9.out (fun q9 e9 => by obtain rfl := Option.some.inj e9; exact Or.inr (rfl)))
    replace HZS := sz HZS hz9.out
    replace Hf := hx9
    clear hx9 hg9 hz9
    rw [hm]
    have HM := Lib.hid hm
    clear hm
    have HHB := Lib.hid HFL.out.len
    have c73 := Hf.out.cell (foldC_k HL8.out HHB.out)
    have k3 : (z : Int) + (m : Int) ≤ 64 := by omega
    have f5_f := Hf.out.frozen
    obtain ⟨w5, hq5, hg9, hz9, hx9⟩ := put1 Hf 73 (.int .i64 ((z : Int) + (m : Int))) _ rfl
    replace HK := Lib.hid (Kept.grown HK.out hg9.out (fun q9 e9 => by obtain rfl := Option.some.inj e9; exact Or.inr (rfl)))
    replace HZS := sz HZS hz9.out
    replace Hf := hx9
    clear hx9 hg9 hz9
    go_wp2_with fail
    clear hq5 f5_f c73
    have HY := Lib.hid (show t ++ ((bytesOf y).take (64 - z)) ++ bytesOf (y.extract m y.size) = bytesOf x from by
     rw [bytesOf_drop y m, take_min y m (64 - z) HM.out, List.append_assoc, List.take_append_drop, HT.out])
    refine ⟨⟨_, t ++ (bytesOf y).take (64 - z), rfl, HY, Lib.hid ⟨R, N, hb2, z + m, ?_, HL8.out, ?_, Or.inr (by omega)⟩, HK⟩, ?_⟩
    ·have h9 := Hf.out
     rwa [← Int.natCast_add, foldC_setk HL8.out HHB.out] at h9
    ·rw [← List.append_assoc]; exact HFL.out
    ·show (y.extract m y.size).size < y.size
     simp
     omega
   ·have hk6 : k < 64 := by have := hf.le; omega
    have hke : ((k : Int) == 64) = false := by simp; omega
    have HL8 := Lib.hid hh
    have HF := Lib.hid hf
    have HHB := Lib.hid hf.len
    clear hh hf
    have c73 := Hf.out.cell (foldC_k HL8.out HHB.out)
    have k1 : (0 : Int) ≤ (k : Int) := by omega
    have k2 : (k : Int) ≤ 64 := by omega
    go_wp2_with fail
    refine wp_region_otail 9 (by kernel_rfl) (by kernel_rfl) ?_
    simp only [List.take_succ_cons, List.take_zero, List.drop_succ_cons, List.drop_zero]
    have hov_b := fun (E : Over wr) o => E.cell (b := b) o Hf.out.lt
    repeat (go_big_quiet_step (first | fail))
    all_goals (try unfold elV limbV)
    repeat (go_big_quiet_step (first | fail))
    all_goals (try unfold elV limbV)
    repeat (go_big_quiet_step (first | fail))
    all_goals (try unfold ciphV)
    refine wpQuiet_nil ?_
    rintro _ ⟨E, rfl⟩
    clear hov_b
    replace Hf := Lib.hid (Hf.out.up E.h)
    replace HK := Lib.hid (Kept.up HK.out E.h)
    have HZS := Lib.hid E.h.size
    obtain ⟨w1, hq9⟩ : ∃ W9 : World, E.w = W9 := ⟨_, rfl⟩
    rw [hq9] at Hf HK HZS ⊢
    clear hq9 E c73 k1 k2
    obtain ⟨m, hm⟩ : ∃ m, Nat.min y.size (64 - k) = m := ⟨_, rfl⟩
    have hm1 : m ≤ y.size := hm ▸ Nat.min_le_left _ _
    have hm2 : m ≤ 64 - k := hm ▸ Nat.min_le_right _ _
    have hm3 : 0 < m := by rw [← hm]; exact Nat.lt_min.2 ⟨hy, by omega⟩
    have HTL := Lib.hid (show ((bytesOf y).take (64 - k)).length = m by rw [List.length_take, bytesOf_len]; exact (Nat.min_comm _ _).trans hm)
    have HPB := Lib.hid (foldC_lay (n := n) (k := k) HL8.out HHB.out k y m HTL.out (by omega))
    have HFL := Lib.hid (HF.out.lay ((bytesOf y).take (64 - k)) (by rw [HTL.out]; omega))
    rw [HTL.out] at HFL
    generalize hb.take k ++ (bytesOf y).take (64 - k) ++ hb.drop (k + m) = hb2 at *
    have HHB0 := HHB
    clear HF HHB
    refine wpList_copyS rfl (.tmp 44) (.tmp 45) 150 9 rfl 5 Tryz.underlying150 infoB b (9 + k) (64 - k) (64 - k) y rfl rfl (foldC h n hb k) 211 Hf.out (by rw [foldC_len HL8.out HHB0.out]; omega) _ HPB.out ?_
    intro wc hg9 hz9 hx9
    replace HK := Lib.hid (Kept.grown HK.out hg9.out (fun q9 e9 => by obtain rfl := Option.some.inj e9; exact Or.inr (rfl)))
    replace HZS := sz HZS hz9.out
    replace Hf := hx9
    clear hx9 hg9 hz9
    rw [hm]
    have HM := Lib.hid hm
    clear hm
    have HHB := Lib.hid HFL.out.len
    have c73 := Hf.out.cell (foldC_k HL8.out HHB.out)
    have k3 : (k : Int) + (m : Int) ≤ 64 := by omega
    have f2_f := Hf.out.frozen
    obtain ⟨w2, hq2, hg9, hz9, hx9⟩ := put1 Hf 73 (.int .i64 ((k : Int) + (m : Int))) _ rfl
    replace HK := Lib.hid (Kept.grown HK.out hg9.out (fun q9 e9 => by obtain rfl := Option.some.inj e9; exact Or.inr (rfl)))
    replace HZS := sz HZS hz9.out
    replace Hf := hx9
    clear hx9 hg9 hz9
    go_wp2_with fail
    clear hq2 f2_f c73
    have HY := Lib.hid (show t ++ ((bytesOf y).take (64 - k)) ++ bytesOf (y.extract m y.size) = bytesOf x from by
     rw [bytesOf_drop y m, take_min y m (64 - k) HM.out, List.append_assoc, List.take_append_drop, HT.out])
    refine ⟨⟨_, t ++ (bytesOf y).take (64 - k), rfl, HY, Lib.hid ⟨h, n, hb2, k + m, ?_, HL8.out, ?_, Or.inr (by omega)⟩, HK⟩, ?_⟩
    ·have h9 := Hf.out
     rwa [← Int.natCast_add, foldC_setk HL8.out HHB.out] at h9
    ·rw [← List.append_assoc]; exact HFL.out
    ·show (y.extract m y.size).size < y.size
     simp
     omega
  ·have hy0 : y.size = 0 := by omega
   have hyn : bytesOf y = [] := List.eq_nil_of_length_eq_zero (by rw [bytesOf_len]; exact hy0)
   have hyd : (y.size : Int) = 0 := by omega
   have HE := Lib.hid (show t = bytesOf x from by have h9 := HT.out; rwa [hyn, List.append_nil] at h9)
   clear hyn hy0 hy HT
   go_wp2_with fail
   go_end0
   exact ⟨rfl, HE.out ▸ HQ.out, HK.out⟩
end Go.Proofs.YtdlnnkbigeiilaaGreat
namespace Go.Proofs.YtdlnnkbigeiilaaGreat
open Go.RowKit
theorem wpList_pushM {P : Program} (N : Nat) (w0 : World) (hN : N ≤ w0.heap.size) {ops : Array Oper} {rest : List Oper} {o : Oper} {a : Act} {Q : Exit → Act → World → Prop} (hgd : o.guard = none) (s x : Operand) (t : TypeId)
  (ho : o.op = .call { callee := .builtin .append, args := #[s, x], argTypes := #[t, t] })
  (e : TypeId) (i : TypeInfo) (z : Value) (size bytes m : Nat) (ht : P.underlying t = some (.slice e)) (hi : P.info? e = some i) (hz : i.zero = some z)
  (hsize : i.size = size) (hby : i.bytes = bytes) (hzs : z.cells.size = size) (hsz : 0 < size) (hm : 0 < m)
  (v : Value) (n : Nat) (xs : List Value) (hs : a.eval s = v) (hown : RowO N w0 e size v n xs)
  (news : Array Value) (e2 : TypeId) (b : Nat) (hb : w0.heap.size = b) (hx : a.eval x = .slice (some ⟨b, 0, none⟩) m m) (hl : news.size = m * size) (h1 : ∀ u ∈ news.toList, u.oneCell' = true)
  (h63 : (n + m) * bytes ≤ 140737488355328) (hn : n + m ≤ maxLen)
  (h : ∀ g cap w', RowO N w' e size (.slice (some ⟨g, 0, none⟩) (n + m) cap) (n + m) (xs ++ news.toList) → w0.grownBy w' v.ownBlock → wpList P ops Q rest (a.put o.dst (.slice (some ⟨g, 0, none⟩) (n + m) cap)) w') :
  wpList P ops Q (o :: rest) a (w0.alloc (.cells news e2)) := by
 subst hb
 refine wpList_append_lies _ hgd s x t ho N e i z size bytes ht hi hz hsize hby hzs hsz v n xs hs (World.ownsRow.alloc hown _) ⟨w0.heap.size, 0, none⟩ m m news.toList hx (by simpa using hl)
  (World.news_of_block (heap_alloc_new w0 _)) h1 hm hn h63 (by simp; omega) _ rfl ?_
 intro g cap w' hown' hg _ _
 refine h g cap w' hown' ⟨hg.os, hg.tape, hg.output, ?_, ?_⟩
 ·have := hg.size; simp at this; omega
 ·intro k hk hne
  rw [hg.block k (by simp; omega) hne]
  exact Below.heap_alloc _ _ _ hk
end Go.Proofs.YtdlnnkbigeiilaaGreat
namespace Go.Proofs.YtdlnnkbigeiilaaGreat
open Go.RowKit Go.Lib
theorem zeroB (w : World) : (zeroValue 5).run Tryz.prog w = .ok (.int .u8 0) w := by kernel_rfl
theorem clear_cells (m : Nat) : List.replicate m (Value.int .u8 0) = byteCells (List.replicate m 0) := by unfold byteCells; rw [List.map_replicate]; rfl
theorem foldC_clear {h : WL} {n k : Nat} {hb : List UInt8} (hh : h.length = 8) (hl : hb.length = 64) (hk : k ≤ 64) : putL (foldC h n hb k) (9 + k) (List.replicate (64 - k) (Value.int .u8 0)) = foldC h n (hb.take k ++ List.replicate (64 - k) 0) k := by
 rw [clear_cells, foldC_putb hh hl k _ (by rw [List.length_replicate]; omega), List.length_replicate, List.drop_eq_nil_of_le (by omega), List.append_nil]
theorem clear_len {hb : List UInt8} {k : Nat} (hl : hb.length = 64) (hk : k ≤ 64) : (hb.take k ++ List.replicate (64 - k) 0).length = 64 := by simp [hl]; omega
theorem out_snoc (R : WL) (i : Nat) (hi : i < R.length) : byteCells (outB (R.take (i + 1))) = byteCells (outB (R.take i)) ++ [.int .u8 (((R.getD i 0).toNat : Int) % 256), .int .u8 (((R.getD i 0).toNat : Int) / 256 % 256), .int .u8 (((R.getD i 0).toNat : Int) / 65536 % 256), .int .u8 (((R.getD i 0).toNat : Int) / 16777216)] := by
 have e0 : R[i] = R.getD i 0 := by simp [List.getD, hi]
 rw [List.take_succ_eq_append_getElem hi, e0]
 unfold outB
 rw [List.flatMap_append, byteCells_app]
 congr 1
 generalize R.getD i 0 = X
 have e : ∀ m : Nat, Value.int .u8 ((UInt8.ofNat (m % 256)).toNat : Int) = .int .u8 ((m : Int) % 256) := fun m => by rw [byte_int]
 have hX := X.isLt
 simp only [List.flatMap_cons, List.flatMap_nil, List.append_nil, byteCells, List.map_cons, List.map_nil, e]
 rw [show ((X.toNat / 16777216 : Nat) : Int) % 256 = (X.toNat : Int) / 16777216 by omega]
 rfl
theorem out_str (s : List UInt8) : strOfNums ((digB s).map fun b => (b.toNat : Int)) = digS s := by
 unfold strOfNums digS
 rw [List.map_map]
 congr 2
 conv => rhs; rw [← List.map_id (digB s)]
 apply List.map_congr_left
 intro x _
 simp
theorem out_take8 (R : WL) (h : R.length = 8) : R.take 8 = R := List.take_of_length_le (by omega)
theorem row_byte {N : Nat} {w : World} {g n c : Nat} {l : List UInt8} (h : RowO N w 5 1 (.slice (some ⟨g, 0, none⟩) n c) n (byteCells l)) (i : Nat) (hi : i < l.length) : w.cell? ⟨g, 0 + i, none⟩ = some (.int .u8 ((l.map fun b => (b.toNat : Int)).getD i 0)) := by
 obtain ⟨b, o, e, _, hc⟩ := h.sl.at i (by rw [byteCells_length]; exact hi)
 cases e
 rw [hc]
 unfold byteCells
 simp [List.getD, hi]
theorem end_any (b : Nat) (s : List UInt8) (hsz : s.length < 4611686018427387904) (w : World) (hF : FoldAt w b s) :
  Calls Tryz.prog 159 #[.pointer (some ⟨b, 0, none⟩)] w fun e w' => e = .returned (.string (digS s)) ∧ Kept (fun q => q = b) w w' := by
 obtain ⟨h, n, hb, k, hx, hh, hf, h0⟩ := hF
 have HLB := Lib.hid hx.lt
 have Hf := Lib.hid hx
 have HL8 := Lib.hid hh
 have HHB := Lib.hid hf.len
 have HFN := Lib.hid (hf.fin h0)
 have hk6 : k ≤ 64 := hf.le
 have hn : n + k < 4611686018427387904 := by have := hf.sum; omega
 clear hh hf h0 hsz hx
 go_enter Tryz.func159, Tryz.ntmps159
 go_wp2_with fail
 have HZS := HLB
 have HK := Lib.hid (Kept.refl (fun q9 => q9 = b) w)
 have c73 := Hf.out.cell (foldC_k HL8.out HHB.out)
 have c8 := Hf.out.cell (foldC_n HL8.out)
 refine wp_region_otail 12 (by kernel_rfl) (by kernel_rfl) ?_
 simp only [List.take_succ_cons, List.take_zero, List.drop_succ_cons, List.drop_zero]
 have hov_b := fun (E : Over w) o => E.cell (b := b) o Hf.out.lt
 repeat (go_big_quiet_step (first | fail))
 all_goals (try unfold elV limbV)
 repeat (go_big_quiet_step (first | fail))
 all_goals (try unfold elV limbV)
 repeat (go_big_quiet_step (first | fail))
 all_goals (try unfold ciphV)
 refine wpQuiet_nil ?_
 rintro _ ⟨E, rfl⟩
 clear hov_b
 replace Hf := Lib.hid (Hf.out.up E.h)
 replace HK := Lib.hid (Kept.up HK.out E.h)
 replace HZS := sz HZS E.h.size
 obtain ⟨w1, hq9⟩ : ∃ W9 : World, E.w = W9 := ⟨_, rfl⟩
 rw [hq9] at Hf HK HZS ⊢
 clear hq9 E c73 c8
 have c8 := Hf.out.cell (foldC_n HL8.out)
 have f2_f := Hf.out.frozen
 obtain ⟨w2, hq2, hg9, hz9, hx9⟩ := put1 Hf 8 (.int .u64 ((n : Int) + (k : Int))) _ rfl
 replace HK := Lib.hid (Kept.grown HK.out hg9.out (fun q9 e9 => by obtain rfl := Option.some.inj e9; exact Or.inr (rfl)))
 replace HZS := sz HZS hz9.out
 replace Hf := hx9
 clear hx9 hg9 hz9
 go_wp2_with fail
 clear hq2 f2_f c8
 have Hf2 := Lib.hid (show Bx w2 b 211 (foldC h (n + k) hb k) from by have h9 := Hf.out; rwa [← Int.natCast_add, foldC_setn HL8.out] at h9)
 clear Hf
 have Hf := Hf2
 clear Hf2
 generalize n + k = N at *
 have c73 := Hf.out.cell (foldC_k HL8.out HHB.out)
 have HCL := Lib.hid (foldC_clear (n := N) HL8.out HHB.out hk6)
 have HB2 := Lib.hid (clear_len HHB.out hk6)
 generalize hb.take k ++ List.replicate (64 - k) 0 = hb2 at *
 by_cases hk : k = 64
 ·subst hk
  refine wp_region_otail 8 (by kernel_rfl) (by kernel_rfl) ?_
  simp only [List.take_succ_cons, List.take_zero, List.drop_succ_cons, List.drop_zero]
  have hov_b := fun (E : Over w2) o => E.cell (b := b) o Hf.out.lt
  repeat (go_big_quiet_step (first | fail))
  all_goals (try unfold elV limbV)
  repeat (go_big_quiet_step (first | fail))
  all_goals (try unfold elV limbV)
  repeat (go_big_quiet_step (first | fail))
  all_goals (try unfold ciphV)
  refine wpQuiet_nil ?_
  rintro _ ⟨E, rfl⟩
  clear hov_b
  replace Hf := Lib.hid (Hf.out.up E.h)
  replace HK := Lib.hid (Kept.up HK.out E.h)
  replace HZS := sz HZS E.h.size
  obtain ⟨w3, hq9⟩ : ∃ W9 : World, E.w = W9 := ⟨_, rfl⟩
  rw [hq9] at Hf HK HZS ⊢
  clear hq9 E c73
  refine wpList_clearB rfl (.tmp 25) 150 rfl 5 (.int .u8 0) Tryz.underlying150 zeroB rfl rfl b 9 0 0 rfl (foldC h N hb 64) 211 Hf.out (by rw [foldC_len HL8.out HHB.out]; omega) _ rfl ?_
  intro wc hg9 hz9 hx9
  replace HK := Lib.hid (Kept.grown HK.out hg9.out (fun q9 e9 => by obtain rfl := Option.some.inj e9; exact Or.inr (rfl)))
  replace HZS := sz HZS hz9.out
  replace Hf := hx9
  clear hx9 hg9 hz9
  obtain ⟨k, hk⟩ : ∃ k : Nat, k = 64 := ⟨64, rfl⟩
  have Hf2 := Lib.hid (show Bx wc b 211 (foldC h N hb2 k) from by rw [hk]; have e : foldC h N hb 64 = foldC h N hb2 64 := HCL.out; rw [← e]; exact Hf.out)
  clear Hf
  have Hf := Hf2
  clear Hf2 HCL
  have HCL := HB2
  go_wp2_with fail
  have c8 := Hf.out.cell (foldC_n HL8.out)
  have HPC := Lib.hid (fun w => Press_any h (wordsB hb2 64) HL8.out (wordsB_len _ _) N (by omega) true w)
  have HWC := Lib.hid (fun w hx => words_any h N hb2 k HL8.out HB2.out b w hx)
  have HI8 := Lib.hid (show (Tryz.prog.info? 208).map (·.size) = some (wlV h).length by rw [wlV_len, HL8.out]; exact info8)
  rw [HFN.out] at HPC
  have HRL := Lib.hid (digW_len s)
  obtain ⟨R, hR⟩ : ∃ R, digW s = R := ⟨_, rfl⟩
  have HRE := Lib.hid hR
  rw [hR] at HPC HRL
  clear hR HFN HCL
  generalize wordsB hb2 64 = M at *
  go_simp
  refine wp_region_otail 14 (by kernel_rfl) (by kernel_rfl) ?_
  simp only [List.take_succ_cons, List.take_zero, List.drop_succ_cons, List.drop_zero]
  have hov_b := fun (E : Over wc) o => E.cell (b := b) o Hf.out.lt
  repeat (first | (refine wpQuiet_load rfl 208 (.tmp 29) rfl b 0 rfl (wlV h) _ (fun _ ⟨E, e⟩ => e ▸ foldC_h (Hf.out.up E.h)) Tryz.underlying208 rfl HI8.out ?_; simp only [Act.put, List.setIfInBounds_toArray, List.set_cons_succ, List.set_cons_zero]) | go_big_quiet_step (first | (go_at_call 175; exact calls_over (HWC.out _ (Hf.out.up (Over.h _)))) | (go_at_call 174; exact calls_over (HPC.out _))))
  all_goals (try unfold elV limbV)
  repeat (first | (refine wpQuiet_load rfl 208 (.tmp 29) rfl b 0 rfl (wlV h) _ (fun _ ⟨E, e⟩ => e ▸ foldC_h (Hf.out.up E.h)) Tryz.underlying208 rfl HI8.out ?_; simp only [Act.put, List.setIfInBounds_toArray, List.set_cons_succ, List.set_cons_zero]) | go_big_quiet_step (first | (go_at_call 175; exact calls_over (HWC.out _ (Hf.out.up (Over.h _)))) | (go_at_call 174; exact calls_over (HPC.out _))))
  all_goals (try unfold elV limbV)
  repeat (first | (refine wpQuiet_load rfl 208 (.tmp 29) rfl b 0 rfl (wlV h) _ (fun _ ⟨E, e⟩ => e ▸ foldC_h (Hf.out.up E.h)) Tryz.underlying208 rfl HI8.out ?_; simp only [Act.put, List.setIfInBounds_toArray, List.set_cons_succ, List.set_cons_zero]) | go_big_quiet_step (first | (go_at_call 175; exact calls_over (HWC.out _ (Hf.out.up (Over.h _)))) | (go_at_call 174; exact calls_over (HPC.out _))))
  all_goals (try unfold ciphV)
  refine wpQuiet_nil ?_
  rintro _ ⟨E, rfl⟩
  clear hov_b
  replace Hf := Lib.hid (Hf.out.up E.h)
  replace HK := Lib.hid (Kept.up HK.out E.h)
  replace HZS := sz HZS E.h.size
  obtain ⟨w4, hq9⟩ : ∃ W9 : World, E.w = W9 := ⟨_, rfl⟩
  rw [hq9] at Hf HK HZS ⊢
  clear hq9 E c8 HPC HWC HI8
  have HRI := Lib.hid (show (Tryz.prog.info? 208).map (·.size) = some (wlV R).length by rw [wlV_len, HRL.out]; exact info8)
  obtain ⟨wz5, hq5, hg9, hz9, hx9⟩ := puts Hf 0 (wlV R) _ (foldC_puth HL8.out R HRL.out)
  refine wpList_store_mid rfl 208 (.tmp 39) (.tmp 37) rfl b 0 (wlV R).toArray rfl rfl (Hf.out.there (by rw [foldC_len HL8.out HB2.out, List.size_toArray, wlV_len, HRL.out]; decide)) (by simpa using HRI.out) (all_oneCell_toArray (wl_one R)) ?_
  rw [List.toList_toArray, hq5]
  replace HK := Lib.hid (Kept.grown HK.out hg9.out (fun q9 e9 => by obtain rfl := Option.some.inj e9; exact Or.inr (rfl)))
  replace HZS := sz HZS hz9.out
  replace Hf := hx9
  clear hx9 hg9 hz9 HL8 hq5
  obtain ⟨i9, hi9, hz90, hz91, hz92⟩ := info_parts infoByte
  go_wp2_with (at_make; refine wpList_make_own _ rfl _ _ 150 rfl (wz5.heap.size) 5 i9 _ 1 Tryz.underlying150 hi9 hz90 hz91 _ _ _ (32) rfl rfl ?c1 ?c2 ?c3 ?c4 ?_)
  case c1 => rfl
  case c2 => rw [hz92]; omega
  case c3 => unfold maxLen; omega
  case c4 => have g0 := HZS.out; omega
  intro w5 hown9 hg9
  have hb9 : Below wz5.heap.size wz5 w5 := (Below.refl _ _).grown hg9 (Nat.le_refl _) (fun q hq => by cases hq)
  replace Hf := Lib.hid (Hf.out.up hb9)
  replace HK := Lib.hid (Kept.up HK.out hb9)
  replace HZS := sz HZS hb9.size
  have Hr : Hid (RowO (wz5.heap.size) w5 5 1 (.slice (some ⟨wz5.heap.size, 0, none⟩) 0 (32)) 0 []) := Lib.hid hown9
  clear hb9 hown9 hg9 hi9 hz90 hz91 hz92
  go_wp2_with (refine wpList_load_mid rfl 208 (.tmp 43) rfl b 0 rfl (wlV R) _ (foldC_h Hf.out) Tryz.underlying208 rfl HRI.out ?_)
  go_loopw [45, 3] (fun c v wr => ∃ i g cap : Nat, i ≤ 8 ∧ c = .int .i64 i ∧ v = .slice (some ⟨g, 0, none⟩) (4 * i) cap ∧ Hid (RowO wz5.heap.size wr 5 1 (.slice (some ⟨g, 0, none⟩) (4 * i) cap) (4 * i) (byteCells (outB (R.take i)))) ∧ Hid (Kept (fun q9 => q9 = b) w wr)) (fun c _ _ => 8 - (RowKit.intOf c).toNat)
  case atStart => exact ⟨0, _, _, by omega, rfl, rfl, Hr, HK⟩
  case round =>
   obtain ⟨i, g, cap, hi, rfl, rfl, HQ, HK1⟩ := hrel
   clear HK Hr Hf
   have HK := HK1
   have Hr := HQ
   clear HK1 HQ
   have HSW := Lib.hid HK.out.size
   have HSM := Lib.hid (Hr.out.lt g rfl)
   replace HZS := sz HZS HSW.out
   replace HZS := sz HZS HSM.out
   by_cases hi8 : i < 8
   ·have hix := fun W => run_index_arr (P := Tryz.prog) W 208 207 .u32 8 (wlV R) i _ (wlV_get R i (by rw [HRL.out]; exact hi8)) Tryz.underlying208 (by rw [wlV_len, HRL.out]) infoW Tryz.underlying207
    have HON := Lib.hid (out_snoc R i (by rw [HRL.out]; exact hi8))
    have hX := (R.getD i 0).isLt
    generalize R.getD i 0 = X at *
    go_upto_region 8 with (fail)
    clear hix
    obtain ⟨i9, hi9, hz90, hz91, hz92⟩ := info_parts infoByte
    go_wp2_with (at_builtin; refine wpList_pushM (wz5.heap.size) wr (by have g0 := HZS.out; omega) rfl _ _ 150 rfl 5 i9 _ 1 1 4 Tryz.underlying150 hi9 hz90 hz91 hz92 rfl (by omega) (by omega) ((.slice (some ⟨g, 0, none⟩) (4 * i) cap)) ((4 * i)) ((byteCells (outB (R.take i)))) rfl Hr.out _ _ _ rfl rfl rfl (by simp [Value.oneCell']) (by omega) (by unfold maxLen; omega) ?_)
    intro g6 c6 w6 hown9 hg9
    replace HK := Lib.hid (Kept.grown HK.out hg9 (fun q hq => Or.inl (Nat.le_trans (show w.heap.size ≤ wz5.heap.size by have g0 := HZS.out; omega) (Hr.out.lt q hq).1)))
    replace HZS := sz HZS hg9.size
    clear Hr
    have Hr := Lib.hid hown9
    clear hown9 hg9 hi9 hz90 hz91 hz92
    have HQ := Lib.hid (Hr.out.eq (ys := byteCells (outB (R.take (i + 1)))) (m := 4 * (i + 1)) (by rw [HON.out]) rfl)
    go_wp2_with fail
    go_roundw
    case rel => exact ⟨i + 1, _, _, by omega, by go_num, rfl, HQ, HK⟩
    case measure => simp [RowKit.intOf]; omega
   ·have hi8' : i = 8 := by omega
    subst hi8'
    have HQ := Hr.out
    rw [out_take8 R HRL.out, show outB R = digB s by rw [← HRE.out]; rfl] at HQ
    have hcv := run_convert_bytes_arg (P := Tryz.prog) wr 150 5 Tryz.underlying150 Tryz.underlying5 g 0 32 cap ((digB s).map fun b => (b.toNat : Int)) (by rw [List.length_map, digB_len]) (fun j hj => row_byte HQ j (by rw [digB_len]; exact hj)) 9 Tryz.underlying9
    rw [out_str] at hcv
    clear HQ
    go_wp2_with fail
    go_ret
    exact ⟨rfl, HK.out⟩
 ·have k1 : (0 : Int) ≤ (k : Int) := by omega
  have k2 : (k : Int) ≤ 64 := by omega
  have k3 : k < 64 := by omega
  refine wp_region_otail 8 (by kernel_rfl) (by kernel_rfl) ?_
  simp only [List.take_succ_cons, List.take_zero, List.drop_succ_cons, List.drop_zero]
  have hov_b := fun (E : Over w2) o => E.cell (b := b) o Hf.out.lt
  repeat (go_big_quiet_step (first | fail))
  all_goals (try unfold elV limbV)
  repeat (go_big_quiet_step (first | fail))
  all_goals (try unfold elV limbV)
  repeat (go_big_quiet_step (first | fail))
  all_goals (try unfold ciphV)
  refine wpQuiet_nil ?_
  rintro _ ⟨E, rfl⟩
  clear hov_b
  replace Hf := Lib.hid (Hf.out.up E.h)
  replace HK := Lib.hid (Kept.up HK.out E.h)
  replace HZS := sz HZS E.h.size
  obtain ⟨w3, hq9⟩ : ∃ W9 : World, E.w = W9 := ⟨_, rfl⟩
  rw [hq9] at Hf HK HZS ⊢
  clear hq9 E c73 k1 k2
  refine wpList_clearB rfl (.tmp 25) 150 rfl 5 (.int .u8 0) Tryz.underlying150 zeroB rfl rfl b (9 + k) (64 - k) (64 - k) rfl (foldC h N hb k) 211 Hf.out (by rw [foldC_len HL8.out HHB.out]; omega) _ HCL.out ?_
  intro wc hg9 hz9 hx9
  replace HK := Lib.hid (Kept.grown HK.out hg9.out (fun q9 e9 => by obtain rfl := Option.some.inj e9; exact Or.inr (rfl)))
  replace HZS := sz HZS hz9.out
  replace Hf := hx9
  clear hx9 hg9 hz9
  go_wp2_with fail
  have c8 := Hf.out.cell (foldC_n HL8.out)
  have HPC := Lib.hid (fun w => Press_any h (wordsB hb2 64) HL8.out (wordsB_len _ _) N (by omega) true w)
  have HWC := Lib.hid (fun w hx => words_any h N hb2 k HL8.out HB2.out b w hx)
  have HI8 := Lib.hid (show (Tryz.prog.info? 208).map (·.size) = some (wlV h).length by rw [wlV_len, HL8.out]; exact info8)
  rw [HFN.out] at HPC
  have HRL := Lib.hid (digW_len s)
  obtain ⟨R, hR⟩ : ∃ R, digW s = R := ⟨_, rfl⟩
  have HRE := Lib.hid hR
  rw [hR] at HPC HRL
  clear hR HFN HCL
  generalize wordsB hb2 64 = M at *
  go_simp
  refine wp_region_otail 14 (by kernel_rfl) (by kernel_rfl) ?_
  simp only [List.take_succ_cons, List.take_zero, List.drop_succ_cons, List.drop_zero]
  have hov_b := fun (E : Over wc) o => E.cell (b := b) o Hf.out.lt
  repeat (first | (refine wpQuiet_load rfl 208 (.tmp 29) rfl b 0 rfl (wlV h) _ (fun _ ⟨E, e⟩ => e ▸ foldC_h (Hf.out.up E.h)) Tryz.underlying208 rfl HI8.out ?_; simp only [Act.put, List.setIfInBounds_toArray, List.set_cons_succ, List.set_cons_zero]) | go_big_quiet_step (first | (go_at_call 175; exact calls_over (HWC.out _ (Hf.out.up (Over.h _)))) | (go_at_call 174; exact calls_over (HPC.out _))))
  all_goals (try unfold elV limbV)
  repeat (first | (refine wpQuiet_load rfl 208 (.tmp 29) rfl b 0 rfl (wlV h) _ (fun _ ⟨E, e⟩ => e ▸ foldC_h (Hf.out.up E.h)) Tryz.underlying208 rfl HI8.out ?_; simp only [Act.put, List.setIfInBounds_toArray, List.set_cons_succ, List.set_cons_zero]) | go_big_quiet_step (first | (go_at_call 175; exact calls_over (HWC.out _ (Hf.out.up (Over.h _)))) | (go_at_call 174; exact calls_over (HPC.out _))))
  all_goals (try unfold elV limbV)
  repeat (first | (refine wpQuiet_load rfl 208 (.tmp 29) rfl b 0 rfl (wlV h) _ (fun _ ⟨E, e⟩ => e ▸ foldC_h (Hf.out.up E.h)) Tryz.underlying208 rfl HI8.out ?_; simp only [Act.put, List.setIfInBounds_toArray, List.set_cons_succ, List.set_cons_zero]) | go_big_quiet_step (first | (go_at_call 175; exact calls_over (HWC.out _ (Hf.out.up (Over.h _)))) | (go_at_call 174; exact calls_over (HPC.out _))))
  all_goals (try unfold ciphV)
  refine wpQuiet_nil ?_
  rintro _ ⟨E, rfl⟩
  clear hov_b
  replace Hf := Lib.hid (Hf.out.up E.h)
  replace HK := Lib.hid (Kept.up HK.out E.h)
  replace HZS := sz HZS E.h.size
  obtain ⟨w4, hq9⟩ : ∃ W9 : World, E.w = W9 := ⟨_, rfl⟩
  rw [hq9] at Hf HK HZS ⊢
  clear hq9 E c8 HPC HWC HI8
  have HRI := Lib.hid (show (Tryz.prog.info? 208).map (·.size) = some (wlV R).length by rw [wlV_len, HRL.out]; exact info8)
  obtain ⟨wz5, hq5, hg9, hz9, hx9⟩ := puts Hf 0 (wlV R) _ (foldC_puth HL8.out R HRL.out)
  refine wpList_store_mid rfl 208 (.tmp 39) (.tmp 37) rfl b 0 (wlV R).toArray rfl rfl (Hf.out.there (by rw [foldC_len HL8.out HB2.out, List.size_toArray, wlV_len, HRL.out]; decide)) (by simpa using HRI.out) (all_oneCell_toArray (wl_one R)) ?_
  rw [List.toList_toArray, hq5]
  replace HK := Lib.hid (Kept.grown HK.out hg9.out (fun q9 e9 => by obtain rfl := Option.some.inj e9; exact Or.inr (rfl)))
  replace HZS := sz HZS hz9.out
  replace Hf := hx9
  clear hx9 hg9 hz9 HL8 hq5
  obtain ⟨i9, hi9, hz90, hz91, hz92⟩ := info_parts infoByte
  go_wp2_with (at_make; refine wpList_make_own _ rfl _ _ 150 rfl (wz5.heap.size) 5 i9 _ 1 Tryz.underlying150 hi9 hz90 hz91 _ _ _ (32) rfl rfl ?c1 ?c2 ?c3 ?c4 ?_)
  case c1 => rfl
  case c2 => rw [hz92]; omega
  case c3 => unfold maxLen; omega
  case c4 => have g0 := HZS.out; omega
  intro w5 hown9 hg9
  have hb9 : Below wz5.heap.size wz5 w5 := (Below.refl _ _).grown hg9 (Nat.le_refl _) (fun q hq => by cases hq)
  replace Hf := Lib.hid (Hf.out.up hb9)
  replace HK := Lib.hid (Kept.up HK.out hb9)
  replace HZS := sz HZS hb9.size
  have Hr : Hid (RowO (wz5.heap.size) w5 5 1 (.slice (some ⟨wz5.heap.size, 0, none⟩) 0 (32)) 0 []) := Lib.hid hown9
  clear hb9 hown9 hg9 hi9 hz90 hz91 hz92
  go_wp2_with (refine wpList_load_mid rfl 208 (.tmp 43) rfl b 0 rfl (wlV R) _ (foldC_h Hf.out) Tryz.underlying208 rfl HRI.out ?_)
  go_loopw [45, 3] (fun c v wr => ∃ i g cap : Nat, i ≤ 8 ∧ c = .int .i64 i ∧ v = .slice (some ⟨g, 0, none⟩) (4 * i) cap ∧ Hid (RowO wz5.heap.size wr 5 1 (.slice (some ⟨g, 0, none⟩) (4 * i) cap) (4 * i) (byteCells (outB (R.take i)))) ∧ Hid (Kept (fun q9 => q9 = b) w wr)) (fun c _ _ => 8 - (RowKit.intOf c).toNat)
  case atStart => exact ⟨0, _, _, by omega, rfl, rfl, Hr, HK⟩
  case round =>
   obtain ⟨i, g, cap, hi, rfl, rfl, HQ, HK1⟩ := hrel
   clear HK Hr Hf
   have HK := HK1
   have Hr := HQ
   clear HK1 HQ
   have HSW := Lib.hid HK.out.size
   have HSM := Lib.hid (Hr.out.lt g rfl)
   replace HZS := sz HZS HSW.out
   replace HZS := sz HZS HSM.out
   by_cases hi8 : i < 8
   ·have hix := fun W => run_index_arr (P := Tryz.prog) W 208 207 .u32 8 (wlV R) i _ (wlV_get R i (by rw [HRL.out]; exact hi8)) Tryz.underlying208 (by rw [wlV_len, HRL.out]) infoW Tryz.underlying207
    have HON := Lib.hid (out_snoc R i (by rw [HRL.out]; exact hi8))
    have hX := (R.getD i 0).isLt
    generalize R.getD i 0 = X at *
    go_upto_region 8 with (fail)
    clear hix
    obtain ⟨i9, hi9, hz90, hz91, hz92⟩ := info_parts infoByte
    go_wp2_with (at_builtin; refine wpList_pushM (wz5.heap.size) wr (by have g0 := HZS.out; omega) rfl _ _ 150 rfl 5 i9 _ 1 1 4 Tryz.underlying150 hi9 hz90 hz91 hz92 rfl (by omega) (by omega) ((.slice (some ⟨g, 0, none⟩) (4 * i) cap)) ((4 * i)) ((byteCells (outB (R.take i)))) rfl Hr.out _ _ _ rfl rfl rfl (by simp [Value.oneCell']) (by omega) (by unfold maxLen; omega) ?_)
    intro g6 c6 w6 hown9 hg9
    replace HK := Lib.hid (Kept.grown HK.out hg9 (fun q hq => Or.inl (Nat.le_trans (show w.heap.size ≤ wz5.heap.size by have g0 := HZS.out; omega) (Hr.out.lt q hq).1)))
    replace HZS := sz HZS hg9.size
    clear Hr
    have Hr := Lib.hid hown9
    clear hown9 hg9 hi9 hz90 hz91 hz92
    have HQ := Lib.hid (Hr.out.eq (ys := byteCells (outB (R.take (i + 1)))) (m := 4 * (i + 1)) (by rw [HON.out]) rfl)
    go_wp2_with fail
    go_roundw
    case rel => exact ⟨i + 1, _, _, by omega, by go_num, rfl, HQ, HK⟩
    case measure => simp [RowKit.intOf]; omega
   ·have hi8' : i = 8 := by omega
    subst hi8'
    have HQ := Hr.out
    rw [out_take8 R HRL.out, show outB R = digB s by rw [← HRE.out]; rfl] at HQ
    have hcv := run_convert_bytes_arg (P := Tryz.prog) wr 150 5 Tryz.underlying150 Tryz.underlying5 g 0 32 cap ((digB s).map fun b => (b.toNat : Int)) (by rw [List.length_map, digB_len]) (fun j hj => row_byte HQ j (by rw [digB_len]; exact hj)) 9 Tryz.underlying9
    rw [out_str] at hcv
    clear HQ
    go_wp2_with fail
    go_ret
    exact ⟨rfl, HK.out⟩
end Go.Proofs.YtdlnnkbigeiilaaGreat
namespace Go.Proofs.YtdlnnkbigeiilaaGreat
open Go.RowKit Go.Lib
theorem FoldAt.up {W W' : World} {b : Nat} {s : List UInt8} (h : FoldAt W b s) (hb : Below W.heap.size W W') : FoldAt W' b s :=
 let ⟨h1, n, hb1, k, hx, h2⟩ := h
 ⟨h1, n, hb1, k, hx.up hb, h2⟩
theorem joinL_eq (label : ByteArray) (ps : List ByteArray) : joinL label ps = (label :: ps).flatMap pfxL := by unfold joinL; rw [List.flatMap_cons]
theorem join_snoc (l : List ByteArray) (j : Nat) (h : j < l.length) : (l.take (j + 1)).flatMap pfxL = (l.take j).flatMap pfxL ++ (fourL l[j].size ++ bytesOf l[j]) := by
 rw [List.take_succ_eq_append_getElem h, List.flatMap_append]
 simp [pfxL]
theorem join_len (l : List ByteArray) (j : Nat) (h : j < l.length) : ((l.take j).flatMap pfxL).length + 4 + l[j].size ≤ (l.flatMap pfxL).length := by
 have e : l.flatMap pfxL = (l.take (j + 1)).flatMap pfxL ++ (l.drop (j + 1)).flatMap pfxL := by rw [← List.flatMap_append, List.take_append_drop]
 rw [e, join_snoc l j h, List.length_append, List.length_append, List.length_append, bytesOf_len, show (fourL l[j].size).length = 4 from rfl]
 omega
theorem fourS_bytes (n : Nat) : bytesOf (fourS n) = fourL n := rfl
theorem fold0 {W : World} {b : Nat} (h : Bx W b 211 (foldC h0B 0 z64 0)) : FoldAt W b [] := ⟨h0B, 0, z64, 0, h, rfl, Fold.nil z64 rfl, Or.inl rfl⟩
theorem join_ge (l : List ByteArray) : 4 * l.length ≤ (l.flatMap pfxL).length := by
 induction l with
 | nil => exact Nat.le_refl _
 | cons x l ih => rw [List.flatMap_cons, List.length_append, List.length_cons]; have : 4 ≤ (pfxL x).length := by unfold pfxL; rw [List.length_append]; exact Nat.le_add_right 4 _
                  omega
theorem tag_any (label : ByteArray) (ps : List ByteArray) (n : Nat) (hpn : ps.length = n) (hsz : (joinL label ps).length < 2305843009213693952) (a : Option Addr) (c : Nat) (w : World) (hX : Sl w w.heap.size a (ps.map Value.string)) :
  Calls Tryz.prog 132 #[.string label, .slice a n c] w fun e w' => e = .returned (.string (tagS label ps)) ∧ Below w.heap.size w w' := by
 have HPN := Lib.hid hpn
 have HSZ := Lib.hid (show ((label :: ps).flatMap pfxL).length < 2305843009213693952 from joinL_eq label ps ▸ hsz)
 have HX := Lib.hid hX
 have hn6 : n < 1152921504606846976 := by
  have := join_ge (label :: ps)
  rw [← joinL_eq, List.length_cons, hpn] at this
  omega
 clear hpn hsz hX
 have hz0 : Tryz.zeroCells211 = (begC (zw 8)).toArray := by kernel_rfl
 have HI := Lib.hid (show (Tryz.prog.info? 211).map (·.size) = some (foldC h0B 0 z64 0).length from infoF)
 have HZ := Lib.hid (show (begC (zw 8)).length = (foldC h0B 0 z64 0).length from rfl)
 go_enter Tryz.func132, Tryz.ntmps132
 go_wp2_with fail
 refine (begin_any w).mono ?_
 rintro e w1 ⟨rfl, hb9⟩
 have HB := Lib.hid hb9
 have HZS := Lib.hid hb9.size
 clear hb9
 have HFB := Lib.hid HB.out.size
 go_upto_region 2 with (refine wpList_store_new rfl 211 211 (.tmp 5) (.tmp 8) rfl (begC (zw 8)) (foldC h0B 0 z64 0) rfl rfl HI.out HZ.out (foldC_one _ _ _ _) ?_)
 obtain ⟨w2, hq2, hb9, hz9, Hf⟩ := new1 w1 211 (foldC h0B 0 z64 0)
 rw [hq2]
 clear hq2
 replace HB := hbu HB hb9
 replace HZS := sz HZS hz9.out
 clear hb9 hz9 hz0 HI HZ
 have HF := Lib.hid (fold0 Hf.out)
 clear Hf HZS
 generalize w1.heap.size = fb at *
 go_wp2_with fail
 go_loopw [6] (fun c wr => ∃ j : Nat, j ≤ n + 1 ∧ c = .int .i64 ((j : Int) - 1) ∧ Hid (FoldAt wr fb (((label :: ps).take j).flatMap pfxL)) ∧ Hid (Below w.heap.size w wr)) (fun c _ => (n - RowKit.intOf c).toNat)
 case atStart => exact ⟨0, by omega, rfl, HF, HB⟩
 case round =>
  clear HF HB
  obtain ⟨j, hj, rfl, HF, HB⟩ := hrel
  by_cases hj0 : j = 0
  ·subst hj0
   have hn0 : (0 : Int) ≤ (n : Int) := by omega
   have hl9 := join_len (label :: ps) 0 (by rw [List.length_cons, HPN.out]; omega)
   have hs9 := join_snoc (label :: ps) 0 (by rw [List.length_cons, HPN.out]; omega)
   rw [List.getElem_cons_zero] at hl9 hs9
   have HS9 := Lib.hid hs9
   have hl8 : (((label :: ps).take 0).flatMap pfxL).length + 4 + label.size < 2305843009213693952 := by have := HSZ.out; omega
   clear hs9 hl9
   generalize ((label :: ps).take 0).flatMap pfxL = s at *
   go_wp2_with fail
   refine (four_any label.size (by omega) _).mono ?_
   rintro e w5 ⟨rfl, hb5⟩
   have HF5 := Lib.hid (HF.out.up hb5)
   have HB5 := hbu HB hb5
   clear HF HB hb5
   go_wp2_with fail
   refine (take_any fb s (fourS label.size) (by rw [fourS_size]; omega) _ HF5.out).mono ?_
   rintro e w6 ⟨rfl, hf6, hk6⟩
   have HF6 := Lib.hid hf6
   have HB6 := Lib.hid (Below.keptP HB5.out hk6 HB5.out.size (fun q hq => hq ▸ HFB.out))
   clear HF5 HB5 hf6 hk6
   go_wp2_with fail
   refine (take_any fb _ label (by rw [List.length_append, fourS_bytes]; show s.length + 4 + label.size < _; omega) _ HF6.out).mono ?_
   rintro e w7 ⟨rfl, hf7, hk7⟩
   have HF7 := Lib.hid hf7
   have HB7 := Lib.hid (Below.keptP HB6.out hk7 HB6.out.size (fun q hq => hq ▸ HFB.out))
   clear HF6 HB6 hf7 hk7
   have HQ := Lib.hid (show FoldAt w7 fb (((label :: ps).take (0 + 1)).flatMap pfxL) from by rw [HS9.out, ← List.append_assoc]; exact HF7.out)
   clear HF7 HS9
   go_wp2_with fail
   exact ⟨⟨1, by omega, rfl, HQ, HB7⟩, by simp [RowKit.intOf]⟩
  ·by_cases hjn : j < n + 1
   ·obtain ⟨m, rfl⟩ : ∃ m, j = m + 1 := ⟨j - 1, by omega⟩
    have hmn : m < n := by omega
    have hmp : m < ps.length := by rw [HPN.out]; exact hmn
    have e1 : ((m + 1 : Nat) : Int) - 1 = (m : Int) := by omega
    rw [e1]
    clear e1
    obtain ⟨xb, xo, rfl, hxl, hxc⟩ := (HX.out.up HB.out).at m (by rw [List.length_map]; exact hmp)
    rw [List.getElem_map] at hxc
    obtain ⟨x, hx⟩ : ∃ x, ps[m] = x := ⟨_, rfl⟩
    rw [hx] at hxc
    have hl9 := join_len (label :: ps) (m + 1) (by rw [List.length_cons, HPN.out]; omega)
    have hs9 := join_snoc (label :: ps) (m + 1) (by rw [List.length_cons, HPN.out]; omega)
    rw [List.getElem_cons_succ, hx] at hl9 hs9
    have HS9 := Lib.hid hs9
    have hl8 : (((label :: ps).take (m + 1)).flatMap pfxL).length + 4 + x.size < 2305843009213693952 := by have := HSZ.out; omega
    clear hs9 hl9
    generalize ((label :: ps).take (m + 1)).flatMap pfxL = s at *
    go_wp2_with fail
    refine (four_any x.size (by omega) _).mono ?_
    rintro e w5 ⟨rfl, hb5⟩
    have HF5 := Lib.hid (HF.out.up hb5)
    have HB5 := hbu HB hb5
    clear HF HB hb5
    go_wp2_with fail
    refine (take_any fb s (fourS x.size) (by rw [fourS_size]; omega) _ HF5.out).mono ?_
    rintro e w6 ⟨rfl, hf6, hk6⟩
    have HF6 := Lib.hid hf6
    have HB6 := Lib.hid (Below.keptP HB5.out hk6 HB5.out.size (fun q hq => hq ▸ HFB.out))
    clear HF5 HB5 hf6 hk6
    go_wp2_with fail
    refine (take_any fb _ x (by rw [List.length_append, fourS_bytes]; show s.length + 4 + x.size < _; omega) _ HF6.out).mono ?_
    rintro e w7 ⟨rfl, hf7, hk7⟩
    have HF7 := Lib.hid hf7
    have HB7 := Lib.hid (Below.keptP HB6.out hk7 HB6.out.size (fun q hq => hq ▸ HFB.out))
    clear HF6 HB6 hf7 hk7
    have HQ := Lib.hid (show FoldAt w7 fb (((label :: ps).take ((m + 1) + 1)).flatMap pfxL) from by rw [HS9.out, ← List.append_assoc]; exact HF7.out)
    clear HF7 HS9
    go_wp2_with fail
    exact ⟨⟨m + 1 + 1, by omega, by go_num, HQ, HB7⟩, by simp [RowKit.intOf]; omega⟩
   ·have hjn' : j = n + 1 := by omega
    subst hjn'
    rw [List.take_of_length_le (by rw [List.length_cons, HPN.out]; exact Nat.le_refl _)] at HF
    have HEN := Lib.hid (fun w h => end_any fb ((label :: ps).flatMap pfxL) (by have := HSZ.out; omega) w h)
    have e1 : ((n + 1 : Nat) : Int) - 1 = (n : Int) := by omega
    rw [e1]
    clear e1
    go_wp2_with fail
    refine (HEN.out _ HF.out).mono ?_
    rintro e w5 ⟨rfl, hk5⟩
    have HB5 := Lib.hid (Below.keptP HB.out hk5 HB.out.size (fun q hq => hq ▸ HFB.out))
    clear hk5
    go_wp2_with fail
    go_ret
    exact ⟨rfl, HB5.out⟩
end Go.Proofs.YtdlnnkbigeiilaaGreat
namespace Go.Proofs.YtdlnnkbigeiilaaGreat
open Go.RowKit Go.Lib
abbrev talkB : ByteArray := ⟨#[116, 97, 108, 107]⟩
abbrev sayB : ByteArray := ⟨#[115, 97, 121]⟩
abbrev askB : ByteArray := ⟨#[97, 115, 107]⟩
abbrev askedB : ByteArray := ⟨#[97, 115, 107, 101, 100]⟩
def TalkAt (W : World) (b : Nat) (s : ByteArray) : Prop := Bx W b 192 [.string s]
theorem Sl.ofB {W : World} {b : Nat} {t : TypeId} {cs : List Value} (h : Bx W b t cs) : Sl W W.heap.size (some ⟨b, 0, none⟩) cs := Or.inr ⟨b, 0, rfl, h.lt, fun i v hv => by rw [Nat.zero_add]; exact h.cell hv⟩
theorem join_small (l : ByteArray) (ps : List ByteArray) (_m : Nat) (h : ps.length ≤ 3) (hp : ∀ p ∈ ps, p.size < 140737488355328) (hl : l.size < 140737488355328) : (joinL l ps).length < 2305843009213693952 := by
 have key : ∀ x : ByteArray, (pfxL x).length = 4 + x.size := fun x => by unfold pfxL; rw [List.length_append, bytesOf_len]; rfl
 have gen : ∀ qs : List ByteArray, (∀ p ∈ qs, p.size < 140737488355328) → (qs.flatMap pfxL).length ≤ qs.length * 140737488355332 := by
  intro qs
  induction qs with
  | nil => intro _; simp
  | cons x qs ih =>
   intro hq
   have h1 := ih fun p hp => hq p (List.mem_cons_of_mem _ hp)
   have h2 := hq x (List.mem_cons_self ..)
   rw [List.flatMap_cons, List.length_append, List.length_cons, key]
   omega
 have := gen ps hp
 unfold joinL
 rw [List.length_append, key]
 have h3 : ps.length * 140737488355332 ≤ 3 * 140737488355332 := Nat.mul_le_mul_right _ h
 omega
theorem NewTalk_any (label : ByteArray) (hl : label.size < 140737488355328) (w : World) :
  Calls Tryz.prog 96 #[.string label] w fun e w' => ∃ tb, e = .returned (.pointer (some ⟨tb, 0, none⟩)) ∧ w.heap.size ≤ tb ∧ TalkAt w' tb (tagS talkB [label]) ∧ Below w.heap.size w w' := by
 have HJ := Lib.hid (join_small talkB [label] 0 (by simp) (by simpa using hl) (by decide))
 have HT := Lib.hid (fun a c w hX => tag_any talkB [label] 1 rfl HJ.out a c w hX)
 clear hl
 go_enter Tryz.func96, Tryz.ntmps96
 obtain ⟨w1, hq1, hb9, hz9, Hr⟩ := new1 w 9 [.string label]
 have HB := Lib.hid hb9
 have HZS := hz9
 clear hb9 hz9
 have r_ := Hr.out.c1
 go_wp2_with fail
 clear hq1
 refine (HT.out _ _ _ (Sl.ofB Hr.out)).mono ?_
 rintro e w2 ⟨rfl, hb9⟩
 clear r_
 replace Hr := Lib.hid (Hr.out.up hb9)
 replace HB := hbu HB hb9
 replace HZS := sz HZS hb9.size
 clear hb9
 have r_ := Hr.out.c1
 have hsz := Lib.hid HB.out.size
 have o3_r_ := r_; clear r_
 obtain ⟨w3, hq3, hb9, hz9, Ht⟩ := new1 w2 192 [.string (tagS talkB [label])]
 replace Hr := Lib.hid (Hr.out.up hb9)
 replace HB := hbu HB hb9
 replace HZS := sz HZS hz9.out
 clear hb9 hz9
 have r_ := Hr.out.c1
 have t_ := Ht.out.c1
 go_wp2_with fail
 clear hq3 o3_r_
 go_ret
 exact ⟨_, rfl, hsz.out, Ht.out, HB.out⟩
theorem Say_any (tb : Nat) (s label b : ByteArray) (hs : s.size < 140737488355328) (hl : label.size < 140737488355328) (hb : b.size < 140737488355328) (w : World) (hT : TalkAt w tb s) :
  Calls Tryz.prog 97 #[.pointer (some ⟨tb, 0, none⟩), .string label, .string b] w fun e w' => e = .returned (.tuple #[]) ∧ TalkAt w' tb (tagS sayB [s, label, b]) ∧ Kept (fun q => q = tb) w w' := by
 have HJ := Lib.hid (join_small sayB [s, label, b] 0 (by simp) (by simp [hs, hl, hb]) (by decide))
 have HT := Lib.hid (fun a c w hX => tag_any sayB [s, label, b] 3 rfl HJ.out a c w hX)
 have Ht := Lib.hid (show Bx w tb 192 [.string s] from hT)
 have HLB := Lib.hid hT.lt
 generalize tagS sayB [s, label, b] = S at *
 clear hs hl hb hT
 go_enter Tryz.func97, Tryz.ntmps97
 have t_ := Ht.out.c1
 have HZS := HLB
 have HK := Lib.hid (Kept.refl (fun q9 => q9 = tb) w)
 have o1_t_ := t_; clear t_
 obtain ⟨w1, hq1, hb9, hz9, Hr⟩ := new1 w 9 [.string s, .string label, .string b]
 replace Ht := Lib.hid (Ht.out.up hb9)
 replace HK := Lib.hid (Kept.up HK.out hb9)
 replace HZS := sz HZS hz9.out
 clear hb9 hz9
 have t_ := Ht.out.c1
 have r_ := Hr.out.c3
 go_wp2_with fail
 clear hq1 o1_t_
 refine (HT.out _ _ _ (Sl.ofB Hr.out)).mono ?_
 rintro e w2 ⟨rfl, hb9⟩
 clear t_
 replace Ht := Lib.hid (Ht.out.up hb9)
 clear r_
 replace Hr := Lib.hid (Hr.out.up hb9)
 replace HK := Lib.hid (Kept.up HK.out hb9)
 replace HZS := sz HZS hb9.size
 clear hb9
 have t_ := Ht.out.c1
 have r_ := Hr.out.c3
 have f3_t := Ht.out.frozen
 have o3_t_ := t_; clear t_
 have o3_r_ := r_; clear r_
 obtain ⟨w3, hq3, hg9, hz9, hx9⟩ := put1 Ht 0 (.string S) [.string S] rfl
 replace Hr := Lib.hid (Hr.out.grown hg9.out (sne (by have g0 := HZS.out; omega)))
 replace HK := Lib.hid (Kept.grown HK.out hg9.out (fun q9 e9 => by obtain rfl := Option.some.inj e9; exact Or.inr (rfl)))
 replace HZS := sz HZS hz9.out
 replace Ht := hx9
 clear hx9 hg9 hz9
 have t_ := Ht.out.c1
 have r_ := Hr.out.c3
 go_wp2_with fail
 clear hq3 o3_r_ o3_t_ f3_t
 go_end0
 exact ⟨rfl, Ht.out, HK.out⟩
theorem Ask_any (tb : Nat) (s label : ByteArray) (hs : s.size < 140737488355328) (hl : label.size < 140737488355328) (w : World) (hT : TalkAt w tb s) :
  Calls Tryz.prog 104 #[.pointer (some ⟨tb, 0, none⟩), .string label] w fun e w' => e = .returned (.string (tagS askB [s, label])) ∧ TalkAt w' tb (tagS askedB [s, label]) ∧ Kept (fun q => q = tb) w w' := by
 have HJ := Lib.hid (join_small askB [s, label] 0 (by simp) (by simp [hs, hl]) (by decide))
 have HJ2 := Lib.hid (join_small askedB [s, label] 0 (by simp) (by simp [hs, hl]) (by decide))
 have HT := Lib.hid (fun a c w hX => tag_any askB [s, label] 2 rfl HJ.out a c w hX)
 have HT2 := Lib.hid (fun a c w hX => tag_any askedB [s, label] 2 rfl HJ2.out a c w hX)
 have Ht := Lib.hid (show Bx w tb 192 [.string s] from hT)
 have HLB := Lib.hid hT.lt
 obtain ⟨A, hA⟩ : ∃ A, tagS askB [s, label] = A := ⟨_, rfl⟩
 obtain ⟨D, hD⟩ : ∃ D, tagS askedB [s, label] = D := ⟨_, rfl⟩
 rw [hA] at HT ⊢
 rw [hD] at HT2 ⊢
 clear hs hl hT hA hD HJ HJ2
 go_enter Tryz.func104, Tryz.ntmps104
 have t_ := Ht.out.c1
 have HZS := HLB
 have HK := Lib.hid (Kept.refl (fun q9 => q9 = tb) w)
 have o1_t_ := t_; clear t_
 obtain ⟨w1, hq1, hb9, hz9, Hr⟩ := new1 w 9 [.string s, .string label]
 replace Ht := Lib.hid (Ht.out.up hb9)
 replace HK := Lib.hid (Kept.up HK.out hb9)
 replace HZS := sz HZS hz9.out
 clear hb9 hz9
 have t_ := Ht.out.c1
 have r_ := Hr.out.c2
 go_wp2_with fail
 clear hq1 o1_t_
 refine (HT.out _ _ _ (Sl.ofB Hr.out)).mono ?_
 rintro e w2 ⟨rfl, hb9⟩
 clear t_
 replace Ht := Lib.hid (Ht.out.up hb9)
 clear r_
 replace Hr := Lib.hid (Hr.out.up hb9)
 replace HK := Lib.hid (Kept.up HK.out hb9)
 replace HZS := sz HZS hb9.size
 clear hb9
 have t_ := Ht.out.c1
 have r_ := Hr.out.c2
 clear r_ Hr
 have o3_t_ := t_; clear t_
 obtain ⟨w3, hq3, hb9, hz9, Hr⟩ := new1 w2 9 [.string s, .string label]
 replace Ht := Lib.hid (Ht.out.up hb9)
 replace HK := Lib.hid (Kept.up HK.out hb9)
 replace HZS := sz HZS hz9.out
 clear hb9 hz9
 have t_ := Ht.out.c1
 have r_ := Hr.out.c2
 go_wp2_with fail
 clear hq3 o3_t_
 refine (HT2.out _ _ _ (Sl.ofB Hr.out)).mono ?_
 rintro e w4 ⟨rfl, hb9⟩
 clear t_
 replace Ht := Lib.hid (Ht.out.up hb9)
 clear r_
 replace Hr := Lib.hid (Hr.out.up hb9)
 replace HK := Lib.hid (Kept.up HK.out hb9)
 replace HZS := sz HZS hb9.size
 clear hb9
 have t_ := Ht.out.c1
 have r_ := Hr.out.c2
 have f5_t := Ht.out.frozen
 have o5_t_ := t_; clear t_
 have o5_r_ := r_; clear r_
 obtain ⟨w5, hq5, hg9, hz9, hx9⟩ := put1 Ht 0 (.string D) [.string D] rfl
 replace Hr := Lib.hid (Hr.out.grown hg9.out (sne (by have g0 := HZS.out; omega)))
 replace HK := Lib.hid (Kept.grown HK.out hg9.out (fun q9 e9 => by obtain rfl := Option.some.inj e9; exact Or.inr (rfl)))
 replace HZS := sz HZS hz9.out
 replace Ht := hx9
 clear hx9 hg9 hz9
 have t_ := Ht.out.c1
 have r_ := Hr.out.c2
 go_wp2_with fail
 clear hq5 o5_r_ o5_t_ f5_t
 go_ret
 exact ⟨rfl, Ht.out, HK.out⟩
theorem Fork_any (tb : Nat) (s : ByteArray) (w : World) (hT : TalkAt w tb s) :
  Calls Tryz.prog 120 #[.pointer (some ⟨tb, 0, none⟩)] w fun e w' => ∃ fb, e = .returned (.pointer (some ⟨fb, 0, none⟩)) ∧ w.heap.size ≤ fb ∧ TalkAt w' fb s ∧ Below w.heap.size w w' := by
 have Ht := Lib.hid (show Bx w tb 192 [.string s] from hT)
 clear hT
 go_enter Tryz.func120, Tryz.ntmps120
 have t_ := Ht.out.c1
 have o1_t_ := t_; clear t_
 obtain ⟨w1, hq1, hb9, hz9, Hf⟩ := new1 w 192 [.string s]
 replace Ht := Lib.hid (Ht.out.up hb9)
 have HB := Lib.hid hb9
 have HZS := hz9
 clear hb9 hz9
 have t_ := Ht.out.c1
 have f_ := Hf.out.c1
 go_wp2_with fail
 clear hq1 o1_t_
 go_ret
 exact ⟨_, rfl, Nat.le_refl _, Hf.out, HB.out⟩
end Go.Proofs.YtdlnnkbigeiilaaGreat
namespace Go.Proofs.YtdlnnkbigeiilaaGreat
open Go.RowKit Go.Lib
abbrev labelB : ByteArray := ⟨#[108, 97, 98, 101, 108]⟩
abbrev kindB : ByteArray := ⟨#[107, 105, 110, 100]⟩
abbrev basesB : ByteArray := ⟨#[98, 97, 115, 101, 115]⟩
abbrev imagesB : ByteArray := ⟨#[105, 109, 97, 103, 101, 115]⟩
abbrev firstB : ByteArray := ⟨#[102, 105, 114, 115, 116]⟩
abbrev challengeB : ByteArray := ⟨#[99, 104, 97, 108, 108, 101, 110, 103, 101]⟩
abbrev nonceB : ByteArray := ⟨#[110, 111, 110, 99, 101]⟩
abbrev seedB : ByteArray := ⟨#[115, 101, 101, 100]⟩
def catB (l : List ByteArray) : ByteArray := l.foldl (· ++ ·) ⟨#[]⟩
theorem catB_snoc (l : List ByteArray) (x : ByteArray) : catB (l ++ [x]) = catB l ++ x := by unfold catB; rw [List.foldl_append]; rfl
theorem catB_take (l : List ByteArray) (j : Nat) (h : j < l.length) : catB (l.take (j + 1)) = catB (l.take j) ++ l[j] := by rw [List.take_succ_eq_append_getElem h, catB_snoc]
theorem catB_from (m : Nat) : ∀ (l : List ByteArray) (a : ByteArray), (∀ x ∈ l, x.size ≤ m) → (l.foldl (· ++ ·) a).size ≤ a.size + l.length * m
 | [], _, _ => by simp
 | x :: l, a, h => by
  have h1 := catB_from m l (a ++ x) fun y hy => h y (List.mem_cons_of_mem _ hy)
  have h2 := h x (by simp)
  rw [ByteArray.size_append] at h1
  rw [List.foldl_cons, List.length_cons, Nat.add_mul, Nat.one_mul]
  omega
theorem catB_size (m : Nat) (l : List ByteArray) (h : ∀ x ∈ l, x.size ≤ m) : (catB l).size ≤ l.length * m := by
 have h1 := catB_from m l ⟨#[]⟩ h
 rw [show (ByteArray.mk #[]).size = 0 from rfl, Nat.zero_add] at h1
 exact h1
def kindS (k : Int) : ByteArray := ⟨#[UInt8.ofNat k.toNat]⟩
def say1 (s lb x : ByteArray) : ByteArray := tagS sayB [s, lb, x]
theorem say1_size (s lb x : ByteArray) : (say1 s lb x).size = 32 := tagS_size _ _
def beginT (nm label : ByteArray) (k : Int) : ByteArray := say1 (say1 (tagS talkB [nm]) labelB label) kindB (kindS k)
def sayC (s : ByteArray) (c : ClaimA) : ByteArray := say1 (say1 s basesB (catB c.bases)) imagesB (catB c.images)
def sayCl (s : ByteArray) (l : List ClaimA) : ByteArray := l.foldl sayC s
def sayF (s : ByteArray) (r : List ByteArray) : ByteArray := say1 s firstB (catB r)
def sayFi (s : ByteArray) (l : List (List ByteArray)) : ByteArray := l.foldl sayF s
theorem sayCl_take (s : ByteArray) (l : List ClaimA) (j : Nat) (h : j < l.length) : sayCl s (l.take (j + 1)) = sayC (sayCl s (l.take j)) l[j] := by unfold sayCl; rw [List.take_succ_eq_append_getElem h, List.foldl_append]; rfl
theorem sayFi_take (s : ByteArray) (l : List (List ByteArray)) (j : Nat) (h : j < l.length) : sayFi s (l.take (j + 1)) = sayF (sayFi s (l.take j)) l[j] := by unfold sayFi; rw [List.take_succ_eq_append_getElem h, List.foldl_append]; rfl
theorem sayCl_size : ∀ (l : List ClaimA) (s : ByteArray), s.size = 32 → (sayCl s l).size = 32
 | [], _, hs => hs
 | _ :: l, _, _ => sayCl_size l _ (say1_size _ _ _)
theorem sayFi_size : ∀ (l : List (List ByteArray)) (s : ByteArray), s.size = 32 → (sayFi s l).size = 32
 | [], _, hs => hs
 | _ :: l, _, _ => sayFi_size l _ (say1_size _ _ _)
end Go.Proofs.YtdlnnkbigeiilaaGreat
namespace Go.Proofs.YtdlnnkbigeiilaaGreat
open Go.RowKit
structure SetA where
 a : Option Addr
 c : Nat
 l : List ClaimA
def SetA.cells (s : SetA) : List Value := [.slice s.a s.l.length s.c]
theorem SetA.cells_len (s : SetA) : s.cells.length = 1 := rfl
structure SetsAt (w : World) (a : Option Addr) (ss : List SetA) : Prop where
 s : Sl w w.heap.size a (ss.flatMap SetA.cells)
 e : ∀ s ∈ ss, ClaimsAt w s.a s.l
theorem SetsAt.up {w w' : World} {a : Option Addr} {ss : List SetA} (h : SetsAt w a ss) (hb : Below w.heap.size w w') : SetsAt w' a ss := ⟨h.s.up hb, fun c hc => (h.e c hc).up hb⟩
theorem SetsAt.one {w : World} {a : Option Addr} {ss : List SetA} (h : SetsAt w a ss) (i : Nat) (hi : i < ss.length) : ClaimsAt w ss[i].a ss[i].l := h.e _ (List.getElem_mem hi)
def wrongsE (G : GP) : List SetA → Nat
 | [] => 0
 | s :: r => if wrongE G s.l = 0 then wrongsE G r else wrongE G s.l
def setsE (G : GP) (ss : List SetA) : Nat := if 16 < ss.length then 3 else if ss.length = 0 then 2 else wrongsE G ss
theorem wrongsE_app (G : GP) : ∀ (l m : List SetA), wrongsE G l = 0 → wrongsE G (l ++ m) = wrongsE G m
 | [], _, _ => rfl
 | s :: r, m, h => by
  unfold wrongsE at h
  by_cases g : wrongE G s.l = 0
  ·rw [if_pos g] at h
   rw [List.cons_append, wrongsE, if_pos g]
   exact wrongsE_app G r m h
  ·rw [if_neg g] at h
   exact absurd h g
theorem wrongsE_snoc {G : GP} {ss : List SetA} {j : Nat} (hj : j < ss.length) (h : wrongsE G (ss.take j) = 0) (h1 : wrongE G ss[j].l = 0) : wrongsE G (ss.take (j + 1)) = 0 := by
 rw [List.take_succ_eq_append_getElem hj, wrongsE_app G _ _ h, wrongsE, if_pos h1]
 rfl
theorem wrongsE_not {G : GP} {ss : List SetA} {j : Nat} (hj : j < ss.length) (h : wrongsE G (ss.take j) = 0) (h1 : ¬ wrongE G ss[j].l = 0) : wrongsE G ss = wrongE G ss[j].l := by
 conv => lhs; rw [← List.take_append_drop j ss, List.drop_eq_getElem_cons hj]
 rw [wrongsE_app G _ _ h, wrongsE, if_neg h1]
theorem wrongsE_all {G : GP} : ∀ {ss : List SetA}, wrongsE G ss = 0 → ∀ s ∈ ss, wrongE G s.l = 0
 | [], _, _, hs => absurd hs (by simp)
 | t :: r, h, s, hs => by
  unfold wrongsE at h
  by_cases g : wrongE G t.l = 0
  ·rw [if_pos g] at h
   rcases List.mem_cons.1 hs with rfl | h9
   ·exact g
   ·exact wrongsE_all h s h9
  ·rw [if_neg g] at h
   exact absurd h g
theorem setsE_ok {G : GP} {ss : List SetA} (h : setsE G ss = 0) : 0 < ss.length ∧ ss.length ≤ 16 ∧ wrongsE G ss = 0 := by
 unfold setsE at h
 by_cases g : 16 < ss.length
 ·rw [if_pos g] at h; cases h
 ·rw [if_neg g] at h
  by_cases g2 : ss.length = 0
  ·rw [if_pos g2] at h; cases h
  ·rw [if_neg g2] at h
   exact ⟨by omega, by omega, h⟩
end Go.Proofs.YtdlnnkbigeiilaaGreat
namespace Go.Proofs.YtdlnnkbigeiilaaGreat
open Go.RowKit
def Gives (v : Value) (w : World) (e : Ending) (w' : World) : Prop := e = .returned v ∧ Below w.heap.size w w'
theorem all_take_true {α : Type} {f : α → Bool} {l : List α} (h : (l.take l.length).all f = true) : l.all f = true := by rwa [List.take_length] at h
theorem all_not {α : Type} {f : α → Bool} {l : List α} {i : Nat} (hi : i < l.length) (h : f l[i] = false) : l.all f = false := by
 rw [List.all_eq_false]
 exact ⟨l[i], List.getElem_mem hi, by simp [h]⟩
theorem all_snoc {α : Type} {f : α → Bool} {l : List α} {i : Nat} (hi : i < l.length) (ht : (l.take i).all f = true) (h : f l[i] = true) : (l.take (i + 1)).all f = true := by
 rw [List.take_succ_eq_append_getElem hi, List.all_append, ht]
 simp [h]
section
variable {G : GP}
theorem rText2 (ok : G.Ok) {x : Nat} {an : Option Addr} {cn : Nat} (w : World) (hN : NumAt w an (lowN G x)) :
  Calls Tryz.prog 49 #[.slice an (dl (lowN G x)) cn, .int .i64 (G.size : Int)] w fun e w' => e = .returned (.string (textS (lowN G x) G.size)) ∧ Below w.heap.size w w' :=
 rText ok (lowN_16 ok x) w hN
theorem isEl_size {q n : Nat} {s : ByteArray} (h : isEl q n s = true) : s.size = n := by
 unfold isEl at h
 simp only [Bool.and_eq_true, decide_eq_true_eq] at h
 exact h.1.1
theorem isSc_size {q n : Nat} {s : ByteArray} (h : isSc q n s = true) : s.size = n := by
 unfold isSc at h
 simp only [Bool.and_eq_true, decide_eq_true_eq] at h
 exact h.1
end
end Go.Proofs.YtdlnnkbigeiilaaGreat
namespace Go.Proofs.YtdlnnkbigeiilaaGreat
open Go.RowKit
theorem infoScalar : (Tryz.prog.info? 72).map (fun i => (i.zero, i.size, i.bytes)) = some (some (.agg #[.int .u64 0, .int .u64 0, .int .u64 0, .int .u64 0]), 4, 32) := by kernel_rfl
theorem infoElem : (Tryz.prog.info? 127).map (fun i => (i.zero, i.size, i.bytes)) = some (some (.agg #[.int .u64 0, .int .u64 0, .int .u64 0, .int .u64 0]), 4, 32) := by kernel_rfl
def limC (m : Nat) (s : ByteArray) : List Value := [.int .u64 (dig (mont m (numOf s)) 0 : Int), .int .u64 (dig (mont m (numOf s)) 1 : Int), .int .u64 (dig (mont m (numOf s)) 2 : Int), .int .u64 (dig (mont m (numOf s)) 3 : Int)]
theorem limC_len (m : Nat) (s : ByteArray) : (limC m s).length = 4 := rfl
def AllR (m : Nat) (f : ByteArray → Bool) (l : List ByteArray) (w : World) (e : Ending) (w' : World) : Prop :=
 Below w.heap.size w w' ∧ if l.all f then ∃ a c, e = .returned (.tuple #[.slice a l.length c, .bool true]) ∧ Sl w' w'.heap.size a (l.flatMap (limC m)) ∧ (∀ x, a = some x → w.heap.size ≤ x.block) else e = .returned (.tuple #[.slice none 0 0, .bool false])
theorem allSc_any (G : GP) (ok : G.Ok) (gb : Nat) (l : List ByteArray) (al : Option Addr) (cl : Nat) (hl : l.length ≤ 8796093022207) (w : World) (hG : GroupAt w gb G) (hS : Sl w w.heap.size al (l.map Value.string)) :
  Calls Tryz.prog 113 #[.slice al l.length cl, .func (.func 37) #[.pointer (some ⟨gb, 0, none⟩)] #[]] w (AllR G.q.m (isSc G.q.m G.size) l w) := by
 have OK := Lib.hid ok
 have HG := Lib.hid hG
 have HS := Lib.hid hS
 clear ok hG hS
 go_enter Tryz.func113, Tryz.ntmps113
 obtain ⟨i9, hi9, hz90, hz91, hz92⟩ := info_parts infoScalar
 go_wp2_with (at_make; refine wpList_make_own _ rfl _ _ 65 rfl (w.heap.size) 72 i9 _ 4 Tryz.underlying65 hi9 hz90 hz91 _ _ _ (l.length) rfl rfl ?c1 ?c2 ?c3 ?c4 ?_)
 case c1 => rfl
 case c2 => rw [hz92]; omega
 case c3 => unfold maxLen; omega
 case c4 => omega
 intro w1 hown9 hg9
 have hb9 : Below w.heap.size w w1 := (Below.refl _ _).grown hg9 (Nat.le_refl _) (fun q hq => by cases hq)
 have HB := Lib.hid hb9
 have HZS := Lib.hid hb9.size
 have Hr : Hid (RowO (w.heap.size) w1 72 4 (.slice (some ⟨w.heap.size, 0, none⟩) 0 (l.length)) 0 []) := Lib.hid hown9
 clear hb9 hown9 hg9 hi9 hz90 hz91 hz92
 go_wp2_with fail
 go_loopw [16, 6] (fun i v wr => ∃ j : Nat, j ≤ l.length ∧ i = .int .i64 j ∧ v = .slice (some ⟨w.heap.size, 0, none⟩) j l.length ∧ Hid (Below w.heap.size w wr) ∧ Hid ((l.take j).all (isSc G.q.m G.size) = true) ∧ Hid (RowO w.heap.size wr 72 4 (.slice (some ⟨w.heap.size, 0, none⟩) j l.length) j ((l.take j).flatMap (limC G.q.m)))) (fun i _ _ => l.length - (intOf i).toNat)
 case atStart => exact ⟨0, Nat.zero_le _, rfl, rfl, HB, rfl, Hr⟩
 case round =>
  obtain ⟨j, hj, rfl, rfl, HB, HAL, Hr⟩ := hrel
  by_cases hjl : j < l.length
  ·skip
   have Hs0 := Lib.hid (show w.heap.size < wr.heap.size from (Hr.out.lt _ rfl).2)
   replace HZS := sz HZS Hs0.out
   obtain ⟨bl, ol, rfl, hbl, hc⟩ := (HS.out.up HB.out).at j (by simpa using hjl)
   rw [List.getElem_map] at hc
   obtain ⟨bj, hbj⟩ : ∃ x, isSc G.q.m G.size l[j] = x := ⟨_, rfl⟩
   have HBJ := Lib.hid hbj
   clear hbj
   go_wp2_with fail
   refine (gScalar_m G OK.out gb l[j] bj HBJ.out wr (HG.out.up HB.out)).mono ?_
   rintro e w2 ⟨sx, rfl, hb9, hx9⟩
   replace Hr := Lib.hid (Hr.out.up hb9)
   replace HB := hbu HB hb9
   replace HZS := sz HZS hb9.size
   have HSX := Lib.hid hx9
   clear hx9 hb9
   unfold limbV
   obtain ⟨w3, hq3, hb9, hz9, Hbp⟩ := new1 w2 72 [.int .u64 (dig (sx) 0 : Int), .int .u64 (dig (sx) 1 : Int), .int .u64 (dig (sx) 2 : Int), .int .u64 (dig (sx) 3 : Int)]
   replace Hr := Lib.hid (Hr.out.up hb9)
   replace HB := hbu HB hb9
   replace HZS := sz HZS hz9.out
   clear hb9 hz9
   have bp_ := Hbp.out.c4
   cases bj
   ·go_wp2_with fail
    clear hq3
    go_ret2
    exact ⟨HB.out, by rw [if_neg (by rw [all_not hjl HBJ.out]; decide)]; rfl⟩
   ·obtain rfl := HSX.out rfl
    obtain ⟨i9, hi9, hz90, hz91, hz92⟩ := info_parts infoScalar
    go_wp2_with (at_builtin; refine wpList_fitR (w.heap.size) w3 rfl _ _ 65 rfl 72 i9 4 Tryz.underlying65 hi9 hz91 (w.heap.size) (j) ((l.length)) (((l.take j).flatMap (limC G.q.m))) rfl Hr.out _ _ _ rfl rfl rfl (by simp [Value.oneCell']) (by omega) ?_)
    intro w4 hown9 hg9
    clear hq3 bp_
    have hb9 := Below.grown HB.out hg9 (by have g0 := HZS.out; omega) (fun q hq => Nat.le_trans (show w.heap.size ≤ w.heap.size by have g0 := HZS.out; omega) (Hr.out.lt q hq).1)
    replace Hbp := Lib.hid (Hbp.out.grown hg9 (fun e9 => by have a0 := Option.some.inj e9; have a1 := Hr.out.lt _ e9; have g0 := HZS.out; omega))
    replace HZS := sz HZS hg9.size
    clear Hr HB
    have Hr := Lib.hid hown9
    have HB := Lib.hid hb9
    clear hb9 hown9 hg9 hi9 hz90 hz91 hz92
    have bp_ := Hbp.out.c4
    go_wp2_with fail
    go_roundw
    case rel => exact ⟨j + 1, by omega, by go_num, rfl, HB, all_snoc hjl HAL.out HBJ.out, Hr.out.eq (flat_snoc _ _ _ hjl).symm rfl⟩
    case measure => simp [intOf]; omega
  ·have hjn : j = l.length := by omega
   subst hjn
   go_wp2_with fail
   go_ret2
   rw [List.take_length] at Hr
   exact ⟨HB.out, by rw [if_pos (all_take_true HAL.out)]; exact ⟨_, _, rfl, Hr.out.sl, fun x hx => by cases hx; exact Nat.le_refl _⟩⟩
theorem allEl_any (G : GP) (ok : G.Ok) (gb : Nat) (l : List ByteArray) (al : Option Addr) (cl : Nat) (hl : l.length ≤ 8796093022207) (w : World) (hG : GroupAt w gb G) (hS : Sl w w.heap.size al (l.map Value.string)) :
  Calls Tryz.prog 143 #[.slice al l.length cl, .func (.func 137) #[.pointer (some ⟨gb, 0, none⟩)] #[]] w (AllR G.p.m (isEl G.q.m G.size) l w) := by
 have OK := Lib.hid ok
 have HG := Lib.hid hG
 have HS := Lib.hid hS
 clear ok hG hS
 go_enter Tryz.func143, Tryz.ntmps143
 obtain ⟨i9, hi9, hz90, hz91, hz92⟩ := info_parts infoElem
 go_wp2_with (at_make; refine wpList_make_own _ rfl _ _ 152 rfl (w.heap.size) 127 i9 _ 4 Tryz.underlying152 hi9 hz90 hz91 _ _ _ (l.length) rfl rfl ?c1 ?c2 ?c3 ?c4 ?_)
 case c1 => rfl
 case c2 => rw [hz92]; omega
 case c3 => unfold maxLen; omega
 case c4 => omega
 intro w1 hown9 hg9
 have hb9 : Below w.heap.size w w1 := (Below.refl _ _).grown hg9 (Nat.le_refl _) (fun q hq => by cases hq)
 have HB := Lib.hid hb9
 have HZS := Lib.hid hb9.size
 have Hr : Hid (RowO (w.heap.size) w1 127 4 (.slice (some ⟨w.heap.size, 0, none⟩) 0 (l.length)) 0 []) := Lib.hid hown9
 clear hb9 hown9 hg9 hi9 hz90 hz91 hz92
 go_wp2_with fail
 go_loopw [16, 6] (fun i v wr => ∃ j : Nat, j ≤ l.length ∧ i = .int .i64 j ∧ v = .slice (some ⟨w.heap.size, 0, none⟩) j l.length ∧ Hid (Below w.heap.size w wr) ∧ Hid ((l.take j).all (isEl G.q.m G.size) = true) ∧ Hid (RowO w.heap.size wr 127 4 (.slice (some ⟨w.heap.size, 0, none⟩) j l.length) j ((l.take j).flatMap (limC G.p.m)))) (fun i _ _ => l.length - (intOf i).toNat)
 case atStart => exact ⟨0, Nat.zero_le _, rfl, rfl, HB, rfl, Hr⟩
 case round =>
  obtain ⟨j, hj, rfl, rfl, HB, HAL, Hr⟩ := hrel
  by_cases hjl : j < l.length
  ·skip
   have Hs0 := Lib.hid (show w.heap.size < wr.heap.size from (Hr.out.lt _ rfl).2)
   replace HZS := sz HZS Hs0.out
   obtain ⟨bl, ol, rfl, hbl, hc⟩ := (HS.out.up HB.out).at j (by simpa using hjl)
   rw [List.getElem_map] at hc
   obtain ⟨bj, hbj⟩ : ∃ x, isEl G.q.m G.size l[j] = x := ⟨_, rfl⟩
   have HBJ := Lib.hid hbj
   clear hbj
   go_wp2_with fail
   refine (gElem_m G OK.out gb l[j] bj HBJ.out wr (HG.out.up HB.out)).mono ?_
   rintro e w2 ⟨sx, rfl, hb9, hx9⟩
   replace Hr := Lib.hid (Hr.out.up hb9)
   replace HB := hbu HB hb9
   replace HZS := sz HZS hb9.size
   have HSX := Lib.hid hx9
   clear hx9 hb9
   unfold limbV
   obtain ⟨w3, hq3, hb9, hz9, Hbp⟩ := new1 w2 127 [.int .u64 (dig (sx) 0 : Int), .int .u64 (dig (sx) 1 : Int), .int .u64 (dig (sx) 2 : Int), .int .u64 (dig (sx) 3 : Int)]
   replace Hr := Lib.hid (Hr.out.up hb9)
   replace HB := hbu HB hb9
   replace HZS := sz HZS hz9.out
   clear hb9 hz9
   have bp_ := Hbp.out.c4
   cases bj
   ·go_wp2_with fail
    clear hq3
    go_ret2
    exact ⟨HB.out, by rw [if_neg (by rw [all_not hjl HBJ.out]; decide)]; rfl⟩
   ·obtain rfl := HSX.out rfl
    obtain ⟨i9, hi9, hz90, hz91, hz92⟩ := info_parts infoElem
    go_wp2_with (at_builtin; refine wpList_fitR (w.heap.size) w3 rfl _ _ 152 rfl 127 i9 4 Tryz.underlying152 hi9 hz91 (w.heap.size) (j) ((l.length)) (((l.take j).flatMap (limC G.p.m))) rfl Hr.out _ _ _ rfl rfl rfl (by simp [Value.oneCell']) (by omega) ?_)
    intro w4 hown9 hg9
    clear hq3 bp_
    have hb9 := Below.grown HB.out hg9 (by have g0 := HZS.out; omega) (fun q hq => Nat.le_trans (show w.heap.size ≤ w.heap.size by have g0 := HZS.out; omega) (Hr.out.lt q hq).1)
    replace Hbp := Lib.hid (Hbp.out.grown hg9 (fun e9 => by have a0 := Option.some.inj e9; have a1 := Hr.out.lt _ e9; have g0 := HZS.out; omega))
    replace HZS := sz HZS hg9.size
    clear Hr HB
    have Hr := Lib.hid hown9
    have HB := Lib.hid hb9
    clear hb9 hown9 hg9 hi9 hz90 hz91 hz92
    have bp_ := Hbp.out.c4
    go_wp2_with fail
    go_roundw
    case rel => exact ⟨j + 1, by omega, by go_num, rfl, HB, all_snoc hjl HAL.out HBJ.out, Hr.out.eq (flat_snoc _ _ _ hjl).symm rfl⟩
    case measure => simp [intOf]; omega
  ·have hjn : j = l.length := by omega
   subst hjn
   go_wp2_with fail
   go_ret2
   rw [List.take_length] at Hr
   exact ⟨HB.out, by rw [if_pos (all_take_true HAL.out)]; exact ⟨_, _, rfl, Hr.out.sl, fun x hx => by cases hx; exact Nat.le_refl _⟩⟩
end Go.Proofs.YtdlnnkbigeiilaaGreat
namespace Go.Proofs.YtdlnnkbigeiilaaGreat
open Go.RowKit
theorem partLimbs (a b c d : Value) (w : World) : (part 70 #[a, b, c, d] 0).run Tryz.prog w = .ok (.agg #[a, b, c, d]) w := by
 simp [part, isAgg, run_underlying Tryz.underlying70]
theorem allSc_v (G : GP) (ok : G.Ok) (gb : Nat) (l : List ByteArray) (b : Bool) (hb : l.all (isSc G.q.m G.size) = b) (n : Nat) (hn : l.length = n) (al : Option Addr) (cl : Nat) (hl : n ≤ 8796093022207) (w : World) (hG : GroupAt w gb G) (hS : Sl w w.heap.size al (l.map Value.string)) :
  Calls Tryz.prog 113 #[.slice al n cl, .func (.func 37) #[.pointer (some ⟨gb, 0, none⟩)] #[]] w fun e w' => ∃ v, e = .returned (.tuple #[v, .bool b]) ∧ Below w.heap.size w w' ∧ (b = true → ∃ a c, v = .slice a n c ∧ Sl w' w'.heap.size a (l.flatMap (limC G.q.m)) ∧ (∀ x, a = some x → w.heap.size ≤ x.block)) := by
 subst hb
 subst hn
 refine (allSc_any G ok gb l al cl hl w hG hS).mono ?_
 rintro e w' ⟨h1, h2⟩
 cases hb : l.all (isSc G.q.m G.size) with
 | true =>
  rw [if_pos hb] at h2
  obtain ⟨a, c, rfl, h3⟩ := h2
  exact ⟨_, rfl, h1, fun _ => ⟨a, c, rfl, h3⟩⟩
 | false =>
  rw [if_neg (by rw [hb]; decide)] at h2
  exact ⟨_, h2, h1, fun h => by cases h⟩
theorem allEl_v (G : GP) (ok : G.Ok) (gb : Nat) (l : List ByteArray) (b : Bool) (hb : l.all (isEl G.q.m G.size) = b) (n : Nat) (hn : l.length = n) (al : Option Addr) (cl : Nat) (hl : n ≤ 8796093022207) (w : World) (hG : GroupAt w gb G) (hS : Sl w w.heap.size al (l.map Value.string)) :
  Calls Tryz.prog 143 #[.slice al n cl, .func (.func 137) #[.pointer (some ⟨gb, 0, none⟩)] #[]] w fun e w' => ∃ v, e = .returned (.tuple #[v, .bool b]) ∧ Below w.heap.size w w' ∧ (b = true → ∃ a c, v = .slice a n c ∧ Sl w' w'.heap.size a (l.flatMap (limC G.p.m)) ∧ (∀ x, a = some x → w.heap.size ≤ x.block)) := by
 subst hb
 subst hn
 refine (allEl_any G ok gb l al cl hl w hG hS).mono ?_
 rintro e w' ⟨h1, h2⟩
 cases hb : l.all (isEl G.q.m G.size) with
 | true =>
  rw [if_pos hb] at h2
  obtain ⟨a, c, rfl, h3⟩ := h2
  exact ⟨_, rfl, h1, fun _ => ⟨a, c, rfl, h3⟩⟩
 | false =>
  rw [if_neg (by rw [hb]; decide)] at h2
  exact ⟨_, h2, h1, fun h => by cases h⟩
theorem infoStr : (Tryz.prog.info? 9).map (fun i => (i.zero, i.size, i.bytes)) = some (some (.string ⟨#[]⟩), 1, 16) := by kernel_rfl
theorem Sl.adr {w : World} {B : Nat} {a : Option Addr} {cs : List Value} (h : Sl w B a cs) (h0 : cs ≠ []) : ∃ b o, a = some ⟨b, o, none⟩ ∧ b < B := by
 rcases h with h | ⟨b, off, rfl, hb, _⟩
 ·exact absurd h h0
 ·exact ⟨b, off, rfl, hb⟩
theorem Sl.elemS {w : World} {B b o : Nat} {α : Type} {f : α → List Value} {k : Nat} {l : List α} (h : Sl w B (some ⟨b, o, none⟩) (l.flatMap f)) (hk : ∀ x, (f x).length = k) (h0 : 0 < k) (i : Nat) (hi : i < l.length) :
  b < B ∧ ∀ j v, (f l[i])[j]? = some v → w.cell? ⟨b, o + i * k + j, none⟩ = some v := by
 obtain ⟨b', o', he, hb, hc⟩ := h.elem hk h0 i hi
 simp only [Option.some.injEq, Addr.mk.injEq, and_true] at he
 obtain ⟨rfl, rfl⟩ := he
 exact ⟨hb, hc⟩
theorem Sl.atUp {w0 w : World} {a : Option Addr} {cs : List Value} (h : Sl w0 w0.heap.size a cs) (hb : Below w0.heap.size w0 w) (i : Nat) (hi : i < cs.length) :
  ∃ b off, a = some ⟨b, off, none⟩ ∧ b < w0.heap.size ∧ b < w.heap.size ∧ w.cell? ⟨b, off + i, none⟩ = some cs[i] := by
 obtain ⟨b, off, he, h1, h2⟩ := h.at i hi
 exact ⟨b, off, he, h1, Nat.lt_of_lt_of_le h1 hb.size, by rw [hb.cell (p := ⟨b, off + i, none⟩) h1]; exact h2⟩
theorem Sl.elemUp {w0 w : World} {a : Option Addr} {α : Type} {f : α → List Value} {k : Nat} {l : List α} (h : Sl w0 w0.heap.size a (l.flatMap f)) (hb : Below w0.heap.size w0 w) (hk : ∀ x, (f x).length = k) (h0 : 0 < k) (i : Nat) (hi : i < l.length) :
  ∃ b off, a = some ⟨b, off, none⟩ ∧ b < w0.heap.size ∧ b < w.heap.size ∧ ∀ j v, (f l[i])[j]? = some v → w.cell? ⟨b, off + i * k + j, none⟩ = some v := by
 obtain ⟨b, off, he, h1, h2⟩ := h.elem hk h0 i hi
 exact ⟨b, off, he, h1, Nat.lt_of_lt_of_le h1 hb.size, fun j v hv => by rw [hb.cell (p := ⟨b, off + i * k + j, none⟩) h1]; exact h2 j v hv⟩
theorem flat_ne {α : Type} {f : α → List Value} {k : Nat} {l : List α} (hk : ∀ x, (f x).length = k) (h0 : 0 < k) (hl : l ≠ []) : l.flatMap f ≠ [] := by
 intro e
 have := flat_len f k hk l
 rw [e, List.length_nil] at this
 have : 0 < l.length * k := Nat.mul_pos (List.length_pos_iff.2 hl) h0
 omega
end Go.Proofs.YtdlnnkbigeiilaaGreat
namespace Go.Proofs.YtdlnnkbigeiilaaGreat
open Go.RowKit
def ClaimA.val (c : ClaimA) : Value := .agg #[.slice c.ab c.bases.length c.cb, .slice c.ai c.images.length c.ci]
theorem any_take_true {α : Type} {f : α → Bool} {l : List α} {i : Nat} (hi : i < l.length) (h : f l[i] = true) : l.any f = true := List.any_eq_true.2 ⟨l[i], List.getElem_mem hi, h⟩
theorem any_snoc {α : Type} {f : α → Bool} {l : List α} {i : Nat} (hi : i < l.length) (ht : (l.take i).any f = false) (h : f l[i] = false) : (l.take (i + 1)).any f = false := by
 rw [List.take_succ_eq_append_getElem hi, List.any_append, ht]
 simp [h]
theorem shape1_any (c : ClaimA) (b : Bool) (hb : cLong c = b) (w : World) : Calls Tryz.prog 166 #[c.val] w (Gives (.bool b) w) := by
 obtain ⟨n, hn⟩ : ∃ n, c.bases.length = n := ⟨_, rfl⟩
 obtain ⟨m, hm⟩ : ∃ m, c.images.length = m := ⟨_, rfl⟩
 have hbv : b = (decide (8 < n) || decide (8 < m)) := by rw [← hb, ← hn, ← hm]; rfl
 unfold ClaimA.val Gives
 rw [hn, hm]
 clear hn hm hb
 by_cases h1 : 8 < n
 ·have hd : decide ((n : Int) > 8) = true := by simp; omega
  obtain rfl : b = true := by rw [hbv]; simp [h1]
  clear hbv h1
  go_enter Tryz.func166, Tryz.ntmps166
  go_wp2_with fail
  obtain ⟨w1, hq1, hb9, hz9, Hbc⟩ := new1 w 50 [.slice c.ab n c.cb, .slice c.ai m c.ci]
  rw [hq1]
  clear hq1
  have HB := Lib.hid hb9
  have HZS := hz9
  clear hb9 hz9
  have bc_ := Hbc.out.c2
  go_wp2_with fail
  go_ret
  exact ⟨rfl, HB.out⟩
 ·have hd : decide ((n : Int) > 8) = false := by simp; omega
  by_cases h2 : 8 < m
  ·have hd2 : decide ((m : Int) > 8) = true := by simp; omega
   obtain rfl : b = true := by rw [hbv]; simp [h2]
   clear hbv h1 h2
   go_enter Tryz.func166, Tryz.ntmps166
   go_wp2_with fail
   obtain ⟨w1, hq1, hb9, hz9, Hbc⟩ := new1 w 50 [.slice c.ab n c.cb, .slice c.ai m c.ci]
   rw [hq1]
   clear hq1
   have HB := Lib.hid hb9
   have HZS := hz9
   clear hb9 hz9
   have bc_ := Hbc.out.c2
   go_wp2_with fail
   go_ret
   exact ⟨rfl, HB.out⟩
  ·have hd2 : decide ((m : Int) > 8) = false := by simp; omega
   obtain rfl : b = false := by rw [hbv]; simp [h1, h2]
   clear hbv h1 h2
   go_enter Tryz.func166, Tryz.ntmps166
   go_wp2_with fail
   obtain ⟨w1, hq1, hb9, hz9, Hbc⟩ := new1 w 50 [.slice c.ab n c.cb, .slice c.ai m c.ci]
   rw [hq1]
   clear hq1
   have HB := Lib.hid hb9
   have HZS := hz9
   clear hb9 hz9
   have bc_ := Hbc.out.c2
   go_wp2_with fail
   go_ret
   exact ⟨rfl, HB.out⟩
theorem shape2_any (c : ClaimA) (b : Bool) (hb : cForm c = b) (w : World) : Calls Tryz.prog 167 #[c.val] w (Gives (.bool b) w) := by
 obtain ⟨n, hn⟩ : ∃ n, c.bases.length = n := ⟨_, rfl⟩
 obtain ⟨m, hm⟩ : ∃ m, c.images.length = m := ⟨_, rfl⟩
 have hbv : b = (decide (n = 0) || decide (n ≠ m)) := by rw [← hb, ← hn, ← hm]; rfl
 unfold ClaimA.val Gives
 rw [hn, hm]
 clear hn hm hb
 by_cases h1 : n = 0
 ·have hd : ((n : Int) == 0) = true := by simp; omega
  obtain rfl : b = true := by rw [hbv]; simp [h1]
  clear hbv h1
  go_enter Tryz.func167, Tryz.ntmps167
  go_wp2_with fail
  obtain ⟨w1, hq1, hb9, hz9, Hbc⟩ := new1 w 50 [.slice c.ab n c.cb, .slice c.ai m c.ci]
  rw [hq1]
  clear hq1
  have HB := Lib.hid hb9
  have HZS := hz9
  clear hb9 hz9
  have bc_ := Hbc.out.c2
  go_wp2_with fail
  go_ret
  exact ⟨rfl, HB.out⟩
 ·have hd : ((n : Int) == 0) = false := by simp; omega
  by_cases h2 : n ≠ m
  ·have hd2 : ((n : Int) != (m : Int)) = true := by simp; omega
   obtain rfl : b = true := by rw [hbv]; simp [h2]
   clear hbv h1 h2
   go_enter Tryz.func167, Tryz.ntmps167
   go_wp2_with fail
   obtain ⟨w1, hq1, hb9, hz9, Hbc⟩ := new1 w 50 [.slice c.ab n c.cb, .slice c.ai m c.ci]
   rw [hq1]
   clear hq1
   have HB := Lib.hid hb9
   have HZS := hz9
   clear hb9 hz9
   have bc_ := Hbc.out.c2
   go_wp2_with fail
   go_ret
   exact ⟨rfl, HB.out⟩
  ·have hd2 : ((n : Int) != (m : Int)) = false := by simp; omega
   obtain rfl : b = false := by rw [hbv]; simp [h1]; omega
   clear hbv h1 h2
   go_enter Tryz.func167, Tryz.ntmps167
   go_wp2_with fail
   obtain ⟨w1, hq1, hb9, hz9, Hbc⟩ := new1 w 50 [.slice c.ab n c.cb, .slice c.ai m c.ci]
   rw [hq1]
   clear hq1
   have HB := Lib.hid hb9
   have HZS := hz9
   clear hb9 hz9
   have bc_ := Hbc.out.c2
   go_wp2_with fail
   go_ret
   exact ⟨rfl, HB.out⟩
theorem idxLong (l : List ClaimA) (al : Option Addr) (cl : Nat) (b : Bool) (hb : l.any cLong = b) (hl : l.length ≤ 64) (w : World) (hS : Sl w w.heap.size al (l.flatMap ClaimA.cells)) :
  Calls Tryz.prog 179 #[.slice al l.length cl, .func (.func 166) #[] #[]] w fun e w' => ∃ z : Int, e = .returned (.int .i64 z) ∧ decide (z ≥ 0) = b ∧ Below w.heap.size w w' := by
 have HS := Lib.hid hS
 have HBQ := Lib.hid hb
 clear hS hb
 go_enter Tryz.func179, Tryz.ntmps179
 go_wp2_with fail
 go_loopw [8] (fun i wr => ∃ j : Nat, j ≤ l.length ∧ i = .int .i64 j ∧ Hid (Below w.heap.size w wr) ∧ Hid ((l.take j).any cLong = false)) (fun i _ => l.length - (intOf i).toNat)
 case atStart => exact ⟨0, Nat.zero_le _, rfl, Below.refl _ _, rfl⟩
 case round =>
  obtain ⟨j, hj, rfl, HB, HAL⟩ := hrel
  by_cases hjl : j < l.length
  ·skip
   obtain ⟨bl, ol, rfl, hbl, hc⟩ := (HS.out.up HB.out).elem ClaimA.cells_len (by omega) j hjl
   have hc_0 := hc 0 _ rfl
   rw [Nat.add_zero] at hc_0
   have hc_1 := hc 1 _ rfl
   clear hc
   obtain ⟨bj, hbj⟩ : ∃ x, cLong l[j] = x := ⟨_, rfl⟩
   have HBJ := Lib.hid hbj
   clear hbj
   go_wp2_with fail
   refine (shape1_any l[j] bj HBJ.out wr).mono ?_
   rintro e w1 ⟨rfl, hb9⟩
   replace HB := hbu HB hb9
   have HZS := Lib.hid hb9.size
   clear hb9
   cases bj
   ·go_wp2_with fail
    go_roundw
    case rel => exact ⟨j + 1, by omega, by go_num, HB, any_snoc hjl HAL.out HBJ.out⟩
    case measure => simp [intOf]; omega
   ·go_wp2_with fail
    go_ret
    exact ⟨j, rfl, by rw [← HBQ.out, any_take_true hjl HBJ.out]; simp, HB.out⟩
  ·have hjn : j = l.length := by omega
   subst hjn
   go_wp2_with fail
   go_ret
   rw [List.take_length] at HAL
   exact ⟨-1, rfl, by rw [← HBQ.out, HAL.out]; rfl, HB.out⟩
theorem conLong (l : List ClaimA) (al : Option Addr) (cl : Nat) (b : Bool) (hb : l.any cLong = b) (hl : l.length ≤ 64) (w : World) (hS : Sl w w.heap.size al (l.flatMap ClaimA.cells)) :
  Calls Tryz.prog 165 #[.slice al l.length cl, .func (.func 166) #[] #[]] w (Gives (.bool b) w) := by
 have HS := Lib.hid hS
 have HBQ := Lib.hid hb
 clear hS hb
 unfold Gives
 go_enter Tryz.func165, Tryz.ntmps165
 go_wp2_with fail
 refine (idxLong l al cl b HBQ.out hl w HS.out).mono ?_
 rintro e w1 ⟨z, rfl, hz, hb9⟩
 have HB := Lib.hid hb9
 have HZS := Lib.hid hb9.size
 clear hb9
 go_wp2_with fail
 go_ret
 exact ⟨rfl, HB.out⟩
theorem idxForm (l : List ClaimA) (al : Option Addr) (cl : Nat) (b : Bool) (hb : l.any cForm = b) (hl : l.length ≤ 64) (w : World) (hS : Sl w w.heap.size al (l.flatMap ClaimA.cells)) :
  Calls Tryz.prog 179 #[.slice al l.length cl, .func (.func 167) #[] #[]] w fun e w' => ∃ z : Int, e = .returned (.int .i64 z) ∧ decide (z ≥ 0) = b ∧ Below w.heap.size w w' := by
 have HS := Lib.hid hS
 have HBQ := Lib.hid hb
 clear hS hb
 go_enter Tryz.func179, Tryz.ntmps179
 go_wp2_with fail
 go_loopw [8] (fun i wr => ∃ j : Nat, j ≤ l.length ∧ i = .int .i64 j ∧ Hid (Below w.heap.size w wr) ∧ Hid ((l.take j).any cForm = false)) (fun i _ => l.length - (intOf i).toNat)
 case atStart => exact ⟨0, Nat.zero_le _, rfl, Below.refl _ _, rfl⟩
 case round =>
  obtain ⟨j, hj, rfl, HB, HAL⟩ := hrel
  by_cases hjl : j < l.length
  ·skip
   obtain ⟨bl, ol, rfl, hbl, hc⟩ := (HS.out.up HB.out).elem ClaimA.cells_len (by omega) j hjl
   have hc_0 := hc 0 _ rfl
   rw [Nat.add_zero] at hc_0
   have hc_1 := hc 1 _ rfl
   clear hc
   obtain ⟨bj, hbj⟩ : ∃ x, cForm l[j] = x := ⟨_, rfl⟩
   have HBJ := Lib.hid hbj
   clear hbj
   go_wp2_with fail
   refine (shape2_any l[j] bj HBJ.out wr).mono ?_
   rintro e w1 ⟨rfl, hb9⟩
   replace HB := hbu HB hb9
   have HZS := Lib.hid hb9.size
   clear hb9
   cases bj
   ·go_wp2_with fail
    go_roundw
    case rel => exact ⟨j + 1, by omega, by go_num, HB, any_snoc hjl HAL.out HBJ.out⟩
    case measure => simp [intOf]; omega
   ·go_wp2_with fail
    go_ret
    exact ⟨j, rfl, by rw [← HBQ.out, any_take_true hjl HBJ.out]; simp, HB.out⟩
  ·have hjn : j = l.length := by omega
   subst hjn
   go_wp2_with fail
   go_ret
   rw [List.take_length] at HAL
   exact ⟨-1, rfl, by rw [← HBQ.out, HAL.out]; rfl, HB.out⟩
theorem conForm (l : List ClaimA) (al : Option Addr) (cl : Nat) (b : Bool) (hb : l.any cForm = b) (hl : l.length ≤ 64) (w : World) (hS : Sl w w.heap.size al (l.flatMap ClaimA.cells)) :
  Calls Tryz.prog 165 #[.slice al l.length cl, .func (.func 167) #[] #[]] w (Gives (.bool b) w) := by
 have HS := Lib.hid hS
 have HBQ := Lib.hid hb
 clear hS hb
 unfold Gives
 go_enter Tryz.func165, Tryz.ntmps165
 go_wp2_with fail
 refine (idxForm l al cl b HBQ.out hl w HS.out).mono ?_
 rintro e w1 ⟨z, rfl, hz, hb9⟩
 have HB := Lib.hid hb9
 have HZS := Lib.hid hb9.size
 clear hb9
 go_wp2_with fail
 go_ret
 exact ⟨rfl, HB.out⟩
theorem shape_any (l : List ClaimA) (al : Option Addr) (cl : Nat) (w : World) (hS : Sl w w.heap.size al (l.flatMap ClaimA.cells)) :
  Calls Tryz.prog 142 #[.slice al l.length cl] w (Gives (.int .i64 (shapeE l : Int)) w) := by
 have HS := Lib.hid hS
 clear hS
 obtain ⟨z, hz⟩ : ∃ z, shapeE l = z := ⟨_, rfl⟩
 obtain ⟨b1, hb1⟩ : ∃ b, l.any cLong = b := ⟨_, rfl⟩
 obtain ⟨b2, hb2⟩ : ∃ b, l.any cForm = b := ⟨_, rfl⟩
 have HB1 := Lib.hid hb1
 have HB2 := Lib.hid hb2
 have hzz : z = if (decide (64 < l.length) || b1) = true then 3 else if (decide (l.length = 0) || b2) = true then 2 else 0 := by rw [← hz, ← hb1, ← hb2]; rfl
 rw [hz]
 clear hz hb1 hb2
 unfold Gives
 by_cases h1 : 64 < l.length
 ·have hd : decide ((l.length : Int) > 64) = true := by simp; omega
  obtain rfl : z = 3 := by rw [hzz]; simp [h1]
  clear hzz h1
  go_enter Tryz.func142, Tryz.ntmps142
  go_wp2_with fail
  go_ret
  exact ⟨rfl, Below.refl _ _⟩
 have hd : decide ((l.length : Int) > 64) = false := by simp; omega
 cases b1
 case true =>
  obtain rfl : z = 3 := by rw [hzz]; simp
  clear hzz
  go_enter Tryz.func142, Tryz.ntmps142
  go_wp2_with fail
  refine (conLong l al cl true HB1.out (by omega) w HS.out).mono ?_
  rintro e w1 ⟨rfl, hb9⟩
  have HB := Lib.hid hb9
  have HZS := Lib.hid hb9.size
  clear hb9
  go_wp2_with fail
  go_ret
  exact ⟨rfl, HB.out⟩
 by_cases h2 : l.length = 0
 ·have hd2 : ((l.length : Int) == 0) = true := by rw [beq_iff_eq]; omega
  obtain rfl : z = 2 := by rw [hzz]; simp [h2]
  clear hzz h2
  go_enter Tryz.func142, Tryz.ntmps142
  go_wp2_with fail
  refine (conLong l al cl false HB1.out (by omega) w HS.out).mono ?_
  rintro e w1 ⟨rfl, hb9⟩
  have HB := Lib.hid hb9
  have HZS := Lib.hid hb9.size
  clear hb9
  go_wp2_with fail
  go_ret
  exact ⟨rfl, HB.out⟩
 have hd2 : ((l.length : Int) == 0) = false := by rw [beq_eq_false_iff_ne]; omega
 cases b2
 case true =>
  obtain rfl : z = 2 := by rw [hzz]; simp [h1, h2]
  clear hzz h2
  go_enter Tryz.func142, Tryz.ntmps142
  go_wp2_with fail
  refine (conLong l al cl false HB1.out (by omega) w HS.out).mono ?_
  rintro e w1 ⟨rfl, hb9⟩
  have HB := Lib.hid hb9
  have HZS := Lib.hid hb9.size
  clear hb9
  go_wp2_with fail
  refine (conForm l al cl true HB2.out (by omega) w1 (HS.out.up HB.out)).mono ?_
  rintro e w2 ⟨rfl, hb9⟩
  replace HB := hbu HB hb9
  replace HZS := sz HZS hb9.size
  clear hb9
  go_wp2_with fail
  go_ret
  exact ⟨rfl, HB.out⟩
 case false =>
  obtain rfl : z = 0 := by rw [hzz]; simp [h1, h2]
  clear hzz h2
  go_enter Tryz.func142, Tryz.ntmps142
  go_wp2_with fail
  refine (conLong l al cl false HB1.out (by omega) w HS.out).mono ?_
  rintro e w1 ⟨rfl, hb9⟩
  have HB := Lib.hid hb9
  have HZS := Lib.hid hb9.size
  clear hb9
  go_wp2_with fail
  refine (conForm l al cl false HB2.out (by omega) w1 (HS.out.up HB.out)).mono ?_
  rintro e w2 ⟨rfl, hb9⟩
  replace HB := hbu HB hb9
  replace HZS := sz HZS hb9.size
  clear hb9
  go_wp2_with fail
  go_ret
  exact ⟨rfl, HB.out⟩
end Go.Proofs.YtdlnnkbigeiilaaGreat
namespace Go.Proofs.YtdlnnkbigeiilaaGreat
open Go.RowKit
section
variable {P : Program} {ops : Array Oper} {S : World → Prop} {Q : Exit → Act → World → Prop} {k : Nat} {md : Region.Mode}
def wpAnyK (P : Program) (md : Region.Mode) (ops : Array Oper) (Q : Exit → Act → World → Prop) (S : World → Prop) (k : Nat) : Nat → Array Bool → Act → World → Prop
 | 0, listed, a, w => Region.ready md ops listed = [] ∧ Q .normal a w
 | fuel + 1, listed, a, w =>
  (Region.ready md ops listed = [] → Q .normal a w) ∧
  ∀ i ∈ Region.ready md ops listed, wpOp P ops Q i (fun a' w' => ((listed.setIfInBounds i true).getD k false = false → S w') ∧ wpAnyK P md ops Q S k fuel (listed.setIfInBounds i true) a' w') a w
theorem any_of_K : ∀ (fuel : Nat) (listed : Array Bool) (a : Act) (w : World), wpAnyK P md ops Q S k fuel listed a w → wpAny P md ops Q fuel listed a w
 | 0, _, _, _, h => h
 | fuel + 1, _, _, _, h => ⟨h.1, fun i hi => wpOp_mono (fun a' w' h' => any_of_K fuel _ a' w' h'.2) (h.2 i hi)⟩
theorem anyK_first {SS : World → Prop} (C : Array Bool → Prop) {i : Nat} {oi : Oper} {v : Value} (hi : ops[i]? = some oi) (hik : i ≠ k) (hsel : ∀ (j : Nat) (o : Oper) cs b, ops[j]? = some o → o.op ≠ .select cs b)
  (hQ : ∀ c a w, Q (.panic c) (a.put oi.dst v) w → Q (.panic c) a w)
  (hstep : ∀ listed j, C listed → i ∈ Region.ready md ops listed → j ∈ Region.ready md ops listed → j ≠ i → C (listed.setIfInBounds j true))
  (hSS : ∀ listed w, C listed → (listed.getD k false = false → S w) → SS w) :
  ∀ (fuel : Nat) (listed : Array Bool) (a : Act) (w : World),
   (∀ j oj, ops[j]? = some oj → j ≠ i → listed.getD j true = false → (∀ e ∈ oj.after, Region.binds md e = true → e.on ≠ i) → oi.apart ops oj = true) →
   i ∈ Region.ready md ops listed → C listed → YieldsIf P ops SS oi v a → (listed.getD k false = false → S w) →
   wpAnyK P md ops Q S k fuel (listed.setIfInBounds i true) (a.put oi.dst v) w → wpAnyK P md ops Q S k (fuel + 1) listed a w := by
 intro fuel
 induction fuel with
 | zero =>
  intro listed a w _ hr hC hy hS H
  refine ⟨fun h => (by rw [h] at hr; cases hr), fun j hj => ?_⟩
  by_cases hji : j = i
  ·subst hji; exact hy.wpOp hi (hSS listed w hC hS) ⟨fun h => hS (by rwa [getD_set_ne false hik] at h), H⟩
  ·have := ready_mono hj hji
   rw [H.1] at this
   cases this
 | succ fuel ih =>
  intro listed a w hfree hr hC hy hS H
  refine ⟨fun h => (by rw [h] at hr; cases hr), fun j hj => ?_⟩
  by_cases hji : j = i
  ·subst hji; exact hy.wpOp hi (hSS listed w hC hS) ⟨fun h => hS (by rwa [getD_set_ne false hik] at h), H⟩
  ·have h1 := H.2 j (ready_mono hj hji)
   obtain ⟨hjun, oj, hoj, hall⟩ := mem_ready.1 hj
   have hnot : ∀ e ∈ oj.after, Region.binds md e = true → e.on ≠ i := fun e he hb heq => by
    have h1 := hall e he hb
    have h0 := (mem_ready.1 hr).1
    rw [heq] at h1
    rcases Nat.lt_or_ge i listed.size with h' | h'
    ·simp [h'] at h0 h1; rw [h0] at h1; cases h1
    ·simp [Array.getElem?_eq_none h'] at h1
   have h2 := wpOp_putIf hoj (hfree j oj hoj hji hjun hnot) (fun cs b => hsel i oi cs b hi) (fun cs b => hsel j oj cs b hoj) hQ hy h1
   have hfree' : ∀ m om, ops[m]? = some om → m ≠ i → (listed.setIfInBounds j true).getD m true = false →
     (∀ e ∈ om.after, Region.binds md e = true → e.on ≠ i) → oi.apart ops om = true := fun m om hm hmi hun hno => by
    refine hfree m om hm hmi ?_ hno
    by_cases hjm : j = m
    ·subst hjm; exact hjun
    ·rw [getD_set_ne true hjm] at hun; exact hun
   have hkk : ((listed.setIfInBounds i true).setIfInBounds j true).getD k false = (listed.setIfInBounds j true).getD k false := by
    rw [Array.setIfInBounds_comm _ _ (Ne.symm hji), getD_set_ne false hik]
   have hr' := ready_mono hr (Ne.symm hji)
   refine wpOp_mono (fun a' w' h3 => ?_) h2
   have hS' : (listed.setIfInBounds j true).getD k false = false → S w' := fun h => h3.2.1 (by rw [hkk]; exact h)
   refine ⟨hS', ih (listed.setIfInBounds j true) a' w' hfree' hr' (hstep listed j hC hr hj hji) h3.1 hS' ?_⟩
   rw [Array.setIfInBounds_comm _ _ hji]
   exact h3.2.2
def chainB (md : Region.Mode) (ops : Array Oper) : Nat → List Nat → Bool
 | _, [] => true
 | i, j :: l => (match ops[j]? with | some o => o.after.any (fun e => Region.binds md e && e.on == i) | none => false) && chainB md ops j l
theorem chain_step {i j : Nat} {l : List Nat} {listed : Array Bool} : ∀ (i : Nat) (l : List Nat), chainB md ops i l = true → listed.getD i true = false → (∀ c ∈ l, listed.getD c true = false) → j ∈ Region.ready md ops listed → j ∉ l
 | _, [], _, _, _, _ => by simp
 | i, c :: l, hB, h0, hl, hj => by
  simp only [chainB, Bool.and_eq_true] at hB
  have ih := chain_step (listed := listed) (j := j) (i := i) (l := l) c l hB.2 (hl c (by simp)) (fun d hd => hl d (by simp [hd])) hj
  intro hm
  rcases List.mem_cons.1 hm with rfl | hm
  ·obtain ⟨_, o, ho, hall⟩ := mem_ready.1 hj
   have hB1 := hB.1
   rw [ho] at hB1
   simp only [Array.any_eq_true', Bool.and_eq_true, beq_iff_eq] at hB1
   obtain ⟨e, he, hb, hon⟩ := hB1
   have h1 := hall e he hb
   rw [hon] at h1
   rcases Nat.lt_or_ge i listed.size with h' | h'
   ·simp [h'] at h0 h1; rw [h0] at h1; cases h1
   ·simp [Array.getElem?_eq_none h'] at h1
  ·exact ih hm
inductive TreeK where
 | done : TreeK
 | q : Nat → TreeK → TreeK
 | e : Nat → List Nat → TreeK → TreeK
 | a : Nat → TreeK → TreeK
 | z : Nat → TreeK → TreeK
 | two : Nat → TreeK → Nat → TreeK → TreeK
def TreeK.qs : List Nat → TreeK → TreeK
 | [], t => t
 | i :: l, t => .q i (TreeK.qs l t)
def TreeK.size : TreeK → Nat
 | .done => 0
 | .q _ r => r.size + 1
 | .e _ _ r => r.size + 1
 | .a _ r => r.size + 1
 | .z _ r => r.size + 1
 | .two _ r _ _ => r.size + 1
def wpTreeK (P : Program) (ops : Array Oper) (S : World → Prop) (Q : Exit → Act → World → Prop) (k : Nat) : TreeK → Act → World → Prop
 | .done, a, w => Q .normal a w
 | .q i r, a, w => match ops[i]? with
  | none => False
  | some o => easyOp o = true ∧ wpQuiet P ops (fun _ => True) (fun a' => wpTreeK P ops S Q k r a' w) [o] a
 | .e i _ r, a, w => match ops[i]? with
  | none => False
  | some o => easyOp o = true ∧ wpQuiet P ops S (fun a' => wpTreeK P ops S Q k r a' w) [o] a
 | .a i r, a, w => wpOp P ops Q i (fun a' w' => (i ≠ k → S w') ∧ wpTreeK P ops S Q k r a' w') a w
 | .z i r, a, w => wpOp P ops Q i (fun a' w' => wpTreeK P ops S Q k r a' w') a w
 | .two i r j s, a, w => wpOp P ops Q i (fun a' w' => (i ≠ k → S w') ∧ wpTreeK P ops S Q k r a' w') a w ∧ wpOp P ops Q j (fun a' w' => (j ≠ k → S w') ∧ wpTreeK P ops S Q k s a' w') a w
def treeKB (md : Region.Mode) (ops : Array Oper) (k : Nat) : TreeK → Array Bool → Bool
 | .done, listed => (Region.ready md ops listed).isEmpty
 | .q i r, listed => (Region.ready md ops listed).contains i && Region.free md ops listed i && !(i == k) && treeKB md ops k r (listed.setIfInBounds i true)
 | .e i ch r, listed => (Region.ready md ops listed).contains i && Region.free md ops listed i && !(i == k) && chainB md ops i (ch ++ [k]) && (ch ++ [k]).all (fun c => !listed.getD c true) && !(i ∈ ch ++ [k]) && treeKB md ops k r (listed.setIfInBounds i true)
 | .a i r, listed => decide (Region.ready md ops listed = [i]) && treeKB md ops k r (listed.setIfInBounds i true)
 | .z i r, listed => decide (Region.ready md ops listed = [i]) && listed.getD k false && !(i == k) && treeKB md ops k r (listed.setIfInBounds i true)
 | .two i r j s, listed => decide (Region.ready md ops listed = [i, j]) && decide (r.size = s.size) && treeKB md ops k r (listed.setIfInBounds i true) && treeKB md ops k s (listed.setIfInBounds j true)
theorem listed_k {listed : Array Bool} {i : Nat} (hi : i ∈ Region.ready md ops listed) {w' : World} (h : i ≠ k → S w') : (listed.setIfInBounds i true).getD k false = false → S w' := by
 intro h9
 refine h (fun e => ?_)
 subst e
 have h0 := (mem_ready.1 hi).1
 rcases Nat.lt_or_ge i listed.size with h' | h'
 ·simp [h'] at h9
 ·simp [h'] at h0
theorem K_of_tree (hsel : Region.noSelect ops = true) (hQ : ∀ c a d v w, Q (.panic c) (a.put d v) w → Q (.panic c) a w) :
  ∀ (t : TreeK) (listed : Array Bool) (a : Act) (w : World), (listed.getD k false = false → S w) → treeKB md ops k t listed = true → wpTreeK P ops S Q k t a w → wpAnyK P md ops Q S k t.size listed a w
 | .done, listed, a, w, _, hB, h => ⟨by simpa [treeKB] using hB, h⟩
 | .q i r, listed, a, w, hS, hB, h => by
  unfold wpTreeK at h
  split at h
  ·cases h
  ·rename_i o ho
   obtain ⟨hp, hq⟩ := h
   obtain ⟨v, hy, hK⟩ := yieldsIf_easy hp hq
   simp only [treeKB, Bool.and_eq_true, Bool.not_eq_true', beq_eq_false_iff_ne] at hB
   exact anyK_first (fun _ => True) ho hB.1.2 (Region.noSelect_spec hsel) (fun c a w hq => hQ c a _ _ w hq) (fun _ _ _ _ _ _ => trivial) (fun _ _ _ _ => trivial) _ listed a w (Region.free_spec ho hB.1.1.2) (by simpa using hB.1.1.1) trivial hy hS
    (K_of_tree hsel hQ r _ _ w (fun h9 => hS (by rwa [getD_set_ne false hB.1.2] at h9)) hB.2 hK)
 | .e i ch r, listed, a, w, hS, hB, h => by
  unfold wpTreeK at h
  split at h
  ·cases h
  ·rename_i o ho
   obtain ⟨hp, hq⟩ := h
   obtain ⟨v, hy, hK⟩ := yieldsIf_easy hp hq
   simp only [treeKB, Bool.and_eq_true, Bool.not_eq_true', beq_eq_false_iff_ne, List.all_eq_true, decide_eq_false_iff_not] at hB
   obtain ⟨⟨⟨⟨⟨⟨h1, h2⟩, h3⟩, h4⟩, h5⟩, h6⟩, h7⟩ := hB
   refine anyK_first (SS := S) (fun l => ∀ c ∈ ch ++ [k], l.getD c true = false) ho h3 (Region.noSelect_spec hsel) (fun c a w hq => hQ c a _ _ w hq) ?_ ?_ _ listed a w (Region.free_spec ho h2) (by simpa using h1) h5 hy hS
    (K_of_tree hsel hQ r _ _ w (fun h9 => hS (by rwa [getD_set_ne false h3] at h9)) h7 hK)
   ·intro l j hC hr hj hji c hc
    have hn := chain_step (i := i) (l := ch) (j := j) i (ch ++ [k]) h4 (mem_ready.1 hr).1 hC hj
    rw [getD_set_ne true (fun e => hn (by rw [e]; exact hc))]
    exact hC c hc
   ·intro l w' hC h9
    refine h9 ?_
    have := hC k (by simp)
    rcases Nat.lt_or_ge k l.size with h' | h'
    ·simp [h'] at this ⊢; exact this
    ·simp [h'] at this
 | .a i r, listed, a, w, hS, hB, h => by
  simp only [treeKB, Bool.and_eq_true, decide_eq_true_eq] at hB
  unfold wpTreeK at h
  refine ⟨fun h9 => (by rw [hB.1] at h9; cases h9), fun j hj => ?_⟩
  have hj' : j = i := by rw [hB.1] at hj; simpa using hj
  subst hj'
  exact wpOp_mono (fun a' w' ⟨hS', h'⟩ => ⟨listed_k hj hS', K_of_tree hsel hQ r _ a' w' (listed_k hj hS') hB.2 h'⟩) h
 | .z i r, listed, a, w, hS, hB, h => by
  simp only [treeKB, Bool.and_eq_true, decide_eq_true_eq, Bool.not_eq_true', beq_eq_false_iff_ne] at hB
  unfold wpTreeK at h
  refine ⟨fun h9 => (by rw [hB.1.1.1] at h9; cases h9), fun j hj => ?_⟩
  have hj' : j = i := by rw [hB.1.1.1] at hj; simpa using hj
  subst hj'
  have hk : ∀ W : World, (listed.setIfInBounds j true).getD k false = false → S W := fun W h9 => by
   rw [getD_set_ne false hB.1.2, hB.1.1.2] at h9
   cases h9
  exact wpOp_mono (fun a' w' h' => ⟨hk w', K_of_tree hsel hQ r _ a' w' (hk w') hB.2 h'⟩) h
 | .two i r j s, listed, a, w, hS, hB, h => by
  simp only [treeKB, Bool.and_eq_true, decide_eq_true_eq] at hB
  obtain ⟨⟨⟨h1, h2⟩, h3⟩, h4⟩ := hB
  unfold wpTreeK at h
  refine ⟨fun h9 => (by rw [h1] at h9; cases h9), fun m hm => ?_⟩
  rcases (by rw [h1] at hm; simpa using hm : m = i ∨ m = j) with rfl | rfl
  ·exact wpOp_mono (fun a' w' ⟨hS', h'⟩ => ⟨listed_k hm hS', K_of_tree hsel hQ r _ a' w' (listed_k hm hS') h3 h'⟩) h.1
  ·exact wpOp_mono (fun a' w' ⟨hS', h'⟩ => ⟨listed_k hm hS', by rw [h2]; exact K_of_tree hsel hQ s _ a' w' (listed_k hm hS') h4 h'⟩) h.2
theorem wp_region_treek {id : Nat} {a : Act} {w : World} {l : List Oper} (S : World → Prop) (k : Nat) (t : TreeK) (hm : P.follows .mixedOrders = true)
  (hB : (Region.noSelect l.toArray && decide (t.size = l.toArray.size) && treeKB .any l.toArray k t (Array.replicate l.toArray.size false)) = true)
  (hQ : ∀ c a d v w, Q (.panic c) (a.put d v) w → Q (.panic c) a w) (hS : S w.drew) (h : wpTreeK P l.toArray S Q k t a w.drew) : (Code.region id l.toArray true).wp P Q a w := by
 simp only [Bool.and_eq_true, decide_eq_true_eq] at hB
 refine wp_region_any hm (any_of_K (S := S) (k := k) _ _ _ _ ?_)
 have := K_of_tree hB.1.1 hQ t _ a _ (fun _ => hS) hB.2 h
 rw [hB.1.2] at this
 exact this
theorem treek_q {l : List Oper} {i : Nat} {r : TreeK} {o : Oper} {a : Act} {w : World} (ho : l[i]? = some o) (hp : easyOp o = true) (h : wpQuiet P l.toArray (fun _ => True) (fun a' => wpTreeK P l.toArray S Q k r a' w) [o] a) :
  wpTreeK P l.toArray S Q k (.q i r) a w := by
 unfold wpTreeK
 rw [List.getElem?_toArray, ho]
 exact ⟨hp, h⟩
theorem treek_e {l ch : List _} {i : Nat} {r : TreeK} {o : Oper} {a : Act} {w : World} (ho : l[i]? = some o) (hp : easyOp o = true) (h : wpQuiet P l.toArray S (fun a' => wpTreeK P l.toArray S Q k r a' w) [o] a) :
  wpTreeK P l.toArray S Q k (.e i ch r) a w := by
 unfold wpTreeK
 rw [List.getElem?_toArray, ho]
 exact ⟨hp, h⟩
theorem treek_a {l : List Oper} {i : Nat} {r : TreeK} {o : Oper} {a : Act} {w : World} (ho : l[i]? = some o)
  (h : ∀ K : Act → World → Prop, (∀ a w, (i ≠ k → S w) ∧ wpTreeK P l.toArray S Q k r a w → K a w) → if Region.wanted o (yielded l.toArray a.tmps) = true then Oper.wp P o a w K Q else K (a.put o.dst undef) w) :
  wpTreeK P l.toArray S Q k (.a i r) a w := by
 unfold wpTreeK
 exact wpOp_step (by rw [List.getElem?_toArray, ho]) h
theorem treek_end {a : Act} {w : World} (h : Q .normal a w) : wpTreeK P ops S Q k .done a w := h
end
end Go.Proofs.YtdlnnkbigeiilaaGreat
namespace Go.Proofs.YtdlnnkbigeiilaaGreat
open Go.RowKit
structure ClaimR where
 k : ClaimA
 pb : Nat
 po : Nat
 bb : Nat
 bo : Nat
 bc : Nat
 ib : Nat
 io : Nat
 ic : Nat
def ClaimR.cells (r : ClaimR) : List Value := [.pointer (some ⟨r.pb, r.po, none⟩), .slice (some ⟨r.bb, r.bo, none⟩) r.k.bases.length r.bc, .slice (some ⟨r.ib, r.io, none⟩) r.k.images.length r.ic]
theorem ClaimR.cells_len (r : ClaimR) : r.cells.length = 3 := rfl
structure ClaimR.At (G : GP) (w : World) (r : ClaimR) : Prop where
 b : Sl w w.heap.size (some ⟨r.bb, r.bo, none⟩) (r.k.bases.flatMap (limC G.p.m))
 i : Sl w w.heap.size (some ⟨r.ib, r.io, none⟩) (r.k.images.flatMap (limC G.p.m))
 bl : r.bb < w.heap.size
 il : r.ib < w.heap.size
structure ClaimR.Src (w : World) (r : ClaimR) : Prop where
 c : ∀ j v, r.k.cells[j]? = some v → w.cell? ⟨r.pb, r.po + j, none⟩ = some v
 l : r.pb < w.heap.size
 k : ClaimA.At w r.k
theorem ClaimR.At.up {G : GP} {w w' : World} {r : ClaimR} (h : r.At G w) (hb : Below w.heap.size w w') : r.At G w' := ⟨h.b.up hb, h.i.up hb, Nat.lt_of_lt_of_le h.bl hb.size, Nat.lt_of_lt_of_le h.il hb.size⟩
theorem ClaimR.At.keptP {G : GP} {P : Nat → Prop} {w w' : World} {r : ClaimR} (h : r.At G w) (hk : Kept P w w') (h1 : ¬ P r.bb) (h2 : ¬ P r.ib) : r.At G w' :=
 ⟨h.b.kept hk (fun x e => by cases e; exact h1), h.i.kept hk (fun x e => by cases e; exact h2), Nat.lt_of_lt_of_le h.bl hk.size, Nat.lt_of_lt_of_le h.il hk.size⟩
theorem ClaimR.Src.up {w w' : World} {r : ClaimR} (h : r.Src w) (hb : Below w.heap.size w w') : r.Src w' :=
 ⟨fun j v hv => by rw [hb.cell (p := ⟨r.pb, r.po + j, none⟩) h.l]; exact h.c j v hv, Nat.lt_of_lt_of_le h.l hb.size, h.k.up hb⟩
structure SetAt (G : GP) (w : World) (a : Option Addr) (rs : List ClaimR) : Prop where
 s : Sl w w.heap.size a (rs.flatMap ClaimR.cells)
 e : ∀ r ∈ rs, r.At G w
theorem SetAt.up {G : GP} {w w' : World} {a : Option Addr} {rs : List ClaimR} (h : SetAt G w a rs) (hb : Below w.heap.size w w') : SetAt G w' a rs := ⟨h.s.up hb, fun r hr => (h.e r hr).up hb⟩
def RsP (bl ol : Nat) (rs : List ClaimR) : Prop := ∀ i (h : i < rs.length), rs[i].pb = bl ∧ rs[i].po = ol + i * 2
structure SetNew (n : Nat) (a : Option Addr) (rs : List ClaimR) : Prop where
 a : ∀ x, a = some x → n ≤ x.block
 e : ∀ r ∈ rs, n ≤ r.bb ∧ n ≤ r.ib
theorem SetNew.mono {n m : Nat} {a : Option Addr} {rs : List ClaimR} (h : SetNew n a rs) (hm : m ≤ n) : SetNew m a rs := ⟨fun x hx => Nat.le_trans hm (h.a x hx), fun r hr => ⟨Nat.le_trans hm (h.e r hr).1, Nat.le_trans hm (h.e r hr).2⟩⟩
def set0 : Value := .agg #[.pointer none, .slice none 0 0]
def ReadSet (G : GP) (gb : Nat) (al : Option Addr) (l : List ClaimA) (w : World) (e : Ending) (w' : World) : Prop :=
 Below w.heap.size w w' ∧ if wrongE G l = 0 then ∃ rs a c, e = .returned (.tuple #[.agg #[.pointer (some ⟨gb, 0, none⟩), .slice a rs.length c], .int .i64 0]) ∧ rs.map ClaimR.k = l ∧ SetAt G w' a rs ∧ SetNew w.heap.size a rs ∧ (∃ bl ol, al = some ⟨bl, ol, none⟩ ∧ RsP bl ol rs) else e = .returned (.tuple #[set0, .int .i64 (wrongE G l : Int)])
theorem infoClaim : (Tryz.prog.info? 154).map (fun i => (i.zero, i.size, i.bytes)) = some (some (.agg #[.pointer none, .slice none 0 0, .slice none 0 0]), 3, 56) := by kernel_rfl
theorem cElems_eq (G : GP) (c : ClaimA) {b1 b2 : Bool} (h1 : c.bases.all (isEl G.q.m G.size) = b1) (h2 : c.images.all (isEl G.q.m G.size) = b2) : cElems G c = (b1 && b2) := by unfold cElems; rw [h1, h2]
theorem RowO.own_le {N n c k size : Nat} {w : World} {e : TypeId} {a : Option Addr} {xs : List Value} {x : Addr} (h : RowO N w e size (.slice a k c) n xs) (hx : a = some x) : N ≤ x.block := by
 rcases h.2 with ⟨hv, _⟩ | ⟨g, cap, cur, hv, hN, _⟩
 ·simp only [Value.slice.injEq] at hv
  rw [hv.1] at hx
  cases hx
 ·simp only [Value.slice.injEq] at hv
  rw [hv.1] at hx
  cases hx
  exact hN
def RsOk (G : GP) (w : World) (v : Value) (B : Nat) (rs : List ClaimR) : Prop := ∀ r ∈ rs, r.At G w ∧ v.ownBlock ≠ some r.bb ∧ v.ownBlock ≠ some r.ib ∧ B ≤ r.bb ∧ B ≤ r.ib
theorem RsOk.snoc {G : GP} {w0 wn w w' : World} {v : Value} {g n c B bs : Nat} {rs : List ClaimR} {r : ClaimR} (h : RsOk G w0 v B rs) (hk : Kept (fun q => q = bs ∨ v.ownBlock = some q) w0 w') (hB : bs < B)
  (hr : r.At G wn) (hk2 : Kept (fun q => q = bs ∨ v.ownBlock = some q) wn w') (h1 : B ≤ r.bb) (h2 : B ≤ r.ib) (h3 : v.ownBlock ≠ some r.bb) (h4 : v.ownBlock ≠ some r.ib)
  (hf : v.ownBlock = some g ∨ w.heap.size ≤ g) (hw0 : w0.heap.size ≤ w.heap.size) (hwn : wn.heap.size ≤ w.heap.size) : RsOk G w' (.slice (some ⟨g, 0, none⟩) n c) B (rs ++ [r]) := by
 have key : ∀ (x : World) (s : ClaimR), s.At G x → x.heap.size ≤ w.heap.size → Kept (fun q => q = bs ∨ v.ownBlock = some q) x w' → v.ownBlock ≠ some s.bb → v.ownBlock ≠ some s.ib → B ≤ s.bb → B ≤ s.ib → s.At G w' ∧ (Value.slice (some ⟨g, 0, none⟩) n c).ownBlock ≠ some s.bb ∧ (Value.slice (some ⟨g, 0, none⟩) n c).ownBlock ≠ some s.ib ∧ B ≤ s.bb ∧ B ≤ s.ib := by
  intro x s a1 a2 a3 a4 a5 a6 a7
  refine ⟨a1.keptP a3 (fun e => e.elim (fun e => by omega) (fun e => a4 e)) (fun e => e.elim (fun e => by omega) (fun e => a5 e)), fun e => ?_, fun e => ?_, a6, a7⟩
  ·have e : g = s.bb := Option.some.inj e
   rcases hf with hf | hf
   ·exact a4 (by rw [hf, e])
   ·have := a1.bl; omega
  ·have e : g = s.ib := Option.some.inj e
   rcases hf with hf | hf
   ·exact a5 (by rw [hf, e])
   ·have := a1.il; omega
 intro s hs
 rcases List.mem_append.1 hs with hs | hs
 ·obtain ⟨b1, b2, b3, b4, b5⟩ := h s hs
  exact key w0 s b1 hw0 hk b2 b3 b4 b5
 ·obtain rfl := List.mem_singleton.1 hs
  exact key wn s hr hwn hk2 h3 h4 h1 h2
theorem RsP.snoc {bl ol j : Nat} {rs : List ClaimR} {r : ClaimR} (h : RsP bl ol rs) (hl : rs.length = j) (h1 : r.pb = bl) (h2 : r.po = ol + j * 2) : RsP bl ol (rs ++ [r]) := by
 intro i hi
 by_cases h9 : i < rs.length
 ·rw [List.getElem_append_left h9]; exact h i h9
 ·have : i = rs.length := by simp at hi; omega
  subst this
  rw [List.getElem_append_right (Nat.le_refl _)]
  simp only [Nat.sub_self, List.getElem_singleton]
  exact ⟨h1, by rw [h2, hl]⟩
theorem src_all {rs : List ClaimR} {l : List ClaimA} {bl ol : Nat} {w : World} (hk : rs.map ClaimR.k = l) (hp : RsP bl ol rs) (hC : ClaimsAt w (some ⟨bl, ol, none⟩) l) : ∀ r ∈ rs, r.Src w := by
 subst hk
 intro r hr
 obtain ⟨i, hi, rfl⟩ := List.getElem_of_mem hr
 obtain ⟨h1, h2⟩ := hp i hi
 obtain ⟨h3, h4⟩ := hC.s.elemS ClaimA.cells_len (by omega) i (by simpa using hi)
 rw [List.getElem_map] at h4
 exact ⟨fun j v hv => by rw [h1, h2]; exact h4 j v hv, by rw [h1]; exact h3, hC.e _ (List.mem_map.2 ⟨_, List.getElem_mem hi, rfl⟩)⟩
theorem wrong_elems {G : GP} {l : List ClaimA} (hz : shapeE l = 0) : (l.all (cElems G) = true → wrongE G l = 0) ∧ (l.all (cElems G) = false → wrongE G l = 7) := by
 unfold wrongE
 rw [if_neg (by rw [hz]; decide)]
 exact ⟨fun h => if_pos h, fun h => if_neg (by rw [h]; decide)⟩
theorem read_shape (gb : Nat) (l : List ClaimA) (z : Nat) (hz : shapeE l = z) (h0 : z ≠ 0) (al : Option Addr) (cl : Nat) (w : World) (hS : Sl w w.heap.size al (l.flatMap ClaimA.cells)) :
  Calls Tryz.prog 92 #[.pointer (some ⟨gb, 0, none⟩), .slice al l.length cl] w (Gives (.tuple #[set0, .int .i64 (z : Int)]) w) := by
 have hsh := shape_any l al cl w hS
 rw [hz] at hsh
 have hb : ∀ w1, Below w.heap.size w w1 → Calls Tryz.prog 142 #[.slice al l.length cl] w1 (Gives (.int .i64 (z : Int)) w1) := fun w1 h1 => by
  have h2 := shape_any l al cl w1 (hS.up h1)
  rwa [hz] at h2
 have HSH := Lib.hid hb
 have hd : ((z : Int) != 0) = true := by simp; omega
 clear hb hsh hz hS h0
 unfold Gives set0
 go_enter Tryz.func92, Tryz.ntmps92
 go_wp2_with fail
 obtain ⟨w1, hq1, hb9, hz9, Hbr⟩ := new1 w 64 [.pointer none, .slice none 0 0]
 rw [hq1]
 clear hq1
 have HB := Lib.hid hb9
 have HZS := hz9
 clear hb9 hz9
 have br_ := Hbr.out.c2
 go_wp2_with fail
 refine (HSH.out _ HB.out).mono ?_
 rintro e w2 ⟨rfl, hb9⟩
 clear br_
 replace Hbr := Lib.hid (Hbr.out.up hb9)
 replace HB := hbu HB hb9
 replace HZS := sz HZS hb9.size
 clear hb9
 have br_ := Hbr.out.c2
 have f3_br := Hbr.out.frozen
 have o3_br_ := br_; clear br_
 obtain ⟨w3, hq3, hg9, hz9, hx9⟩ := put2 Hbr 0 (.pointer none) 1 (.slice none 0 0) [.pointer none, .slice none 0 0] rfl
 replace HB := hbg HB hg9 (by have g0 := HZS.out; omega)
 replace HZS := sz HZS hz9.out
 replace Hbr := hx9
 clear hx9 hg9 hz9
 have br_ := Hbr.out.c2
 go_wp2_with fail
 clear hq3 o3_br_ f3_br
 simp [bodyPost, results, Tryz.results92, go_sem, br_]
 exact HB.out
theorem read_body (G : GP) (ok : G.Ok) (gb : Nat) (l : List ClaimA) (hz : shapeE l = 0) (bl ol cl : Nat) (w : World) (hG : GroupAt w gb G) (hC : ClaimsAt w (some ⟨bl, ol, none⟩) l) :
  Calls Tryz.prog 92 #[.pointer (some ⟨gb, 0, none⟩), .slice (some ⟨bl, ol, none⟩) l.length cl] w (ReadSet G gb (some ⟨bl, ol, none⟩) l w) := by
 have hb : ∀ w1, Below w.heap.size w w1 → Calls Tryz.prog 142 #[.slice (some ⟨bl, ol, none⟩) l.length cl] w1 (Gives (.int .i64 0) w1) := fun w1 h1 => by
  have h2 := shape_any l _ cl w1 (hC.s.up h1)
  rwa [hz] at h2
 have HSH := Lib.hid hb
 obtain ⟨hl0, hl64, hlc⟩ := shape_ok hz
 have HZ := Lib.hid hz
 have HLC := Lib.hid hlc
 have HC := Lib.hid hC
 have HG := Lib.hid hG
 have OK := Lib.hid ok
 have HGB := Lib.hid hG.lt
 have HBLK := Lib.hid (hC.s.elemS ClaimA.cells_len (by omega) 0 hl0).1
 clear hb hz hlc hC hG ok
 go_enter Tryz.func92, Tryz.ntmps92
 go_wp2_with fail
 have HZS := HGB
 replace HZS := sz HZS HBLK.out
 obtain ⟨w1, hq1, hb9, hz9, Hbr⟩ := new1 w 64 [.pointer none, .slice none 0 0]
 rw [hq1]
 clear hq1
 replace HG := Lib.hid (HG.out.up hb9)
 have HB := Lib.hid hb9
 replace HZS := sz HZS hz9.out
 clear hb9 hz9
 have br_ := Hbr.out.c2
 go_wp2_with fail
 refine (HSH.out _ HB.out).mono ?_
 rintro e w2 ⟨rfl, hb9⟩
 clear br_
 replace Hbr := Lib.hid (Hbr.out.up hb9)
 replace HG := Lib.hid (HG.out.up hb9)
 replace HB := hbu HB hb9
 replace HZS := sz HZS hb9.size
 clear hb9
 have br_ := Hbr.out.c2
 have o3_br_ := br_; clear br_
 obtain ⟨w3, hq3, hb9, hz9, Hbs⟩ := new1 w2 64 [.pointer (some ⟨gb, 0, none⟩), .slice none 0 0]
 replace Hbr := Lib.hid (Hbr.out.up hb9)
 replace HG := Lib.hid (HG.out.up hb9)
 replace HB := hbu HB hb9
 replace HZS := sz HZS hz9.out
 clear hb9 hz9
 have br_ := Hbr.out.c2
 have bs_ := Hbs.out.c2
 have f4_bs := Hbs.out.frozen
 have o4_br_ := br_; clear br_
 have o4_bs_ := bs_; clear bs_
 obtain ⟨w4, hq4, hg9, hz9, hx9⟩ := put1 Hbs 1 (.slice none 0 0) [.pointer (some ⟨gb, 0, none⟩), .slice none 0 0] rfl
 replace Hbr := Lib.hid (Hbr.out.grown hg9.out (sne (by have g0 := HZS.out; omega)))
 replace HG := Lib.hid (HG.out.grown hg9.out (sne (by have g0 := HZS.out; omega)))
 replace HB := hbg HB hg9 (by have g0 := HZS.out; omega)
 replace HZS := sz HZS hz9.out
 replace Hbs := hx9
 clear hx9 hg9 hz9
 have br_ := Hbr.out.c2
 have bs_ := Hbs.out.c2
 have HK := Lib.hid (Kept.refl (fun q9 => q9 = w2.heap.size) w4)
 go_wp2_with fail
 clear hq4 o4_bs_ o4_br_ f4_bs hq3 o3_br_
 go_loopw [23] (fun i wr => ∃ (j : Nat) (rs : List ClaimR) (g : Option Addr) (c9 : Nat), j ≤ l.length ∧ i = .int .i64 j ∧ Hid (rs.length = j) ∧ Hid (rs.map ClaimR.k = l.take j) ∧ Hid (Kept (fun q => q = w2.heap.size) w4 wr) ∧ Hid (Bx wr w2.heap.size 64 [.pointer (some ⟨gb, 0, none⟩), .slice g j c9]) ∧ Hid (RowO w4.heap.size wr 154 3 (.slice g j c9) j (rs.flatMap ClaimR.cells)) ∧ Hid (RsOk G wr (.slice g j c9) w4.heap.size rs) ∧ Hid (RsP bl ol rs) ∧ Hid ((l.take j).all (cElems G) = true)) (fun i _ => l.length - (intOf i).toNat)
 case atStart => exact ⟨0, [], none, 0, Nat.zero_le _, rfl, rfl, rfl, HK, Hbs, RowO.nil, Lib.hid (show RsOk G _ _ _ [] from fun _ h => absurd h (by simp)), Lib.hid (show RsP bl ol [] from fun _ h => absurd h (by simp)), rfl⟩
 case round =>
  obtain ⟨j, rs, g, c9, hj, rfl, HRL, HRK, HK, Hbs9, Hr, HRS, HRP, HAL⟩ := hrel
  have hg9 := HK.out
  clear br_ bs_ Hbs
  replace Hbr := Lib.hid (Hbr.out.keptP hg9 (show ¬ (w.heap.size = w2.heap.size) by have g0 := HZS.out; omega))
  replace HG := Lib.hid (HG.out.keptP hg9 (show ¬ (_ = w2.heap.size) by have g0 := HZS.out; omega))
  replace HB := Lib.hid (Below.keptP HB.out hg9 (by have g0 := HZS.out; omega) (fun q9 h9 => (show w.heap.size ≤ _ by subst h9; have g0 := HZS.out; omega)))
  replace HZS := sz HZS (show w4.heap.size ≤ wr.heap.size from hg9.size)
  clear hg9
  have br_ := Hbr.out.c2
  have Hbs := Hbs9
  clear Hbs9
  have bs_ := Hbs.out.c2
  by_cases hjl : j < l.length
  ·have HCC := Lib.hid (fun W (hb : Below w.heap.size w W) => ((HC.out.s.up hb).elemS ClaimA.cells_len (by omega) j hjl).2)
   have HKA := Lib.hid (HC.out.one j hjl)
   have HSHP := Lib.hid (HLC.out l[j] (List.getElem_mem hjl))
   have HTK := Lib.hid (List.take_succ_eq_append_getElem hjl)
   have HALS := Lib.hid (fun h => all_snoc (f := cElems G) hjl HAL.out h)
   have HALN := Lib.hid (fun h => all_not (f := cElems G) hjl h)
   generalize l[j] = c at *
   obtain ⟨b1, hb1⟩ : ∃ b, c.bases.all (isEl G.q.m G.size) = b := ⟨_, rfl⟩
   obtain ⟨b2, hb2⟩ : ∃ b, c.images.all (isEl G.q.m G.size) = b := ⟨_, rfl⟩
   have HB1 := Lib.hid hb1
   have HB2 := Lib.hid hb2
   have HCE := Lib.hid (cElems_eq G c hb1 hb2)
   clear hb1 hb2
   have hn8 := HSHP.out.2.1
   have hni := HSHP.out.2.2
   have HNI := Lib.hid hni
   clear hni
   have HRLT := Lib.hid (fun q (e : (Value.slice g j c9).ownBlock = some q) => (Hr.out.lt q e).2)
   have HSB := Lib.hid (show w2.heap.size < w4.heap.size from (by have a1 := HZS.out; have a2 := HZS.out; omega))
   have HK2 := Lib.hid (Kept.refl (fun q9 => q9 = w2.heap.size ∨ Value.ownBlock (.slice g j c9) = some q9) wr)
   have hc := HCC.out _ HB.out
   have hc_0 := hc 0 _ rfl
   rw [Nat.add_zero] at hc_0
   have hc_1 := hc 1 _ rfl
   clear hc
   go_wp2_with fail
   clear hc_0 hc_1
   refine (allEl_v G OK.out gb c.bases b1 HB1.out c.bases.length rfl c.ab c.cb (by omega) wr HG.out (HKA.out.b.up HB.out)).mono ?_
   rintro e w5 ⟨vx, rfl, hb9, hx9⟩
   clear br_
   replace Hbr := Lib.hid (Hbr.out.up hb9)
   clear bs_
   replace Hbs := Lib.hid (Hbs.out.up hb9)
   replace HG := Lib.hid (HG.out.up hb9)
   replace Hr := Lib.hid (Hr.out.up hb9)
   replace HK := Lib.hid (Kept.up HK.out hb9)
   replace HK2 := Lib.hid (Kept.up HK2.out hb9)
   replace HB := hbu HB hb9
   replace HZS := sz HZS hb9.size
   have HX := Lib.hid hx9
   clear hx9 hb9
   have br_ := Hbr.out.c2
   have bs_ := Hbs.out.c2
   have BR1 := Lib.hid (Below.refl w5.heap.size w5)
   have hc := HCC.out _ HB.out
   have hc_0 := hc 0 _ rfl
   rw [Nat.add_zero] at hc_0
   have hc_1 := hc 1 _ rfl
   clear hc
   go_wp2_with fail
   clear hc_0 hc_1
   refine (allEl_v G OK.out gb c.images b2 HB2.out c.images.length rfl c.ai c.ci (by rw [HNI.out]; omega) w5 HG.out (HKA.out.i.up HB.out)).mono ?_
   rintro e w6 ⟨vy, rfl, hb9, hy9⟩
   clear br_
   replace Hbr := Lib.hid (Hbr.out.up hb9)
   clear bs_
   replace Hbs := Lib.hid (Hbs.out.up hb9)
   replace HG := Lib.hid (HG.out.up hb9)
   replace Hr := Lib.hid (Hr.out.up hb9)
   replace BR1 := hbu BR1 hb9
   replace HK := Lib.hid (Kept.up HK.out hb9)
   replace HK2 := Lib.hid (Kept.up HK2.out hb9)
   replace HB := hbu HB hb9
   replace HZS := sz HZS hb9.size
   have HY := Lib.hid hy9
   clear hy9 hb9
   have br_ := Hbr.out.c2
   have bs_ := Hbs.out.c2
   have HK4 := Lib.hid (Kept.refl (fun q9 => q9 = w2.heap.size ∨ Value.ownBlock (.slice g j c9) = some q9) w6)
   obtain ⟨bb, hbb⟩ : ∃ b, (b1 && b2) = b := ⟨_, rfl⟩
   cases b1
   case false =>
    have hw7 := (wrong_elems (G := G) HZ.out).2 (HALN.out HCE.out)
    have f7_br := Hbr.out.frozen
    have o7_br_ := br_; clear br_
    have o7_bs_ := bs_; clear bs_
    obtain ⟨w7, hq7, hg9, hz9, hx9⟩ := put2 Hbr 0 (.pointer none) 1 (.slice none 0 0) [.pointer none, .slice none 0 0] rfl
    replace Hbs := Lib.hid (Hbs.out.grown hg9.out (sne (by have g0 := HZS.out; omega)))
    replace HG := Lib.hid (HG.out.grown hg9.out (sne (by have g0 := HZS.out; omega)))
    replace HB := hbg HB hg9 (by have g0 := HZS.out; omega)
    replace HZS := sz HZS hz9.out
    replace Hbr := hx9
    clear hx9 hg9 hz9
    have br_ := Hbr.out.c2
    have bs_ := Hbs.out.c2
    go_wp2_with fail
    clear hq7 o7_bs_ o7_br_ f7_br
    simp [bodyPost, results, Tryz.results92, go_sem, br_]
    exact ⟨HB.out, by rw [if_neg (by rw [hw7]; decide), hw7]; rfl⟩
   cases b2
   case false =>
    have hw7 := (wrong_elems (G := G) HZ.out).2 (HALN.out HCE.out)
    have f7_br := Hbr.out.frozen
    have o7_br_ := br_; clear br_
    have o7_bs_ := bs_; clear bs_
    obtain ⟨w7, hq7, hg9, hz9, hx9⟩ := put2 Hbr 0 (.pointer none) 1 (.slice none 0 0) [.pointer none, .slice none 0 0] rfl
    replace Hbs := Lib.hid (Hbs.out.grown hg9.out (sne (by have g0 := HZS.out; omega)))
    replace HG := Lib.hid (HG.out.grown hg9.out (sne (by have g0 := HZS.out; omega)))
    replace HB := hbg HB hg9 (by have g0 := HZS.out; omega)
    replace HZS := sz HZS hz9.out
    replace Hbr := hx9
    clear hx9 hg9 hz9
    have br_ := Hbr.out.c2
    have bs_ := Hbs.out.c2
    go_wp2_with fail
    clear hq7 o7_bs_ o7_br_ f7_br
    simp [bodyPost, results, Tryz.results92, go_sem, br_]
    exact ⟨HB.out, by rw [if_neg (by rw [hw7]; decide), hw7]; rfl⟩
   clear hbb bb
   obtain ⟨ax, cx, rfl, hsx, hfx⟩ := HX.out rfl
   obtain ⟨ay, cy, rfl, hsy, hfy⟩ := HY.out rfl
   obtain ⟨xb, xo, rfl, hxl⟩ := hsx.adr (flat_ne (limC_len _) (by omega) (List.length_pos_iff.1 HSHP.out.1))
   obtain ⟨yb, yo, rfl, hyl⟩ := hsy.adr (flat_ne (limC_len _) (by omega) (List.length_pos_iff.1 (by rw [HNI.out]; exact HSHP.out.1)))
   have HAN := Lib.hid (show ClaimR.At G w6 ⟨c, bl, ol + j * 2, xb, xo, cx, yb, yo, cy⟩ from ⟨hsx.up BR1.out, hsy, Nat.lt_of_lt_of_le hxl BR1.out.size, hyl⟩)
   have HFX := Lib.hid (hfx _ rfl)
   have HFY := Lib.hid (hfy _ rfl)
   clear hsx hsy hfx hfy hxl hyl HX HY
   go_wp2_with fail
   have HT := Lib.hid (show Below w6.heap.size w6 w6.drew from (Below.refl _ _).drew)
   have hl_br := Hbr.out.lt
   have hl_bs := Hbs.out.lt
   refine wp_region_treek (fun wq9 => ∃ E : But w6 (Value.ownBlock (.slice g j c9)), wq9 = E.w) 11 ((.qs [0] (.e 1 [] (.qs [2, 3, 4, 5, 6, 7] (.a 8 (.a 9 (.qs [10] (.a 11 .done)))))))) (by kernel_rfl) (by kernel_rfl) (fun _ _ d _ _ h => by cases d <;> exact h) ⟨⟨_, ((below_grown HT.out).but _)⟩, rfl⟩ ?_
   have hov_br := fun (E : But w6 (Value.ownBlock (.slice g j c9))) o => E.cell (b := w.heap.size) o hl_br (by intro e9; have a1 := Hr.out.lt _ e9; have g0 := HZS.out; omega)
   have hov_bs := fun (E : But w6 (Value.ownBlock (.slice g j c9))) o => E.cell (b := w2.heap.size) o hl_bs (by intro e9; have a1 := Hr.out.lt _ e9; have g0 := HZS.out; omega)
   simp only [TreeK.qs]
   repeat (first | (refine treek_q rfl rfl ?_; go_big_quiet_step (fail); refine wpQuiet_nil ?_) | (refine treek_e rfl rfl ?_; go_big_quiet_step (fail); refine wpQuiet_nil ?_))
   clear hov_br hl_br hov_bs hl_bs
   refine treek_a rfl (fun K hK => ?_)
   go_simp
   refine hK _ _ ⟨fun _ => ⟨⟨_, (below_grown (HT.out.alloc HT.out.size _)).but _⟩, rfl⟩, ?_⟩
   clear hK K
   obtain ⟨i9, hi9, hz90, hz91, hz92⟩ := info_parts infoClaim
   have HG1 := Lib.hid ((below_grown HT.out).but (Value.ownBlock (.slice g j c9)))
   clear br_
   replace Hbr := Lib.hid (Hbr.out.up HT.out)
   clear bs_
   replace Hbs := Lib.hid (Hbs.out.up HT.out)
   replace HG := Lib.hid (HG.out.up HT.out)
   replace Hr := Lib.hid (Hr.out.up HT.out)
   replace HK := Lib.hid (Kept.up HK.out HT.out)
   replace HK2 := Lib.hid (Kept.up HK2.out HT.out)
   replace HK4 := Lib.hid (Kept.up HK4.out HT.out)
   replace HB := hbu HB HT.out
   replace HZS := sz HZS HT.out.size
   refine treek_a rfl (fun K hK => ?_)
   refine step_pushF (w4.heap.size) w6.drew (by have g0 := HZS.out; omega) rfl _ _ 62 rfl 154 i9 _ 3 56 Tryz.underlying62 hi9 hz90 hz91 hz92 rfl (by omega) ((.slice g j c9)) (j) ((rs.flatMap ClaimR.cells)) rfl Hr.out _ _ _ rfl rfl rfl (by simp [Value.oneCell']) (by omega) (by unfold maxLen; omega) ?_
   intro g7 c7 w7 hown9 hg9 hf9
   have HF9 := Lib.hid hf9
   clear hf9
   have HGR := Lib.hid (HG1.out.trans hg9)
   have hb9 := Below.grown HB.out hg9 (by have g0 := HZS.out; omega) (fun q hq => Nat.le_trans (show w.heap.size ≤ w4.heap.size by have g0 := HZS.out; omega) (Hr.out.lt q hq).1)
   replace Hbr := Lib.hid (Hbr.out.grown hg9 (fun e9 => by have a1 := Hr.out.lt _ e9; have g0 := HZS.out; omega))
   replace Hbs := Lib.hid (Hbs.out.grown hg9 (fun e9 => by have a1 := Hr.out.lt _ e9; have g0 := HZS.out; omega))
   replace HG := Lib.hid (HG.out.grown hg9 (fun e9 => by have a1 := Hr.out.lt _ e9; have g0 := HZS.out; omega))
   replace HK := Lib.hid (Kept.grown HK.out hg9 (fun q hq => Or.inl (Nat.le_trans (show w4.heap.size ≤ w4.heap.size by have g0 := HZS.out; omega) (Hr.out.lt q hq).1)))
   replace HK2 := Lib.hid (Kept.grown HK2.out hg9 (fun q hq => Or.inr (Or.inr hq)))
   replace HK4 := Lib.hid (Kept.grown HK4.out hg9 (fun q hq => Or.inr (Or.inr hq)))
   replace HZS := sz HZS hg9.size
   clear Hr HB HT HG1
   have Hr := Lib.hid hown9
   have HB := Lib.hid hb9
   clear hb9 hown9 hg9 hi9 hz90 hz91 hz92
   refine hK _ _ ⟨fun _ => ⟨⟨w7, HGR.out⟩, rfl⟩, ?_⟩
   clear hK K HGR
   try simp only [Act.put, List.setIfInBounds_toArray, List.set_cons_succ, List.set_cons_zero]
   repeat (first | (refine treek_q rfl rfl ?_; go_big_quiet_step (fail); refine wpQuiet_nil ?_) | (refine treek_e rfl rfl ?_; go_big_quiet_step (fail); refine wpQuiet_nil ?_))
   replace HZS := sz HZS (Hr.out.lt g7 rfl).1
   have br_ := Hbr.out.c2
   have bs_ := Hbs.out.c2
   have f8_bs := Hbs.out.frozen
   have o8_br_ := br_; clear br_
   have o8_bs_ := bs_; clear bs_
   obtain ⟨w8, hq8, hg9, hz9, hx9⟩ := put1 Hbs 1 (.slice (some ⟨g7, 0, none⟩) ((j + 1)) c7) [.pointer (some ⟨gb, 0, none⟩), .slice (some ⟨g7, 0, none⟩) ((j + 1)) c7] rfl
   replace Hbr := Lib.hid (Hbr.out.grown hg9.out (sne (by have g0 := HZS.out; omega)))
   replace HG := Lib.hid (HG.out.grown hg9.out (sne (by have g0 := HZS.out; omega)))
   replace Hr := Lib.hid (RowO.grown Hr.out hg9.out (fun q9 e8 e9 => by have a1 := Hr.out.lt _ e8; have a0 := Option.some.inj e9; have g0 := HZS.out; omega))
   replace HK := Lib.hid (Kept.grown HK.out hg9.out (fun q9 e9 => by obtain rfl := Option.some.inj e9; exact Or.inr (rfl)))
   replace HK2 := Lib.hid (Kept.grown HK2.out hg9.out (fun q9 e9 => by obtain rfl := Option.some.inj e9; exact Or.inr (Or.inl rfl)))
   replace HK4 := Lib.hid (Kept.grown HK4.out hg9.out (fun q9 e9 => by obtain rfl := Option.some.inj e9; exact Or.inr (Or.inl rfl)))
   replace HB := hbg HB hg9 (by have g0 := HZS.out; omega)
   replace HZS := sz HZS hz9.out
   replace Hbs := hx9
   clear hx9 hg9 hz9
   have br_ := Hbr.out.c2
   have bs_ := Hbs.out.c2
   refine treek_a rfl (fun K hK => ?_)
   go_simp
   try rw [hq8]
   refine hK _ _ ⟨fun h9 => absurd rfl h9, ?_⟩
   clear hK K hq8 o8_bs_ o8_br_ f8_bs
   refine treek_end ?_
   go_wp2_with fail
   go_roundw
   case rel => exact ⟨j + 1, rs ++ [⟨c, bl, ol + j * 2, xb, xo, cx, yb, yo, cy⟩], _, _, by omega, by go_num, Lib.hid (by rw [List.length_append, HRL.out]; rfl), Lib.hid (by rw [List.map_append, HRK.out, HTK.out]; rfl), HK, Hbs, Hr.out.eq (by simp [ClaimR.cells]) rfl, Lib.hid (HRS.out.snoc HK2.out HSB.out HAN.out HK4.out (show _ ≤ xb by have a1 := HZS.out; have a2 := HFX.out; omega) (show _ ≤ yb by have a1 := HZS.out; have a2 := HZS.out; have a3 := HFY.out; omega) (fun e => by have a1 := HRLT.out xb e; have a2 := HFX.out; omega) (fun e => by have a1 := HRLT.out yb e; have a2 := HZS.out; have a3 := HFY.out; omega) HF9.out (by have a1 := HZS.out; have a2 := HZS.out; have a3 := HZS.out; omega) (by have a1 := HZS.out; omega)), HRP.out.snoc HRL.out rfl rfl, HALS.out HCE.out⟩
   case measure => simp [intOf]; omega
  ·have hjn : j = l.length := by omega
   subst hjn
   rw [List.take_length] at HRK HAL
   have HKB := Lib.hid (Kept.refl (fun q9 => q9 = w.heap.size) wr)
   have HBS := Lib.hid (show w.heap.size < w4.heap.size from (by have a0 := HZS.out; have a1 := HZS.out; have a2 := HZS.out; have a3 := HZS.out; omega))
   have f5_br := Hbr.out.frozen
   have o5_br_ := br_; clear br_
   have o5_bs_ := bs_; clear bs_
   obtain ⟨w5, hq5, hg9, hz9, hx9⟩ := put2 Hbr 0 (.pointer (some ⟨gb, 0, none⟩)) 1 (.slice g l.length c9) [.pointer (some ⟨gb, 0, none⟩), .slice g l.length c9] rfl
   replace Hbs := Lib.hid (Hbs.out.grown hg9.out (sne (by have g0 := HZS.out; omega)))
   replace HG := Lib.hid (HG.out.grown hg9.out (sne (by have g0 := HZS.out; omega)))
   replace Hr := Lib.hid (RowO.grown Hr.out hg9.out (fun q9 e8 e9 => by have a1 := Hr.out.lt _ e8; have a0 := Option.some.inj e9; have g0 := HZS.out; omega))
   replace HKB := Lib.hid (Kept.grown HKB.out hg9.out (fun q9 e9 => by obtain rfl := Option.some.inj e9; exact Or.inr (rfl)))
   replace HB := hbg HB hg9 (by have g0 := HZS.out; omega)
   replace HZS := sz HZS hz9.out
   replace Hbr := hx9
   clear hx9 hg9 hz9
   have br_ := Hbr.out.c2
   have bs_ := Hbs.out.c2
   go_wp2_with fail
   clear hq5 o5_bs_ o5_br_ f5_br
   simp [bodyPost, results, Tryz.results92, go_sem, br_]
   exact ⟨HB.out, by rw [if_pos ((wrong_elems HZ.out).1 HAL.out)]; exact ⟨rs, g, c9, by rw [HRL.out], HRK.out, ⟨Hr.out.sl, fun r hr => by obtain ⟨b1, _, _, b4, b5⟩ := HRS.out r hr; have a0 := HBS.out; exact b1.keptP HKB.out (show ¬ (r.bb = w.heap.size) by omega) (show ¬ (r.ib = w.heap.size) by omega)⟩, ⟨fun x hx => by have a0 := HBS.out; have a1 := RowO.own_le Hr.out hx; omega, fun r hr => by obtain ⟨_, _, _, b4, b5⟩ := HRS.out r hr; have a0 := HBS.out; omega⟩, ⟨bl, ol, rfl, HRP.out⟩⟩⟩
theorem sread_any (G : GP) (ok : G.Ok) (gb : Nat) (l : List ClaimA) (al : Option Addr) (cl : Nat) (w : World) (hG : GroupAt w gb G) (hC : ClaimsAt w al l) :
  Calls Tryz.prog 92 #[.pointer (some ⟨gb, 0, none⟩), .slice al l.length cl] w (ReadSet G gb al l w) := by
 by_cases hz : shapeE l = 0
 ·obtain ⟨bl, ol, rfl, _⟩ := hC.s.adr (flat_ne ClaimA.cells_len (by omega) (List.length_pos_iff.1 (shape_ok hz).1))
  exact read_body G ok gb l hz bl ol cl w hG hC
 ·refine (read_shape gb l _ rfl hz al cl w hC.s).mono ?_
  rintro e w' ⟨rfl, hb⟩
  have h9 : wrongE G l = shapeE l := by unfold wrongE; rw [if_pos hz]
  exact ⟨hb, by rw [h9, if_neg hz]⟩
end Go.Proofs.YtdlnnkbigeiilaaGreat
namespace Go.Proofs.YtdlnnkbigeiilaaGreat
open Go.RowKit
abbrev eitherB : ByteArray := ⟨#[101, 105, 116, 104, 101, 114]⟩
abbrev setB : ByteArray := ⟨#[115, 101, 116]⟩
abbrev otherB : ByteArray := ⟨#[111, 116, 104, 101, 114]⟩
def sayS (t : ByteArray) (l : List ClaimA) : ByteArray := sayCl (say1 t setB (kindS (l.length : Int))) l
def saySs (t : ByteArray) (ls : List (List ClaimA)) : ByteArray := ls.foldl sayS t
theorem saySs_take (s : ByteArray) (l : List (List ClaimA)) (j : Nat) (h : j < l.length) : saySs s (l.take (j + 1)) = sayS (saySs s (l.take j)) l[j] := by unfold saySs; rw [List.take_succ_eq_append_getElem h, List.foldl_append]; rfl
theorem sayS_size (s : ByteArray) (l : List ClaimA) : (sayS s l).size = 32 := sayCl_size l _ (say1_size _ _ _)
theorem saySs_size : ∀ (l : List (List ClaimA)) (s : ByteArray), s.size = 32 → (saySs s l).size = 32
 | [], _, hs => hs
 | _ :: l, _, _ => saySs_size l _ (sayS_size _ _)
end Go.Proofs.YtdlnnkbigeiilaaGreat
namespace Go.Proofs.YtdlnnkbigeiilaaGreat
open Go.RowKit
theorem rot1_nat (x : BitVec 32) : ((rot1 x).toNat : Int) = (x.toNat : Int) / 2 + (x.toNat : Int) % 2 * 2147483648 := by
 have := x.isLt
 unfold rot1
 rw [BitVec.toNat_ofNat, Nat.mod_eq_of_lt (by omega)]
 omega
theorem right_any (x : BitVec 32) (n : Nat) (hn : n ≤ 16) (w : World) : Calls Tryz.prog 187 #[.int .u32 (x.toNat : Int), .int .i64 (n : Int)] w fun e w' => e = .returned (.int .u32 ((rotB x n).toNat : Int)) ∧ Below w.heap.size w w' := by
 have HR := Lib.hid (rotI_eq x n hn)
 go_enter Tryz.func187, Tryz.ntmps187
 go_wp2_with fail
 go_loop [0, 5] (fun v c => ∃ j : Nat, j ≤ n ∧ c = .int .i64 j ∧ v = .int .u32 ((rotI j x).toNat : Int)) (fun _ c => n - (intOf c).toNat)
 case atStart => exact ⟨0, by omega, rfl, rfl⟩
 case round =>
  obtain ⟨j, hj, rfl, rfl⟩ := hrel
  by_cases hjn : j < n
  ·have hr := rot1_nat (rotI j x)
   have HS := Lib.hid (show rotI (j + 1) x = rot1 (rotI j x) from rfl)
   generalize rot1 (rotI j x) = z at *
   generalize rotI j x = y at *
   have hy := y.isLt
   have HRN := Lib.hid hr
   clear hr
   go_wp2_with fail
   go_round
   case rel => exact ⟨j + 1, by omega, by go_num, by rw [HS.out, HRN.out]⟩
   case measure => simp [intOf]; omega
  ·have hjn' : j = n := by omega
   subst hjn'
   go_wp2_with fail
   go_ret
   exact ⟨by rw [HR.out]; rfl, Below.refl _ _⟩
def hexN (d : Nat) : Nat := if d < 10 then 48 + d else 87 + d
def hexB : ByteArray := ⟨#[48, 49, 50, 51, 52, 53, 54, 55, 56, 57, 97, 98, 99, 100, 101, 102]⟩
theorem hex_tab : ∀ k : Fin 16, (hexB.data.getD k.1 0).toNat = hexN k.1 := by decide +kernel
theorem hex_at (i : Nat) (h : i < hexB.size) : (hexB[i].toNat : Int) = (hexN i : Int) := by
 rw [← hex_tab ⟨i, h⟩]
 congr 2
 unfold Array.getD
 exact (dif_pos h).symm
theorem hexN_inj {i d : Nat} (hi : i < 16) (hd : d < 16) (h : hexN i = hexN d) : i = d := by unfold hexN at h; split at h <;> split at h <;> omega
theorem digit_any (d : Nat) (hd : d < 16) (w : World) : Calls Tryz.prog 192 #[.int .u8 (hexN d : Int)] w fun e w' => e = .returned (.int .i64 (d : Int)) ∧ Below w.heap.size w w' := by
 have HI := Lib.hid (fun (i : Nat) (hi : i < 16) => hexN_inj (d := d) hi hd)
 obtain ⟨c, hc⟩ : ∃ c, hexN d = c := ⟨_, rfl⟩
 have HC := Lib.hid hc
 rw [hc] at HI ⊢
 clear hc
 go_enter Tryz.func192, Tryz.ntmps192
 go_wp2_with fail
 go_loop [3] (fun v => ∃ j : Nat, j ≤ d ∧ v = .int .i64 j) (fun v => d - (intOf v).toNat)
 case atStart => exact ⟨0, by omega, rfl⟩
 case round =>
  obtain ⟨j, hj, rfl⟩ := hrel
  have hj6 : j < 16 := by omega
  have hb := hex_at j hj6
  unfold hexB at hb
  by_cases hjd : j = d
  ·have hcj : ((hexN j : Int) == (c : Int)) = true := by rw [hjd, HC.out]; simp
   subst hjd
   clear HC
   go_wp2_with fail
   go_ret
   exact ⟨rfl, Below.refl _ _⟩
  ·have hcj : ((hexN j : Int) == (c : Int)) = false := by
    rw [beq_eq_false_iff_ne]
    intro e
    exact hjd (HI.out j hj6 (by omega))
   have hjd2 : j < d := by omega
   clear hjd
   go_wp2_with fail
   exact ⟨⟨j + 1, by omega, by go_num⟩, by simp [intOf]; omega⟩
def rowB (r : Nat) : ByteArray := ⟨((List.range 16).map fun i => UInt8.ofNat (hexN (ordN r i))).toArray⟩
def rowsV : List Value := (List.range 10).map fun r => .string (rowB r)
theorem rows_any (w : World) : Calls Tryz.prog 190 #[] w fun e w' => ∃ b, e = .returned (.slice (some ⟨b, 0, none⟩) 10 10) ∧ Bx w' b 9 rowsV ∧ w.heap.size ≤ b ∧ Below w.heap.size w w' := by
 go_enter Tryz.func190, Tryz.ntmps190
 go_wp2_with fail
 go_ret
 refine ⟨_, rfl, Bx.new w _ rowsV _ ?_, Nat.le_refl _, (Below.refl _ _).alloc (Nat.le_refl _) _⟩
 kernel_rfl
def quad (i : Nat) : List Value := [.int .i64 (cA i : Int), .int .i64 (cB i : Int), .int .i64 (cC i : Int), .int .i64 (cD i : Int)]
def quads : List Value := (List.range 8).flatMap quad
theorem quads_at : ∀ (i : Fin 8) (k : Fin 4), quads[i.1 * 4 + k.1]? = (quad i.1)[k.1]? := by
 intro i k
 have h := flat_at quad 4 (fun _ => rfl) (List.range 8) i.1 k.1 (by simp) k.2
 rw [List.getElem_range] at h
 exact h
theorem infoQ : (Tryz.prog.info? 255).map (·.size) = some 32 := by kernel_rfl
theorem rfour_any (i : Nat) (hi : i < 8) (w : World) : Calls Tryz.prog 191 #[.int .i64 (i : Int)] w fun e w' => e = .returned (.agg #[.int .i64 (cA i : Int), .int .i64 (cB i : Int), .int .i64 (cC i : Int), .int .i64 (cD i : Int)]) ∧ Below w.heap.size w w' := by
 have q0 := quads_at ⟨i, hi⟩ 0
 have q1 := quads_at ⟨i, hi⟩ 1
 have q2 := quads_at ⟨i, hi⟩ 2
 have q3 := quads_at ⟨i, hi⟩ 3
 have HQ0 := Lib.hid (show quads[i * 4]? = some (.int .i64 (cA i : Int)) from q0)
 have HQ1 := Lib.hid (show quads[i * 4 + 1]? = some (.int .i64 (cB i : Int)) from q1)
 have HQ2 := Lib.hid (show quads[i * 4 + 2]? = some (.int .i64 (cC i : Int)) from q2)
 have HQ3 := Lib.hid (show quads[i * 4 + 3]? = some (.int .i64 (cD i : Int)) from q3)
 clear q0 q1 q2 q3
 generalize cA i = A at *
 generalize cB i = B at *
 generalize cC i = C at *
 generalize cD i = D at *
 go_enter Tryz.func191, Tryz.ntmps191
 go_upto_region 1 with (fail)
 obtain ⟨w1, hq1, hb9, hz9, Hr⟩ := new1 w 252 [.int .i64 0, .int .i64 0, .int .i64 0, .int .i64 0]
 rw [hq1]
 clear hq1
 have HB := Lib.hid hb9
 have HZS := hz9
 clear hb9 hz9
 have r_ := Hr.out.c4
 go_upto_region 2 with (refine wpList_store_new rfl 255 255 (.tmp 3) (.tmp 12) rfl (List.replicate 32 (.int .i64 0)) quads rfl rfl infoQ rfl (by decide) ?_)
 clear r_
 obtain ⟨w2, hq2, hb9, hz9, Hq⟩ := new1 w1 255 (quads)
 rw [hq2]
 clear hq2
 replace Hr := Lib.hid (Hr.out.up hb9)
 replace HB := hbu HB hb9
 replace HZS := sz HZS hz9.out
 clear hb9 hz9
 have r_ := Hr.out.c4
 have c0 := Hq.out.cell HQ0.out
 have c1 := Hq.out.cell HQ1.out
 have c2 := Hq.out.cell HQ2.out
 have c3 := Hq.out.cell HQ3.out
 have a1 : (0 : Int) ≤ (i : Int) := by omega
 have a2 : (i : Int) < 8 := by omega
 have f3_r := Hr.out.frozen
 have o3_r_ := r_; clear r_
 obtain ⟨w3, hq3, hg9, hz9, hx9⟩ := put4 Hr 0 (.int .i64 (A : Int)) 1 (.int .i64 (B : Int)) 2 (.int .i64 (C : Int)) 3 (.int .i64 (D : Int)) [.int .i64 (A : Int), .int .i64 (B : Int), .int .i64 (C : Int), .int .i64 (D : Int)] rfl
 replace Hq := Lib.hid (Hq.out.grown hg9.out (sne (by have g0 := HZS.out; omega)))
 replace HB := hbg HB hg9 (by have g0 := HZS.out; omega)
 replace HZS := sz HZS hz9.out
 replace Hr := hx9
 clear hx9 hg9 hz9
 have r_ := Hr.out.c4
 go_wp2_with fail
 clear hq3 o3_r_ f3_r
 simp [bodyPost, results, Tryz.results191, go_sem, r_]
 exact HB.out
end Go.Proofs.YtdlnnkbigeiilaaGreat
