/- Texts of this seat, one behind the other: what TrustDeals leans on. No condition beyond those that each names. -/
import Derived.Test.YtjmeakfjfpnciaaGreatZTrustDeals4
import Derived.Deep.OwnRows
import Derived.Outline

set_option maxRecDepth 100000
set_option maxHeartbeats 4000000
set_option linter.unusedVariables false
set_option linter.unusedSimpArgs false
namespace Go.Proofs.YtjmeakfjfpnciaaGreat
open Go.RowKit Go.Lib
theorem power_any (r : Nat) (hr : r < 4) (w : World) : Calls Tryz.prog 205 #[.int .i64 (r : Int)] w fun e w' => e = .returned (.int .u32 ((256 ^ r : Nat) : Int)) ∧ Below w.heap.size w w' := by
 go_enter Tryz.func205, Tryz.ntmps205
 go_wp2_with fail
 go_loop [3, 4] (fun v c => ∃ j : Nat, j ≤ r ∧ c = .int .i64 j ∧ v = .int .u32 ((256 ^ j : Nat) : Int)) (fun _ c => r - (RowKit.intOf c).toNat)
 case atStart => exact ⟨0, by omega, rfl, rfl⟩
 case round =>
  obtain ⟨j, hj, rfl, rfl⟩ := hrel
  by_cases hjr : j < r
  ·have HS := Lib.hid (show ((256 ^ (j + 1) : Nat) : Int) = ((256 ^ j : Nat) : Int) * 256 by rw [Nat.pow_succ]; omega)
   have hb : ((256 ^ j : Nat) : Int) ≤ 65536 := by
    have := Nat.pow_le_pow_right (show 0 < 256 by decide) (show j ≤ 2 by omega)
    have e : (256 : Nat) ^ 2 = 65536 := rfl
    omega
   have hb0 : (0 : Int) ≤ ((256 ^ j : Nat) : Int) := Int.natCast_nonneg _
   generalize ((256 ^ j : Nat) : Int) = p at *
   go_wp2_with fail
   exact ⟨⟨j + 1, by omega, by go_num, by rw [HS.out]⟩, by simp [RowKit.intOf]; omega⟩
  ·have hjr' : j = r := by omega
   subst hjr'
   go_wp2_with fail
   go_ret
   exact ⟨rfl, Below.refl _ _⟩
theorem wordsB_full (l : List UInt8) (_h : l.length ≤ 64) : wordsB l l.length = wordsB l 64 := by
 apply wordsB_congr
 intro j hj
 unfold byteW
 rw [if_pos hj]
 by_cases e : j < l.length
 ·rw [if_pos e]
 ·rw [if_neg e]
  simp [List.getD, List.getElem?_eq_none (show l.length ≤ j by omega)]
def keyW (s : List UInt8) (k : Nat) : WL := if k ≤ lastB s then allB s k else digW s
theorem keyW_len (s : List UInt8) (k : Nat) : (keyW s k).length = 8 := by unfold keyW; split; exact allB_len s k; exact digW_len s
theorem piece_get (s : List UInt8) (k i : Nat) (h : i < 64) : (pieceB s k).getD i 0 = s.getD (64 * k + i) 0 := by
 unfold pieceB List.getD
 rw [List.getElem?_take_of_lt h, List.getElem?_drop]
theorem piece_len (s : List UInt8) (k : Nat) : (pieceB s k).length = min 64 (s.length - 64 * k) := by unfold pieceB; rw [List.length_take, List.length_drop]
theorem word_mul (l : List UInt8) (i : Nat) : (((l.getD i 0).toNat : Int) * ((256 ^ (i % 4) : Nat) : Int)) % 4294967296 = ((BitVec.ofNat 32 ((l.getD i 0).toNat * 256 ^ (i % 4))).toNat : Int) := by
 rw [BitVec.toNat_ofNat]
 omega
def outP (s : List UInt8) (i : Nat) : List UInt8 := (digB s).take i ++ List.replicate (32 - i) 0
theorem outP_len (s : List UInt8) (i : Nat) (h : i ≤ 32) : (outP s i).length = 32 := by unfold outP; simp [digB_len]; omega
theorem outB_at : ∀ (w : WL) (i : Nat), i / 4 < w.length → (outB w)[i]? = some (UInt8.ofNat ((w.getD (i / 4) 0).toNat / 256 ^ (i % 4) % 256))
 | [], i, h => by simp at h
 | x :: w, i, h => by
   show ([_, _, _, _] ++ outB w)[i]? = _
   by_cases h4 : i < 4
   ·rcases (show i = 0 ∨ i = 1 ∨ i = 2 ∨ i = 3 by omega) with rfl | rfl | rfl | rfl <;> simp [List.getD]
   ·rw [List.getElem?_append_right (by simp; omega)]
    have e1 : i / 4 = (i - 4) / 4 + 1 := by omega
    have e2 : i % 4 = (i - 4) % 4 := by omega
    rw [e1, e2]
    exact outB_at w (i - 4) (by rw [List.length_cons] at h; omega)
theorem dig_get (s : List UInt8) (i : Nat) (h : i < 32) : (digB s).getD i 0 = UInt8.ofNat (((digW s).getD (i / 4) 0).toNat / 256 ^ (i % 4) % 256) := by
 unfold digB List.getD
 rw [outB_at _ _ (by rw [digW_len]; omega)]
 rfl
theorem digB_div (s : List UInt8) (i : Nat) (h : i < 32) : (((digW s).getD (i / 4) 0).toNat : Int) / ((256 ^ (i % 4) : Nat) : Int) % 256 = (((digB s).getD i 0).toNat : Int) := by
 rw [dig_get s i h, byte_int]
 omega
theorem outP_succ (s : List UInt8) (i : Nat) (h : i < 32) : outP s (i + 1) = (outP s i).set i ((digB s).getD i 0) := by
 have hl := digB_len s
 have e : (digB s).getD i 0 = (digB s)[i]'(by omega) := by simp [List.getD, hl, h]
 unfold outP
 rw [List.set_append_right _ _ (by rw [List.length_take]; omega), List.length_take, Nat.min_eq_left (by omega), Nat.sub_self, show 32 - i = (32 - (i + 1)) + 1 by omega, List.replicate_succ, List.set_cons_zero, List.take_succ_eq_append_getElem (by omega), List.append_assoc, e]
 rfl
theorem outP_all (s : List UInt8) : outP s 32 = digB s := by unfold outP; rw [List.take_of_length_le (by rw [digB_len]; exact Nat.le_refl _)]; simp
theorem make32 (s : List UInt8) (W : World) : (Instr.makeSlice 173 (.int .i64 32) (.int .i64 32)).run Tryz.prog W = .ok (.slice (some ⟨W.heap.size, 0, none⟩) 32 32) (W.alloc (.cells (byteCells (outP s 0)).toArray 5)) := by
 have e : madeCells #[Value.int .u8 0] 32 = (byteCells (outP s 0)).toArray := by
  unfold outP
  rw [List.take_zero, List.nil_append]
  kernel_rfl
 have h := Go.run_make_row' (P := Tryz.prog) 173 5 (.int .u8 0) 1 Tryz.underlying173 infoByte rfl .i64 .i64 32 (by decide) (by decide) W
 rw [e] at h
 exact h
theorem byteCells_set (l : List UInt8) (i : Nat) (y : UInt8) : (byteCells l).set i (.int .u8 (y.toNat : Int)) = byteCells (l.set i y) := by unfold byteCells; rw [List.map_set]
theorem Keyed_any (b : ByteArray) (hsz : b.size < 2305843009213693952) (w : World) :
  Calls Tryz.prog 193 #[.string ⟨#[]⟩, .string b] w fun e w' => e = .returned (.tuple #[.string (digS (bytesOf b)), .bool true]) ∧ Below w.heap.size w w' := by
 have hb0 : (0 : Int) ≤ (b.size : Int) := by omega
 by_cases hb : b.size = 0
 ·have hP : (((b.size : Int) + 63) / 64 == 0) = true := by rw [hb]; rfl
  have HPL := Lib.hid (show 1 = lastB (bytesOf b) + 1 by unfold lastB; rw [bytesOf_len, hb])
  clear hb
  go_enter Tryz.func193, Tryz.ntmps193
  go_wp2_with fail
  refine (rstart_any w).mono ?_
  rintro e w1 ⟨rfl, hb9⟩
  have HB := Lib.hid hb9
  have HZS := Lib.hid hb9.size
  clear hb9
  have HI8 := Lib.hid (show (Tryz.prog.info? 270).map (·.size) = some (wlV startV).length from info8)
  have HZ8 := Lib.hid (show (wlV (zw 8)).length = (wlV startV).length from rfl)
  have hz8 : (#[.int .u32 0, .int .u32 0, .int .u32 0, .int .u32 0, .int .u32 0, .int .u32 0, .int .u32 0, .int .u32 0] : Array Value) = (wlV (zw 8)).toArray := rfl
  go_upto_region 14 with (refine wpList_store_new rfl 270 270 (.tmp 10) (.tmp 40) rfl (wlV (zw 8)) (wlV startV) rfl rfl HI8.out HZ8.out (wl_one startV) ?_)
  clear hz8 HZ8 HI8
  have HBW := Lib.hid HB.out.size
  obtain ⟨w2, hq2, hb9, hz9, Hh⟩ := new1 w1 270 (wlV startV)
  rw [hq2]
  clear hq2
  replace HB := hbu HB hb9
  replace HZS := sz HZS hz9.out
  clear hb9 hz9
  have c0 : w2.cell? ⟨w1.heap.size, 0, none⟩ = some (.int .u32 1779033703) := Hh.out.cell rfl
  have hx0 : bits BinOp.xor IntKind.u32 1779033703 16842784 = 1795745351 := by decide
  have f3_h := Hh.out.frozen
  obtain ⟨w3, hq3, hg9, hz9, hx9⟩ := put1 Hh 0 (.int .u32 1795745351) _ rfl
  replace HB := hbg HB hg9 (by have g0 := HZS.out; omega)
  replace HZS := sz HZS hz9.out
  replace Hh := hx9
  clear hx9 hg9 hz9
  replace Hh := Lib.hid (show Bx w3 w1.heap.size 270 (wlV h0B) from Hh.out)
  go_wp2_with fail
  clear hq3 f3_h c0 hx0
  have HZ0 := Lib.hid (show w.heap.size ≤ w1.heap.size from HBW.out)
  have HP9 := Lib.hid hP
  clear hP HBW
  generalize w1.heap.size = hB at *
  have HQ0 := Lib.hid (show Bx w3 hB 270 (wlV (keyW (bytesOf b) 0)) from Hh.out)
  clear Hh
  go_loopw [11] (fun c wr => ∃ k : Nat, k ≤ 1 ∧ c = .int .i64 k ∧ Hid (Bx wr hB 270 (wlV (keyW (bytesOf b) k))) ∧ Hid (Below w.heap.size w wr)) (fun c _ => 1 - (RowKit.intOf c).toNat)
  case atStart => exact ⟨0, by omega, rfl, HQ0, HB⟩
  case round =>
   obtain ⟨k, hk, rfl, HQ, HB9⟩ := hrel
   clear HQ0 HB
   have HB := HB9
   have Hh := HQ
   clear HB9 HQ
   have HSB := Lib.hid HB.out.size
   have HSH := Lib.hid Hh.out.lt
   replace HZS := sz HZS HZ0.out
   replace HZS := sz HZS HSB.out
   replace HZS := sz HZS HSH.out
   by_cases hkP : k < 1
   ·have HKE := Lib.hid (show keyW (bytesOf b) k = allB (bytesOf b) k from by unfold keyW; rw [if_pos (by have := HPL.out; omega)])
    rw [HKE.out] at Hh
    have hz16 : (#[.int .u32 0, .int .u32 0, .int .u32 0, .int .u32 0, .int .u32 0, .int .u32 0, .int .u32 0, .int .u32 0, .int .u32 0, .int .u32 0, .int .u32 0, .int .u32 0, .int .u32 0, .int .u32 0, .int .u32 0, .int .u32 0] : Array Value) = (wlV (wordsB (pieceB (bytesOf b) k) 0)).toArray := by rw [wordsB_zero]; rfl
    have hkd : decide ((k : Int) < (1 : Int)) = true := by simp; omega
    have HCL := Lib.hid (show (pieceB (bytesOf b) k).length = min 64 (b.size - 64 * k) from by rw [piece_len, bytesOf_len])
    have hk64 : 64 * k ≤ b.size := by have := HPL.out; unfold lastB at this; rw [bytesOf_len] at this; omega
    go_upto_region 19 with (fail)
    obtain ⟨wo, rfl⟩ : ∃ wo : World, wo = wr := ⟨_, rfl⟩
    obtain ⟨w4, hq4, hb9, hz9, Hm⟩ := new1 wo 288 (wlV (wordsB (pieceB (bytesOf b) k) 0))
    rw [hq4]
    clear hq4
    replace Hh := Lib.hid (Hh.out.up hb9)
    replace HB := hbu HB hb9
    replace HZS := sz HZS hz9.out
    clear hb9 hz9 hz16
    have HK := Lib.hid (Kept.refl (fun q9 => q9 = wo.heap.size) w4)
    go_wp2_with fail
    go_loopw [13] (fun c wr => ∃ i : Nat, i ≤ (pieceB (bytesOf b) k).length ∧ c = .int .i64 i ∧ Hid (Bx wr wo.heap.size 288 (wlV (wordsB (pieceB (bytesOf b) k) i))) ∧ Hid (Kept (fun q9 => q9 = wo.heap.size) w4 wr)) (fun c _ => 64 - (RowKit.intOf c).toNat)
    case atStart => exact ⟨0, by omega, rfl, Hm, HK⟩
    case round =>
     obtain ⟨i, hi, rfl, HQ, HK1⟩ := hrel
     clear HK
     have hg9 := HK1.out
     clear Hm
     replace Hh := Lib.hid (Bx.keptP (P := fun q9 => q9 = wo.heap.size) Hh.out hg9 (show ¬ (hB = wo.heap.size) by have g0 := HZS.out; omega))
     replace HB := Lib.hid (Below.keptP HB.out hg9 (by have g0 := HZS.out; omega) (fun q9 h9 => (show w.heap.size ≤ _ by subst h9; have g0 := HZS.out; omega)))
     replace HZS := sz HZS (show w4.heap.size ≤ wr.heap.size from hg9.size)
     clear hg9
     have Hm := HQ
     clear HQ
     have HWL := Lib.hid (wordsB_len (pieceB (bytesOf b) k) i)
     have hi64 : i ≤ 64 := by have := HCL.out; omega
     by_cases hic : i < (pieceB (bytesOf b) k).length
     ·have hi6 : i < 64 := by have := HCL.out; omega
      have hin : 64 * k + i < b.size := by have := HCL.out; omega
      have hbb : (bytesOf b).getD (64 * k + i) 0 = b[64 * k + i] := by unfold bytesOf List.getD; rw [List.getElem?_eq_getElem (by rw [Array.length_toList]; exact hin)]; rfl
      have hix := fun W => run_index_str (P := Tryz.prog) W 9 b (64 * k + i) (64 * (k : Int) + (i : Int)) (by omega) hin (((pieceB (bytesOf b) k).getD i 0).toNat : Int) (by rw [piece_get _ _ _ hi6, hbb]) Tryz.underlying9
      have HWS := Lib.hid (wordsB_succ (pieceB (bytesOf b) k) i hi6)
      have HPW := fun w => power_any (i % 4) (by omega) w
      rw [show ((i % 4 : Nat) : Int) = (i : Int) % 4 from by omega] at HPW
      have HPW := Lib.hid HPW
      have hmul := word_mul (pieceB (bytesOf b) k) i
      have c1 := wl_cell Hm.out (i / 4) (by rw [HWL.out]; omega)
      generalize (wordsB (pieceB (bytesOf b) k) i).getD (i / 4) 0 = X at *
      generalize BitVec.ofNat 32 (((pieceB (bytesOf b) k).getD i 0).toNat * 256 ^ (i % 4)) = z at *
      clear hbb
      have hcb := ((pieceB (bytesOf b) k).getD i 0).toNat_lt
      generalize ((pieceB (bytesOf b) k).getD i 0).toNat = cb at *
      generalize ((256 ^ (i % 4) : Nat) : Int) = p at *
      have hadd := add32 X z
      obtain ⟨Z, hZ⟩ : ∃ Z, X + z = Z := ⟨_, rfl⟩
      rw [hZ] at hadd HWS
      clear hZ
      have a1 : (0 : Int) ≤ ((i / 4 : Nat) : Int) := by omega
      have a2 : ((i / 4 : Nat) : Int) < 16 := by omega
      have hdi : decide ((i : Int) < 64) = true := by simp; omega
      have hdn : decide (64 * (k : Int) + (i : Int) < (b.size : Int)) = true := by simp; omega
      go_wp2_with fail
      refine wp_region_otail 19 (by kernel_rfl) (by kernel_rfl) ?_
      simp only [List.take_succ_cons, List.take_zero, List.drop_succ_cons, List.drop_zero]
      have hov_wo_heap_size := fun (E : Over wr) o => E.cell (b := wo.heap.size) o Hm.out.lt
      repeat (go_big_quiet_step (first | (go_at_call 205; exact calls_over (HPW.out _))))
      all_goals (try unfold elV limbV)
      repeat (go_big_quiet_step (first | (go_at_call 205; exact calls_over (HPW.out _))))
      all_goals (try unfold elV limbV)
      repeat (go_big_quiet_step (first | (go_at_call 205; exact calls_over (HPW.out _))))
      all_goals (try unfold ciphV)
      refine wpQuiet_nil ?_
      rintro _ ⟨E, rfl⟩
      clear hov_wo_heap_size
      replace Hh := Lib.hid (Hh.out.up E.h)
      replace Hm := Lib.hid (Hm.out.up E.h)
      replace HK1 := Lib.hid (Kept.up HK1.out E.h)
      replace HB := hbu HB E.h
      replace HZS := sz HZS E.h.size
      obtain ⟨w5, hq9⟩ : ∃ W9 : World, E.w = W9 := ⟨_, rfl⟩
      rw [hq9] at Hh Hm HK1 HB HZS ⊢
      clear hq9 E c1 hix HPW
      have c1 := Hm.out.cell (wlV_get (wordsB (pieceB (bytesOf b) k) i) (i / 4) (by rw [HWL.out]; omega))
      have f6_m := Hm.out.frozen
      obtain ⟨w6, hq6, hg9, hz9, hx9⟩ := put1 Hm (i / 4) (.int .u32 (Z.toNat : Int)) _ rfl
      replace Hh := Lib.hid (Hh.out.grown hg9.out (sne (by have g0 := HZS.out; omega)))
      replace HK1 := Lib.hid (Kept.grown HK1.out hg9.out (fun q9 e9 => by obtain rfl := Option.some.inj e9; exact Or.inr (rfl)))
      replace HB := hbg HB hg9 (by have g0 := HZS.out; omega)
      replace HZS := sz HZS hz9.out
      replace Hm := hx9
      clear hx9 hg9 hz9
      replace Hm := Lib.hid Hm.out.wset
      rw [← HWS.out] at Hm
      go_wp2_with fail
      clear hq6 f6_m
      exact ⟨⟨i + 1, hic, by go_num, Hm, HK1⟩, by simp [RowKit.intOf]; omega⟩
     ·have hie : i = (pieceB (bytesOf b) k).length := by omega
      have hpl : (pieceB (bytesOf b) k).length ≤ 64 := by rw [← hie]; exact hi64
      rw [hie, wordsB_full _ hpl] at Hm
      have hcl := HCL.out
      rw [← hie] at hcl
      have hpl9 := HPL.out
      unfold lastB at hpl9
      rw [bytesOf_len] at hpl9
      have HHL := Lib.hid (allB_len (bytesOf b) k)
      have HHI := Lib.hid (show (Tryz.prog.info? 270).map (·.size) = some (wlV (allB (bytesOf b) k)).length by rw [wlV_len, HHL.out]; exact info8)
      have HMI := Lib.hid (show (Tryz.prog.info? 288).map (·.size) = some (wlV (wordsB (pieceB (bytesOf b) k) 64)).length by rw [wlV_len, wordsB_len]; exact info16)
      clear hie hpl
      by_cases hi6 : i < 64
      ·have hdi : decide ((i : Int) < 64) = true := by simp; omega
       have hdn : decide (64 * (k : Int) + (i : Int) < (b.size : Int)) = false := by simp; omega
       have hgt : (b.size : Int) < 64 * (k : Int) + 64 := by omega
       have hke : ((k : Int) == 0) = true := by rw [beq_iff_eq]; omega
       have HKN := Lib.hid (show keyW (bytesOf b) (k + 1) = pressB (allB (bytesOf b) k) (wordsB (pieceB (bytesOf b) k) 64) b.size true from by
        have e : k = lastB (bytesOf b) := by have := HPL.out; omega
        unfold keyW
        rw [if_neg (by omega), e]
        unfold digW
        rw [bytesOf_len])
       have HPR := Lib.hid (fun w => rPress_any (allB (bytesOf b) k) (wordsB (pieceB (bytesOf b) k) 64) HHL.out (wordsB_len _ _) b.size (by omega) true w)
       clear hcl hpl9
       go_wp2_with (first | refine wpList_load_mid rfl 270 (.tmp 10) rfl hB 0 rfl (wlV (allB (bytesOf b) k)) _ Hh.out.range Tryz.underlying270 rfl HHI.out ?_ | refine wpList_load_mid rfl 288 (.tmp 12) rfl wo.heap.size 0 rfl (wlV (wordsB (pieceB (bytesOf b) k) 64)) _ Hm.out.range Tryz.underlying288 rfl HMI.out ?_)
       refine (HPR.out wr).mono ?_
       rintro e w5 ⟨rfl, hb9⟩
       replace Hh := Lib.hid (Hh.out.up hb9)
       replace Hm := Lib.hid (Hm.out.up hb9)
       replace HK1 := Lib.hid (Kept.up HK1.out hb9)
       replace HB := hbu HB hb9
       replace HZS := sz HZS hb9.size
       clear hb9
       rw [← HKN.out]
       have HRL := Lib.hid (keyW_len (bytesOf b) (k + 1))
       obtain ⟨R, hR⟩ : ∃ R, keyW (bytesOf b) (k + 1) = R := ⟨_, rfl⟩
       rw [hR] at HRL ⊢
       have HRE := Lib.hid hR
       clear hR
       have HRI := Lib.hid (show (Tryz.prog.info? 270).map (·.size) = some (wlV R).length by rw [wlV_len, HRL.out]; exact info8)
       have HRZ := Lib.hid (show (wlV R).length = (wlV (allB (bytesOf b) k)).length by rw [wlV_len, wlV_len, HRL.out, HHL.out])
       obtain ⟨wz, hqz, hgz, hzz, hrz⟩ := puts Hh 0 (wlV R) (wlV R) (putL_all _ _ HRZ.out)
       have HBZ := hbg HB hgz (by have g0 := HZS.out; omega)
       go_wp2_with (refine wpList_store_mid rfl 270 (.tmp 10) (.tmp 101) rfl hB 0 (wlV R).toArray rfl rfl (Hh.out.there (by simp [HRZ.out])) (by simpa using HRI.out) (all_oneCell_toArray (wl_one R)) ?_)
       exact ⟨⟨k + 1, by omega, by go_num, by rw [HRE.out]; exact hrz, HBZ⟩, by simp [RowKit.intOf]; omega⟩
      ·have hdi : decide ((i : Int) < 64) = false := by simp; omega
       have hgt : 64 * (k : Int) + 64 ≤ (b.size : Int) := by omega
       by_cases hkl : k + 1 < 1
       ·omega
       ·have hke : ((k : Int) == 0) = true := by rw [beq_iff_eq]; omega
        have HKN := Lib.hid (show keyW (bytesOf b) (k + 1) = pressB (allB (bytesOf b) k) (wordsB (pieceB (bytesOf b) k) 64) (64 * k + 64) true from by
         have e : k = lastB (bytesOf b) := by have := HPL.out; omega
         have e2 : b.size = 64 * k + 64 := by omega
         unfold keyW
         rw [if_neg (by omega), ← e2, e]
         unfold digW
         rw [bytesOf_len])
        have hpr := fun w => rPress_any (allB (bytesOf b) k) (wordsB (pieceB (bytesOf b) k) 64) HHL.out (wordsB_len _ _) (64 * k + 64) (by omega) true w
        rw [show ((64 * k + 64 : Nat) : Int) = 64 * (k : Int) + 64 from by omega] at hpr
        have HPR := Lib.hid hpr
        clear hpr hcl hpl9
        go_wp2_with (first | refine wpList_load_mid rfl 270 (.tmp 10) rfl hB 0 rfl (wlV (allB (bytesOf b) k)) _ Hh.out.range Tryz.underlying270 rfl HHI.out ?_ | refine wpList_load_mid rfl 288 (.tmp 12) rfl wo.heap.size 0 rfl (wlV (wordsB (pieceB (bytesOf b) k) 64)) _ Hm.out.range Tryz.underlying288 rfl HMI.out ?_)
        refine (HPR.out wr).mono ?_
        rintro e w5 ⟨rfl, hb9⟩
        replace Hh := Lib.hid (Hh.out.up hb9)
        replace Hm := Lib.hid (Hm.out.up hb9)
        replace HK1 := Lib.hid (Kept.up HK1.out hb9)
        replace HB := hbu HB hb9
        replace HZS := sz HZS hb9.size
        clear hb9
        rw [← HKN.out]
        have HRL := Lib.hid (keyW_len (bytesOf b) (k + 1))
        obtain ⟨R, hR⟩ : ∃ R, keyW (bytesOf b) (k + 1) = R := ⟨_, rfl⟩
        rw [hR] at HRL ⊢
        have HRE := Lib.hid hR
        clear hR
        have HRI := Lib.hid (show (Tryz.prog.info? 270).map (·.size) = some (wlV R).length by rw [wlV_len, HRL.out]; exact info8)
        have HRZ := Lib.hid (show (wlV R).length = (wlV (allB (bytesOf b) k)).length by rw [wlV_len, wlV_len, HRL.out, HHL.out])
        obtain ⟨wz, hqz, hgz, hzz, hrz⟩ := puts Hh 0 (wlV R) (wlV R) (putL_all _ _ HRZ.out)
        have HBZ := hbg HB hgz (by have g0 := HZS.out; omega)
        go_wp2_with (refine wpList_store_mid rfl 270 (.tmp 10) (.tmp 101) rfl hB 0 (wlV R).toArray rfl rfl (Hh.out.there (by simp [HRZ.out])) (by simpa using HRI.out) (all_oneCell_toArray (wl_one R)) ?_)
        exact ⟨⟨k + 1, by omega, by go_num, by rw [HRE.out]; exact hrz, HBZ⟩, by simp [RowKit.intOf]; omega⟩
   ·have hkP' : k = 1 := by omega
    have HKD := Lib.hid (show keyW (bytesOf b) k = digW (bytesOf b) from by unfold keyW; rw [if_neg (by have := HPL.out; omega)])
    rw [HKD.out] at Hh
    have hkd : decide ((k : Int) < (1 : Int)) = false := by simp; omega
    clear HKD
    have hmk := make32 (bytesOf b)
    go_upto_region 28 with (fail)
    clear hmk
    obtain ⟨wo, rfl⟩ : ∃ wo : World, wo = wr := ⟨_, rfl⟩
    obtain ⟨w4, hq4, hb9, hz9, Ho⟩ := new1 wo 5 (byteCells (outP (bytesOf b) 0))
    rw [hq4]
    clear hq4
    replace Hh := Lib.hid (Hh.out.up hb9)
    replace HB := hbu HB hb9
    replace HZS := sz HZS hz9.out
    clear hb9 hz9
    have HK := Lib.hid (Kept.refl (fun q9 => q9 = wo.heap.size) w4)
    have HRL := Lib.hid (digW_len (bytesOf b))
    go_wp2_with fail
    go_loopw [16] (fun c wr => ∃ i : Nat, i ≤ 32 ∧ c = .int .i64 i ∧ Hid (Bx wr wo.heap.size 5 (byteCells (outP (bytesOf b) i))) ∧ Hid (Kept (fun q9 => q9 = wo.heap.size) w4 wr)) (fun c _ => 32 - (RowKit.intOf c).toNat)
    case atStart => exact ⟨0, by omega, rfl, Ho, HK⟩
    case round =>
     obtain ⟨i, hi, rfl, HQ, HK1⟩ := hrel
     clear HK
     have hg9 := HK1.out
     clear Ho
     replace Hh := Lib.hid (Bx.keptP (P := fun q9 => q9 = wo.heap.size) Hh.out hg9 (show ¬ (hB = wo.heap.size) by have g0 := HZS.out; omega))
     replace HB := Lib.hid (Below.keptP HB.out hg9 (by have g0 := HZS.out; omega) (fun q9 h9 => (show w.heap.size ≤ _ by subst h9; have g0 := HZS.out; omega)))
     replace HZS := sz HZS (show w4.heap.size ≤ wr.heap.size from hg9.size)
     clear hg9
     have Ho := HQ
     clear HQ
     by_cases hi3 : i < 32
     ·have HPW := fun w => power_any (i % 4) (by omega) w
      rw [show ((i % 4 : Nat) : Int) = (i : Int) % 4 from by omega] at HPW
      have HPW := Lib.hid HPW
      have c1 := wl_cell Hh.out (i / 4) (by rw [HRL.out]; omega)
      have hdv := digB_div (bytesOf b) i hi3
      have HON := Lib.hid (outP_succ (bytesOf b) i hi3)
      have hp1 : (1 : Int) ≤ ((256 ^ (i % 4) : Nat) : Int) := by have := Nat.pow_pos (n := i % 4) (show 0 < 256 by decide); omega
      generalize (digW (bytesOf b)).getD (i / 4) 0 = X at *
      generalize ((256 ^ (i % 4) : Nat) : Int) = p at *
      obtain ⟨y, hy⟩ : ∃ y, (digB (bytesOf b)).getD i 0 = y := ⟨_, rfl⟩
      rw [hy] at hdv HON
      clear hy
      have hyl := y.toNat_lt
      have HOL := Lib.hid (outP_len (bytesOf b) i hi)
      have a1 : (0 : Int) ≤ ((i / 4 : Nat) : Int) := by omega
      have a2 : ((i / 4 : Nat) : Int) < 8 := by omega
      go_wp2_with fail
      refine wp_region_otail 13 (by kernel_rfl) (by kernel_rfl) ?_
      simp only [List.take_succ_cons, List.take_zero, List.drop_succ_cons, List.drop_zero]
      have hov_hB := fun (E : Over wr) o => E.cell (b := hB) o Hh.out.lt
      repeat (go_big_quiet_step (first | (go_at_call 205; exact calls_over (HPW.out _))))
      all_goals (try unfold elV limbV)
      repeat (go_big_quiet_step (first | (go_at_call 205; exact calls_over (HPW.out _))))
      all_goals (try unfold elV limbV)
      repeat (go_big_quiet_step (first | (go_at_call 205; exact calls_over (HPW.out _))))
      all_goals (try unfold ciphV)
      refine wpQuiet_nil ?_
      rintro _ ⟨E, rfl⟩
      clear hov_hB
      replace Hh := Lib.hid (Hh.out.up E.h)
      replace Ho := Lib.hid (Ho.out.up E.h)
      replace HK1 := Lib.hid (Kept.up HK1.out E.h)
      replace HB := hbu HB E.h
      replace HZS := sz HZS E.h.size
      obtain ⟨w5, hq9⟩ : ∃ W9 : World, E.w = W9 := ⟨_, rfl⟩
      rw [hq9] at Hh Ho HK1 HB HZS ⊢
      clear hq9 E c1 HPW
      have c1 := Ho.out.cell (byte_cell (outP (bytesOf b) i) i (by rw [HOL.out]; exact hi3))
      have f6_o := Ho.out.frozen
      obtain ⟨w6, hq6, hg9, hz9, hx9⟩ := put1 Ho i (.int .u8 (y.toNat : Int)) _ rfl
      replace Hh := Lib.hid (Hh.out.grown hg9.out (sne (by have g0 := HZS.out; omega)))
      replace HK1 := Lib.hid (Kept.grown HK1.out hg9.out (fun q9 e9 => by obtain rfl := Option.some.inj e9; exact Or.inr (rfl)))
      replace HB := hbg HB hg9 (by have g0 := HZS.out; omega)
      replace HZS := sz HZS hz9.out
      replace Ho := hx9
      clear hx9 hg9 hz9
      replace Ho := Lib.hid (show Bx w6 wo.heap.size 5 (byteCells (outP (bytesOf b) (i + 1))) from by rw [HON.out, ← byteCells_set]; exact Ho.out)
      go_wp2_with fail
      clear hq6 f6_o
      exact ⟨⟨i + 1, by omega, by go_num, Ho, HK1⟩, by simp [RowKit.intOf]; omega⟩
     ·have hi3' : i = 32 := by omega
      subst hi3'
      rw [outP_all] at Ho
      have hcv := run_convert_bytes_arg (P := Tryz.prog) wr 173 5 Tryz.underlying173 Tryz.underlying5 wo.heap.size 0 32 32 ((digB (bytesOf b)).map fun b => (b.toNat : Int)) (by rw [List.length_map, digB_len]) (fun j hj => by rw [Nat.zero_add, Ho.out.cell (byte_cell _ j (by rw [digB_len]; exact hj))]; simp [List.getD, digB_len, hj]) 9 Tryz.underlying9
      rw [out_str] at hcv
      go_wp2_with fail
      go_ret2
      exact ⟨rfl, HB.out⟩
 ·have hP : (((b.size : Int) + 63) / 64 == 0) = false := by rw [beq_eq_false_iff_ne]; omega
  obtain ⟨P, hp⟩ : ∃ P : Nat, lastB (bytesOf b) + 1 = P := ⟨_, rfl⟩
  have HPL := Lib.hid hp.symm
  have hPP : ((b.size : Int) + 63) / 64 = (P : Int) := by rw [← hp]; unfold lastB; rw [bytesOf_len]; omega
  rw [hPP] at hP
  clear hb hp
  go_enter Tryz.func193, Tryz.ntmps193
  go_wp2_with fail
  refine (rstart_any w).mono ?_
  rintro e w1 ⟨rfl, hb9⟩
  have HB := Lib.hid hb9
  have HZS := Lib.hid hb9.size
  clear hb9
  have HI8 := Lib.hid (show (Tryz.prog.info? 270).map (·.size) = some (wlV startV).length from info8)
  have HZ8 := Lib.hid (show (wlV (zw 8)).length = (wlV startV).length from rfl)
  have hz8 : (#[.int .u32 0, .int .u32 0, .int .u32 0, .int .u32 0, .int .u32 0, .int .u32 0, .int .u32 0, .int .u32 0] : Array Value) = (wlV (zw 8)).toArray := rfl
  go_upto_region 14 with (refine wpList_store_new rfl 270 270 (.tmp 10) (.tmp 40) rfl (wlV (zw 8)) (wlV startV) rfl rfl HI8.out HZ8.out (wl_one startV) ?_)
  clear hz8 HZ8 HI8
  have HBW := Lib.hid HB.out.size
  obtain ⟨w2, hq2, hb9, hz9, Hh⟩ := new1 w1 270 (wlV startV)
  rw [hq2]
  clear hq2
  replace HB := hbu HB hb9
  replace HZS := sz HZS hz9.out
  clear hb9 hz9
  have c0 : w2.cell? ⟨w1.heap.size, 0, none⟩ = some (.int .u32 1779033703) := Hh.out.cell rfl
  have hx0 : bits BinOp.xor IntKind.u32 1779033703 16842784 = 1795745351 := by decide
  have f3_h := Hh.out.frozen
  obtain ⟨w3, hq3, hg9, hz9, hx9⟩ := put1 Hh 0 (.int .u32 1795745351) _ rfl
  replace HB := hbg HB hg9 (by have g0 := HZS.out; omega)
  replace HZS := sz HZS hz9.out
  replace Hh := hx9
  clear hx9 hg9 hz9
  replace Hh := Lib.hid (show Bx w3 w1.heap.size 270 (wlV h0B) from Hh.out)
  go_wp2_with fail
  clear hq3 f3_h c0 hx0
  have HZ0 := Lib.hid (show w.heap.size ≤ w1.heap.size from HBW.out)
  have HP9 := Lib.hid hP
  clear hP HBW
  generalize w1.heap.size = hB at *
  have HQ0 := Lib.hid (show Bx w3 hB 270 (wlV (keyW (bytesOf b) 0)) from Hh.out)
  clear Hh
  go_loopw [11] (fun c wr => ∃ k : Nat, k ≤ P ∧ c = .int .i64 k ∧ Hid (Bx wr hB 270 (wlV (keyW (bytesOf b) k))) ∧ Hid (Below w.heap.size w wr)) (fun c _ => P - (RowKit.intOf c).toNat)
  case atStart => exact ⟨0, by omega, rfl, HQ0, HB⟩
  case round =>
   obtain ⟨k, hk, rfl, HQ, HB9⟩ := hrel
   clear HQ0 HB
   have HB := HB9
   have Hh := HQ
   clear HB9 HQ
   have HSB := Lib.hid HB.out.size
   have HSH := Lib.hid Hh.out.lt
   replace HZS := sz HZS HZ0.out
   replace HZS := sz HZS HSB.out
   replace HZS := sz HZS HSH.out
   by_cases hkP : k < P
   ·have HKE := Lib.hid (show keyW (bytesOf b) k = allB (bytesOf b) k from by unfold keyW; rw [if_pos (by have := HPL.out; omega)])
    rw [HKE.out] at Hh
    have hz16 : (#[.int .u32 0, .int .u32 0, .int .u32 0, .int .u32 0, .int .u32 0, .int .u32 0, .int .u32 0, .int .u32 0, .int .u32 0, .int .u32 0, .int .u32 0, .int .u32 0, .int .u32 0, .int .u32 0, .int .u32 0, .int .u32 0] : Array Value) = (wlV (wordsB (pieceB (bytesOf b) k) 0)).toArray := by rw [wordsB_zero]; rfl
    have hkd : decide ((k : Int) < (P : Int)) = true := by simp; omega
    have HCL := Lib.hid (show (pieceB (bytesOf b) k).length = min 64 (b.size - 64 * k) from by rw [piece_len, bytesOf_len])
    have hk64 : 64 * k ≤ b.size := by have := HPL.out; unfold lastB at this; rw [bytesOf_len] at this; omega
    go_upto_region 19 with (fail)
    obtain ⟨wo, rfl⟩ : ∃ wo : World, wo = wr := ⟨_, rfl⟩
    obtain ⟨w4, hq4, hb9, hz9, Hm⟩ := new1 wo 288 (wlV (wordsB (pieceB (bytesOf b) k) 0))
    rw [hq4]
    clear hq4
    replace Hh := Lib.hid (Hh.out.up hb9)
    replace HB := hbu HB hb9
    replace HZS := sz HZS hz9.out
    clear hb9 hz9 hz16
    have HK := Lib.hid (Kept.refl (fun q9 => q9 = wo.heap.size) w4)
    go_wp2_with fail
    go_loopw [13] (fun c wr => ∃ i : Nat, i ≤ (pieceB (bytesOf b) k).length ∧ c = .int .i64 i ∧ Hid (Bx wr wo.heap.size 288 (wlV (wordsB (pieceB (bytesOf b) k) i))) ∧ Hid (Kept (fun q9 => q9 = wo.heap.size) w4 wr)) (fun c _ => 64 - (RowKit.intOf c).toNat)
    case atStart => exact ⟨0, by omega, rfl, Hm, HK⟩
    case round =>
     obtain ⟨i, hi, rfl, HQ, HK1⟩ := hrel
     clear HK
     have hg9 := HK1.out
     clear Hm
     replace Hh := Lib.hid (Bx.keptP (P := fun q9 => q9 = wo.heap.size) Hh.out hg9 (show ¬ (hB = wo.heap.size) by have g0 := HZS.out; omega))
     replace HB := Lib.hid (Below.keptP HB.out hg9 (by have g0 := HZS.out; omega) (fun q9 h9 => (show w.heap.size ≤ _ by subst h9; have g0 := HZS.out; omega)))
     replace HZS := sz HZS (show w4.heap.size ≤ wr.heap.size from hg9.size)
     clear hg9
     have Hm := HQ
     clear HQ
     have HWL := Lib.hid (wordsB_len (pieceB (bytesOf b) k) i)
     have hi64 : i ≤ 64 := by have := HCL.out; omega
     by_cases hic : i < (pieceB (bytesOf b) k).length
     ·have hi6 : i < 64 := by have := HCL.out; omega
      have hin : 64 * k + i < b.size := by have := HCL.out; omega
      have hbb : (bytesOf b).getD (64 * k + i) 0 = b[64 * k + i] := by unfold bytesOf List.getD; rw [List.getElem?_eq_getElem (by rw [Array.length_toList]; exact hin)]; rfl
      have hix := fun W => run_index_str (P := Tryz.prog) W 9 b (64 * k + i) (64 * (k : Int) + (i : Int)) (by omega) hin (((pieceB (bytesOf b) k).getD i 0).toNat : Int) (by rw [piece_get _ _ _ hi6, hbb]) Tryz.underlying9
      have HWS := Lib.hid (wordsB_succ (pieceB (bytesOf b) k) i hi6)
      have HPW := fun w => power_any (i % 4) (by omega) w
      rw [show ((i % 4 : Nat) : Int) = (i : Int) % 4 from by omega] at HPW
      have HPW := Lib.hid HPW
      have hmul := word_mul (pieceB (bytesOf b) k) i
      have c1 := wl_cell Hm.out (i / 4) (by rw [HWL.out]; omega)
      generalize (wordsB (pieceB (bytesOf b) k) i).getD (i / 4) 0 = X at *
      generalize BitVec.ofNat 32 (((pieceB (bytesOf b) k).getD i 0).toNat * 256 ^ (i % 4)) = z at *
      clear hbb
      have hcb := ((pieceB (bytesOf b) k).getD i 0).toNat_lt
      generalize ((pieceB (bytesOf b) k).getD i 0).toNat = cb at *
      generalize ((256 ^ (i % 4) : Nat) : Int) = p at *
      have hadd := add32 X z
      obtain ⟨Z, hZ⟩ : ∃ Z, X + z = Z := ⟨_, rfl⟩
      rw [hZ] at hadd HWS
      clear hZ
      have a1 : (0 : Int) ≤ ((i / 4 : Nat) : Int) := by omega
      have a2 : ((i / 4 : Nat) : Int) < 16 := by omega
      have hdi : decide ((i : Int) < 64) = true := by simp; omega
      have hdn : decide (64 * (k : Int) + (i : Int) < (b.size : Int)) = true := by simp; omega
      go_wp2_with fail
      refine wp_region_otail 19 (by kernel_rfl) (by kernel_rfl) ?_
      simp only [List.take_succ_cons, List.take_zero, List.drop_succ_cons, List.drop_zero]
      have hov_wo_heap_size := fun (E : Over wr) o => E.cell (b := wo.heap.size) o Hm.out.lt
      repeat (go_big_quiet_step (first | (go_at_call 205; exact calls_over (HPW.out _))))
      all_goals (try unfold elV limbV)
      repeat (go_big_quiet_step (first | (go_at_call 205; exact calls_over (HPW.out _))))
      all_goals (try unfold elV limbV)
      repeat (go_big_quiet_step (first | (go_at_call 205; exact calls_over (HPW.out _))))
      all_goals (try unfold ciphV)
      refine wpQuiet_nil ?_
      rintro _ ⟨E, rfl⟩
      clear hov_wo_heap_size
      replace Hh := Lib.hid (Hh.out.up E.h)
      replace Hm := Lib.hid (Hm.out.up E.h)
      replace HK1 := Lib.hid (Kept.up HK1.out E.h)
      replace HB := hbu HB E.h
      replace HZS := sz HZS E.h.size
      obtain ⟨w5, hq9⟩ : ∃ W9 : World, E.w = W9 := ⟨_, rfl⟩
      rw [hq9] at Hh Hm HK1 HB HZS ⊢
      clear hq9 E c1 hix HPW
      have c1 := Hm.out.cell (wlV_get (wordsB (pieceB (bytesOf b) k) i) (i / 4) (by rw [HWL.out]; omega))
      have f6_m := Hm.out.frozen
      obtain ⟨w6, hq6, hg9, hz9, hx9⟩ := put1 Hm (i / 4) (.int .u32 (Z.toNat : Int)) _ rfl
      replace Hh := Lib.hid (Hh.out.grown hg9.out (sne (by have g0 := HZS.out; omega)))
      replace HK1 := Lib.hid (Kept.grown HK1.out hg9.out (fun q9 e9 => by obtain rfl := Option.some.inj e9; exact Or.inr (rfl)))
      replace HB := hbg HB hg9 (by have g0 := HZS.out; omega)
      replace HZS := sz HZS hz9.out
      replace Hm := hx9
      clear hx9 hg9 hz9
      replace Hm := Lib.hid Hm.out.wset
      rw [← HWS.out] at Hm
      go_wp2_with fail
      clear hq6 f6_m
      exact ⟨⟨i + 1, hic, by go_num, Hm, HK1⟩, by simp [RowKit.intOf]; omega⟩
     ·have hie : i = (pieceB (bytesOf b) k).length := by omega
      have hpl : (pieceB (bytesOf b) k).length ≤ 64 := by rw [← hie]; exact hi64
      rw [hie, wordsB_full _ hpl] at Hm
      have hcl := HCL.out
      rw [← hie] at hcl
      have hpl9 := HPL.out
      unfold lastB at hpl9
      rw [bytesOf_len] at hpl9
      have HHL := Lib.hid (allB_len (bytesOf b) k)
      have HHI := Lib.hid (show (Tryz.prog.info? 270).map (·.size) = some (wlV (allB (bytesOf b) k)).length by rw [wlV_len, HHL.out]; exact info8)
      have HMI := Lib.hid (show (Tryz.prog.info? 288).map (·.size) = some (wlV (wordsB (pieceB (bytesOf b) k) 64)).length by rw [wlV_len, wordsB_len]; exact info16)
      clear hie hpl
      by_cases hi6 : i < 64
      ·have hdi : decide ((i : Int) < 64) = true := by simp; omega
       have hdn : decide (64 * (k : Int) + (i : Int) < (b.size : Int)) = false := by simp; omega
       have hgt : (b.size : Int) < 64 * (k : Int) + 64 := by omega
       have hke : ((k : Int) == ((P : Int) - 1)) = true := by rw [beq_iff_eq]; omega
       have HKN := Lib.hid (show keyW (bytesOf b) (k + 1) = pressB (allB (bytesOf b) k) (wordsB (pieceB (bytesOf b) k) 64) b.size true from by
        have e : k = lastB (bytesOf b) := by have := HPL.out; omega
        unfold keyW
        rw [if_neg (by omega), e]
        unfold digW
        rw [bytesOf_len])
       have HPR := Lib.hid (fun w => rPress_any (allB (bytesOf b) k) (wordsB (pieceB (bytesOf b) k) 64) HHL.out (wordsB_len _ _) b.size (by omega) true w)
       clear hcl hpl9
       go_wp2_with (first | refine wpList_load_mid rfl 270 (.tmp 10) rfl hB 0 rfl (wlV (allB (bytesOf b) k)) _ Hh.out.range Tryz.underlying270 rfl HHI.out ?_ | refine wpList_load_mid rfl 288 (.tmp 12) rfl wo.heap.size 0 rfl (wlV (wordsB (pieceB (bytesOf b) k) 64)) _ Hm.out.range Tryz.underlying288 rfl HMI.out ?_)
       refine (HPR.out wr).mono ?_
       rintro e w5 ⟨rfl, hb9⟩
       replace Hh := Lib.hid (Hh.out.up hb9)
       replace Hm := Lib.hid (Hm.out.up hb9)
       replace HK1 := Lib.hid (Kept.up HK1.out hb9)
       replace HB := hbu HB hb9
       replace HZS := sz HZS hb9.size
       clear hb9
       rw [← HKN.out]
       have HRL := Lib.hid (keyW_len (bytesOf b) (k + 1))
       obtain ⟨R, hR⟩ : ∃ R, keyW (bytesOf b) (k + 1) = R := ⟨_, rfl⟩
       rw [hR] at HRL ⊢
       have HRE := Lib.hid hR
       clear hR
       have HRI := Lib.hid (show (Tryz.prog.info? 270).map (·.size) = some (wlV R).length by rw [wlV_len, HRL.out]; exact info8)
       have HRZ := Lib.hid (show (wlV R).length = (wlV (allB (bytesOf b) k)).length by rw [wlV_len, wlV_len, HRL.out, HHL.out])
       obtain ⟨wz, hqz, hgz, hzz, hrz⟩ := puts Hh 0 (wlV R) (wlV R) (putL_all _ _ HRZ.out)
       have HBZ := hbg HB hgz (by have g0 := HZS.out; omega)
       go_wp2_with (refine wpList_store_mid rfl 270 (.tmp 10) (.tmp 101) rfl hB 0 (wlV R).toArray rfl rfl (Hh.out.there (by simp [HRZ.out])) (by simpa using HRI.out) (all_oneCell_toArray (wl_one R)) ?_)
       exact ⟨⟨k + 1, by omega, by go_num, by rw [HRE.out]; exact hrz, HBZ⟩, by simp [RowKit.intOf]; omega⟩
      ·have hdi : decide ((i : Int) < 64) = false := by simp; omega
       have hgt : 64 * (k : Int) + 64 ≤ (b.size : Int) := by omega
       by_cases hkl : k + 1 < P
       ·have hke : ((k : Int) == ((P : Int) - 1)) = false := by rw [beq_eq_false_iff_ne]; omega
        have HKN := Lib.hid (show keyW (bytesOf b) (k + 1) = pressB (allB (bytesOf b) k) (wordsB (pieceB (bytesOf b) k) 64) (64 * k + 64) false from by
         unfold keyW
         rw [if_pos (by have := HPL.out; omega), show 64 * k + 64 = 64 * (k + 1) by omega]
         rfl)
        have hpr := fun w => rPress_any (allB (bytesOf b) k) (wordsB (pieceB (bytesOf b) k) 64) HHL.out (wordsB_len _ _) (64 * k + 64) (by omega) false w
        rw [show ((64 * k + 64 : Nat) : Int) = 64 * (k : Int) + 64 from by omega] at hpr
        have HPR := Lib.hid hpr
        clear hpr hcl hpl9
        go_wp2_with (first | refine wpList_load_mid rfl 270 (.tmp 10) rfl hB 0 rfl (wlV (allB (bytesOf b) k)) _ Hh.out.range Tryz.underlying270 rfl HHI.out ?_ | refine wpList_load_mid rfl 288 (.tmp 12) rfl wo.heap.size 0 rfl (wlV (wordsB (pieceB (bytesOf b) k) 64)) _ Hm.out.range Tryz.underlying288 rfl HMI.out ?_)
        refine (HPR.out wr).mono ?_
        rintro e w5 ⟨rfl, hb9⟩
        replace Hh := Lib.hid (Hh.out.up hb9)
        replace Hm := Lib.hid (Hm.out.up hb9)
        replace HK1 := Lib.hid (Kept.up HK1.out hb9)
        replace HB := hbu HB hb9
        replace HZS := sz HZS hb9.size
        clear hb9
        rw [← HKN.out]
        have HRL := Lib.hid (keyW_len (bytesOf b) (k + 1))
        obtain ⟨R, hR⟩ : ∃ R, keyW (bytesOf b) (k + 1) = R := ⟨_, rfl⟩
        rw [hR] at HRL ⊢
        have HRE := Lib.hid hR
        clear hR
        have HRI := Lib.hid (show (Tryz.prog.info? 270).map (·.size) = some (wlV R).length by rw [wlV_len, HRL.out]; exact info8)
        have HRZ := Lib.hid (show (wlV R).length = (wlV (allB (bytesOf b) k)).length by rw [wlV_len, wlV_len, HRL.out, HHL.out])
        obtain ⟨wz, hqz, hgz, hzz, hrz⟩ := puts Hh 0 (wlV R) (wlV R) (putL_all _ _ HRZ.out)
        have HBZ := hbg HB hgz (by have g0 := HZS.out; omega)
        go_wp2_with (refine wpList_store_mid rfl 270 (.tmp 10) (.tmp 101) rfl hB 0 (wlV R).toArray rfl rfl (Hh.out.there (by simp [HRZ.out])) (by simpa using HRI.out) (all_oneCell_toArray (wl_one R)) ?_)
        exact ⟨⟨k + 1, by omega, by go_num, by rw [HRE.out]; exact hrz, HBZ⟩, by simp [RowKit.intOf]; omega⟩
       ·have hke : ((k : Int) == ((P : Int) - 1)) = true := by rw [beq_iff_eq]; omega
        have HKN := Lib.hid (show keyW (bytesOf b) (k + 1) = pressB (allB (bytesOf b) k) (wordsB (pieceB (bytesOf b) k) 64) (64 * k + 64) true from by
         have e : k = lastB (bytesOf b) := by have := HPL.out; omega
         have e2 : b.size = 64 * k + 64 := by omega
         unfold keyW
         rw [if_neg (by omega), ← e2, e]
         unfold digW
         rw [bytesOf_len])
        have hpr := fun w => rPress_any (allB (bytesOf b) k) (wordsB (pieceB (bytesOf b) k) 64) HHL.out (wordsB_len _ _) (64 * k + 64) (by omega) true w
        rw [show ((64 * k + 64 : Nat) : Int) = 64 * (k : Int) + 64 from by omega] at hpr
        have HPR := Lib.hid hpr
        clear hpr hcl hpl9
        go_wp2_with (first | refine wpList_load_mid rfl 270 (.tmp 10) rfl hB 0 rfl (wlV (allB (bytesOf b) k)) _ Hh.out.range Tryz.underlying270 rfl HHI.out ?_ | refine wpList_load_mid rfl 288 (.tmp 12) rfl wo.heap.size 0 rfl (wlV (wordsB (pieceB (bytesOf b) k) 64)) _ Hm.out.range Tryz.underlying288 rfl HMI.out ?_)
        refine (HPR.out wr).mono ?_
        rintro e w5 ⟨rfl, hb9⟩
        replace Hh := Lib.hid (Hh.out.up hb9)
        replace Hm := Lib.hid (Hm.out.up hb9)
        replace HK1 := Lib.hid (Kept.up HK1.out hb9)
        replace HB := hbu HB hb9
        replace HZS := sz HZS hb9.size
        clear hb9
        rw [← HKN.out]
        have HRL := Lib.hid (keyW_len (bytesOf b) (k + 1))
        obtain ⟨R, hR⟩ : ∃ R, keyW (bytesOf b) (k + 1) = R := ⟨_, rfl⟩
        rw [hR] at HRL ⊢
        have HRE := Lib.hid hR
        clear hR
        have HRI := Lib.hid (show (Tryz.prog.info? 270).map (·.size) = some (wlV R).length by rw [wlV_len, HRL.out]; exact info8)
        have HRZ := Lib.hid (show (wlV R).length = (wlV (allB (bytesOf b) k)).length by rw [wlV_len, wlV_len, HRL.out, HHL.out])
        obtain ⟨wz, hqz, hgz, hzz, hrz⟩ := puts Hh 0 (wlV R) (wlV R) (putL_all _ _ HRZ.out)
        have HBZ := hbg HB hgz (by have g0 := HZS.out; omega)
        go_wp2_with (refine wpList_store_mid rfl 270 (.tmp 10) (.tmp 101) rfl hB 0 (wlV R).toArray rfl rfl (Hh.out.there (by simp [HRZ.out])) (by simpa using HRI.out) (all_oneCell_toArray (wl_one R)) ?_)
        exact ⟨⟨k + 1, by omega, by go_num, by rw [HRE.out]; exact hrz, HBZ⟩, by simp [RowKit.intOf]; omega⟩
   ·have hkP' : k = P := by omega
    have HKD := Lib.hid (show keyW (bytesOf b) k = digW (bytesOf b) from by unfold keyW; rw [if_neg (by have := HPL.out; omega)])
    rw [HKD.out] at Hh
    have hkd : decide ((k : Int) < (P : Int)) = false := by simp; omega
    clear HKD
    have hmk := make32 (bytesOf b)
    go_upto_region 28 with (fail)
    clear hmk
    obtain ⟨wo, rfl⟩ : ∃ wo : World, wo = wr := ⟨_, rfl⟩
    obtain ⟨w4, hq4, hb9, hz9, Ho⟩ := new1 wo 5 (byteCells (outP (bytesOf b) 0))
    rw [hq4]
    clear hq4
    replace Hh := Lib.hid (Hh.out.up hb9)
    replace HB := hbu HB hb9
    replace HZS := sz HZS hz9.out
    clear hb9 hz9
    have HK := Lib.hid (Kept.refl (fun q9 => q9 = wo.heap.size) w4)
    have HRL := Lib.hid (digW_len (bytesOf b))
    go_wp2_with fail
    go_loopw [16] (fun c wr => ∃ i : Nat, i ≤ 32 ∧ c = .int .i64 i ∧ Hid (Bx wr wo.heap.size 5 (byteCells (outP (bytesOf b) i))) ∧ Hid (Kept (fun q9 => q9 = wo.heap.size) w4 wr)) (fun c _ => 32 - (RowKit.intOf c).toNat)
    case atStart => exact ⟨0, by omega, rfl, Ho, HK⟩
    case round =>
     obtain ⟨i, hi, rfl, HQ, HK1⟩ := hrel
     clear HK
     have hg9 := HK1.out
     clear Ho
     replace Hh := Lib.hid (Bx.keptP (P := fun q9 => q9 = wo.heap.size) Hh.out hg9 (show ¬ (hB = wo.heap.size) by have g0 := HZS.out; omega))
     replace HB := Lib.hid (Below.keptP HB.out hg9 (by have g0 := HZS.out; omega) (fun q9 h9 => (show w.heap.size ≤ _ by subst h9; have g0 := HZS.out; omega)))
     replace HZS := sz HZS (show w4.heap.size ≤ wr.heap.size from hg9.size)
     clear hg9
     have Ho := HQ
     clear HQ
     by_cases hi3 : i < 32
     ·have HPW := fun w => power_any (i % 4) (by omega) w
      rw [show ((i % 4 : Nat) : Int) = (i : Int) % 4 from by omega] at HPW
      have HPW := Lib.hid HPW
      have c1 := wl_cell Hh.out (i / 4) (by rw [HRL.out]; omega)
      have hdv := digB_div (bytesOf b) i hi3
      have HON := Lib.hid (outP_succ (bytesOf b) i hi3)
      have hp1 : (1 : Int) ≤ ((256 ^ (i % 4) : Nat) : Int) := by have := Nat.pow_pos (n := i % 4) (show 0 < 256 by decide); omega
      generalize (digW (bytesOf b)).getD (i / 4) 0 = X at *
      generalize ((256 ^ (i % 4) : Nat) : Int) = p at *
      obtain ⟨y, hy⟩ : ∃ y, (digB (bytesOf b)).getD i 0 = y := ⟨_, rfl⟩
      rw [hy] at hdv HON
      clear hy
      have hyl := y.toNat_lt
      have HOL := Lib.hid (outP_len (bytesOf b) i hi)
      have a1 : (0 : Int) ≤ ((i / 4 : Nat) : Int) := by omega
      have a2 : ((i / 4 : Nat) : Int) < 8 := by omega
      go_wp2_with fail
      refine wp_region_otail 13 (by kernel_rfl) (by kernel_rfl) ?_
      simp only [List.take_succ_cons, List.take_zero, List.drop_succ_cons, List.drop_zero]
      have hov_hB := fun (E : Over wr) o => E.cell (b := hB) o Hh.out.lt
      repeat (go_big_quiet_step (first | (go_at_call 205; exact calls_over (HPW.out _))))
      all_goals (try unfold elV limbV)
      repeat (go_big_quiet_step (first | (go_at_call 205; exact calls_over (HPW.out _))))
      all_goals (try unfold elV limbV)
      repeat (go_big_quiet_step (first | (go_at_call 205; exact calls_over (HPW.out _))))
      all_goals (try unfold ciphV)
      refine wpQuiet_nil ?_
      rintro _ ⟨E, rfl⟩
      clear hov_hB
      replace Hh := Lib.hid (Hh.out.up E.h)
      replace Ho := Lib.hid (Ho.out.up E.h)
      replace HK1 := Lib.hid (Kept.up HK1.out E.h)
      replace HB := hbu HB E.h
      replace HZS := sz HZS E.h.size
      obtain ⟨w5, hq9⟩ : ∃ W9 : World, E.w = W9 := ⟨_, rfl⟩
      rw [hq9] at Hh Ho HK1 HB HZS ⊢
      clear hq9 E c1 HPW
      have c1 := Ho.out.cell (byte_cell (outP (bytesOf b) i) i (by rw [HOL.out]; exact hi3))
      have f6_o := Ho.out.frozen
      obtain ⟨w6, hq6, hg9, hz9, hx9⟩ := put1 Ho i (.int .u8 (y.toNat : Int)) _ rfl
      replace Hh := Lib.hid (Hh.out.grown hg9.out (sne (by have g0 := HZS.out; omega)))
      replace HK1 := Lib.hid (Kept.grown HK1.out hg9.out (fun q9 e9 => by obtain rfl := Option.some.inj e9; exact Or.inr (rfl)))
      replace HB := hbg HB hg9 (by have g0 := HZS.out; omega)
      replace HZS := sz HZS hz9.out
      replace Ho := hx9
      clear hx9 hg9 hz9
      replace Ho := Lib.hid (show Bx w6 wo.heap.size 5 (byteCells (outP (bytesOf b) (i + 1))) from by rw [HON.out, ← byteCells_set]; exact Ho.out)
      go_wp2_with fail
      clear hq6 f6_o
      exact ⟨⟨i + 1, by omega, by go_num, Ho, HK1⟩, by simp [RowKit.intOf]; omega⟩
     ·have hi3' : i = 32 := by omega
      subst hi3'
      rw [outP_all] at Ho
      have hcv := run_convert_bytes_arg (P := Tryz.prog) wr 173 5 Tryz.underlying173 Tryz.underlying5 wo.heap.size 0 32 32 ((digB (bytesOf b)).map fun b => (b.toNat : Int)) (by rw [List.length_map, digB_len]) (fun j hj => by rw [Nat.zero_add, Ho.out.cell (byte_cell _ j (by rw [digB_len]; exact hj))]; simp [List.getD, digB_len, hj]) 9 Tryz.underlying9
      rw [out_str] at hcv
      go_wp2_with fail
      go_ret2
      exact ⟨rfl, HB.out⟩
end Go.Proofs.YtjmeakfjfpnciaaGreat
namespace Go.Proofs.YtjmeakfjfpnciaaGreat
open Go.RowKit Go.Lib
theorem FoldAt.up {W W' : World} {b : Nat} {s : List UInt8} (h : FoldAt W b s) (hb : Below W.heap.size W W') : FoldAt W' b s :=
 let ⟨h1, n, hb1, k, hx, h2⟩ := h
 ⟨h1, n, hb1, k, hx.up hb, h2⟩
theorem joinL_eq (label : ByteArray) (ps : List ByteArray) : joinL label ps = (label :: ps).flatMap pfxL := by unfold joinL; rw [List.flatMap_cons]
theorem join_snoc (l : List ByteArray) (j : Nat) (h : j < l.length) : (l.take (j + 1)).flatMap pfxL = (l.take j).flatMap pfxL ++ (fourL l[j].size ++ bytesOf l[j]) := by
 rw [List.take_succ_eq_append_getElem h, List.flatMap_append]
 simp [pfxL]
theorem join_len (l : List ByteArray) (j : Nat) (h : j < l.length) : ((l.take j).flatMap pfxL).length + 4 + l[j].size ≤ (l.flatMap pfxL).length := by
 have e : l.flatMap pfxL = (l.take (j + 1)).flatMap pfxL ++ (l.drop (j + 1)).flatMap pfxL := by rw [← List.flatMap_append, List.take_append_drop]
 rw [e, join_snoc l j h, List.length_append, List.length_append, List.length_append, bytesOf_len, show (fourL l[j].size).length = 4 from rfl]
 omega
theorem fourS_bytes (n : Nat) : bytesOf (fourS n) = fourL n := rfl
theorem fold0 {W : World} {b : Nat} (h : Bx W b 273 (foldC h0B 0 z64 0)) : FoldAt W b [] := ⟨h0B, 0, z64, 0, h, rfl, Fold.nil z64 rfl, Or.inl rfl⟩
theorem join_ge (l : List ByteArray) : 4 * l.length ≤ (l.flatMap pfxL).length := by
 induction l with
 | nil => exact Nat.le_refl _
 | cons x l ih => rw [List.flatMap_cons, List.length_append, List.length_cons]; have : 4 ≤ (pfxL x).length := by unfold pfxL; rw [List.length_append]; exact Nat.le_add_right 4 _
                  omega
theorem tag_any (label : ByteArray) (ps : List ByteArray) (n : Nat) (hpn : ps.length = n) (hsz : (joinL label ps).length < 2305843009213693952) (a : Option Addr) (c : Nat) (w : World) (hX : Sl w w.heap.size a (ps.map Value.string)) :
  Calls Tryz.prog 155 #[.string label, .slice a n c] w fun e w' => e = .returned (.string (tagS label ps)) ∧ Below w.heap.size w w' := by
 have HPN := Lib.hid hpn
 have HSZ := Lib.hid (show ((label :: ps).flatMap pfxL).length < 2305843009213693952 from joinL_eq label ps ▸ hsz)
 have HX := Lib.hid hX
 have hn6 : n < 1152921504606846976 := by
  have := join_ge (label :: ps)
  rw [← joinL_eq, List.length_cons, hpn] at this
  omega
 clear hpn hsz hX
 have hz0 : Tryz.zeroCells273 = (begC (zw 8)).toArray := by kernel_rfl
 have HI := Lib.hid (show (Tryz.prog.info? 273).map (·.size) = some (foldC h0B 0 z64 0).length from infoF)
 have HZ := Lib.hid (show (begC (zw 8)).length = (foldC h0B 0 z64 0).length from rfl)
 go_enter Tryz.func155, Tryz.ntmps155
 go_wp2_with fail
 refine (begin_any w).mono ?_
 rintro e w1 ⟨rfl, hb9⟩
 have HB := Lib.hid hb9
 have HZS := Lib.hid hb9.size
 clear hb9
 have HFB := Lib.hid HB.out.size
 go_upto_region 2 with (refine wpList_store_new rfl 273 273 (.tmp 5) (.tmp 8) rfl (begC (zw 8)) (foldC h0B 0 z64 0) rfl rfl HI.out HZ.out (foldC_one _ _ _ _) ?_)
 obtain ⟨w2, hq2, hb9, hz9, Hf⟩ := new1 w1 273 (foldC h0B 0 z64 0)
 rw [hq2]
 clear hq2
 replace HB := hbu HB hb9
 replace HZS := sz HZS hz9.out
 clear hb9 hz9 hz0 HI HZ
 have HF := Lib.hid (fold0 Hf.out)
 clear Hf HZS
 generalize w1.heap.size = fb at *
 go_wp2_with fail
 go_loopw [6] (fun c wr => ∃ j : Nat, j ≤ n + 1 ∧ c = .int .i64 ((j : Int) - 1) ∧ Hid (FoldAt wr fb (((label :: ps).take j).flatMap pfxL)) ∧ Hid (Below w.heap.size w wr)) (fun c _ => (n - RowKit.intOf c).toNat)
 case atStart => exact ⟨0, by omega, rfl, HF, HB⟩
 case round =>
  clear HF HB
  obtain ⟨j, hj, rfl, HF, HB⟩ := hrel
  by_cases hj0 : j = 0
  ·subst hj0
   have hn0 : (0 : Int) ≤ (n : Int) := by omega
   have hl9 := join_len (label :: ps) 0 (by rw [List.length_cons, HPN.out]; omega)
   have hs9 := join_snoc (label :: ps) 0 (by rw [List.length_cons, HPN.out]; omega)
   rw [List.getElem_cons_zero] at hl9 hs9
   have HS9 := Lib.hid hs9
   have hl8 : (((label :: ps).take 0).flatMap pfxL).length + 4 + label.size < 2305843009213693952 := by have := HSZ.out; omega
   clear hs9 hl9
   generalize ((label :: ps).take 0).flatMap pfxL = s at *
   go_wp2_with fail
   refine (four_any label.size (by omega) _).mono ?_
   rintro e w5 ⟨rfl, hb5⟩
   have HF5 := Lib.hid (HF.out.up hb5)
   have HB5 := hbu HB hb5
   clear HF HB hb5
   go_wp2_with fail
   refine (take_any fb s (fourS label.size) (by rw [fourS_size]; omega) _ HF5.out).mono ?_
   rintro e w6 ⟨rfl, hf6, hk6⟩
   have HF6 := Lib.hid hf6
   have HB6 := Lib.hid (Below.keptP HB5.out hk6 HB5.out.size (fun q hq => hq ▸ HFB.out))
   clear HF5 HB5 hf6 hk6
   go_wp2_with fail
   refine (take_any fb _ label (by rw [List.length_append, fourS_bytes]; show s.length + 4 + label.size < _; omega) _ HF6.out).mono ?_
   rintro e w7 ⟨rfl, hf7, hk7⟩
   have HF7 := Lib.hid hf7
   have HB7 := Lib.hid (Below.keptP HB6.out hk7 HB6.out.size (fun q hq => hq ▸ HFB.out))
   clear HF6 HB6 hf7 hk7
   have HQ := Lib.hid (show FoldAt w7 fb (((label :: ps).take (0 + 1)).flatMap pfxL) from by rw [HS9.out, ← List.append_assoc]; exact HF7.out)
   clear HF7 HS9
   go_wp2_with fail
   exact ⟨⟨1, by omega, rfl, HQ, HB7⟩, by simp [RowKit.intOf]⟩
  ·by_cases hjn : j < n + 1
   ·obtain ⟨m, rfl⟩ : ∃ m, j = m + 1 := ⟨j - 1, by omega⟩
    have hmn : m < n := by omega
    have hmp : m < ps.length := by rw [HPN.out]; exact hmn
    have e1 : ((m + 1 : Nat) : Int) - 1 = (m : Int) := by omega
    rw [e1]
    clear e1
    obtain ⟨xb, xo, rfl, hxl, hxc⟩ := (HX.out.up HB.out).at m (by rw [List.length_map]; exact hmp)
    rw [List.getElem_map] at hxc
    obtain ⟨x, hx⟩ : ∃ x, ps[m] = x := ⟨_, rfl⟩
    rw [hx] at hxc
    have hl9 := join_len (label :: ps) (m + 1) (by rw [List.length_cons, HPN.out]; omega)
    have hs9 := join_snoc (label :: ps) (m + 1) (by rw [List.length_cons, HPN.out]; omega)
    rw [List.getElem_cons_succ, hx] at hl9 hs9
    have HS9 := Lib.hid hs9
    have hl8 : (((label :: ps).take (m + 1)).flatMap pfxL).length + 4 + x.size < 2305843009213693952 := by have := HSZ.out; omega
    clear hs9 hl9
    generalize ((label :: ps).take (m + 1)).flatMap pfxL = s at *
    go_wp2_with fail
    refine (four_any x.size (by omega) _).mono ?_
    rintro e w5 ⟨rfl, hb5⟩
    have HF5 := Lib.hid (HF.out.up hb5)
    have HB5 := hbu HB hb5
    clear HF HB hb5
    go_wp2_with fail
    refine (take_any fb s (fourS x.size) (by rw [fourS_size]; omega) _ HF5.out).mono ?_
    rintro e w6 ⟨rfl, hf6, hk6⟩
    have HF6 := Lib.hid hf6
    have HB6 := Lib.hid (Below.keptP HB5.out hk6 HB5.out.size (fun q hq => hq ▸ HFB.out))
    clear HF5 HB5 hf6 hk6
    go_wp2_with fail
    refine (take_any fb _ x (by rw [List.length_append, fourS_bytes]; show s.length + 4 + x.size < _; omega) _ HF6.out).mono ?_
    rintro e w7 ⟨rfl, hf7, hk7⟩
    have HF7 := Lib.hid hf7
    have HB7 := Lib.hid (Below.keptP HB6.out hk7 HB6.out.size (fun q hq => hq ▸ HFB.out))
    clear HF6 HB6 hf7 hk7
    have HQ := Lib.hid (show FoldAt w7 fb (((label :: ps).take ((m + 1) + 1)).flatMap pfxL) from by rw [HS9.out, ← List.append_assoc]; exact HF7.out)
    clear HF7 HS9
    go_wp2_with fail
    exact ⟨⟨m + 1 + 1, by omega, by go_num, HQ, HB7⟩, by simp [RowKit.intOf]; omega⟩
   ·have hjn' : j = n + 1 := by omega
    subst hjn'
    rw [List.take_of_length_le (by rw [List.length_cons, HPN.out]; exact Nat.le_refl _)] at HF
    have HEN := Lib.hid (fun w h => end_any fb ((label :: ps).flatMap pfxL) (by have := HSZ.out; omega) w h)
    have e1 : ((n + 1 : Nat) : Int) - 1 = (n : Int) := by omega
    rw [e1]
    clear e1
    go_wp2_with fail
    refine (HEN.out _ HF.out).mono ?_
    rintro e w5 ⟨rfl, hk5⟩
    have HB5 := Lib.hid (Below.keptP HB.out hk5 HB.out.size (fun q hq => hq ▸ HFB.out))
    clear hk5
    go_wp2_with fail
    go_ret
    exact ⟨rfl, HB5.out⟩
theorem Tag_any (label : ByteArray) (ps : List ByteArray) (n : Nat) (hpn : ps.length = n) (hsz : (joinL label ps).length < 2305843009213693952) (a : Option Addr) (c : Nat) (w : World) (hX : Sl w w.heap.size a (ps.map Value.string)) :
  Calls Tryz.prog 110 #[.string label, .slice a n c] w fun e w' => e = .returned (.string (tagS label ps)) ∧ Below w.heap.size w w' := by
 have HT := Lib.hid (tag_any label ps n hpn hsz a c w hX)
 clear hpn hsz hX
 go_enter Tryz.func110, Tryz.ntmps110
 go_wp2_with fail
 refine (HT.out).mono ?_
 rintro e w1 ⟨rfl, hb9⟩
 have HB := Lib.hid hb9
 have HZS := Lib.hid hb9.size
 clear hb9
 go_wp2_with fail
 go_ret
 exact ⟨rfl, HB.out⟩
end Go.Proofs.YtjmeakfjfpnciaaGreat
namespace Go.Proofs.YtjmeakfjfpnciaaGreat
open Go.RowKit Go.Lib
theorem Digest_any (b : ByteArray) (hsz : b.size < 2305843009213693952) (w : World) : Calls Tryz.prog 167 #[.string b] w fun e w' => e = .returned (.string (digS (bytesOf b))) ∧ Below w.heap.size w w' := by
 have HK := Lib.hid (fun w => Keyed_any b hsz w)
 go_enter Tryz.func167, Tryz.ntmps167
 go_wp2_with fail
 refine (HK.out w).mono ?_
 rintro e w1 ⟨rfl, hb9⟩
 have HB := Lib.hid hb9
 have HZS := Lib.hid hb9.size
 clear hb9
 go_wp2_with fail
 go_ret
 exact ⟨rfl, HB.out⟩
theorem Four_any (n : Nat) (hn : n < 9223372036854775808) (w : World) : Calls Tryz.prog 124 #[.int .i64 (n : Int)] w fun e w' => e = .returned (.string (fourS n)) ∧ Below w.heap.size w w' := by
 have hn0 : (0 : Int) ≤ (n : Int) := by omega
 go_enter Tryz.func124, Tryz.ntmps124
 obtain ⟨w1, hq1, hb9, hz9, Hr⟩ := new1 w 5 [.int .u8 ((n : Int) / 16777216 % 256), .int .u8 ((n : Int) / 65536 % 256), .int .u8 ((n : Int) / 256 % 256), .int .u8 ((n : Int) % 256)]
 have HB := Lib.hid hb9
 have HZS := hz9
 clear hb9 hz9
 have r_ := Hr.out.c4
 have hcv := run_convert_bytes_arg (P := Tryz.prog) w1 173 5 Tryz.underlying173 Tryz.underlying5 w.heap.size 0 4 4 [(n : Int) / 16777216 % 256, (n : Int) / 65536 % 256, (n : Int) / 256 % 256, (n : Int) % 256] rfl (fun i hi => by
  rcases (show i = 0 ∨ i = 1 ∨ i = 2 ∨ i = 3 by omega) with rfl | rfl | rfl | rfl
  ·exact Hr.out.cell (i := 0) rfl
  ·exact Hr.out.cell (i := 1) rfl
  ·exact Hr.out.cell (i := 2) rfl
  ·exact Hr.out.cell (i := 3) rfl) 9 Tryz.underlying9
 go_wp2_with fail
 clear hq1
 go_ret
 exact ⟨rfl, HB.out⟩
theorem bytesOf_app (a b : ByteArray) : bytesOf (a ++ b) = bytesOf a ++ bytesOf b := by
 unfold bytesOf
 simp
theorem Joined_any (label : ByteArray) (ps : List ByteArray) (n : Nat) (hpn : ps.length = n) (hsz : (joinL label ps).length < 2305843009213693952) (a : Option Addr) (c : Nat) (w : World) (hX : Sl w w.heap.size a (ps.map Value.string)) :
  Calls Tryz.prog 168 #[.string label, .slice a n c] w fun e w' => ∃ y, e = .returned (.string y) ∧ bytesOf y = joinL label ps ∧ Below w.heap.size w w' := by
 have HPN := Lib.hid hpn
 have HSZ := Lib.hid (show ((label :: ps).flatMap pfxL).length < 2305843009213693952 from joinL_eq label ps ▸ hsz)
 have HX := Lib.hid hX
 have hn6 : n < 1152921504606846976 := by
  have := join_ge (label :: ps)
  rw [← joinL_eq, List.length_cons, hpn] at this
  omega
 have hl0 := join_len (label :: ps) 0 (by simp)
 rw [List.getElem_cons_zero, ← joinL_eq] at hl0
 have hl1 : label.size < 2305843009213693952 := by omega
 clear hpn hsz hX hl0
 go_enter Tryz.func168, Tryz.ntmps168
 go_wp2_with fail
 refine (Four_any label.size (by omega) w).mono ?_
 rintro e w1 ⟨rfl, hb9⟩
 have HB := Lib.hid hb9
 have HZS := Lib.hid hb9.size
 clear hb9
 have hfs : (fourS label.size).size = 4 := rfl
 have HY0 := Lib.hid (show bytesOf (fourS label.size ++ label) = ((label :: ps).take (0 + 1)).flatMap pfxL from by rw [bytesOf_app, fourS_bytes]; simp [pfxL])
 generalize fourS label.size = f0 at *
 have hfc : ¬ (9223372036854775807 < f0.size + label.size) := by omega
 go_wp2_with fail
 go_loopw [15, 5] (fun c v wr => ∃ (j : Nat) (y : ByteArray), j ≤ n ∧ c = .int .i64 j ∧ v = .string y ∧ Hid (bytesOf y = ((label :: ps).take (j + 1)).flatMap pfxL) ∧ Hid (Below w.heap.size w wr)) (fun c _ _ => n - (RowKit.intOf c).toNat)
 case atStart => exact ⟨0, _, by omega, rfl, rfl, HY0, HB⟩
 case round =>
  clear HY0 HB hfs hfc
  obtain ⟨j, y, hj, rfl, rfl, HY, HB⟩ := hrel
  by_cases hjn : j < n
  ·have hjp : j < ps.length := by rw [HPN.out]; exact hjn
   have hl9 := join_len (label :: ps) (j + 1) (by rw [List.length_cons]; omega)
   have hs9 := join_snoc (label :: ps) (j + 1) (by rw [List.length_cons]; omega)
   rw [List.getElem_cons_succ] at hl9 hs9
   rw [← HY.out] at hl9 hs9
   rw [bytesOf_len] at hl9
   have hT := HSZ.out
   obtain ⟨xb, xo, rfl, hxl, hxc⟩ := (HX.out.up HB.out).at j (by rw [List.length_map]; exact hjp)
   rw [List.getElem_map] at hxc
   generalize ps[j] = x at *
   have hl8 : y.size + 4 + x.size < 2305843009213693952 := by omega
   have HYN := Lib.hid (show bytesOf (y ++ fourS x.size ++ x) = ((label :: ps).take (j + 1 + 1)).flatMap pfxL from by rw [bytesOf_app, bytesOf_app, fourS_bytes, hs9, List.append_assoc])
   have HF4 := Lib.hid (fun w => Four_any x.size (by omega) w)
   have hfs : (fourS x.size).size = 4 := rfl
   clear hl9 hs9 hT
   generalize fourS x.size = f at *
   have hc1 : ¬ (9223372036854775807 < y.size + f.size) := by omega
   have hc2 : ¬ (9223372036854775807 < (y ++ f).size + x.size) := by rw [ByteArray.size_append]; omega
   have hc3 : ¬ (9223372036854775807 < y.size + f.size + x.size) := by omega
   go_wp2_with fail
   refine (HF4.out wr).mono ?_
   rintro e w2 ⟨rfl, hb9⟩
   replace HB := hbu HB hb9
   replace HZS := sz HZS hb9.size
   clear hb9
   go_wp2_with fail
   go_roundw
   case rel => exact ⟨j + 1, _, by omega, by go_num, rfl, HYN, HB⟩
   case measure => simp [RowKit.intOf]; omega
  ·have hjn' : j = n := by omega
   subst hjn'
   rw [List.take_of_length_le (by rw [List.length_cons, HPN.out]; exact Nat.le_refl _), ← joinL_eq] at HY
   go_wp2_with fail
   go_ret
   exact ⟨y, rfl, HY.out, HB.out⟩
theorem rTag_any (label : ByteArray) (ps : List ByteArray) (n : Nat) (hpn : ps.length = n) (hsz : (joinL label ps).length < 2305843009213693952) (a : Option Addr) (c : Nat) (w : World) (hX : Sl w w.heap.size a (ps.map Value.string)) :
  Calls Tryz.prog 123 #[.string label, .slice a n c] w fun e w' => e = .returned (.string (tagS label ps)) ∧ Below w.heap.size w w' := by
 have HJ := Lib.hid (Joined_any label ps n hpn hsz a c w hX)
 have HSZ := Lib.hid hsz
 clear hpn hsz hX
 go_enter Tryz.func123, Tryz.ntmps123
 go_wp2_with fail
 refine (HJ.out).mono ?_
 rintro e w1 ⟨y, rfl, hy, hb9⟩
 have HB := Lib.hid hb9
 have HZS := Lib.hid hb9.size
 have HY := Lib.hid hy
 clear hy hb9
 go_wp2_with fail
 refine (Digest_any y (by rw [← bytesOf_len, HY.out]; exact HSZ.out) w1).mono ?_
 rintro e w2 ⟨rfl, hb9⟩
 replace HB := hbu HB hb9
 replace HZS := sz HZS hb9.size
 clear hb9
 have HE := Lib.hid (show digS (bytesOf y) = tagS label ps from by rw [HY.out]; rfl)
 rw [HE.out]
 go_wp2_with fail
 go_ret
 exact ⟨rfl, HB.out⟩
end Go.Proofs.YtjmeakfjfpnciaaGreat
namespace Go.Proofs.YtjmeakfjfpnciaaGreat
open Go.RowKit Go.Lib
theorem Sl.ofB {W : World} {b : Nat} {t : TypeId} {cs : List Value} (h : Bx W b t cs) : Sl W W.heap.size (some ⟨b, 0, none⟩) cs := Or.inr ⟨b, 0, rfl, h.lt, fun i v hv => by rw [Nat.zero_add]; exact h.cell hv⟩
theorem join_small (l : ByteArray) (ps : List ByteArray) (_m : Nat) (h : ps.length ≤ 3) (hp : ∀ p ∈ ps, p.size < 140737488355328) (hl : l.size < 140737488355328) : (joinL l ps).length < 2305843009213693952 := by
 have key : ∀ x : ByteArray, (pfxL x).length = 4 + x.size := fun x => by unfold pfxL; rw [List.length_append, bytesOf_len]; rfl
 have gen : ∀ qs : List ByteArray, (∀ p ∈ qs, p.size < 140737488355328) → (qs.flatMap pfxL).length ≤ qs.length * 140737488355332 := by
  intro qs
  induction qs with
  | nil => intro _; simp
  | cons x qs ih =>
   intro hq
   have h1 := ih fun p hp => hq p (List.mem_cons_of_mem _ hp)
   have h2 := hq x (List.mem_cons_self ..)
   rw [List.flatMap_cons, List.length_append, List.length_cons, key]
   omega
 have := gen ps hp
 unfold joinL
 rw [List.length_append, key]
 have h3 : ps.length * 140737488355332 ≤ 3 * 140737488355332 := Nat.mul_le_mul_right _ h
 omega
end Go.Proofs.YtjmeakfjfpnciaaGreat
namespace Go.Proofs.YtjmeakfjfpnciaaGreat
open Go.RowKit Go.Lib
end Go.Proofs.YtjmeakfjfpnciaaGreat
namespace Go.Proofs.YtjmeakfjfpnciaaGreat
open Go.RowKit
abbrev streamB : ByteArray := ⟨#[115, 116, 114, 101, 97, 109]⟩
def strmG (TG : List ByteArray → ByteArray) (seed label : ByteArray) : Nat → ByteArray
 | 0 => ⟨#[]⟩
 | i + 1 => strmG TG seed label i ++ TG [seed, label, fourS i]
def strmS (seed label : ByteArray) : ByteArray := strmG (tagS streamB) seed label 2
theorem strmG_size {TG : List ByteArray → ByteArray} (h : ∀ ps, (TG ps).size = 32) (seed label : ByteArray) : ∀ i, (strmG TG seed label i).size = 32 * i
 | 0 => rfl
 | i + 1 => by
  show (strmG TG seed label i ++ _).size = _
  rw [ByteArray.size_append, strmG_size h seed label i, h]
  omega
theorem strmS_size (seed label : ByteArray) : (strmS seed label).size = 64 := strmG_size (tagS_size _) _ _ 2
theorem extract_all (b : ByteArray) (n : Nat) (h : b.size = n) : b.extract 0 n = b := by subst h; exact ByteArray.extract_zero_size ..
theorem strCells_app (a b : ByteArray) : Lib.byteCells a.data.toList ++ Lib.strCells b = Lib.byteCells (a ++ b).data.toList := by
 rw [Lib.strCells_eq, ← Lib.byteCells_append]
 congr 1
theorem stream_gen (TG : List ByteArray → ByteArray) (h32 : ∀ ps, (TG ps).size = 32) (seed label : ByteArray)
  (hT : ∀ (i : Nat), i ≤ 2 → ∀ (a : Option Addr) (c : Nat) (w : World), Sl w w.heap.size a ([seed, label, fourS i].map Value.string) → Calls Tryz.prog 155 #[.string streamB, .slice a 3 c] w fun e w' => e = .returned (.string (TG [seed, label, fourS i])) ∧ Below w.heap.size w w') (w : World) :
  Calls Tryz.prog 141 #[.string seed, .string label, .int .i64 64] w (Gives (.tuple #[.string (strmG TG seed label 2), .int .i64 0]) w) := by
 unfold Gives
 have HT := Lib.hid hT
 have HSZ := Lib.hid (strmG_size h32 seed label)
 have H32 := Lib.hid h32
 clear hT h32
 go_enter Tryz.func141, Tryz.ntmps141
 go_upto_region 4 with fail
 obtain ⟨w1, hq1, hb1, hz1, hx1⟩ := new1 w 256 [.pointer none, .slice none 0 0]
 have HI0 := Lib.hid (show Lib.IsBuilder 256 5 w.heap.size w.heap.size (Lib.byteCells (strmG TG seed label 0).data.toList) w1 from by rw [← hq1]; exact Lib.fresh_isBuilder _ _ w)
 rw [hq1]
 have HB := Lib.hid hb1
 clear hq1 hb1 hx1 hz1
 go_wp2_with fail
 go_loopw [9] (fun v wr => ∃ i : Nat, i ≤ 2 ∧ v = .int .i64 i ∧ Hid (Below w.heap.size w wr) ∧ Hid (Lib.IsBuilder 256 5 w.heap.size w.heap.size (Lib.byteCells (strmG TG seed label i).data.toList) wr)) (fun v _ => 2 - (intOf v).toNat)
 case atStart => exact ⟨0, Nat.zero_le _, rfl, HB, HI0⟩
 case round =>
  clear HB HI0
  obtain ⟨i, hi, rfl, HB, HI⟩ := hrel
  have HLN := Lib.hid (show ((Lib.byteCells (strmG TG seed label i).data.toList).length : Int) = ((32 * i : Nat) : Int) by rw [Lib.byteCells_length, ← Lib.size_eq, HSZ.out])
  go_wp2_with fail
  refine (Tryz.Builder_Len _ _ _ _ HI.out).mono ?_
  rintro e wz ⟨rfl, hwz⟩
  replace hwz := hwz.symm
  subst hwz
  rw [HLN.out]
  obtain ⟨k, hk⟩ : ∃ k, 32 * i = k := ⟨_, rfl⟩
  rw [hk]
  have HKK := Lib.hid hk
  by_cases hi2 : i < 2
  ·have hd : decide ((k : Int) < 64) = true := by simp; omega
   have HTI := Lib.hid (HT.out i hi)
   have HFR := Lib.hid (fun w => four_any i (by omega) w)
   have HST := Lib.hid (show strmG TG seed label (i + 1) = strmG TG seed label i ++ TG [seed, label, fourS i] from rfl)
   have HTZ := Lib.hid (H32.out [seed, label, fourS i])
   clear hk
   have HZS := Lib.hid HB.out.size
   have BK := Lib.hid (Below.refl wr.heap.size wr)
   go_wp2_with fail
   refine (HFR.out wr).mono ?_
   rintro e w1 ⟨rfl, hb9⟩
   replace BK := hbu BK hb9
   replace HB := hbu HB hb9
   have HZS := Lib.hid hb9.size
   clear hb9
   generalize fourS i = f4 at *
   generalize TG [seed, label, f4] = tg at *
   obtain ⟨w2, hq2, hb9, hz9, Hr⟩ := new1 w1 9 [.string seed, .string label, .string f4]
   replace BK := hbu BK hb9
   replace HB := hbu HB hb9
   replace HZS := sz HZS hz9.out
   clear hb9 hz9
   have r_ := Hr.out.c3
   go_wp2_with fail
   clear hq2
   refine (HTI.out _ _ w2 (Sl.ofB Hr.out)).mono ?_
   rintro e w3 ⟨rfl, hb9⟩
   clear r_
   replace Hr := Lib.hid (Hr.out.up hb9)
   replace BK := hbu BK hb9
   replace HB := hbu HB hb9
   replace HZS := sz HZS hb9.size
   clear hb9
   have r_ := Hr.out.c3
   have HIW := Lib.hid (sb_up HI.out BK.out)
   have HSW := Lib.hid HB.out.size
   go_wp2_with fail
   refine (sbWrite_any _ _ _ tg _ HIW.out (by have h9 := HLN.out; have h8 := HTZ.out; have h7 := HKK.out; rw [← h7] at hd; omega) HSW.out).mono ?_
   rintro e wn ⟨rfl, hi9, hb9⟩
   rw [strCells_app, ← HST.out] at hi9
   have HIN := Lib.hid hi9
   have HBN := Lib.hid (HB.out.trans hb9)
   clear hi9 hb9
   go_wp2_with fail
   go_roundw
   case rel => exact ⟨i + 1, by omega, by go_num, HBN, HIN⟩
   case measure => simp [intOf]; omega
  ·have hi' : i = 2 := by omega
   subst hi'
   obtain rfl : k = 64 := hk.symm
   clear hk
   have HSB := Lib.hid HB.out.size
   go_wp2_with fail
   refine (Tryz.Builder_String_any _ _ _ _ HI.out HSB.out).mono ?_
   rintro e wn ⟨rfl, hb9⟩
   have HBN := Lib.hid (HB.out.trans hb9)
   clear hb9
   have hsz := HSZ.out 2
   have hex := extract_all (strmG TG seed label 2) 64 hsz
   rw [show (⟨(strmG TG seed label 2).data.toList.toArray⟩ : ByteArray) = strmG TG seed label 2 by simp]
   obtain ⟨st, hst⟩ : ∃ v, strmG TG seed label 2 = v := ⟨_, rfl⟩
   have HST := Lib.hid hst
   rw [hst] at hex hsz ⊢
   clear hst
   have hsz2 : ¬ ((st.size : Int) < 64) := by omega
   go_wp2_with fail
   go_ret2
   exact ⟨by rw [HST.out]; rfl, HBN.out⟩
theorem rstream_gen (TG : List ByteArray → ByteArray) (h32 : ∀ ps, (TG ps).size = 32) (seed label : ByteArray)
  (hT : ∀ (i : Nat), i ≤ 2 → ∀ (a : Option Addr) (c : Nat) (w : World), Sl w w.heap.size a ([seed, label, fourS i].map Value.string) → Calls Tryz.prog 123 #[.string streamB, .slice a 3 c] w fun e w' => e = .returned (.string (TG [seed, label, fourS i])) ∧ Below w.heap.size w w') (w : World) :
  Calls Tryz.prog 122 #[.string seed, .string label, .int .i64 64] w (Gives (.tuple #[.string (strmG TG seed label 2), .bool true]) w) := by
 unfold Gives
 have HT := Lib.hid hT
 have HSZ := Lib.hid (strmG_size h32 seed label)
 have H32 := Lib.hid h32
 clear hT h32
 go_enter Tryz.func122, Tryz.ntmps122
 go_wp2_with fail
 go_loopw [9, 8] (fun v u wr => ∃ i : Nat, i ≤ 2 ∧ v = .int .i64 i ∧ u = .string (strmG TG seed label i) ∧ Hid (Below w.heap.size w wr)) (fun v _ _ => 2 - (intOf v).toNat)
 case atStart => exact ⟨0, Nat.zero_le _, rfl, rfl, Below.refl _ _⟩
 case round =>
  obtain ⟨i, hi, rfl, rfl, HB⟩ := hrel
  have hsz := HSZ.out i
  by_cases hi2 : i < 2
  ·have HTI := Lib.hid (HT.out i hi)
   have HFR := Lib.hid (fun w => Four_any i (by omega) w)
   have HST := Lib.hid (show strmG TG seed label (i + 1) = strmG TG seed label i ++ TG [seed, label, fourS i] from rfl)
   have HTZ := Lib.hid (H32.out [seed, label, fourS i])
   obtain ⟨st, hst⟩ : ∃ v, strmG TG seed label i = v := ⟨_, rfl⟩
   rw [hst] at HST hsz ⊢
   have hd : decide ((st.size : Int) < 64) = true := by simp; omega
   generalize fourS i = f4 at *
   generalize TG [seed, label, f4] = tg at *
   have htz := HTZ.out
   have hc1 : ¬ (9223372036854775807 < st.size + tg.size) := by omega
   clear hsz htz hst
   go_wp2_with fail
   refine (HFR.out wr).mono ?_
   rintro e w1 ⟨rfl, hb9⟩
   replace HB := hbu HB hb9
   have HZS := Lib.hid hb9.size
   clear hb9
   obtain ⟨w2, hq2, hb9, hz9, Hr⟩ := new1 w1 9 [.string seed, .string label, .string f4]
   replace HB := hbu HB hb9
   replace HZS := sz HZS hz9.out
   clear hb9 hz9
   have r_ := Hr.out.c3
   go_wp2_with fail
   clear hq2
   refine (HTI.out _ _ w2 (Sl.ofB Hr.out)).mono ?_
   rintro e w3 ⟨rfl, hb9⟩
   clear r_
   replace Hr := Lib.hid (Hr.out.up hb9)
   replace HB := hbu HB hb9
   replace HZS := sz HZS hb9.size
   clear hb9
   have r_ := Hr.out.c3
   go_wp2_with fail
   go_roundw
   case rel => exact ⟨i + 1, by omega, by go_num, by rw [HST.out], HB⟩
   case measure => simp [intOf]; omega
  ·have hi' : i = 2 := by omega
   subst hi'
   have hex := extract_all (strmG TG seed label 2) 64 hsz
   obtain ⟨st, hst⟩ : ∃ v, strmG TG seed label 2 = v := ⟨_, rfl⟩
   have HST := Lib.hid hst
   rw [hst] at hex hsz ⊢
   clear hst
   have hd : decide ((st.size : Int) < 64) = false := by simp; omega
   go_wp2_with fail
   go_ret2
   exact ⟨by rw [HST.out]; rfl, HB.out⟩
theorem stream_any (seed label : ByteArray) (hs : seed.size < 140737488355328) (hl : label.size < 140737488355328) (w : World) :
  Calls Tryz.prog 141 #[.string seed, .string label, .int .i64 64] w (Gives (.tuple #[.string (strmS seed label), .int .i64 0]) w) :=
 stream_gen (tagS streamB) (tagS_size _) seed label (fun i hi a c w9 h => tag_any streamB [seed, label, fourS i] 3 rfl (join_small streamB _ 0 (by simp) (by
  intro x hx
  simp only [List.mem_cons, List.not_mem_nil, or_false] at hx
  rcases hx with rfl | rfl | rfl
  ·exact hs
  ·exact hl
  ·rw [fourS_size]; decide) (by decide)) a c w9 h) w
theorem rstream_any (seed label : ByteArray) (hs : seed.size < 140737488355328) (hl : label.size < 140737488355328) (w : World) :
  Calls Tryz.prog 122 #[.string seed, .string label, .int .i64 64] w (Gives (.tuple #[.string (strmS seed label), .bool true]) w) :=
 rstream_gen (tagS streamB) (tagS_size _) seed label (fun i hi a c w9 h => rTag_any streamB [seed, label, fourS i] 3 rfl (join_small streamB _ 0 (by simp) (by
  intro x hx
  simp only [List.mem_cons, List.not_mem_nil, or_false] at hx
  rcases hx with rfl | rfl | rfl
  ·exact hs
  ·exact hl
  ·rw [fourS_size]; decide) (by decide)) a c w9 h) w
end Go.Proofs.YtjmeakfjfpnciaaGreat
namespace Go.Proofs.YtjmeakfjfpnciaaGreat
open Go.RowKit
def ciphV (a b : ByteArray) : Value := .agg #[.string a, .string b]
theorem gRaise_any (G : GP) (ok : G.Ok) (gb x : Nat) (w : World) (hG : GroupAt w gb G) :
  Calls Tryz.prog 44 #[.pointer (some ⟨gb, 0, none⟩), scV G x] w (Gives (elV G (2 ^ (x % G.q.m))) w) := by
 have OK := Lib.hid ok
 clear ok
 unfold elV scV limbV Gives
 go_enter Tryz.func44, Tryz.ntmps44
 go_wp2_with fail
 obtain ⟨W0, hW0⟩ : ∃ W9 : World, ((w.alloc (Obj.cells #[.int .u64 (dig (mont G.q.m x) 0 : Int), .int .u64 (dig (mont G.q.m x) 1 : Int), .int .u64 (dig (mont G.q.m x) 2 : Int), .int .u64 (dig (mont G.q.m x) 3 : Int)] 89)).alloc (Obj.cells #[.int .u64 0, .int .u64 0, .int .u64 0, .int .u64 0] 91)) = W9 := ⟨_, rfl⟩
 rw [hW0]
 have hA : Bx W0 (w.heap.size) 89 [.int .u64 (dig (mont G.q.m x) 0 : Int), .int .u64 (dig (mont G.q.m x) 1 : Int), .int .u64 (dig (mont G.q.m x) 2 : Int), .int .u64 (dig (mont G.q.m x) 3 : Int)] := by
  rw [← hW0]
  have h := ((Bx.new w 89 [.int .u64 (dig (mont G.q.m x) 0 : Int), .int .u64 (dig (mont G.q.m x) 1 : Int), .int .u64 (dig (mont G.q.m x) 2 : Int), .int .u64 (dig (mont G.q.m x) 3 : Int)] _ rfl).alloc (Obj.cells #[.int .u64 0, .int .u64 0, .int .u64 0, .int .u64 0] 91))
  exact h
 have hC : Bx W0 (w.heap.size + 1) 91 [.int .u64 0, .int .u64 0, .int .u64 0, .int .u64 0] := by
  rw [← hW0]
  have h := (Bx.new (w.alloc (Obj.cells #[.int .u64 (dig (mont G.q.m x) 0 : Int), .int .u64 (dig (mont G.q.m x) 1 : Int), .int .u64 (dig (mont G.q.m x) 2 : Int), .int .u64 (dig (mont G.q.m x) 3 : Int)] 89)) 91 [.int .u64 0, .int .u64 0, .int .u64 0, .int .u64 0] _ rfl)
  rw [World.size_alloc] at h
  exact h
 have hBW : Below w.heap.size w W0 := by rw [← hW0]; exact (((Below.refl w.heap.size w).alloc (Nat.le_refl _) _).alloc (by simp) _)
 clear hW0
 have hG0 := hG.up hBW
 have hgl := hG0.lt
 have ha_0 := hA.cell (i := 0) rfl
 have ha_1 := hA.cell (i := 1) rfl
 have ha_2 := hA.cell (i := 2) rfl
 have ha_3 := hA.cell (i := 3) rfl
 have hla := hA.lt
 have HC := Lib.hid hC
 have HBW := Lib.hid hBW
 clear hA hC hBW hG
 refine wp_region_otail 5 (by kernel_rfl) (by kernel_rfl) ?_
 simp only [List.take_succ_cons, List.take_zero, List.drop_succ_cons, List.drop_zero]
 have hova := fun (E : Over W0) o => E.cell (b := w.heap.size) o hla
 repeat (go_big_quiet_step (first | (go_at_call 92; exact calls_over (gBase_any G OK.out gb _ (hG0.up (Over.h _)))) | (go_at_call 91; exact calls_over (gPower_any G OK.out gb _ _ _ (hG0.up (Over.h _))))))
 all_goals (try unfold elV limbV)
 repeat (go_big_quiet_step (first | (go_at_call 92; exact calls_over (gBase_any G OK.out gb _ (hG0.up (Over.h _)))) | (go_at_call 91; exact calls_over (gPower_any G OK.out gb _ _ _ (hG0.up (Over.h _))))))
 all_goals (try unfold elV limbV)
 repeat (go_big_quiet_step (first | (go_at_call 92; exact calls_over (gBase_any G OK.out gb _ (hG0.up (Over.h _)))) | (go_at_call 91; exact calls_over (gPower_any G OK.out gb _ _ _ (hG0.up (Over.h _))))))
 refine wpQuiet_nil ?_
 rintro _ ⟨E, rfl⟩
 have HZ := Lib.hid (HC.out.below E.h HC.out.lt)
 have HBB := Lib.hid (below_up HBW.out E.h)
 clear hova
 generalize E.w = w3 at *
 have HS5 : Hid (Bx ((((w3.setCell ⟨w.heap.size + 1, 0, none⟩ (.int .u64 (dig (mont G.p.m (2 ^ (x % G.q.m))) 0 : Int))).setCell ⟨w.heap.size + 1, 1, none⟩ (.int .u64 (dig (mont G.p.m (2 ^ (x % G.q.m))) 1 : Int))).setCell ⟨w.heap.size + 1, 2, none⟩ (.int .u64 (dig (mont G.p.m (2 ^ (x % G.q.m))) 2 : Int))).setCell ⟨w.heap.size + 1, 3, none⟩ (.int .u64 (dig (mont G.p.m (2 ^ (x % G.q.m))) 3 : Int))) (w.heap.size + 1) 91 [.int .u64 (dig (mont G.p.m (2 ^ (x % G.q.m))) 0 : Int), .int .u64 (dig (mont G.p.m (2 ^ (x % G.q.m))) 1 : Int), .int .u64 (dig (mont G.p.m (2 ^ (x % G.q.m))) 2 : Int), .int .u64 (dig (mont G.p.m (2 ^ (x % G.q.m))) 3 : Int)]) := ((((HZ.out.set 0 (.int .u64 (dig (mont G.p.m (2 ^ (x % G.q.m))) 0 : Int))).set 1 (.int .u64 (dig (mont G.p.m (2 ^ (x % G.q.m))) 1 : Int))).set 2 (.int .u64 (dig (mont G.p.m (2 ^ (x % G.q.m))) 2 : Int))).set 3 (.int .u64 (dig (mont G.p.m (2 ^ (x % G.q.m))) 3 : Int)))
 have HB5 : Hid (Below w.heap.size w ((((w3.setCell ⟨w.heap.size + 1, 0, none⟩ (.int .u64 (dig (mont G.p.m (2 ^ (x % G.q.m))) 0 : Int))).setCell ⟨w.heap.size + 1, 1, none⟩ (.int .u64 (dig (mont G.p.m (2 ^ (x % G.q.m))) 1 : Int))).setCell ⟨w.heap.size + 1, 2, none⟩ (.int .u64 (dig (mont G.p.m (2 ^ (x % G.q.m))) 2 : Int))).setCell ⟨w.heap.size + 1, 3, none⟩ (.int .u64 (dig (mont G.p.m (2 ^ (x % G.q.m))) 3 : Int)))) := ((((HBB.out.setCell (show w.heap.size ≤ w.heap.size + 1 by omega) _).setCell (show w.heap.size ≤ w.heap.size + 1 by omega) _).setCell (show w.heap.size ≤ w.heap.size + 1 by omega) _).setCell (show w.heap.size ≤ w.heap.size + 1 by omega) _)
 have hz_0 := HZ.out.cell (i := 0) rfl
 have hz_1 := HZ.out.cell (i := 1) rfl
 have hz_2 := HZ.out.cell (i := 2) rfl
 have hz_3 := HZ.out.cell (i := 3) rfl
 have hzf_0 := HZ.out.frozen 0
 have hzf_1 := HZ.out.frozen 1
 have hzf_2 := HZ.out.frozen 2
 have hzf_3 := HZ.out.frozen 3
 go_wp2_with fail
 generalize ((((w3.setCell ⟨w.heap.size + 1, 0, none⟩ (.int .u64 (dig (mont G.p.m (2 ^ (x % G.q.m))) 0 : Int))).setCell ⟨w.heap.size + 1, 1, none⟩ (.int .u64 (dig (mont G.p.m (2 ^ (x % G.q.m))) 1 : Int))).setCell ⟨w.heap.size + 1, 2, none⟩ (.int .u64 (dig (mont G.p.m (2 ^ (x % G.q.m))) 2 : Int))).setCell ⟨w.heap.size + 1, 3, none⟩ (.int .u64 (dig (mont G.p.m (2 ^ (x % G.q.m))) 3 : Int))) = w5 at *
 clear hz_0 hz_1 hz_2 hz_3
 have hg_0 := HS5.out.cell (i := 0) rfl
 have hg_1 := HS5.out.cell (i := 1) rfl
 have hg_2 := HS5.out.cell (i := 2) rfl
 have hg_3 := HS5.out.cell (i := 3) rfl
 simp [bodyPost, results, Tryz.results44, go_sem, hg_0, hg_1, hg_2, hg_3]
 exact HB5.out
end Go.Proofs.YtjmeakfjfpnciaaGreat
namespace Go.Proofs.YtjmeakfjfpnciaaGreat
open Go.RowKit
theorem four6_any (n : Nat) (hn : n < 9223372036854775808) (w : World) : Calls Tryz.prog 111 #[.int .i64 (n : Int)] w (Gives (.string (fourS n)) w) := by
 have hn0 : (0 : Int) ≤ (n : Int) := by omega
 unfold Gives
 go_enter Tryz.func111, Tryz.ntmps111
 obtain ⟨w1, hq1, hb9, hz9, Hr⟩ := new1 w 5 [.int .u8 ((n : Int) / 16777216 % 256), .int .u8 ((n : Int) / 65536 % 256), .int .u8 ((n : Int) / 256 % 256), .int .u8 ((n : Int) % 256)]
 have HB := Lib.hid hb9
 have HZS := hz9
 clear hb9 hz9
 have r_ := Hr.out.c4
 have hcv := run_convert_bytes_arg (P := Tryz.prog) w1 173 5 Tryz.underlying173 Tryz.underlying5 w.heap.size 0 4 4 [(n : Int) / 16777216 % 256, (n : Int) / 65536 % 256, (n : Int) / 256 % 256, (n : Int) % 256] rfl (fun i hi => by
  rcases (show i = 0 ∨ i = 1 ∨ i = 2 ∨ i = 3 by omega) with rfl | rfl | rfl | rfl
  ·exact Hr.out.cell (i := 0) rfl
  ·exact Hr.out.cell (i := 1) rfl
  ·exact Hr.out.cell (i := 2) rfl
  ·exact Hr.out.cell (i := 3) rfl) 9 Tryz.underlying9
 go_wp2_with fail
 clear hq1
 go_ret
 exact ⟨rfl, HB.out⟩
def rightB (need of : Int) : Bool := decide (1 ≤ of ∧ of ≤ 8 ∧ 1 ≤ need ∧ need ≤ of)
theorem right6_any (need of : Int) (w : World) : Calls Tryz.prog 41 #[.int .i64 need, .int .i64 of] w (Gives (.bool (rightB need of)) w) := by
 unfold Gives rightB
 by_cases h1 : 1 ≤ of <;> by_cases h2 : of ≤ 8 <;> by_cases h3 : 1 ≤ need <;> by_cases h4 : need ≤ of <;>
  (go_enter Tryz.func41, Tryz.ntmps41
   go_wp2
   go_ret
   exact ⟨ret_bool (by simp [h1, h2, h3, h4]), Below.refl _ _⟩)
abbrev chanceB : ByteArray := ⟨#[99, 104, 97, 110, 99, 101]⟩
abbrev coefB : ByteArray := ⟨#[99, 111, 101, 102, 102, 105, 99, 105, 101, 110, 116]⟩
def chcN (label seed : ByteArray) (i : Nat) : Nat := numOf (strmS (tagS label [seed, fourS i]) chanceB)
theorem chance_any (G : GP) (ok : G.Ok) (gb : Nat) (seed label : ByteArray) (i : Nat) (hi : i < 9223372036854775808) (hs : seed.size < 140737488355328) (hl : label.size < 140737488355328) (w : World) (hG : GroupAt w gb G) :
  Calls Tryz.prog 86 #[.pointer (some ⟨gb, 0, none⟩), .string seed, .string label, .int .i64 (i : Int)] w (Gives (scV G (chcN label seed i)) w) := by
 have HT := Lib.hid (fun a c w h => Tag_any label [seed, fourS i] 2 rfl (join_small label _ 0 (by simp) (by
  intro x hx
  simp only [List.mem_cons, List.not_mem_nil, or_false] at hx
  rcases hx with rfl | rfl
  ·exact hs
  ·rw [fourS_size]; decide) hl) a c w h)
 have HS := Lib.hid (fun w => stream_any (tagS label [seed, fourS i]) chanceB (by rw [tagS_size]; decide) (by decide) w)
 have HF := Lib.hid (fun w => four6_any i hi w)
 have HZ := Lib.hid (strmS_size (tagS label [seed, fourS i]) chanceB)
 unfold chcN
 unfold Gives at HS HF
 generalize strmS (tagS label [seed, fourS i]) chanceB = st at *
 generalize tagS label [seed, fourS i] = t at *
 generalize fourS i = f4 at *
 have HR := Lib.hid (fun w h => gReduce_any G ok gb st (by rw [HZ.out]; unfold maxLen; decide) w h)
 have HG := Lib.hid hG
 have HGL := Lib.hid hG.lt
 clear hG ok hi hs hl
 unfold scV limbV at HR ⊢
 unfold Gives
 go_enter Tryz.func86, Tryz.ntmps86
 have HZS := HGL
 go_upto_region 1 with fail
 obtain ⟨w1, hq1, hb9, hz9, Hc⟩ := new1 w 89 ([.int .u64 0, .int .u64 0, .int .u64 0, .int .u64 0])
 rw [hq1]
 clear hq1
 replace HG := Lib.hid (HG.out.up hb9)
 have HB := Lib.hid hb9
 replace HZS := sz HZS hz9.out
 clear hb9 hz9
 go_wp2_with fail
 refine (HF.out w1).mono ?_
 rintro e w2 ⟨rfl, hb9⟩
 replace Hc := Lib.hid (Hc.out.up hb9)
 replace HG := Lib.hid (HG.out.up hb9)
 replace HB := hbu HB hb9
 replace HZS := sz HZS hb9.size
 clear hb9
 obtain ⟨w3, hq3, hb9, hz9, Hr⟩ := new1 w2 9 [.string seed, .string f4]
 replace Hc := Lib.hid (Hc.out.up hb9)
 replace HG := Lib.hid (HG.out.up hb9)
 replace HB := hbu HB hb9
 replace HZS := sz HZS hz9.out
 clear hb9 hz9
 have r_ := Hr.out.c2
 go_wp2_with fail
 clear hq3
 refine (HT.out _ _ w3 (Sl.ofB Hr.out)).mono ?_
 rintro e w4 ⟨rfl, hb9⟩
 replace Hc := Lib.hid (Hc.out.up hb9)
 clear r_
 replace Hr := Lib.hid (Hr.out.up hb9)
 replace HG := Lib.hid (HG.out.up hb9)
 replace HB := hbu HB hb9
 replace HZS := sz HZS hb9.size
 clear hb9
 have r_ := Hr.out.c2
 go_wp2_with fail
 refine (HS.out w4).mono ?_
 rintro e w5 ⟨rfl, hb9⟩
 replace Hc := Lib.hid (Hc.out.up hb9)
 clear r_
 replace Hr := Lib.hid (Hr.out.up hb9)
 replace HG := Lib.hid (HG.out.up hb9)
 replace HB := hbu HB hb9
 replace HZS := sz HZS hb9.size
 clear hb9
 have r_ := Hr.out.c2
 go_wp2_with fail
 refine (HR.out w5 HG.out).mono ?_
 rintro e w6 ⟨rfl, hb9⟩
 replace Hc := Lib.hid (Hc.out.up hb9)
 clear r_
 replace Hr := Lib.hid (Hr.out.up hb9)
 replace HG := Lib.hid (HG.out.up hb9)
 replace HB := hbu HB hb9
 replace HZS := sz HZS hb9.size
 clear hb9
 have r_ := Hr.out.c2
 have c_ := Hc.out.c4
 have f7_c := Hc.out.frozen
 have o7_c_ := c_; clear c_
 have o7_r_ := r_; clear r_
 obtain ⟨w7, hq7, hg9, hz9, hx9⟩ := put4 Hc 0 (.int .u64 (dig (mont G.q.m (numOf st)) 0 : Int)) 1 (.int .u64 (dig (mont G.q.m (numOf st)) 1 : Int)) 2 (.int .u64 (dig (mont G.q.m (numOf st)) 2 : Int)) 3 (.int .u64 (dig (mont G.q.m (numOf st)) 3 : Int)) [.int .u64 (dig (mont G.q.m (numOf st)) 0 : Int), .int .u64 (dig (mont G.q.m (numOf st)) 1 : Int), .int .u64 (dig (mont G.q.m (numOf st)) 2 : Int), .int .u64 (dig (mont G.q.m (numOf st)) 3 : Int)] rfl
 replace Hr := Lib.hid (Hr.out.grown hg9.out (sne (by have g0 := HZS.out; omega)))
 replace HG := Lib.hid (HG.out.grown hg9.out (sne (by have g0 := HZS.out; omega)))
 replace HB := hbg HB hg9 (by have g0 := HZS.out; omega)
 replace HZS := sz HZS hz9.out
 replace Hc := hx9
 clear hx9 hg9 hz9
 have c_ := Hc.out.c4
 have r_ := Hr.out.c2
 go_wp2_with fail
 clear hq7 o7_r_ o7_c_ f7_c
 simp [bodyPost, results, Tryz.results86, go_sem, c_]
 exact HB.out
def coefL (q : Nat) (f : Nat → Nat) (n : Nat) : List Value := (List.range n).flatMap fun k => lim4 q (f k)
theorem coefL_snoc (q : Nat) (f : Nat → Nat) (n : Nat) : coefL q f (n + 1) = coefL q f n ++ lim4 q (f n) := by
 unfold coefL
 rw [List.range_succ, List.flatMap_append]
 simp
def CoefR (q : Nat) (f : Nat → Nat) (n : Nat) (w : World) (e : Ending) (w' : World) : Prop :=
 Below w.heap.size w w' ∧ ∃ a c, e = .returned (.slice a n c) ∧ Sl w' w'.heap.size a (coefL q f n) ∧ ∀ y, a = some y → w.heap.size ≤ y.block
theorem deal_any (G : GP) (ok : G.Ok) (gb : Nat) (n : Nat) (hn : n ≤ 8) (seed : ByteArray) (hs : seed.size < 140737488355328) (w : World) (hG : GroupAt w gb G) :
  Calls Tryz.prog 42 #[.pointer (some ⟨gb, 0, none⟩), .int .i64 (n : Int), .string seed] w (CoefR G.q.m (chcN coefB seed) n w) := by
 unfold CoefR
 have HC := Lib.hid (fun i (hi : i < 9223372036854775808) w h => chance_any G ok gb seed coefB i hi hs (by decide) w h)
 unfold Gives at HC
 generalize chcN coefB seed = f at *
 have HG := Lib.hid hG
 have HGL := Lib.hid hG.lt
 clear hG ok hs
 go_enter Tryz.func42, Tryz.ntmps42
 go_wp2_with fail
 go_loopw [10, 7] (fun i v wr => ∃ (j : Nat) (g : Option Addr) (c9 : Nat), j ≤ n ∧ i = .int .i64 j ∧ v = .slice g j c9 ∧ Hid (Below w.heap.size w wr) ∧ Hid (RowO w.heap.size wr 89 4 (.slice g j c9) j (coefL G.q.m f j))) (fun i _ _ => n - (intOf i).toNat)
 case atStart => exact ⟨0, none, 0, Nat.zero_le _, rfl, rfl, Below.refl _ _, RowO.nil⟩
 case round =>
  obtain ⟨j, g, c9, hj, rfl, rfl, HB, Hr⟩ := hrel
  by_cases hjn : j < n
  ·have HSB := Lib.hid HB.out.size
   have HZS := HSB
   have HGP := Lib.hid (HG.out.up HB.out)
   replace HZS := sz HZS HGL.out
   have HSN := Lib.hid (coefL_snoc G.q.m f j)
   have HCJ := Lib.hid (HC.out j (by omega))
   generalize f j = fj at *
   unfold scV limbV at HCJ
   go_wp2_with fail
   refine (HCJ.out wr HGP.out).mono ?_
   rintro e w1 ⟨rfl, hb9⟩
   replace HGP := Lib.hid (HGP.out.up hb9)
   replace Hr := Lib.hid (Hr.out.up hb9)
   replace HB := hbu HB hb9
   replace HZS := sz HZS hb9.size
   clear hb9
   obtain ⟨i9, hi9, hz90, hz91, hz92⟩ := info_parts infoScalar
   go_wp2_with (at_builtin; refine wpList_pushR (w.heap.size) w1 (by have g0 := HZS.out; omega) rfl _ _ 83 rfl 89 i9 _ 4 32 Tryz.underlying83 hi9 hz90 hz91 hz92 rfl (by omega) ((.slice g j c9)) (j) ((coefL G.q.m f j)) rfl Hr.out _ _ _ rfl rfl rfl (by simp [Value.oneCell']) (by omega) (by unfold maxLen; omega) ?_)
   intro g2 c2 w2 hown9 hg9
   have hb9 := Below.grown HB.out hg9 (by have g0 := HZS.out; omega) (fun q hq => Nat.le_trans (show w.heap.size ≤ w.heap.size by have g0 := HZS.out; omega) (Hr.out.lt q hq).1)
   replace HGP := Lib.hid (HGP.out.grown hg9 (fun e9 => by have a1 := Hr.out.lt _ e9; have g0 := HZS.out; omega))
   replace HZS := sz HZS hg9.size
   clear Hr HB
   have Hr := Lib.hid hown9
   have HB := Lib.hid hb9
   clear hb9 hown9 hg9 hi9 hz90 hz91 hz92
   go_wp2_with fail
   go_roundw
   case rel => exact ⟨j + 1, _, _, by omega, by go_num, rfl, HB, Hr.out.eq HSN.out.symm rfl⟩
   case measure => simp [intOf]; omega
  ·have hjn' : j = n := by omega
   subst hjn'
   go_wp2_with fail
   go_ret
   exact ⟨HB.out, g, c9, rfl, Hr.out.sl, fun y hy => (Hr.out.lt y.block (by rw [hy]; rfl)).1⟩
def hrN (c : Nat → Nat) (x n : Nat) : Nat → Nat
 | 0 => 0
 | d + 1 => hrN c x n d * x + c (n - 1 - d)
theorem value_any (G : GP) (ok : G.Ok) (gb : Nat) (f : Nat → Nat) (n : Nat) (hn : n ≤ 16) (x : Int) (h1 : -9223372036854775808 ≤ x) (h2 : x ≤ 9223372036854775807) (a : Option Addr) (c : Nat) (w : World) (hG : GroupAt w gb G) (hS : Sl w w.heap.size a (coefL G.q.m f n)) :
  Calls Tryz.prog 46 #[.pointer (some ⟨gb, 0, none⟩), .slice a n c, .int .i64 x] w (Gives (scV G (hrN f (modI G.q.m x) n n)) w) := by
 unfold Gives
 have OK := Lib.hid ok
 have HN := Lib.hid (fun w h => gNumber_any G ok gb x h1 h2 w h)
 have HG := Lib.hid hG
 have HG0 := HG
 have HGL := Lib.hid hG.lt
 have HS := Lib.hid hS
 generalize modI G.q.m x = xm at *
 unfold scV limbV at HN ⊢
 clear hG ok hS h1 h2
 go_enter Tryz.func46, Tryz.ntmps46
 have HZS := HGL
 go_upto_region 1 with fail
 obtain ⟨w1, hq1, hb9, hz9, Hc0⟩ := new1 w 89 ([.int .u64 0, .int .u64 0, .int .u64 0, .int .u64 0])
 rw [hq1]
 clear hq1
 replace HG := Lib.hid (HG.out.up hb9)
 have HB := Lib.hid hb9
 replace HZS := sz HZS hz9.out
 clear hb9 hz9
 obtain ⟨w2, hq2, hb9, hz9, Hsm⟩ := new1 w1 89 ([.int .u64 0, .int .u64 0, .int .u64 0, .int .u64 0])
 replace Hc0 := Lib.hid (Hc0.out.up hb9)
 replace HG := Lib.hid (HG.out.up hb9)
 replace HB := hbu HB hb9
 replace HZS := sz HZS hz9.out
 clear hb9 hz9
 go_upto_region 2 with fail
 go_wp2_with fail
 clear hq2
 refine (HN.out w2 HG.out).mono ?_
 rintro e w3 ⟨rfl, hb9⟩
 replace Hc0 := Lib.hid (Hc0.out.up hb9)
 replace Hsm := Lib.hid (Hsm.out.up hb9)
 replace HG := Lib.hid (HG.out.up hb9)
 replace HB := hbu HB hb9
 replace HZS := sz HZS hb9.size
 clear hb9
 obtain ⟨w4, hq4, hb9, hz9, Hxb⟩ := new1 w3 89 [.int .u64 (dig (mont G.q.m xm) 0 : Int), .int .u64 (dig (mont G.q.m xm) 1 : Int), .int .u64 (dig (mont G.q.m xm) 2 : Int), .int .u64 (dig (mont G.q.m xm) 3 : Int)]
 replace Hc0 := Lib.hid (Hc0.out.up hb9)
 replace Hsm := Lib.hid (Hsm.out.up hb9)
 replace HG := Lib.hid (HG.out.up hb9)
 replace HB := hbu HB hb9
 replace HZS := sz HZS hz9.out
 clear hb9 hz9
 have xb_ := Hxb.out.c4
 have hw1 : wrap64 ((n : Int) - 1) = (n : Int) - 1 := by unfold wrap64; omega
 go_wp2_with fail
 clear hq4 hw1
 have HAD := Lib.hid (show w.heap.size < w1.heap.size ∧ w1.heap.size < w3.heap.size from ⟨by have := HZS.out; omega, by have := HZS.out; omega⟩)
 obtain ⟨xa, hxa⟩ : ∃ q, w3.heap.size = q := ⟨_, rfl⟩
 obtain ⟨sa, hsa⟩ : ∃ q, w1.heap.size = q := ⟨_, rfl⟩
 rw [hxa, hsa] at HAD
 rw [hxa] at Hxb xb_ ⊢
 rw [hsa] at Hsm ⊢
 clear hxa hsa xb_
 have HHD := Lib.hid (fun d => show hrN f xm n (d + 1) = hrN f xm n d * xm + f (n - 1 - d) from rfl)
 go_loopw [9] (fun v wr => ∃ d : Nat, d ≤ n ∧ v = .int .i64 ((n : Int) - 1 - (d : Int)) ∧ Hid (Below w.heap.size w wr) ∧ Hid (Bx wr w.heap.size 89 [.int .u64 0, .int .u64 0, .int .u64 0, .int .u64 0]) ∧ Hid (Bx wr sa 89 (lim4 G.q.m (hrN f xm n d))) ∧ Hid (Bx wr xa 89 (lim4 G.q.m xm))) (fun v _ => (intOf v + 1).toNat)
 case atStart => exact ⟨0, Nat.zero_le _, by simp, HB, Hc0, Lib.hid (show Bx w4 sa 89 (lim4 G.q.m 0) by unfold lim4; rw [mont_zero8]; simp only [dig_zero8]; exact Hsm.out), Hxb⟩
 case round =>
  clear HB Hc0 Hsm Hxb HG HZS
  obtain ⟨d, hd, rfl, HB, Hc0, Hsm, Hxb⟩ := hrel
  have HSW := Lib.hid (show sa < wr.heap.size ∧ xa < wr.heap.size ∧ w.heap.size ≤ wr.heap.size from ⟨Hsm.out.lt, Hxb.out.lt, HB.out.size⟩)
  have HGP := Lib.hid (HG0.out.up HB.out)
  by_cases hdn : d < n
  ·obtain ⟨k9, hk9⟩ : ∃ k9 : Nat, (n : Int) - 1 - (d : Int) = (k9 : Int) := ⟨n - 1 - d, by omega⟩
   rw [hk9]
   have HK9 := Lib.hid hk9
   have hk9n : k9 < n := by omega
   have HH1 := Lib.hid (show hrN f xm n (d + 1) = hrN f xm n d * xm + f k9 by rw [HHD.out, show n - 1 - d = k9 by omega])
   have HS1 := Lib.hid (show Sl wr wr.heap.size a ((List.range n).flatMap fun k => lim4 G.q.m (f k)) from HS.out.up HB.out)
   obtain ⟨bv, ov, rfl, hbv⟩ := HS1.out.adr (flat_ne (fun i => lim4_len _ _) (by omega) (by rw [← List.length_pos_iff, List.length_range]; omega))
   have hcv := (HS1.out.elemS (fun i => lim4_len _ _) (by omega) k9 (by simpa using hk9n)).2
   rw [List.getElem_range] at hcv
   have hcv_0 := hcv 0 _ rfl
   rw [Nat.add_zero] at hcv_0
   have hcv_1 := hcv 1 _ rfl
   have hcv_2 := hcv 2 _ rfl
   have hcv_3 := hcv 3 _ rfl
   clear hcv HS1 hk9
   generalize f k9 = fk at *
   obtain ⟨hr, hhr⟩ : ∃ v, hrN f xm n d = v := ⟨_, rfl⟩
   rw [hhr] at Hsm HH1
   clear hhr
   replace Hsm := Lib.hid (show Bx wr sa 89 [.int .u64 (dig (mont G.q.m hr) 0 : Int), .int .u64 (dig (mont G.q.m hr) 1 : Int), .int .u64 (dig (mont G.q.m hr) 2 : Int), .int .u64 (dig (mont G.q.m hr) 3 : Int)] from Hsm.out)
   replace Hxb := Lib.hid (show Bx wr xa 89 [.int .u64 (dig (mont G.q.m xm) 0 : Int), .int .u64 (dig (mont G.q.m xm) 1 : Int), .int .u64 (dig (mont G.q.m xm) 2 : Int), .int .u64 (dig (mont G.q.m xm) 3 : Int)] from Hxb.out)
   have HZS := HAD
   replace HZS := sz HZS HSW.out
   replace HZS := sz HZS HGL.out
   have sm_ := Hsm.out.c4
   have xb_ := Hxb.out.c4
   have hge : decide ((k9 : Int) ≥ 0) = true := by simp
   have hw1 : wrap64 ((k9 : Int) - 1) = (k9 : Int) - 1 := by unfold wrap64; omega
   go_wp2_with fail
   have HT := Lib.hid (show Below wr.heap.size wr wr.drew from (Below.refl _ _).drew)
   have hl_sm := Hsm.out.lt
   have hl_xb := Hxb.out.lt
   refine wp_region_treek (fun wq9 => ∃ E : Over wr, wq9 = E.w) 10 ((.qs [0, 1] (.e 2 [] (.e 3 [] (.qs [5, 6, 7] (.e 8 [] (.a 4 (.a 9 (.a 10 .done))))))))) (by kernel_rfl) (by kernel_rfl) (fun _ _ d _ _ h => by cases d <;> exact h) ⟨⟨_, HT.out⟩, rfl⟩ ?_
   have hov_sm := fun (E : Over wr) o => E.cell (b := sa) o hl_sm
   have hov_xb := fun (E : Over wr) o => E.cell (b := xa) o hl_xb
   have hov_bv := fun (E : Over wr) o => E.cell (b := bv) o hbv
   simp only [TreeK.qs]
   repeat (first | (refine treek_q rfl rfl ?_; go_big_quiet_step (fail); refine wpQuiet_nil ?_) | (refine treek_e rfl rfl ?_; go_big_quiet_step (fail); refine wpQuiet_nil ?_))
   clear hcv_0 hcv_1 hcv_2 hcv_3
   refine treek_a rfl (fun K hK => ?_)
   go_simp
   refine (gMul_any G OK.out gb hr xm _ (HGP.out.up HT.out)).mono ?_
   rintro e w5 ⟨rfl, hb9⟩
   replace HT := Lib.hid (below_up HT.out hb9)
   replace HZS := sz HZS (show wr.heap.size ≤ w5.heap.size from HT.out.size)
   clear hb9
   refine hK _ _ ⟨fun _ => ⟨⟨w5, HT.out⟩, rfl⟩, ?_⟩
   clear hK K
   repeat (first | (refine treek_q rfl rfl ?_; go_big_quiet_step (fail); refine wpQuiet_nil ?_) | (refine treek_e rfl rfl ?_; go_big_quiet_step (fail); refine wpQuiet_nil ?_))
   refine treek_a rfl (fun K hK => ?_)
   go_simp
   refine (gAdd_any G OK.out gb (hr * xm) fk _ (HGP.out.up HT.out)).mono ?_
   rintro e w6 ⟨rfl, hb9⟩
   replace HT := Lib.hid (below_up HT.out hb9)
   replace HZS := sz HZS (show wr.heap.size ≤ w6.heap.size from HT.out.size)
   clear hb9
   unfold scV limbV
   refine hK _ _ ⟨fun _ => ⟨⟨w6, HT.out⟩, rfl⟩, ?_⟩
   clear hK K
   repeat (first | (refine treek_q rfl rfl ?_; go_big_quiet_step (fail); refine wpQuiet_nil ?_) | (refine treek_e rfl rfl ?_; go_big_quiet_step (fail); refine wpQuiet_nil ?_))
   clear hov_sm hl_sm hov_xb hl_xb hov_bv
   refine treek_a rfl (fun K hK => ?_)
   clear sm_
   replace Hsm := Lib.hid (Hsm.out.up HT.out)
   clear xb_
   replace Hxb := Lib.hid (Hxb.out.up HT.out)
   replace HGP := Lib.hid (HGP.out.up HT.out)
   replace Hc0 := Lib.hid (Hc0.out.up HT.out)
   replace HB := hbu HB HT.out
   replace HZS := sz HZS HT.out.size
   clear HT
   have sm_ := Hsm.out.c4
   have xb_ := Hxb.out.c4
   have f7_sm := Hsm.out.frozen
   have o7_sm_ := sm_; clear sm_
   have o7_xb_ := xb_; clear xb_
   obtain ⟨w7, hq7, hg9, hz9, hx9⟩ := put4 Hsm 0 (.int .u64 (dig (mont G.q.m (hr * xm + fk)) 0 : Int)) 1 (.int .u64 (dig (mont G.q.m (hr * xm + fk)) 1 : Int)) 2 (.int .u64 (dig (mont G.q.m (hr * xm + fk)) 2 : Int)) 3 (.int .u64 (dig (mont G.q.m (hr * xm + fk)) 3 : Int)) [.int .u64 (dig (mont G.q.m (hr * xm + fk)) 0 : Int), .int .u64 (dig (mont G.q.m (hr * xm + fk)) 1 : Int), .int .u64 (dig (mont G.q.m (hr * xm + fk)) 2 : Int), .int .u64 (dig (mont G.q.m (hr * xm + fk)) 3 : Int)] rfl
   replace Hxb := Lib.hid (Hxb.out.grown hg9.out (sne (by have g0 := HZS.out; omega)))
   replace HGP := Lib.hid (HGP.out.grown hg9.out (sne (by have g0 := HZS.out; omega)))
   replace Hc0 := Lib.hid (Hc0.out.grown hg9.out (sne (by have g0 := HZS.out; omega)))
   replace HB := hbg HB hg9 (by have g0 := HZS.out; omega)
   replace HZS := sz HZS hz9.out
   replace Hsm := hx9
   clear hx9 hg9 hz9
   have sm_ := Hsm.out.c4
   have xb_ := Hxb.out.c4
   go_simp
   try rw [hq7]
   refine hK _ _ ⟨fun h9 => absurd rfl h9, ?_⟩
   clear hK K hq7 o7_xb_ o7_sm_ f7_sm
   repeat (first | (refine treek_q rfl rfl ?_; go_big_quiet_step (fail); refine wpQuiet_nil ?_) | (refine treek_e rfl rfl ?_; go_big_quiet_step (fail); refine wpQuiet_nil ?_))
   refine treek_end ?_
   go_wp2_with fail
   go_roundw
   case rel => exact ⟨d + 1, by omega, by have h9 := HK9.out; rw [show ((n : Int) - 1 - ((d + 1 : Nat) : Int)) = (k9 : Int) - 1 by omega], HB, Hc0, by rw [HH1.out]; exact Hsm, Hxb⟩
   case measure => simp [intOf]
  ·have hdn' : d = n := by omega
   subst hdn'
   have hge : decide (((d : Int) - 1 - (d : Int)) ≥ 0) = false := by simp; omega
   obtain ⟨hr, hhr⟩ : ∃ v, hrN f xm d d = v := ⟨_, rfl⟩
   have HHR := Lib.hid hhr
   rw [hhr] at Hsm
   clear hhr
   replace Hsm := Lib.hid (show Bx wr sa 89 [.int .u64 (dig (mont G.q.m hr) 0 : Int), .int .u64 (dig (mont G.q.m hr) 1 : Int), .int .u64 (dig (mont G.q.m hr) 2 : Int), .int .u64 (dig (mont G.q.m hr) 3 : Int)] from Hsm.out)
   have HZS := HAD
   replace HZS := sz HZS HSW.out
   have sm_ := Hsm.out.c4
   have c0_ := Hc0.out.c4
   have f5_c0 := Hc0.out.frozen
   have o5_sm_ := sm_; clear sm_
   have o5_c0_ := c0_; clear c0_
   obtain ⟨w5, hq5, hg9, hz9, hx9⟩ := put4 Hc0 0 (.int .u64 (dig (mont G.q.m hr) 0 : Int)) 1 (.int .u64 (dig (mont G.q.m hr) 1 : Int)) 2 (.int .u64 (dig (mont G.q.m hr) 2 : Int)) 3 (.int .u64 (dig (mont G.q.m hr) 3 : Int)) [.int .u64 (dig (mont G.q.m hr) 0 : Int), .int .u64 (dig (mont G.q.m hr) 1 : Int), .int .u64 (dig (mont G.q.m hr) 2 : Int), .int .u64 (dig (mont G.q.m hr) 3 : Int)] rfl
   replace Hsm := Lib.hid (Hsm.out.grown hg9.out (sne (by have g0 := HZS.out; omega)))
   replace HB := hbg HB hg9 (by have g0 := HZS.out; omega)
   replace HZS := sz HZS hz9.out
   replace Hc0 := hx9
   clear hx9 hg9 hz9
   have sm_ := Hsm.out.c4
   have c0_ := Hc0.out.c4
   go_wp2_with fail
   clear hq5 o5_c0_ o5_sm_ f5_c0
   simp [bodyPost, results, Tryz.results46, go_sem, c0_]
   exact (by rw [HHR.out]; exact ⟨⟨rfl, rfl, rfl, rfl⟩, HB.out⟩)
end Go.Proofs.YtjmeakfjfpnciaaGreat
namespace Go.Proofs.YtjmeakfjfpnciaaGreat
open Go.RowKit
def comN (cs : List ByteArray) (k : Nat) : Nat := numOf (cs.getD k ⟨#[]⟩)
theorem comN_here {cs : List ByteArray} {i : Nat} (h : i < cs.length) : comN cs i = numOf cs[i] := by unfold comN; rw [List.getD_eq_getElem?_getD, List.getElem?_eq_getElem h]; rfl
def seeN (q : Nat) (c : Nat → Nat) (x n : Nat) : Nat → Nat
 | 0 => 1
 | d + 1 => seeN q c x n d ^ (x % q) * c (n - 1 - d)
theorem com_flat (m : Nat) (cs : List ByteArray) : cs.flatMap (limC m) = coefL m (comN cs) cs.length := by
 unfold coefL
 have h : cs = (List.range cs.length).map fun k => cs.getD k ⟨#[]⟩ := by
  refine List.ext_getElem (by simp) fun i h1 h2 => ?_
  rw [List.getElem_map, List.getElem_range, List.getD_eq_getElem?_getD, List.getElem?_eq_getElem h1]
  rfl
 conv => lhs; rw [h]
 rw [List.flatMap_map]
 rfl
theorem see_any (G : GP) (ok : G.Ok) (gb : Nat) (f : Nat → Nat) (n : Nat) (hn : n ≤ 16) (x : Int) (h1 : -9223372036854775808 ≤ x) (h2 : x ≤ 9223372036854775807) (a : Option Addr) (c : Nat) (w : World) (hG : GroupAt w gb G) (hS : Sl w w.heap.size a (coefL G.p.m f n)) :
  Calls Tryz.prog 51 #[.pointer (some ⟨gb, 0, none⟩), .slice a n c, .int .i64 x] w (Gives (elV G (seeN G.q.m f (modI G.q.m x) n n)) w) := by
 unfold Gives
 have OK := Lib.hid ok
 have HN := Lib.hid (fun w h => gNumber_any G ok gb x h1 h2 w h)
 have HO := Lib.hid (fun w h => gOne_any G ok gb w h)
 have HG := Lib.hid hG
 have HG0 := HG
 have HGL := Lib.hid hG.lt
 have HS := Lib.hid hS
 generalize modI G.q.m x = xm at *
 unfold scV limbV at HN
 unfold elV limbV at HO ⊢
 clear hG ok hS h1 h2
 go_enter Tryz.func51, Tryz.ntmps51
 have HZS := HGL
 go_upto_region 1 with fail
 obtain ⟨w1, hq1, hb9, hz9, Hc0⟩ := new1 w 91 ([.int .u64 0, .int .u64 0, .int .u64 0, .int .u64 0])
 rw [hq1]
 clear hq1
 replace HG := Lib.hid (HG.out.up hb9)
 have HB := Lib.hid hb9
 replace HZS := sz HZS hz9.out
 clear hb9 hz9
 go_wp2_with fail
 refine (HO.out w1 HG.out).mono ?_
 rintro e w2 ⟨rfl, hb9⟩
 replace Hc0 := Lib.hid (Hc0.out.up hb9)
 replace HG := Lib.hid (HG.out.up hb9)
 replace HB := hbu HB hb9
 replace HZS := sz HZS hb9.size
 clear hb9
 obtain ⟨w3, hq3, hb9, hz9, Hsm⟩ := new1 w2 91 [.int .u64 (dig (mont G.p.m 1) 0 : Int), .int .u64 (dig (mont G.p.m 1) 1 : Int), .int .u64 (dig (mont G.p.m 1) 2 : Int), .int .u64 (dig (mont G.p.m 1) 3 : Int)]
 replace Hc0 := Lib.hid (Hc0.out.up hb9)
 replace HG := Lib.hid (HG.out.up hb9)
 replace HB := hbu HB hb9
 replace HZS := sz HZS hz9.out
 clear hb9 hz9
 have sm_ := Hsm.out.c4
 go_wp2_with fail
 clear hq3
 refine (HN.out w3 HG.out).mono ?_
 rintro e w4 ⟨rfl, hb9⟩
 replace Hc0 := Lib.hid (Hc0.out.up hb9)
 clear sm_
 replace Hsm := Lib.hid (Hsm.out.up hb9)
 replace HG := Lib.hid (HG.out.up hb9)
 replace HB := hbu HB hb9
 replace HZS := sz HZS hb9.size
 clear hb9
 have sm_ := Hsm.out.c4
 have o5_sm_ := sm_; clear sm_
 obtain ⟨w5, hq5, hb9, hz9, Hxb⟩ := new1 w4 89 [.int .u64 (dig (mont G.q.m xm) 0 : Int), .int .u64 (dig (mont G.q.m xm) 1 : Int), .int .u64 (dig (mont G.q.m xm) 2 : Int), .int .u64 (dig (mont G.q.m xm) 3 : Int)]
 replace Hc0 := Lib.hid (Hc0.out.up hb9)
 replace Hsm := Lib.hid (Hsm.out.up hb9)
 replace HG := Lib.hid (HG.out.up hb9)
 replace HB := hbu HB hb9
 replace HZS := sz HZS hz9.out
 clear hb9 hz9
 have sm_ := Hsm.out.c4
 have xb_ := Hxb.out.c4
 have hw1 : wrap64 ((n : Int) - 1) = (n : Int) - 1 := by unfold wrap64; omega
 go_wp2_with fail
 clear hq5 o5_sm_ hw1
 have HAD := Lib.hid (show w.heap.size < w2.heap.size ∧ w2.heap.size < w4.heap.size from ⟨by have := HZS.out; omega, by have := HZS.out; omega⟩)
 obtain ⟨xa, hxa⟩ : ∃ q, w4.heap.size = q := ⟨_, rfl⟩
 obtain ⟨sa, hsa⟩ : ∃ q, w2.heap.size = q := ⟨_, rfl⟩
 rw [hxa, hsa] at HAD
 rw [hxa] at Hxb xb_ ⊢
 rw [hsa] at Hsm sm_ ⊢
 clear hxa hsa xb_ sm_
 have HHD := Lib.hid (fun d => show seeN G.q.m f xm n (d + 1) = seeN G.q.m f xm n d ^ (xm % G.q.m) * f (n - 1 - d) from rfl)
 go_loopw [9] (fun v wr => ∃ d : Nat, d ≤ n ∧ v = .int .i64 ((n : Int) - 1 - (d : Int)) ∧ Hid (Below w.heap.size w wr) ∧ Hid (Bx wr w.heap.size 91 [.int .u64 0, .int .u64 0, .int .u64 0, .int .u64 0]) ∧ Hid (Bx wr sa 91 (lim4 G.p.m (seeN G.q.m f xm n d))) ∧ Hid (Bx wr xa 89 (lim4 G.q.m xm))) (fun v _ => (intOf v + 1).toNat)
 case atStart => exact ⟨0, Nat.zero_le _, by simp, HB, Hc0, Hsm, Hxb⟩
 case round =>
  clear HB Hc0 Hsm Hxb HG HZS
  obtain ⟨d, hd, rfl, HB, Hc0, Hsm, Hxb⟩ := hrel
  have HSW := Lib.hid (show sa < wr.heap.size ∧ xa < wr.heap.size ∧ w.heap.size ≤ wr.heap.size from ⟨Hsm.out.lt, Hxb.out.lt, HB.out.size⟩)
  have HGP := Lib.hid (HG0.out.up HB.out)
  by_cases hdn : d < n
  ·obtain ⟨k9, hk9⟩ : ∃ k9 : Nat, (n : Int) - 1 - (d : Int) = (k9 : Int) := ⟨n - 1 - d, by omega⟩
   rw [hk9]
   have HK9 := Lib.hid hk9
   have hk9n : k9 < n := by omega
   have HH1 := Lib.hid (show seeN G.q.m f xm n (d + 1) = seeN G.q.m f xm n d ^ (xm % G.q.m) * f k9 by rw [HHD.out, show n - 1 - d = k9 by omega])
   have HS1 := Lib.hid (show Sl wr wr.heap.size a ((List.range n).flatMap fun k => lim4 G.p.m (f k)) from HS.out.up HB.out)
   obtain ⟨bv, ov, rfl, hbv⟩ := HS1.out.adr (flat_ne (fun i => lim4_len _ _) (by omega) (by rw [← List.length_pos_iff, List.length_range]; omega))
   have hcv := (HS1.out.elemS (fun i => lim4_len _ _) (by omega) k9 (by simpa using hk9n)).2
   rw [List.getElem_range] at hcv
   have hcv_0 := hcv 0 _ rfl
   rw [Nat.add_zero] at hcv_0
   have hcv_1 := hcv 1 _ rfl
   have hcv_2 := hcv 2 _ rfl
   have hcv_3 := hcv 3 _ rfl
   clear hcv HS1 hk9
   generalize f k9 = fk at *
   obtain ⟨hr, hhr⟩ : ∃ v, seeN G.q.m f xm n d = v := ⟨_, rfl⟩
   rw [hhr] at Hsm HH1
   clear hhr
   replace Hsm := Lib.hid (show Bx wr sa 91 [.int .u64 (dig (mont G.p.m hr) 0 : Int), .int .u64 (dig (mont G.p.m hr) 1 : Int), .int .u64 (dig (mont G.p.m hr) 2 : Int), .int .u64 (dig (mont G.p.m hr) 3 : Int)] from Hsm.out)
   replace Hxb := Lib.hid (show Bx wr xa 89 [.int .u64 (dig (mont G.q.m xm) 0 : Int), .int .u64 (dig (mont G.q.m xm) 1 : Int), .int .u64 (dig (mont G.q.m xm) 2 : Int), .int .u64 (dig (mont G.q.m xm) 3 : Int)] from Hxb.out)
   have HZS := HAD
   replace HZS := sz HZS HSW.out
   replace HZS := sz HZS HGL.out
   have sm_ := Hsm.out.c4
   have xb_ := Hxb.out.c4
   have hge : decide ((k9 : Int) ≥ 0) = true := by simp
   have hw1 : wrap64 ((k9 : Int) - 1) = (k9 : Int) - 1 := by unfold wrap64; omega
   go_wp2_with fail
   have HT := Lib.hid (show Below wr.heap.size wr wr.drew from (Below.refl _ _).drew)
   have hl_sm := Hsm.out.lt
   have hl_xb := Hxb.out.lt
   refine wp_region_treek (fun wq9 => ∃ E : Over wr, wq9 = E.w) 10 ((.qs [0, 1] (.e 2 [] (.e 3 [] (.qs [5, 6, 7] (.e 8 [] (.a 4 (.a 9 (.a 10 .done))))))))) (by kernel_rfl) (by kernel_rfl) (fun _ _ d _ _ h => by cases d <;> exact h) ⟨⟨_, HT.out⟩, rfl⟩ ?_
   have hov_sm := fun (E : Over wr) o => E.cell (b := sa) o hl_sm
   have hov_xb := fun (E : Over wr) o => E.cell (b := xa) o hl_xb
   have hov_bv := fun (E : Over wr) o => E.cell (b := bv) o hbv
   simp only [TreeK.qs]
   repeat (first | (refine treek_q rfl rfl ?_; go_big_quiet_step (fail); refine wpQuiet_nil ?_) | (refine treek_e rfl rfl ?_; go_big_quiet_step (fail); refine wpQuiet_nil ?_))
   clear hcv_0 hcv_1 hcv_2 hcv_3
   refine treek_a rfl (fun K hK => ?_)
   go_simp
   refine (gPower_any G OK.out gb hr xm _ (HGP.out.up HT.out)).mono ?_
   rintro e w6 ⟨rfl, hb9⟩
   replace HT := Lib.hid (below_up HT.out hb9)
   replace HZS := sz HZS (show wr.heap.size ≤ w6.heap.size from HT.out.size)
   clear hb9
   refine hK _ _ ⟨fun _ => ⟨⟨w6, HT.out⟩, rfl⟩, ?_⟩
   clear hK K
   repeat (first | (refine treek_q rfl rfl ?_; go_big_quiet_step (fail); refine wpQuiet_nil ?_) | (refine treek_e rfl rfl ?_; go_big_quiet_step (fail); refine wpQuiet_nil ?_))
   refine treek_a rfl (fun K hK => ?_)
   go_simp
   refine (gTimes_any G OK.out gb (hr ^ (xm % G.q.m)) fk _ (HGP.out.up HT.out)).mono ?_
   rintro e w7 ⟨rfl, hb9⟩
   replace HT := Lib.hid (below_up HT.out hb9)
   replace HZS := sz HZS (show wr.heap.size ≤ w7.heap.size from HT.out.size)
   clear hb9
   unfold elV limbV
   refine hK _ _ ⟨fun _ => ⟨⟨w7, HT.out⟩, rfl⟩, ?_⟩
   clear hK K
   repeat (first | (refine treek_q rfl rfl ?_; go_big_quiet_step (fail); refine wpQuiet_nil ?_) | (refine treek_e rfl rfl ?_; go_big_quiet_step (fail); refine wpQuiet_nil ?_))
   clear hov_sm hl_sm hov_xb hl_xb hov_bv
   refine treek_a rfl (fun K hK => ?_)
   clear sm_
   replace Hsm := Lib.hid (Hsm.out.up HT.out)
   clear xb_
   replace Hxb := Lib.hid (Hxb.out.up HT.out)
   replace HGP := Lib.hid (HGP.out.up HT.out)
   replace Hc0 := Lib.hid (Hc0.out.up HT.out)
   replace HB := hbu HB HT.out
   replace HZS := sz HZS HT.out.size
   clear HT
   have sm_ := Hsm.out.c4
   have xb_ := Hxb.out.c4
   have f8_sm := Hsm.out.frozen
   have o8_sm_ := sm_; clear sm_
   have o8_xb_ := xb_; clear xb_
   obtain ⟨w8, hq8, hg9, hz9, hx9⟩ := put4 Hsm 0 (.int .u64 (dig (mont G.p.m (hr ^ (xm % G.q.m) * fk)) 0 : Int)) 1 (.int .u64 (dig (mont G.p.m (hr ^ (xm % G.q.m) * fk)) 1 : Int)) 2 (.int .u64 (dig (mont G.p.m (hr ^ (xm % G.q.m) * fk)) 2 : Int)) 3 (.int .u64 (dig (mont G.p.m (hr ^ (xm % G.q.m) * fk)) 3 : Int)) [.int .u64 (dig (mont G.p.m (hr ^ (xm % G.q.m) * fk)) 0 : Int), .int .u64 (dig (mont G.p.m (hr ^ (xm % G.q.m) * fk)) 1 : Int), .int .u64 (dig (mont G.p.m (hr ^ (xm % G.q.m) * fk)) 2 : Int), .int .u64 (dig (mont G.p.m (hr ^ (xm % G.q.m) * fk)) 3 : Int)] rfl
   replace Hxb := Lib.hid (Hxb.out.grown hg9.out (sne (by have g0 := HZS.out; omega)))
   replace HGP := Lib.hid (HGP.out.grown hg9.out (sne (by have g0 := HZS.out; omega)))
   replace Hc0 := Lib.hid (Hc0.out.grown hg9.out (sne (by have g0 := HZS.out; omega)))
   replace HB := hbg HB hg9 (by have g0 := HZS.out; omega)
   replace HZS := sz HZS hz9.out
   replace Hsm := hx9
   clear hx9 hg9 hz9
   have sm_ := Hsm.out.c4
   have xb_ := Hxb.out.c4
   go_simp
   try rw [hq8]
   refine hK _ _ ⟨fun h9 => absurd rfl h9, ?_⟩
   clear hK K hq8 o8_xb_ o8_sm_ f8_sm
   repeat (first | (refine treek_q rfl rfl ?_; go_big_quiet_step (fail); refine wpQuiet_nil ?_) | (refine treek_e rfl rfl ?_; go_big_quiet_step (fail); refine wpQuiet_nil ?_))
   refine treek_end ?_
   go_wp2_with fail
   go_roundw
   case rel => exact ⟨d + 1, by omega, by have h9 := HK9.out; rw [show ((n : Int) - 1 - ((d + 1 : Nat) : Int)) = (k9 : Int) - 1 by omega], HB, Hc0, by rw [HH1.out]; exact Hsm, Hxb⟩
   case measure => simp [intOf]
  ·have hdn' : d = n := by omega
   subst hdn'
   have hge : decide (((d : Int) - 1 - (d : Int)) ≥ 0) = false := by simp; omega
   obtain ⟨hr, hhr⟩ : ∃ v, seeN G.q.m f xm d d = v := ⟨_, rfl⟩
   have HHR := Lib.hid hhr
   rw [hhr] at Hsm
   clear hhr
   replace Hsm := Lib.hid (show Bx wr sa 91 [.int .u64 (dig (mont G.p.m hr) 0 : Int), .int .u64 (dig (mont G.p.m hr) 1 : Int), .int .u64 (dig (mont G.p.m hr) 2 : Int), .int .u64 (dig (mont G.p.m hr) 3 : Int)] from Hsm.out)
   have HZS := HAD
   replace HZS := sz HZS HSW.out
   have sm_ := Hsm.out.c4
   have c0_ := Hc0.out.c4
   have f6_c0 := Hc0.out.frozen
   have o6_sm_ := sm_; clear sm_
   have o6_c0_ := c0_; clear c0_
   obtain ⟨w6, hq6, hg9, hz9, hx9⟩ := put4 Hc0 0 (.int .u64 (dig (mont G.p.m hr) 0 : Int)) 1 (.int .u64 (dig (mont G.p.m hr) 1 : Int)) 2 (.int .u64 (dig (mont G.p.m hr) 2 : Int)) 3 (.int .u64 (dig (mont G.p.m hr) 3 : Int)) [.int .u64 (dig (mont G.p.m hr) 0 : Int), .int .u64 (dig (mont G.p.m hr) 1 : Int), .int .u64 (dig (mont G.p.m hr) 2 : Int), .int .u64 (dig (mont G.p.m hr) 3 : Int)] rfl
   replace Hsm := Lib.hid (Hsm.out.grown hg9.out (sne (by have g0 := HZS.out; omega)))
   replace HB := hbg HB hg9 (by have g0 := HZS.out; omega)
   replace HZS := sz HZS hz9.out
   replace Hc0 := hx9
   clear hx9 hg9 hz9
   have sm_ := Hsm.out.c4
   have c0_ := Hc0.out.c4
   go_wp2_with fail
   clear hq6 o6_c0_ o6_sm_ f6_c0
   simp [bodyPost, results, Tryz.results51, go_sem, c0_]
   exact (by rw [HHR.out]; exact ⟨⟨rfl, rfl, rfl, rfl⟩, HB.out⟩)
theorem elems_any (G : GP) (ok : G.Ok) (gb : Nat) (xs : List ByteArray) (n : Nat) (hn : xs.length = n) (hnm : n ≤ 16) (b : Bool) (hb : xs.all (isEl G.q.m G.size) = b) (ax : Option Addr) (cx : Nat) (w : World) (hG : GroupAt w gb G) (hX : Sl w w.heap.size ax (xs.map Value.string)) :
  Calls Tryz.prog 50 #[.pointer (some ⟨gb, 0, none⟩), .slice ax n cx] w fun e w' => Below w.heap.size w w' ∧ ∃ v, e = .returned (.tuple #[v, .bool b]) ∧ (b = true → ∃ a c, v = .slice a n c ∧ Sl w' w'.heap.size a (coefL G.p.m (comN xs) n) ∧ ∀ y, a = some y → w.heap.size ≤ y.block) := by
 have OK := Lib.hid ok
 have HX := Lib.hid hX
 have HM := Lib.hid hn
 have HG := Lib.hid hG
 have HGL := Lib.hid hG.lt
 have HCF := Lib.hid (com_flat G.p.m xs)
 rw [hn] at HCF
 have HNO := Lib.hid (fun (h : ¬ xs.all (isEl G.q.m G.size) = true) => show b = false by rw [← hb]; exact Bool.eq_false_iff.2 h)
 have HYES := Lib.hid (fun (h : xs.all (isEl G.q.m G.size) = true) => show b = true by rw [← hb]; exact h)
 clear hG ok hX hn hb
 go_enter Tryz.func50, Tryz.ntmps50
 go_wp2_with fail
 go_loopw [13, 6] (fun i v wr => ∃ (j : Nat) (g : Option Addr) (c9 : Nat), j ≤ n ∧ i = .int .i64 j ∧ v = .slice g j c9 ∧ Hid (Below w.heap.size w wr) ∧ Hid ((xs.take j).all (isEl G.q.m G.size) = true) ∧ Hid (RowO w.heap.size wr 91 4 (.slice g j c9) j ((xs.take j).flatMap (limC G.p.m)))) (fun i _ _ => n - (intOf i).toNat)
 case atStart => exact ⟨0, none, 0, Nat.zero_le _, rfl, rfl, Below.refl _ _, rfl, RowO.nil⟩
 case round =>
  obtain ⟨j, g, c9, hj, rfl, rfl, HB, HAL, Hr⟩ := hrel
  by_cases hjn : j < n
  ·have HSB := Lib.hid HB.out.size
   have HZS := HSB
   replace HZS := sz HZS HGL.out
   have HGP := Lib.hid (HG.out.up HB.out)
   have hjl : j < xs.length := by rw [HM.out]; exact hjn
   obtain ⟨bl, ol, rfl, hbl, hc⟩ := (HX.out.up HB.out).at j (by simpa using hjl)
   rw [List.getElem_map] at hc
   obtain ⟨bj, hbj⟩ : ∃ x, isEl G.q.m G.size xs[j] = x := ⟨_, rfl⟩
   have HBJ := Lib.hid hbj
   clear hbj
   go_wp2_with fail
   refine (gElem_m G OK.out _ xs[j] bj HBJ.out wr HGP.out).mono ?_
   rintro e w1 ⟨sx, rfl, hb9, hx9⟩
   replace HGP := Lib.hid (HGP.out.up hb9)
   replace Hr := Lib.hid (Hr.out.up hb9)
   replace HB := hbu HB hb9
   replace HZS := sz HZS hb9.size
   have HSX := Lib.hid hx9
   clear hx9 hb9
   unfold limbV
   obtain ⟨w2, hq2, hb9, hz9, Hbp⟩ := new1 w1 91 [.int .u64 (dig (sx) 0 : Int), .int .u64 (dig (sx) 1 : Int), .int .u64 (dig (sx) 2 : Int), .int .u64 (dig (sx) 3 : Int)]
   replace HGP := Lib.hid (HGP.out.up hb9)
   replace Hr := Lib.hid (Hr.out.up hb9)
   replace HB := hbu HB hb9
   replace HZS := sz HZS hz9.out
   clear hb9 hz9
   have bp_ := Hbp.out.c4
   cases bj
   ·obtain rfl := HNO.out (by rw [all_not hjl HBJ.out]; decide)
    go_wp2_with fail
    clear hq2
    go_ret2
    exact ⟨HB.out, _, rfl, fun h => by cases h⟩
   ·obtain rfl := HSX.out rfl
    obtain ⟨i9, hi9, hz90, hz91, hz92⟩ := info_parts infoElem
    go_wp2_with (at_builtin; refine wpList_pushR (w.heap.size) w2 (by have g0 := HZS.out; omega) rfl _ _ 100 rfl 91 i9 _ 4 32 Tryz.underlying100 hi9 hz90 hz91 hz92 rfl (by omega) ((.slice g j c9)) (j) (((xs.take j).flatMap (limC G.p.m))) rfl Hr.out _ _ _ rfl rfl rfl (by simp [Value.oneCell']) (by omega) (by unfold maxLen; omega) ?_)
    intro g3 c3 w3 hown9 hg9
    clear hq2 bp_ Hbp
    have hb9 := Below.grown HB.out hg9 (by have g0 := HZS.out; omega) (fun q hq => Nat.le_trans (show w.heap.size ≤ w.heap.size by have g0 := HZS.out; omega) (Hr.out.lt q hq).1)
    replace HGP := Lib.hid (HGP.out.grown hg9 (fun e9 => by have a1 := Hr.out.lt _ e9; have g0 := HZS.out; omega))
    replace HZS := sz HZS hg9.size
    clear Hr HB
    have Hr := Lib.hid hown9
    have HB := Lib.hid hb9
    clear hb9 hown9 hg9 hi9 hz90 hz91 hz92
    go_wp2_with fail
    go_roundw
    case rel => exact ⟨j + 1, _, _, by omega, by go_num, rfl, HB, all_snoc hjl HAL.out HBJ.out, Hr.out.eq (flat_snoc _ _ _ hjl).symm rfl⟩
    case measure => simp [intOf]; omega
  ·have hjn' : j = n := by omega
   subst hjn'
   obtain rfl : b = true := HYES.out (by rw [← HM.out] at HAL; exact all_take_true HAL.out)
   rw [List.take_of_length_le (by rw [HM.out]; exact Nat.le_refl _), HCF.out] at Hr
   go_wp2_with fail
   go_ret2
   exact ⟨HB.out, _, rfl, _, ⟨_, rfl⟩, Hr.out.sl, fun y hy => (Hr.out.lt y.block (by rw [hy]; rfl)).1⟩
end Go.Proofs.YtjmeakfjfpnciaaGreat
namespace Go.Proofs.YtjmeakfjfpnciaaGreat
open Go.RowKit
def cmtL (G : GP) (f : Nat → Nat) (n : Nat) : List ByteArray := (List.range n).map fun k => textS (lowN G (2 ^ (f k % G.q.m))) G.size
def shrL (G : GP) (f : Nat → Nat) (n m : Nat) : List ByteArray := (List.range m).map fun (x : Nat) => textS (hrN f (modI G.q.m ((x : Int) + 1)) n n % G.q.m) G.size
theorem cmtL_snoc (G : GP) (f : Nat → Nat) (n : Nat) : (cmtL G f (n + 1)).map Value.string = (cmtL G f n).map Value.string ++ [.string (textS (lowN G (2 ^ (f n % G.q.m))) G.size)] := by
 unfold cmtL; rw [List.range_succ, List.map_append, List.map_append]; rfl
theorem shrL_snoc (G : GP) (f : Nat → Nat) (n m : Nat) : (shrL G f n (m + 1)).map Value.string = (shrL G f n m).map Value.string ++ [.string (textS (hrN f (modI G.q.m ((m : Int) + 1)) n n % G.q.m) G.size)] := by
 unfold shrL; rw [List.range_succ, List.map_append, List.map_append]; rfl
theorem cmtL_len (G : GP) (f : Nat → Nat) (n : Nat) : (cmtL G f n).length = n := by simp [cmtL]
theorem shrL_len (G : GP) (f : Nat → Nat) (n m : Nat) : (shrL G f n m).length = m := by simp [shrL]
def DealR (er : Nat) (C S : List ByteArray) (w : World) (e : Ending) (w' : World) : Prop :=
 Below w.heap.size w w' ∧ ∃ a c a2 c2, e = .returned (.tuple #[.agg #[.slice a C.length c, .slice a2 S.length c2], .int .i64 (er : Int)]) ∧ Sl w' w'.heap.size a (C.map Value.string) ∧ Sl w' w'.heap.size a2 (S.map Value.string) ∧ (∀ y, a = some y → w.heap.size ≤ y.block) ∧ (∀ y, a2 = some y → w.heap.size ≤ y.block)
theorem dealR_none (er : Nat) {w w' : World} (h : Below w.heap.size w w') : DealR er [] [] w (.returned (.tuple #[.agg #[.slice none 0 0, .slice none 0 0], .int .i64 (er : Int)])) w' := ⟨h, none, 0, none, 0, rfl, Or.inl rfl, Or.inl rfl, (fun y e => nomatch e), (fun y e => nomatch e)⟩
theorem tDeal_none (k : Int) (hk : ¬ (1 ≤ k ∧ k ≤ 3)) (v1 v2 v3 : Value) (w : World) :
  Calls Tryz.prog 8 #[.int .i64 k, v1, v2, v3] w (DealR 1 [] [] w) := by
 have HN := Lib.hid (fun w => (of_none k hk w).mono (R' := fun e w' => e = .returned (.pointer none) ∧ Below w.heap.size w w') fun e w' h => ⟨h.1, by rw [h.2]; exact Below.refl _ _⟩)
 go_enter Tryz.func8, Tryz.ntmps8
 go_upto_region 1 with fail
 obtain ⟨w1, hq1, hb9, hz9, Hrb⟩ := new1 w 24 ([.slice none 0 0, .slice none 0 0])
 rw [hq1]
 clear hq1
 have HB := Lib.hid hb9
 have HZS := hz9
 clear hb9 hz9
 go_wp2_with fail
 refine (HN.out w1).mono ?_
 rintro e w2 ⟨rfl, hb9⟩
 replace Hrb := Lib.hid (Hrb.out.up hb9)
 replace HB := hbu HB hb9
 replace HZS := sz HZS hb9.size
 clear hb9
 have rb_ := Hrb.out.c2
 have f3_rb := Hrb.out.frozen
 have o3_rb_ := rb_; clear rb_
 obtain ⟨w3, hq3, hg9, hz9, hx9⟩ := put2 Hrb 0 (.slice none 0 0) 1 (.slice none 0 0) [.slice none 0 0, .slice none 0 0] rfl
 replace HB := hbg HB hg9 (by have g0 := HZS.out; omega)
 replace HZS := sz HZS hz9.out
 replace Hrb := hx9
 clear hx9 hg9 hz9
 have rb_ := Hrb.out.c2
 go_wp2_with fail
 clear hq3 o3_rb_ f3_rb
 simp [bodyPost, results, Tryz.results8, go_sem, rb_]
 exact (dealR_none 1 HB.out)
theorem tDeal_range (k : Nat) (h1 : 1 ≤ k) (h3 : k ≤ 3) (need of : Int) (hr : rightB need of = false) (v3 : Value) (w : World) :
  Calls Tryz.prog 8 #[.int .i64 (k : Int), .int .i64 need, .int .i64 of, v3] w (DealR 4 [] [] w) := by
 have HR := Lib.hid (fun w => right6_any need of w)
 unfold Gives at HR
 rw [hr] at HR
 clear hr
 go_enter Tryz.func8, Tryz.ntmps8
 go_upto_region 1 with fail
 obtain ⟨w1, hq1, hb9, hz9, Hrb⟩ := new1 w 24 ([.slice none 0 0, .slice none 0 0])
 rw [hq1]
 clear hq1
 have HB := Lib.hid hb9
 have HZS := hz9
 clear hb9 hz9
 go_wp2_with fail
 refine (of_some k h1 h3 w1).mono ?_
 rintro e w2 ⟨rfl, hg9, hb9⟩
 replace Hrb := Lib.hid (Hrb.out.up hb9)
 replace HB := hbu HB hb9
 replace HZS := sz HZS hb9.size
 have HG := Lib.hid hg9
 clear hg9 hb9
 go_wp2_with fail
 refine (HR.out w2).mono ?_
 rintro e w3 ⟨rfl, hb9⟩
 replace Hrb := Lib.hid (Hrb.out.up hb9)
 replace HG := Lib.hid (HG.out.up hb9)
 replace HB := hbu HB hb9
 replace HZS := sz HZS hb9.size
 clear hb9
 have rb_ := Hrb.out.c2
 have f4_rb := Hrb.out.frozen
 have o4_rb_ := rb_; clear rb_
 obtain ⟨w4, hq4, hg9, hz9, hx9⟩ := put2 Hrb 0 (.slice none 0 0) 1 (.slice none 0 0) [.slice none 0 0, .slice none 0 0] rfl
 replace HG := Lib.hid (HG.out.grown hg9.out (sne (by have g0 := HZS.out; omega)))
 replace HB := hbg HB hg9 (by have g0 := HZS.out; omega)
 replace HZS := sz HZS hz9.out
 replace Hrb := hx9
 clear hx9 hg9 hz9
 have rb_ := Hrb.out.c2
 go_wp2_with fail
 clear hq4 o4_rb_ f4_rb
 simp [bodyPost, results, Tryz.results8, go_sem, rb_]
 exact (dealR_none 4 HB.out)
theorem tDeal_some (k : Nat) (h1 : 1 ≤ k) (h3 : k ≤ 3) (n m : Nat) (hr : rightB n m = true) (seed : ByteArray) (hs : seed.size < 140737488355328) (w : World) :
  Calls Tryz.prog 8 #[.int .i64 (k : Int), .int .i64 (n : Int), .int .i64 (m : Int), .string seed] w (DealR 0 (cmtL (grp k) (chcN coefB seed) n) (shrL (grp k) (chcN coefB seed) n m) w) := by
 have hnm : m ≤ 8 ∧ n ≤ 8 ∧ 0 < n := by unfold rightB at hr; simp at hr; omega
 obtain ⟨hm8, hn8, hn0⟩ := hnm
 have OK := Lib.hid (grp_ok k h1 h3)
 have HR := Lib.hid (fun w => right6_any n m w)
 unfold Gives at HR
 rw [hr] at HR
 have HD := Lib.hid (fun gb w h => deal_any (grp k) OK.out gb n hn8 seed hs w h)
 unfold CoefR at HD
 generalize chcN coefB seed = f at *
 have HV := Lib.hid (fun gb (x : Nat) (hx : x < m) a c w h g => value_any (grp k) OK.out gb f n (by omega) ((x : Int) + 1) (by omega) (by omega) a c w h g)
 unfold Gives at HV
 clear hr hs
 go_enter Tryz.func8, Tryz.ntmps8
 go_upto_region 1 with fail
 obtain ⟨w1, hq1, hb9, hz9, Hrb⟩ := new1 w 24 ([.slice none 0 0, .slice none 0 0])
 rw [hq1]
 clear hq1
 have HB := Lib.hid hb9
 have HZS := hz9
 clear hb9 hz9
 go_wp2_with fail
 refine (of_some k h1 h3 w1).mono ?_
 rintro e w2 ⟨rfl, hg9, hb9⟩
 replace Hrb := Lib.hid (Hrb.out.up hb9)
 replace HB := hbu HB hb9
 replace HZS := sz HZS hb9.size
 have HG := Lib.hid hg9
 clear hg9 hb9
 have HGL := Lib.hid HG.out.lt
 replace HZS := sz HZS HGL.out
 obtain ⟨gb, hgb⟩ : ∃ b, w1.heap.size = b := ⟨_, rfl⟩
 rw [hgb] at HG HGL ⊢
 clear hgb
 go_wp2_with fail
 refine (HR.out w2).mono ?_
 rintro e w3 ⟨rfl, hb9⟩
 replace Hrb := Lib.hid (Hrb.out.up hb9)
 replace HG := Lib.hid (HG.out.up hb9)
 replace HB := hbu HB hb9
 replace HZS := sz HZS hb9.size
 clear hb9
 go_wp2_with fail
 refine (HD.out _ w3 HG.out).mono ?_
 rintro e w4 ⟨hb9, al, cl, rfl, hx9, hf9⟩
 replace Hrb := Lib.hid (Hrb.out.up hb9)
 replace HG := Lib.hid (HG.out.up hb9)
 replace HB := hbu HB hb9
 replace HZS := sz HZS hb9.size
 have HWS := Lib.hid hx9
 clear hx9
 have HWF := Lib.hid hf9
 clear hf9 hb9
 have HBD := Lib.hid (Below.refl w4.heap.size w4)
 have HLT := Lib.hid (fun y (hy : al = some y) (hne : coefL (grp k).q.m f n ≠ []) => HWS.out.lt hne y hy)
 obtain ⟨w5, hq5, hb9, hz9, Hd⟩ := new1 w4 24 ([.slice none 0 0, .slice none 0 0])
 replace Hrb := Lib.hid (Hrb.out.up hb9)
 replace HG := Lib.hid (HG.out.up hb9)
 replace HBD := hbu HBD hb9
 replace HB := hbu HB hb9
 replace HZS := sz HZS hz9.out
 clear hb9 hz9
 go_wp2_with fail
 clear hq5
 have HDS := Lib.hid (show w.heap.size < w4.heap.size ∧ gb < w4.heap.size ∧ w4.heap.size < w5.heap.size from ⟨by have := HZS.out; omega, by have := HZS.out; have := HGL.out; omega, by have := HZS.out; omega⟩)
 replace HWS := Lib.hid (HWS.out.up HBD.out)
 obtain ⟨D, hD⟩ : ∃ q, w4.heap.size = q := ⟨_, rfl⟩
 rw [hD] at HDS HLT Hd ⊢
 clear hD
 have HB0 := HB
 have HG0 := HG
 go_loopw [34] (fun i wr => ∃ (j : Nat) (g : Option Addr) (c9 : Nat), j ≤ n ∧ i = .int .i64 j ∧ Hid (Kept (fun q9 => q9 = D) w5 wr) ∧ Hid (Bx wr D 24 [.slice g j c9, .slice none 0 0]) ∧ Hid (RowO w5.heap.size wr 9 1 (.slice g j c9) j ((cmtL (grp k) f j).map Value.string))) (fun i _ => n - (intOf i).toNat)
 case atStart => exact ⟨0, none, 0, Nat.zero_le _, rfl, Kept.refl _ _, Hd, RowO.nil⟩
 case round =>
  clear HB HG HZS Hd
  obtain ⟨j, g, c9, hj, rfl, HK, Hd, Hr⟩ := hrel
  have HSZ := Lib.hid (show w.heap.size < D ∧ gb < D ∧ D < w5.heap.size ∧ w5.heap.size ≤ wr.heap.size from ⟨HDS.out.1, HDS.out.2.1, HDS.out.2.2, HK.out.size⟩)
  have HB := Lib.hid (Below.keptP HB0.out HK.out (by have := HSZ.out; omega) (fun q9 h9 => (show w.heap.size ≤ _ by subst h9; have := HSZ.out; omega)))
  have HGP := Lib.hid (HG0.out.keptP HK.out (show ¬ (gb = D) by have := HSZ.out; omega))
  have HW1 := Lib.hid (HWS.out.kept HK.out (fun y hy hq => by have hq : y.block = D := hq; have := HLT.out y hy (flat_ne (fun i => lim4_len _ _) (by omega) (by rw [← List.length_pos_iff, List.length_range]; omega)); omega))
  by_cases hjn : j < n
  ·have HW2 := Lib.hid (show Sl wr wr.heap.size al ((List.range n).flatMap fun i => lim4 (grp k).q.m (f i)) from HW1.out)
   obtain ⟨bw, ow, rfl, hbw⟩ := HW2.out.adr (flat_ne (fun i => lim4_len _ _) (by omega) (by rw [← List.length_pos_iff, List.length_range]; omega))
   have hcw := (HW2.out.elemS (fun i => lim4_len _ _) (by omega) j (by simpa using hjn)).2
   rw [List.getElem_range] at hcw
   have hcw_0 := hcw 0 _ rfl
   rw [Nat.add_zero] at hcw_0
   have hcw_1 := hcw 1 _ rfl
   have hcw_2 := hcw 2 _ rfl
   have hcw_3 := hcw 3 _ rfl
   clear hcw
   have HSN := Lib.hid (cmtL_snoc (grp k) f j)
   generalize f j = fj at *
   have HZS := HSZ
   replace HZS := sz HZS HSZ.out
   have d_ := Hd.out.c2
   have HNP := Lib.hid (fun q e => (Hr.out.lt q e).2)
   have o6_d_ := d_; clear d_
   obtain ⟨w6, hq6, hb9, hz9, Hab⟩ := new1 wr 89 [.int .u64 (dig (mont (grp k).q.m fj) 0 : Int), .int .u64 (dig (mont (grp k).q.m fj) 1 : Int), .int .u64 (dig (mont (grp k).q.m fj) 2 : Int), .int .u64 (dig (mont (grp k).q.m fj) 3 : Int)]
   replace Hd := Lib.hid (Hd.out.up hb9)
   replace HGP := Lib.hid (HGP.out.up hb9)
   replace Hr := Lib.hid (Hr.out.up hb9)
   replace HK := Lib.hid (Kept.up HK.out hb9)
   replace HB := hbu HB hb9
   replace HZS := sz HZS hz9.out
   clear hb9 hz9
   have d_ := Hd.out.c2
   have ab_ := Hab.out.c4
   go_wp2_with fail
   clear hq6 o6_d_ hcw_0 hcw_1 hcw_2 hcw_3 hbw
   have HT := Lib.hid (show Below w6.heap.size w6 w6.drew from (Below.refl _ _).drew)
   have hl_d := Hd.out.lt
   have hl_ab := Hab.out.lt
   refine wp_region_treek (fun wq9 => ∃ E : But w6 (Value.ownBlock (.slice g j c9)), wq9 = E.w) 10 ((.qs [0] (.e 1 [] (.qs [2, 3] (.e 4 [] (.a 5 (.a 6 (.a 7 (.a 8 (.qs [9] (.a 10 .done))))))))))) (by kernel_rfl) (by kernel_rfl) (fun _ _ d _ _ h => by cases d <;> exact h) ⟨⟨_, ((below_grown HT.out).but _)⟩, rfl⟩ ?_
   have hov_d := fun (E : But w6 (Value.ownBlock (.slice g j c9))) o => E.cell (b := D) o hl_d (by intro e9; have a1 := Hr.out.lt _ e9; have a9 := HNP.out _ e9; have g0 := HZS.out; omega)
   have hov_ab := fun (E : But w6 (Value.ownBlock (.slice g j c9))) o => E.cell (b := wr.heap.size) o hl_ab (by intro e9; have a1 := Hr.out.lt _ e9; have a9 := HNP.out _ e9; have g0 := HZS.out; omega)
   simp only [TreeK.qs]
   repeat (first | (refine treek_q rfl rfl ?_; go_big_quiet_step (fail); refine wpQuiet_nil ?_) | (refine treek_e rfl rfl ?_; go_big_quiet_step (fail); refine wpQuiet_nil ?_))
   refine treek_a rfl (fun K hK => ?_)
   go_simp
   refine (gRaise_any (grp k) OK.out gb fj _ (HGP.out.up HT.out)).mono ?_
   rintro e w7 ⟨rfl, hb9⟩
   replace HT := Lib.hid (below_up HT.out hb9)
   replace HZS := sz HZS (show w6.heap.size ≤ w7.heap.size from HT.out.size)
   clear hb9
   refine hK _ _ ⟨fun _ => ⟨⟨w7, ((below_grown HT.out).but _)⟩, rfl⟩, ?_⟩
   clear hK K
   repeat (first | (refine treek_q rfl rfl ?_; go_big_quiet_step (fail); refine wpQuiet_nil ?_) | (refine treek_e rfl rfl ?_; go_big_quiet_step (fail); refine wpQuiet_nil ?_))
   refine treek_a rfl (fun K hK => ?_)
   go_simp
   refine (gText_any (grp k) OK.out gb (2 ^ (fj % (grp k).q.m)) _ (HGP.out.up HT.out)).mono ?_
   rintro e w8 ⟨rfl, hb9⟩
   replace HT := Lib.hid (below_up HT.out hb9)
   replace HZS := sz HZS (show w6.heap.size ≤ w8.heap.size from HT.out.size)
   clear hb9
   refine hK _ _ ⟨fun _ => ⟨⟨w8, ((below_grown HT.out).but _)⟩, rfl⟩, ?_⟩
   clear hK K
   repeat (first | (refine treek_q rfl rfl ?_; go_big_quiet_step (fail); refine wpQuiet_nil ?_) | (refine treek_e rfl rfl ?_; go_big_quiet_step (fail); refine wpQuiet_nil ?_))
   clear hov_d hl_d hov_ab hl_ab
   refine treek_a rfl (fun K hK => ?_)
   go_simp
   refine hK _ _ ⟨fun _ => ⟨⟨_, (below_grown (HT.out.alloc HT.out.size _)).but _⟩, rfl⟩, ?_⟩
   clear hK K
   obtain ⟨i9, hi9, hz90, hz91, hz92⟩ := info_parts infoStr
   have HG1 := Lib.hid ((below_grown HT.out).but (Value.ownBlock (.slice g j c9)))
   clear d_
   replace Hd := Lib.hid (Hd.out.up HT.out)
   clear ab_
   replace Hab := Lib.hid (Hab.out.up HT.out)
   replace HGP := Lib.hid (HGP.out.up HT.out)
   replace Hr := Lib.hid (Hr.out.up HT.out)
   replace HK := Lib.hid (Kept.up HK.out HT.out)
   replace HB := hbu HB HT.out
   replace HZS := sz HZS HT.out.size
   refine treek_a rfl (fun K hK => ?_)
   refine step_pushR (w5.heap.size) w8 (by have g0 := HZS.out; omega) rfl _ _ 22 rfl 9 i9 _ 1 16 Tryz.underlying22 hi9 hz90 hz91 hz92 rfl (by omega) ((.slice g j c9)) (j) (((cmtL (grp k) f j).map Value.string)) rfl Hr.out _ _ _ rfl rfl rfl (by simp [Value.oneCell']) (by omega) (by unfold maxLen; omega) ?_
   intro g9 c9 w9 hown9 hg9
   have HGR := Lib.hid (HG1.out.trans hg9)
   have hb9 := Below.grown HB.out hg9 (by have g0 := HZS.out; omega) (fun q hq => Nat.le_trans (show w.heap.size ≤ w5.heap.size by have g0 := HZS.out; omega) (Hr.out.lt q hq).1)
   replace Hd := Lib.hid (Hd.out.grown hg9 (fun e9 => by have a1 := Hr.out.lt _ e9; have a9 := HNP.out _ e9; have g0 := HZS.out; omega))
   replace Hab := Lib.hid (Hab.out.grown hg9 (fun e9 => by have a1 := Hr.out.lt _ e9; have a9 := HNP.out _ e9; have g0 := HZS.out; omega))
   replace HGP := Lib.hid (HGP.out.grown hg9 (fun e9 => by have a1 := Hr.out.lt _ e9; have a9 := HNP.out _ e9; have g0 := HZS.out; omega))
   replace HK := Lib.hid (Kept.grown HK.out hg9 (fun q hq => Or.inl (Nat.le_trans (show w5.heap.size ≤ w5.heap.size by have g0 := HZS.out; omega) (Hr.out.lt q hq).1)))
   replace HZS := sz HZS hg9.size
   clear Hr HB HT HG1
   have Hr := Lib.hid hown9
   have HB := Lib.hid hb9
   clear hb9 hown9 hg9 hi9 hz90 hz91 hz92
   refine hK _ _ ⟨fun _ => ⟨⟨w9, HGR.out⟩, rfl⟩, ?_⟩
   clear hK K HGR
   try simp only [Act.put, List.setIfInBounds_toArray, List.set_cons_succ, List.set_cons_zero]
   repeat (first | (refine treek_q rfl rfl ?_; go_big_quiet_step (fail); refine wpQuiet_nil ?_) | (refine treek_e rfl rfl ?_; go_big_quiet_step (fail); refine wpQuiet_nil ?_))
   replace HZS := sz HZS (Hr.out.lt g9 rfl).1
   have d_ := Hd.out.c2
   have ab_ := Hab.out.c4
   have f10_d := Hd.out.frozen
   have o10_d_ := d_; clear d_
   have o10_ab_ := ab_; clear ab_
   obtain ⟨w10, hq10, hg9, hz9, hx9⟩ := put1 Hd 0 (.slice (some ⟨g9, 0, none⟩) ((j + 1)) c9) [.slice (some ⟨g9, 0, none⟩) ((j + 1)) c9, .slice none 0 0] rfl
   replace Hab := Lib.hid (Hab.out.grown hg9.out (sne (by have g0 := HZS.out; omega)))
   replace HGP := Lib.hid (HGP.out.grown hg9.out (sne (by have g0 := HZS.out; omega)))
   replace Hr := Lib.hid (RowO.grown Hr.out hg9.out (fun q9 e8 e9 => by have a1 := Hr.out.lt _ e8; have a0 := Option.some.inj e9; have g0 := HZS.out; omega))
   replace HK := Lib.hid (Kept.grown HK.out hg9.out (fun q9 e9 => by obtain rfl := Option.some.inj e9; exact Or.inr (rfl)))
   replace HB := hbg HB hg9 (by have g0 := HZS.out; omega)
   replace HZS := sz HZS hz9.out
   replace Hd := hx9
   clear hx9 hg9 hz9
   have d_ := Hd.out.c2
   have ab_ := Hab.out.c4
   refine treek_a rfl (fun K hK => ?_)
   go_simp
   try rw [hq10]
   refine hK _ _ ⟨fun h9 => absurd rfl h9, ?_⟩
   clear hK K hq10 o10_ab_ o10_d_ f10_d
   refine treek_end ?_
   go_wp2_with fail
   go_roundw
   case rel => exact ⟨j + 1, _, _, by omega, by go_num, HK, Hd, Hr.out.eq HSN.out.symm rfl⟩
   case measure => simp [intOf]; omega
  ·have hjn' : j = n := by omega
   subst hjn'
   have HF1 := Lib.hid (fun (y : Addr) (hy : g = some y) => (Hr.out.lt y.block (by rw [hy]; rfl)))
   have HS1 := Lib.hid Hr.out.sl
   clear Hr
   have HZS := HSZ
   replace HZS := sz HZS HSZ.out
   have d_ := Hd.out.c2
   have HB1 := HB
   have HG1 := HGP
   obtain ⟨wo, rfl⟩ : ∃ wo : World, wo = wr := ⟨_, rfl⟩
   go_wp2_with fail
   go_loopw [50] (fun i wr => ∃ (j2 : Nat) (g2 : Option Addr) (c2 : Nat), j2 ≤ m ∧ i = .int .i64 j2 ∧ Hid (Kept (fun q9 => q9 = D) wo wr) ∧ Hid (Bx wr D 24 [.slice g j c9, .slice g2 j2 c2]) ∧ Hid (RowO wo.heap.size wr 9 1 (.slice g2 j2 c2) j2 ((shrL (grp k) f j j2).map Value.string))) (fun i _ => m - (intOf i).toNat)
   case atStart => exact ⟨0, none, 0, Nat.zero_le _, rfl, Lib.hid (Kept.refl _ _), Hd, RowO.nil⟩
   case round =>
    clear HB HGP HZS Hd
    obtain ⟨j2, g2, c2, hj2, rfl, HK2, Hd, Hr⟩ := hrel
    have HSZ2 := Lib.hid (show w.heap.size < D ∧ gb < D ∧ D < wo.heap.size ∧ w5.heap.size ≤ wo.heap.size ∧ D < w5.heap.size ∧ wo.heap.size ≤ wr.heap.size from ⟨HDS.out.1, HDS.out.2.1, by have := HSZ.out; omega, HK.out.size, HDS.out.2.2, HK2.out.size⟩)
    have HB := Lib.hid (Below.keptP HB1.out HK2.out (by have := HSZ2.out; omega) (fun q9 h9 => (show w.heap.size ≤ _ by subst h9; have := HSZ2.out; omega)))
    have HGP := Lib.hid (HG1.out.keptP HK2.out (show ¬ (gb = D) by have := HSZ2.out; omega))
    have HSS1 := Lib.hid (HS1.out.kept HK2.out (fun y hy hq => by have hq : y.block = D := hq; have := HF1.out y hy; have := HSZ2.out; omega))
    have HSL := Lib.hid (HW1.out.kept HK2.out (fun y hy hq => by have hq : y.block = D := hq; have := HLT.out y hy (flat_ne (fun i => lim4_len _ _) (by omega) (by rw [← List.length_pos_iff, List.length_range]; omega)); omega))
    by_cases hjm : j2 < m
    ·have HSN := Lib.hid (shrL_snoc (grp k) f j j2)
     have HVJ := Lib.hid (fun a c w h g => HV.out gb j2 hjm a c w h g)
     have hw1 : wrap64 ((j2 : Int) + 1) = (j2 : Int) + 1 := by unfold wrap64; omega
     obtain ⟨sv, hsv⟩ : ∃ v, hrN f (modI (grp k).q.m ((j2 : Int) + 1)) j j = v := ⟨_, rfl⟩
     rw [hsv] at HSN
     simp only [hsv] at HVJ
     clear hsv
     have HZS := HSZ2
     replace HZS := sz HZS HSZ2.out
     have d_ := Hd.out.c2
     go_wp2_with fail
     have HT := Lib.hid (show Below wr.heap.size wr wr.drew from (Below.refl _ _).drew)
     have hl_d := Hd.out.lt
     refine wp_region_treek (fun wq9 => ∃ E : But wr (Value.ownBlock (.slice g2 j2 c2)), wq9 = E.w) 12 ((.qs [0] (.e 1 [] (.qs [2, 3, 4, 5, 6] (.a 7 (.a 8 (.a 9 (.a 10 (.qs [11] (.a 12 .done)))))))))) (by kernel_rfl) (by kernel_rfl) (fun _ _ d _ _ h => by cases d <;> exact h) ⟨⟨_, ((below_grown HT.out).but _)⟩, rfl⟩ ?_
     have hov_d := fun (E : But wr (Value.ownBlock (.slice g2 j2 c2))) o => E.cell (b := D) o hl_d (by intro e9; have a1 := Hr.out.lt _ e9; have g0 := HZS.out; omega)
     simp only [TreeK.qs]
     repeat (first | (refine treek_q rfl rfl ?_; go_big_quiet_step (fail); refine wpQuiet_nil ?_) | (refine treek_e rfl rfl ?_; go_big_quiet_step (fail); refine wpQuiet_nil ?_))
     refine treek_a rfl (fun K hK => ?_)
     go_simp
     refine (HVJ.out _ _ _ (HGP.out.up HT.out) (HSL.out.up HT.out)).mono ?_
     rintro e w6 ⟨rfl, hb9⟩
     replace HT := Lib.hid (below_up HT.out hb9)
     replace HZS := sz HZS (show wr.heap.size ≤ w6.heap.size from HT.out.size)
     clear hb9
     refine hK _ _ ⟨fun _ => ⟨⟨w6, ((below_grown HT.out).but _)⟩, rfl⟩, ?_⟩
     clear hK K
     repeat (first | (refine treek_q rfl rfl ?_; go_big_quiet_step (fail); refine wpQuiet_nil ?_) | (refine treek_e rfl rfl ?_; go_big_quiet_step (fail); refine wpQuiet_nil ?_))
     refine treek_a rfl (fun K hK => ?_)
     go_simp
     refine (gPut_any (grp k) OK.out gb sv _ (HGP.out.up HT.out)).mono ?_
     rintro e w7 ⟨rfl, hb9⟩
     replace HT := Lib.hid (below_up HT.out hb9)
     replace HZS := sz HZS (show wr.heap.size ≤ w7.heap.size from HT.out.size)
     clear hb9
     refine hK _ _ ⟨fun _ => ⟨⟨w7, ((below_grown HT.out).but _)⟩, rfl⟩, ?_⟩
     clear hK K
     repeat (first | (refine treek_q rfl rfl ?_; go_big_quiet_step (fail); refine wpQuiet_nil ?_) | (refine treek_e rfl rfl ?_; go_big_quiet_step (fail); refine wpQuiet_nil ?_))
     clear hov_d hl_d
     refine treek_a rfl (fun K hK => ?_)
     go_simp
     refine hK _ _ ⟨fun _ => ⟨⟨_, (below_grown (HT.out.alloc HT.out.size _)).but _⟩, rfl⟩, ?_⟩
     clear hK K
     obtain ⟨i9, hi9, hz90, hz91, hz92⟩ := info_parts infoStr
     have HG1 := Lib.hid ((below_grown HT.out).but (Value.ownBlock (.slice g2 j2 c2)))
     clear d_
     replace Hd := Lib.hid (Hd.out.up HT.out)
     replace HGP := Lib.hid (HGP.out.up HT.out)
     replace Hr := Lib.hid (Hr.out.up HT.out)
     replace HK2 := Lib.hid (Kept.up HK2.out HT.out)
     replace HB := hbu HB HT.out
     replace HZS := sz HZS HT.out.size
     refine treek_a rfl (fun K hK => ?_)
     refine step_pushR (wo.heap.size) w7 (by have g0 := HZS.out; omega) rfl _ _ 22 rfl 9 i9 _ 1 16 Tryz.underlying22 hi9 hz90 hz91 hz92 rfl (by omega) ((.slice g2 j2 c2)) (j2) (((shrL (grp k) f j j2).map Value.string)) rfl Hr.out _ _ _ rfl rfl rfl (by simp [Value.oneCell']) (by omega) (by unfold maxLen; omega) ?_
     intro g8 c8 w8 hown9 hg9
     have HGR := Lib.hid (HG1.out.trans hg9)
     have hb9 := Below.grown HB.out hg9 (by have g0 := HZS.out; omega) (fun q hq => Nat.le_trans (show w.heap.size ≤ wo.heap.size by have g0 := HZS.out; omega) (Hr.out.lt q hq).1)
     replace Hd := Lib.hid (Hd.out.grown hg9 (fun e9 => by have a1 := Hr.out.lt _ e9; have g0 := HZS.out; omega))
     replace HGP := Lib.hid (HGP.out.grown hg9 (fun e9 => by have a1 := Hr.out.lt _ e9; have g0 := HZS.out; omega))
     replace HK2 := Lib.hid (Kept.grown HK2.out hg9 (fun q hq => Or.inl (Nat.le_trans (show wo.heap.size ≤ wo.heap.size by have g0 := HZS.out; omega) (Hr.out.lt q hq).1)))
     replace HZS := sz HZS hg9.size
     clear Hr HB HT HG1
     have Hr := Lib.hid hown9
     have HB := Lib.hid hb9
     clear hb9 hown9 hg9 hi9 hz90 hz91 hz92
     refine hK _ _ ⟨fun _ => ⟨⟨w8, HGR.out⟩, rfl⟩, ?_⟩
     clear hK K HGR
     try simp only [Act.put, List.setIfInBounds_toArray, List.set_cons_succ, List.set_cons_zero]
     repeat (first | (refine treek_q rfl rfl ?_; go_big_quiet_step (fail); refine wpQuiet_nil ?_) | (refine treek_e rfl rfl ?_; go_big_quiet_step (fail); refine wpQuiet_nil ?_))
     replace HZS := sz HZS (Hr.out.lt g8 rfl).1
     have d_ := Hd.out.c2
     have f9_d := Hd.out.frozen
     have o9_d_ := d_; clear d_
     obtain ⟨w9, hq9, hg9, hz9, hx9⟩ := put1 Hd 1 (.slice (some ⟨g8, 0, none⟩) ((j2 + 1)) c8) [.slice g j c9, .slice (some ⟨g8, 0, none⟩) ((j2 + 1)) c8] rfl
     replace HGP := Lib.hid (HGP.out.grown hg9.out (sne (by have g0 := HZS.out; omega)))
     replace Hr := Lib.hid (RowO.grown Hr.out hg9.out (fun q9 e8 e9 => by have a1 := Hr.out.lt _ e8; have a0 := Option.some.inj e9; have g0 := HZS.out; omega))
     replace HK2 := Lib.hid (Kept.grown HK2.out hg9.out (fun q9 e9 => by obtain rfl := Option.some.inj e9; exact Or.inr (rfl)))
     replace HB := hbg HB hg9 (by have g0 := HZS.out; omega)
     replace HZS := sz HZS hz9.out
     replace Hd := hx9
     clear hx9 hg9 hz9
     have d_ := Hd.out.c2
     refine treek_a rfl (fun K hK => ?_)
     go_simp
     try rw [hq9]
     refine hK _ _ ⟨fun h9 => absurd rfl h9, ?_⟩
     clear hK K hq9 o9_d_ f9_d
     refine treek_end ?_
     go_wp2_with fail
     go_roundw
     case rel => exact ⟨j2 + 1, _, _, by omega, by go_num, HK2, Hd, Hr.out.eq HSN.out.symm rfl⟩
     case measure => simp [intOf]; omega
    ·have hjm' : j2 = m := by omega
     subst hjm'
     have HF2 := Lib.hid (fun (y : Addr) (hy : g2 = some y) => (Hr.out.lt y.block (by rw [hy]; rfl)))
     have HS2 := Lib.hid Hr.out.sl
     clear Hr
     have hrl := Hrb.out.lt
     have Hrb1 := Lib.hid (show Bx wr w.heap.size 24 [.slice none 0 0, .slice none 0 0] from (HK2.out.block w.heap.size (by have := HSZ2.out; omega) (fun e => by have e : w.heap.size = D := e; have := HSZ2.out; omega)).trans ((HK.out.block w.heap.size hrl (fun e => by have e : w.heap.size = D := e; have := HSZ2.out; omega)).trans Hrb.out))
     clear Hrb
     have Hrb := Hrb1
     clear Hrb1 hrl
     have HZS := HSZ2
     replace HZS := sz HZS HSZ2.out
     have d_ := Hd.out.c2
     have rb_ := Hrb.out.c2
     have HKB := Lib.hid (Kept.refl (fun q9 => q9 = w.heap.size) wr)
     have f6_rb := Hrb.out.frozen
     have o6_d_ := d_; clear d_
     have o6_rb_ := rb_; clear rb_
     obtain ⟨w6, hq6, hg9, hz9, hx9⟩ := put2 Hrb 0 (.slice g j c9) 1 (.slice g2 j2 c2) [.slice g j c9, .slice g2 j2 c2] rfl
     replace Hd := Lib.hid (Hd.out.grown hg9.out (sne (by have g0 := HZS.out; omega)))
     replace HKB := Lib.hid (Kept.grown HKB.out hg9.out (fun q9 e9 => by obtain rfl := Option.some.inj e9; exact Or.inr (rfl)))
     replace HB := hbg HB hg9 (by have g0 := HZS.out; omega)
     replace HZS := sz HZS hz9.out
     replace Hrb := hx9
     clear hx9 hg9 hz9
     have d_ := Hd.out.c2
     have rb_ := Hrb.out.c2
     go_wp2_with fail
     clear hq6 o6_rb_ o6_d_ f6_rb
     simp [bodyPost, results, Tryz.results8, go_sem, rb_]
     exact ⟨HB.out, g, c9, g2, c2, by rw [cmtL_len, shrL_len]; rfl, HSS1.out.kept HKB.out (fun y hy e => by have e : y.block = w.heap.size := e; have := HF1.out y hy; have := HSZ2.out; omega), HS2.out.kept HKB.out (fun y hy e => by have e : y.block = w.heap.size := e; have := HF2.out y hy; have := HSZ2.out; omega), fun y hy => by have := HF1.out y hy; have := HSZ2.out; omega, fun y hy => by have := HF2.out y hy; have := HSZ2.out; omega⟩
end Go.Proofs.YtjmeakfjfpnciaaGreat
namespace Go.Proofs.YtjmeakfjfpnciaaGreat
open Go.RowKit
def seenE (G : GP) (cs : List ByteArray) (x : Int) : Nat :=
 if 16 < cs.length then 3 else if cs.length = 0 then 2 else if cs.all (isEl G.q.m G.size) = true then (if x < 0 ∨ 255 < x then 4 else 0) else 7
def seenS (G : GP) (cs : List ByteArray) (x : Int) : ByteArray :=
 if seenE G cs x = 0 then textS (lowN G (seeN G.q.m (comN cs) (modI G.q.m x) cs.length cs.length)) G.size else ⟨#[]⟩
theorem seenS_bad {G : GP} {cs : List ByteArray} {x : Int} {e : Nat} (h : seenE G cs x = e) (he : e ≠ 0) : seenS G cs x = ⟨#[]⟩ := by unfold seenS; rw [h, if_neg he]
theorem tSeen_none (k : Int) (hk : ¬ (1 ≤ k ∧ k ≤ 3)) (v1 v2 : Value) (w : World) :
  Calls Tryz.prog 11 #[.int .i64 k, v1, v2] w (Gives (.tuple #[.string ⟨#[]⟩, .int .i64 1]) w) := by
 unfold Gives
 go_enter Tryz.func11, Tryz.ntmps11
 go_wp2_with fail
 refine (of_none k hk _).mono ?_
 rintro e w2 ⟨rfl, rfl⟩
 go_wp2_with fail
 go_ret2
 exact ⟨rfl, Below.refl _ _⟩
theorem tSeen_some (k : Nat) (h1 : 1 ≤ k) (h3 : k ≤ 3) (cs : List ByteArray) (n : Nat) (hn : cs.length = n) (hnm : n ≤ 1152921504606846975) (x : Int) (ac : Option Addr) (cc : Nat) (w : World) (hC : Sl w w.heap.size ac (cs.map Value.string)) :
  Calls Tryz.prog 11 #[.int .i64 (k : Int), .slice ac n cc, .int .i64 x] w (Gives (.tuple #[.string (seenS (grp k) cs x), .int .i64 (seenE (grp k) cs x : Int)]) w) := by
 unfold Gives
 have OK := Lib.hid (grp_ok k h1 h3)
 have HC := Lib.hid hC
 obtain ⟨er, hz⟩ : ∃ z, seenE (grp k) cs x = z := ⟨_, rfl⟩
 have hsr : (er ≠ 0 → seenS (grp k) cs x = ⟨#[]⟩) ∧ (er = 0 → seenS (grp k) cs x = textS (lowN (grp k) (seeN (grp k).q.m (comN cs) (modI (grp k).q.m x) n n)) (grp k).size) := ⟨seenS_bad hz, fun h => by unfold seenS; rw [hz, if_pos h, hn]⟩
 obtain ⟨sr, hs9⟩ : ∃ z, seenS (grp k) cs x = z := ⟨_, rfl⟩
 rw [hz, hs9]
 rw [hs9] at hsr
 unfold seenE at hz
 rw [hn] at hz
 have HSR := Lib.hid hsr
 clear hsr hs9 hC
 by_cases hl : 16 < n
 ·rw [if_pos hl] at hz
  subst hz
  obtain rfl := HSR.out.1 (by decide)
  have hlb : decide ((n : Int) > 16) = true := by simp; omega
  go_enter Tryz.func11, Tryz.ntmps11
  go_wp2_with fail
  refine (of_some k h1 h3 w).mono ?_
  rintro e w1 ⟨rfl, hg9, hb9⟩
  have HB := Lib.hid hb9
  have HZS := Lib.hid hb9.size
  clear hb9
  go_wp2_with fail
  go_ret2
  exact ⟨rfl, HB.out⟩
 rw [if_neg hl] at hz
 have hlb : decide ((n : Int) > 16) = false := by simp; omega
 by_cases h0 : n = 0
 ·rw [if_pos h0] at hz
  subst hz
  obtain rfl := HSR.out.1 (by decide)
  subst h0
  go_enter Tryz.func11, Tryz.ntmps11
  go_wp2_with fail
  refine (of_some k h1 h3 w).mono ?_
  rintro e w1 ⟨rfl, hg9, hb9⟩
  have HB := Lib.hid hb9
  have HZS := Lib.hid hb9.size
  clear hb9
  go_wp2_with fail
  go_ret2
  exact ⟨rfl, HB.out⟩
 rw [if_neg h0] at hz
 have h0b : ((n : Int) == 0) = false := by simp; omega
 obtain ⟨b, hb⟩ : ∃ b, cs.all (isEl (grp k).q.m (grp k).size) = b := ⟨_, rfl⟩
 rw [hb] at hz
 have HE := Lib.hid (fun gb w h g => elems_any (grp k) OK.out gb cs n hn (by omega) b hb ac cc w h g)
 have HX := Lib.hid (fun gb a c w h g i1 i2 => see_any (grp k) OK.out gb (comN cs) n (by omega) x i1 i2 a c w h g)
 unfold Gives at HX
 generalize comN cs = f at *
 generalize modI (grp k).q.m x = xm at *
 clear hb hn
 go_enter Tryz.func11, Tryz.ntmps11
 go_wp2_with fail
 refine (of_some k h1 h3 w).mono ?_
 rintro e w1 ⟨rfl, hg9, hb9⟩
 have HB := Lib.hid hb9
 have HZS := Lib.hid hb9.size
 have HG := Lib.hid hg9
 clear hg9 hb9
 have HGL := Lib.hid HG.out.lt
 replace HZS := sz HZS HGL.out
 go_wp2_with fail
 refine (HE.out _ w1 HG.out (HC.out.up HB.out)).mono ?_
 rintro e w2 ⟨hb9, v, rfl, hx9⟩
 replace HG := Lib.hid (HG.out.up hb9)
 replace HB := hbu HB hb9
 replace HZS := sz HZS hb9.size
 have HEX := Lib.hid hx9
 clear hx9 hb9
 cases b with
 | false =>
  rw [if_neg (by decide)] at hz
  subst hz
  obtain rfl := HSR.out.1 (by decide)
  go_wp2_with fail
  go_ret2
  exact ⟨rfl, HB.out⟩
 | true =>
  obtain ⟨a, c, rfl, hs9, _⟩ := HEX.out rfl
  have HSL := Lib.hid hs9
  clear hs9 HEX
  rw [if_pos rfl] at hz
  have hxb : decide (x < 0) = decide (x < 0) := rfl
  by_cases hx1 : x < 0
  ·rw [if_pos (Or.inl hx1)] at hz
   subst hz
   obtain rfl := HSR.out.1 (by decide)
   have hxb : decide (x < 0) = true := decide_eq_true hx1
   go_wp2_with fail
   go_ret2
   exact ⟨rfl, HB.out⟩
  have hxb : decide (x < 0) = false := decide_eq_false hx1
  by_cases hx2 : 255 < x
  ·rw [if_pos (Or.inr hx2)] at hz
   subst hz
   obtain rfl := HSR.out.1 (by decide)
   have hxc : decide (x > 255) = true := decide_eq_true hx2
   go_wp2_with fail
   go_ret2
   exact ⟨rfl, HB.out⟩
  have hxc : decide (x > 255) = false := decide_eq_false hx2
  rw [if_neg (by omega)] at hz
  subst hz
  obtain rfl := HSR.out.2 rfl
  go_wp2_with fail
  refine (HX.out _ a c w2 HG.out HSL.out (by omega) (by omega)).mono ?_
  rintro e w3 ⟨rfl, hb9⟩
  replace HG := Lib.hid (HG.out.up hb9)
  replace HB := hbu HB hb9
  replace HZS := sz HZS hb9.size
  clear hb9
  go_wp2_with fail
  refine (gText_any (grp k) OK.out _ (seeN (grp k).q.m f xm n n) w3 HG.out).mono ?_
  rintro e w4 ⟨rfl, hb9⟩
  replace HG := Lib.hid (HG.out.up hb9)
  replace HB := hbu HB hb9
  replace HZS := sz HZS hb9.size
  clear hb9
  go_wp2_with fail
  go_ret2
  exact ⟨rfl, HB.out⟩
def fitK (G : GP) (cs : List ByteArray) (x : Int) (s : ByteArray) : Bool :=
 if seenE G cs x = 0 then isSc G.q.m G.size s && ((textS (lowN G (2 ^ (numOf s % G.q.m))) G.size).toList == (seenS G cs x).toList) else false
theorem tFits_none (k : Int) (hk : ¬ (1 ≤ k ∧ k ≤ 3)) (v1 v2 v3 : Value) (w : World) :
  Calls Tryz.prog 13 #[.int .i64 k, v1, v2, v3] w (Gives (.bool false) w) := by
 unfold Gives
 go_enter Tryz.func13, Tryz.ntmps13
 go_wp2_with fail
 refine (tSeen_none k hk v1 v2 w).mono ?_
 rintro e w1 ⟨rfl, hb9⟩
 have HB := Lib.hid hb9
 have HZS := Lib.hid hb9.size
 clear hb9
 go_wp2_with fail
 go_ret
 exact ⟨rfl, HB.out⟩
theorem tFits_some (k : Nat) (h1 : 1 ≤ k) (h3 : k ≤ 3) (cs : List ByteArray) (n : Nat) (hn : cs.length = n) (hnm : n ≤ 1152921504606846975) (x : Int) (s : ByteArray) (ac : Option Addr) (cc : Nat) (w : World) (hC : Sl w w.heap.size ac (cs.map Value.string)) :
  Calls Tryz.prog 13 #[.int .i64 (k : Int), .slice ac n cc, .int .i64 x, .string s] w (Gives (.bool (fitK (grp k) cs x s)) w) := by
 unfold Gives
 have OK := Lib.hid (grp_ok k h1 h3)
 have HC := Lib.hid hC
 have HS := Lib.hid (fun w h => tSeen_some k h1 h3 cs n hn hnm x ac cc w h)
 unfold Gives at HS
 obtain ⟨kb, hkb⟩ : ∃ b, fitK (grp k) cs x s = b := ⟨_, rfl⟩
 rw [hkb]
 unfold fitK at hkb
 generalize seenE (grp k) cs x = er at *
 generalize seenS (grp k) cs x = sr at *
 clear hn hnm hC
 by_cases he : er = 0
 case neg =>
  have hd : ((er : Int) != 0) = true := by simp; omega
  rw [if_neg he] at hkb
  subst hkb
  go_enter Tryz.func13, Tryz.ntmps13
  go_wp2_with fail
  refine (HS.out w HC.out).mono ?_
  rintro e w1 ⟨rfl, hb9⟩
  have HB := Lib.hid hb9
  have HZS := Lib.hid hb9.size
  clear hb9
  go_wp2_with fail
  go_ret
  exact ⟨rfl, HB.out⟩
 subst he
 have hd : ((((0 : Nat) : Int)) != 0) = false := by simp
 rw [if_pos rfl] at hkb
 obtain ⟨b, hb⟩ : ∃ b, isSc (grp k).q.m (grp k).size s = b := ⟨_, rfl⟩
 rw [hb] at hkb
 have HM := Lib.hid (fun gb w h => gScalar_m (grp k) OK.out gb s b hb w h)
 clear hb
 obtain ⟨c, hc⟩ : ∃ c, ((textS (lowN (grp k) (2 ^ (numOf s % (grp k).q.m))) (grp k).size).toList == sr.toList) = c := ⟨_, rfl⟩
 rw [hc] at hkb
 go_enter Tryz.func13, Tryz.ntmps13
 go_wp2_with fail
 refine (HS.out w HC.out).mono ?_
 rintro e w1 ⟨rfl, hb9⟩
 have HB := Lib.hid hb9
 have HZS := Lib.hid hb9.size
 clear hb9
 go_wp2_with fail
 refine (of_some k h1 h3 w1).mono ?_
 rintro e w2 ⟨rfl, hg9, hb9⟩
 replace HB := hbu HB hb9
 replace HZS := sz HZS hb9.size
 have HG := Lib.hid hg9
 clear hg9 hb9
 have HGL := Lib.hid HG.out.lt
 replace HZS := sz HZS HGL.out
 go_wp2_with fail
 refine (HM.out _ w2 HG.out).mono ?_
 rintro e w3 ⟨sx, rfl, hb9, hx9⟩
 replace HG := Lib.hid (HG.out.up hb9)
 replace HB := hbu HB hb9
 replace HZS := sz HZS hb9.size
 have HSX := Lib.hid hx9
 clear hx9 hb9
 unfold limbV
 obtain ⟨w4, hq4, hb9, hz9, Hnb⟩ := new1 w3 89 [.int .u64 (dig (sx) 0 : Int), .int .u64 (dig (sx) 1 : Int), .int .u64 (dig (sx) 2 : Int), .int .u64 (dig (sx) 3 : Int)]
 replace HG := Lib.hid (HG.out.up hb9)
 replace HB := hbu HB hb9
 replace HZS := sz HZS hz9.out
 clear hb9 hz9
 have nb_ := Hnb.out.c4
 cases b with
 | false =>
  obtain rfl : kb = false := by rw [← hkb]; rfl
  go_wp2_with fail
  clear hq4
  go_ret
  exact ⟨rfl, HB.out⟩
 | true =>
  obtain rfl := HSX.out rfl
  obtain rfl : kb = c := by rw [← hkb]; rfl
  go_wp2_with fail
  refine (gRaise_any (grp k) OK.out _ (numOf s) w4 HG.out).mono ?_
  rintro e w5 ⟨rfl, hb9⟩
  clear nb_
  replace Hnb := Lib.hid (Hnb.out.up hb9)
  replace HG := Lib.hid (HG.out.up hb9)
  replace HB := hbu HB hb9
  replace HZS := sz HZS hb9.size
  clear hb9
  have nb_ := Hnb.out.c4
  go_wp2_with fail
  refine (gText_any (grp k) OK.out _ (2 ^ (numOf s % (grp k).q.m)) w5 HG.out).mono ?_
  rintro e w6 ⟨rfl, hb9⟩
  clear nb_
  replace Hnb := Lib.hid (Hnb.out.up hb9)
  replace HG := Lib.hid (HG.out.up hb9)
  replace HB := hbu HB hb9
  replace HZS := sz HZS hb9.size
  clear hb9
  have nb_ := Hnb.out.c4
  go_wp2_with fail
  go_ret
  exact ⟨rfl, HB.out⟩
end Go.Proofs.YtjmeakfjfpnciaaGreat
namespace Go.Proofs.YtjmeakfjfpnciaaGreat
open Go.RowKit
def pwQ (G : GP) (x : Nat) : Nat → Nat
 | 0 => 1
 | k + 1 => mulQ G (pwQ G x k) x
def shQ (G : GP) (f : Nat → Nat) (x : Nat) : Nat → Nat
 | 0 => 0
 | k + 1 => addQ G (shQ G f x k) (mulQ G (pwQ G x k) (f k % G.q.m))
def sgQ (G : GP) (c : Nat → Nat) (x : Nat) : Nat → Nat
 | 0 => 1
 | k + 1 => lowN G (sgQ G c x k * lowN G (c k ^ pwQ G x k))
theorem pwQ_lt {G : GP} (ok : G.Ok) (x : Nat) : ∀ k, pwQ G x k < G.q.m
 | 0 => by have := ok.odd; show 1 < _; omega
 | _ + 1 => mulQ_lt ok _ _
theorem shQ_lt {G : GP} (ok : G.Ok) (f : Nat → Nat) (x : Nat) : ∀ k, shQ G f x k < G.q.m
 | 0 => ok.q.pos
 | _ + 1 => addQ_lt ok _ _
theorem sgQ_le {G : GP} (ok : G.Ok) (c : Nat → Nat) (x : Nat) : ∀ k, sgQ G c x k ≤ G.q.m
 | 0 => by have := ok.odd; show 1 ≤ _; omega
 | _ + 1 => lowN_le ok _
theorem rRight_any (need of : Int) (w : World) : Calls Tryz.prog 48 #[.int .i64 need, .int .i64 of] w (Gives (.bool (rightB need of)) w) := by
 unfold Gives rightB
 by_cases h1 : 1 ≤ of <;> by_cases h2 : of ≤ 8 <;> by_cases h3 : 1 ≤ need <;> by_cases h4 : need ≤ of <;>
  (go_enter Tryz.func48, Tryz.ntmps48
   go_wp2
   go_ret
   exact ⟨ret_bool (by simp [h1, h2, h3, h4]), Below.refl _ _⟩)
section
variable {G : GP} {aq ap : Option Addr} {cq cp : Nat}
theorem rChance_any (ok : G.Ok) (seed label : ByteArray) (i : Nat) (hi : i < 9223372036854775808) (hs : seed.size < 140737488355328) (hl : label.size < 140737488355328) (w : World) (hG : RG w G aq ap) :
  Calls Tryz.prog 71 #[.agg #[.int .i64 (G.size : Int), .slice aq (dl G.q.m) cq, .slice ap (dl G.p.m) cp], .string seed, .string label, .int .i64 (i : Int)] w fun e w' => NumR w e w' (chcN label seed i % G.q.m) := by
 have HT := Lib.hid (fun a c w h => rTag_any label [seed, fourS i] 2 rfl (join_small label _ 0 (by simp) (by
  intro x hx
  simp only [List.mem_cons, List.not_mem_nil, or_false] at hx
  rcases hx with rfl | rfl
  ·exact hs
  ·rw [fourS_size]; decide) hl) a c w h)
 have HS := Lib.hid (fun w => rstream_any (tagS label [seed, fourS i]) chanceB (by rw [tagS_size]; decide) (by decide) w)
 have HF := Lib.hid (fun w => Four_any i hi w)
 have HZ := Lib.hid (strmS_size (tagS label [seed, fourS i]) chanceB)
 unfold chcN
 unfold Gives at HS
 generalize strmS (tagS label [seed, fourS i]) chanceB = st at *
 generalize tagS label [seed, fourS i] = t at *
 generalize fourS i = f4 at *
 have hdl : dl (numOf st) ≤ 1048576 := by
  refine Nat.le_trans (dl_of_lt _ 32 ?_) (by decide)
  have h := numL_lt st.data.toList
  have e : st.data.toList.length = 64 := HZ.out
  rw [e] at h
  exact h
 have HRD := Lib.hid (fun w => refRead_any st (by rw [HZ.out]; decide) w)
 generalize numOf st = n at *
 have HMD := Lib.hid (fun aa am ca cm w h1 h2 => refMod_any n G.q.m aa am ca cm hdl ok.q.pos w h1 h2)
 have HQ := Lib.hid hG.q
 clear hG ok hi hs hl hdl
 go_enter Tryz.func71, Tryz.ntmps71
 go_wp2_with fail
 obtain ⟨w1, hq1, hb9, hz9, Hbg⟩ := new1 w 97 [.int .i64 (G.size : Int), .slice aq (dl G.q.m) cq, .slice ap (dl G.p.m) cp]
 rw [hq1]
 clear hq1
 have HB := Lib.hid hb9
 have HZS := hz9
 clear hb9 hz9
 have bg_ := Hbg.out.c3
 go_wp2_with fail
 refine (HF.out w1).mono ?_
 rintro e w2 ⟨rfl, hb9⟩
 clear bg_
 replace Hbg := Lib.hid (Hbg.out.up hb9)
 replace HB := hbu HB hb9
 replace HZS := sz HZS hb9.size
 clear hb9
 have bg_ := Hbg.out.c3
 have o3_bg_ := bg_; clear bg_
 obtain ⟨w3, hq3, hb9, hz9, Hr⟩ := new1 w2 9 [.string seed, .string f4]
 replace Hbg := Lib.hid (Hbg.out.up hb9)
 replace HB := hbu HB hb9
 replace HZS := sz HZS hz9.out
 clear hb9 hz9
 have bg_ := Hbg.out.c3
 have r_ := Hr.out.c2
 go_wp2_with fail
 clear hq3 o3_bg_
 refine (HT.out _ _ w3 (Sl.ofB Hr.out)).mono ?_
 rintro e w4 ⟨rfl, hb9⟩
 clear bg_
 replace Hbg := Lib.hid (Hbg.out.up hb9)
 clear r_
 replace Hr := Lib.hid (Hr.out.up hb9)
 replace HB := hbu HB hb9
 replace HZS := sz HZS hb9.size
 clear hb9
 have bg_ := Hbg.out.c3
 have r_ := Hr.out.c2
 go_wp2_with fail
 refine (HS.out w4).mono ?_
 rintro e w5 ⟨rfl, hb9⟩
 clear bg_
 replace Hbg := Lib.hid (Hbg.out.up hb9)
 clear r_
 replace Hr := Lib.hid (Hr.out.up hb9)
 replace HB := hbu HB hb9
 replace HZS := sz HZS hb9.size
 clear hb9
 have bg_ := Hbg.out.c3
 have r_ := Hr.out.c2
 go_wp2_with fail
 have HT := Lib.hid (show Below w5.heap.size w5 w5.drew from (Below.refl _ _).drew)
 have hl_bg := Hbg.out.lt
 have hl_r := Hr.out.lt
 refine wp_region_tree (fun wq9 => ∃ E : Over w5, wq9 = E.w) ((.qs [0, 2, 3] (.a 1 (.a 4 (.qs [5] .done))))) (by kernel_rfl) (by kernel_rfl) (fun _ _ d _ _ h => by cases d <;> exact h) ⟨⟨_, HT.out⟩, rfl⟩ ?_
 have hov_bg := fun (E : Over w5) o => E.cell (b := w.heap.size) o hl_bg
 have hov_r := fun (E : Over w5) o => E.cell (b := w2.heap.size) o hl_r
 simp only [Tree.qs]
 repeat (refine tree_q rfl rfl ?_; go_big_quiet_step (fail); refine wpQuiet_nil ?_)
 refine tree_a rfl (fun K hK => ?_)
 go_simp
 refine (HRD.out _).mono ?_
 rintro e w6 ⟨a4, c4, rfl, hn9, hb9⟩
 replace HT := Lib.hid (below_up HT.out hb9)
 replace HZS := sz HZS (show w5.heap.size ≤ w6.heap.size from HT.out.size)
 clear hb9
 have HN4 := Lib.hid hn9
 clear hn9
 refine hK _ _ ⟨⟨⟨w6, HT.out⟩, rfl⟩, ?_⟩
 clear hK K
 repeat (refine tree_q rfl rfl ?_; go_big_quiet_step (fail); refine wpQuiet_nil ?_)
 refine tree_a rfl (fun K hK => ?_)
 go_simp
 refine (HMD.out _ _ _ _ _ HN4.out (HQ.out.up (below_up HB.out HT.out))).mono ?_
 rintro e w7 ⟨a5, c5, rfl, hn9, hb9⟩
 replace HN4 := Lib.hid (HN4.out.up hb9)
 replace HT := Lib.hid (below_up HT.out hb9)
 replace HZS := sz HZS (show w5.heap.size ≤ w7.heap.size from HT.out.size)
 clear hb9
 have HN5 := Lib.hid hn9
 clear hn9
 refine hK _ _ ⟨⟨⟨w7, HT.out⟩, rfl⟩, ?_⟩
 clear hK K
 repeat (refine tree_q rfl rfl ?_; go_big_quiet_step (fail); refine wpQuiet_nil ?_)
 refine tree_end ?_
 clear hov_bg hl_bg hov_r hl_r bg_
 replace Hbg := Lib.hid (Hbg.out.up HT.out)
 clear r_
 replace Hr := Lib.hid (Hr.out.up HT.out)
 replace HB := hbu HB HT.out
 replace HZS := sz HZS HT.out.size
 clear HT
 have bg_ := Hbg.out.c3
 have r_ := Hr.out.c2
 go_wp2_with fail
 go_ret
 exact ⟨a5, c5, rfl, HN5.out, HB.out⟩
theorem rshare_any (ok : G.Ok) (n : Nat) (hn : n ≤ 8) (seed : ByteArray) (hs : seed.size < 140737488355328) (x : Nat) (hx : x ≤ 255) (w : World) (hG : RG w G aq ap) :
  Calls Tryz.prog 97 #[.agg #[.int .i64 (G.size : Int), .slice aq (dl G.q.m) cq, .slice ap (dl G.p.m) cp], .int .i64 (n : Int), .string seed, .int .i64 (x : Int)] w fun e w' => NumR w e w' (shQ G (chcN coefB seed) x n) := by
 have OK := Lib.hid ok
 have HRG := Lib.hid hG
 have HC := Lib.hid (fun i (hi : i < 9223372036854775808) w h => rChance_any (aq := aq) (ap := ap) (cq := cq) (cp := cp) ok seed coefB i hi hs (by decide) w h)
 generalize chcN coefB seed = f at *
 have HL1 := Lib.hid (shQ_lt ok f x)
 have HL2 := Lib.hid (pwQ_lt ok x)
 have HX16 := Lib.hid (show x < DD ^ 16 from Nat.lt_of_le_of_lt hx (by decide))
 have HOF := Lib.hid (fun w => refOf_any x (by omega) w)
 clear ok hG hs hx
 go_enter Tryz.func97, Tryz.ntmps97
 go_wp2_with fail
 obtain ⟨w1, hq1, hb9, hz9, Hbg⟩ := new1 w 97 [.int .i64 (G.size : Int), .slice aq (dl G.q.m) cq, .slice ap (dl G.p.m) cp]
 rw [hq1]
 clear hq1
 have HB := Lib.hid hb9
 have HZS := hz9
 clear hb9 hz9
 have bg_ := Hbg.out.c3
 go_wp2_with fail
 refine (refOf_any 0 (by decide) w1).mono ?_
 rintro e w2 ⟨as0, cs0, rfl, hn9, hb9⟩
 clear bg_
 replace Hbg := Lib.hid (Hbg.out.up hb9)
 replace HB := hbu HB hb9
 replace HZS := sz HZS hb9.size
 have HS := Lib.hid hn9
 clear hn9 hb9
 have bg_ := Hbg.out.c3
 go_wp2_with fail
 refine (refOf_any 1 (by decide) w2).mono ?_
 rintro e w3 ⟨ap0, cp0, rfl, hn9, hb9⟩
 clear bg_
 replace Hbg := Lib.hid (Hbg.out.up hb9)
 replace HS := Lib.hid (HS.out.up hb9)
 replace HB := hbu HB hb9
 replace HZS := sz HZS hb9.size
 have HP := Lib.hid hn9
 clear hn9 hb9
 have bg_ := Hbg.out.c3
 go_wp2_with fail
 have BL := Lib.hid (Below.refl w3.heap.size w3)
 go_loopw [11, 9, 10] (fun j u v wr => ∃ (t : Nat) (au : Option Addr) (cu : Nat) (av : Option Addr) (cv : Nat), t ≤ n ∧ j = .int .i64 t ∧ u = .slice au (dl (shQ G f x t)) cu ∧ v = .slice av (dl (pwQ G x t)) cv ∧ Hid (Below w3.heap.size w3 wr) ∧ Hid (NumAt wr au (shQ G f x t)) ∧ Hid (NumAt wr av (pwQ G x t))) (fun j _ _ _ => n - (intOf j).toNat)
 case atStart => exact ⟨0, as0, cs0, ap0, cp0, Nat.zero_le _, rfl, rfl, rfl, BL, HS, HP⟩
 case round =>
  clear HS HP
  obtain ⟨t, au, cu, av, cv, ht, rfl, rfl, rfl, HL9, HS, HP⟩ := hrel
  have hb9 := HL9.out
  clear HL9 bg_
  replace Hbg := Lib.hid (Hbg.out.up hb9)
  replace BL := hbu BL hb9
  replace HB := hbu HB hb9
  replace HZS := sz HZS hb9.size
  clear hb9
  have bg_ := Hbg.out.c3
  by_cases htn : t < n
  ·have HT1 := Lib.hid (show shQ G f x (t + 1) = addQ G (shQ G f x t) (mulQ G (pwQ G x t) (f t % G.q.m)) from rfl)
   have HT2 := Lib.hid (show pwQ G x (t + 1) = mulQ G (pwQ G x t) x from rfl)
   have HS16 := Lib.hid (q_16 OK.out (HL1.out t))
   have HP16 := Lib.hid (q_16 OK.out (HL2.out t))
   have HF16 := Lib.hid (q_16 OK.out (Nat.mod_lt (f t) OK.out.q.pos))
   have HCT := Lib.hid (HC.out t (by omega))
   obtain ⟨sv, hsv⟩ : ∃ v, shQ G f x t = v := ⟨_, rfl⟩
   obtain ⟨pv, hpv⟩ : ∃ v, pwQ G x t = v := ⟨_, rfl⟩
   rw [hsv, hpv] at HT1
   rw [hpv] at HT2 HP16 HP ⊢
   rw [hsv] at HS16 HS ⊢
   clear hsv hpv
   generalize f t % G.q.m = ft at *
   go_wp2_with fail
   have HT := Lib.hid (show Below wr.heap.size wr wr.drew from (Below.refl _ _).drew)
   have hl_bg := Hbg.out.lt
   refine wp_region_tree (fun wq9 => ∃ E : Over wr, wq9 = E.w) ((.qs [0, 1, 2, 3, 4, 5, 6] (.a 7 (.a 8 (.a 9 (.qs [10] .done)))))) (by kernel_rfl) (by kernel_rfl) (fun _ _ d _ _ h => by cases d <;> exact h) ⟨⟨_, HT.out⟩, rfl⟩ ?_
   have hov_bg := fun (E : Over wr) o => E.cell (b := w.heap.size) o hl_bg
   simp only [Tree.qs]
   repeat (refine tree_q rfl rfl ?_; go_big_quiet_step (fail); refine wpQuiet_nil ?_)
   refine tree_a rfl (fun K hK => ?_)
   go_simp
   refine (HCT.out _ (HRG.out.up (below_up HB.out HT.out))).mono ?_
   rintro e w4 ⟨a1, c1, rfl, hn9, hb9⟩
   replace HT := Lib.hid (below_up HT.out hb9)
   replace HZS := sz HZS (show wr.heap.size ≤ w4.heap.size from HT.out.size)
   clear hb9
   have HN1 := Lib.hid hn9
   clear hn9
   refine hK _ _ ⟨⟨⟨w4, HT.out⟩, rfl⟩, ?_⟩
   clear hK K
   repeat (refine tree_q rfl rfl ?_; go_big_quiet_step (fail); refine wpQuiet_nil ?_)
   refine tree_a rfl (fun K hK => ?_)
   go_simp
   refine (rMulQ OK.out HP16.out HF16.out _ (HRG.out.up (below_up HB.out HT.out)) (HP.out.up HT.out) HN1.out).mono ?_
   rintro e w5 ⟨a2, c2, rfl, hn9, hb9⟩
   replace HN1 := Lib.hid (HN1.out.up hb9)
   replace HT := Lib.hid (below_up HT.out hb9)
   replace HZS := sz HZS (show wr.heap.size ≤ w5.heap.size from HT.out.size)
   clear hb9
   have HN2 := Lib.hid hn9
   clear hn9
   refine hK _ _ ⟨⟨⟨w5, HT.out⟩, rfl⟩, ?_⟩
   clear hK K
   repeat (refine tree_q rfl rfl ?_; go_big_quiet_step (fail); refine wpQuiet_nil ?_)
   refine tree_a rfl (fun K hK => ?_)
   go_simp
   refine (rAddQ OK.out HS16.out (q_16 OK.out (mulQ_lt OK.out _ _)) _ (HRG.out.up (below_up HB.out HT.out)) (HS.out.up HT.out) HN2.out).mono ?_
   rintro e w6 ⟨a3, c3, rfl, hn9, hb9⟩
   replace HN1 := Lib.hid (HN1.out.up hb9)
   replace HN2 := Lib.hid (HN2.out.up hb9)
   replace HT := Lib.hid (below_up HT.out hb9)
   replace HZS := sz HZS (show wr.heap.size ≤ w6.heap.size from HT.out.size)
   clear hb9
   have HN3 := Lib.hid hn9
   clear hn9
   refine hK _ _ ⟨⟨⟨w6, HT.out⟩, rfl⟩, ?_⟩
   clear hK K
   repeat (refine tree_q rfl rfl ?_; go_big_quiet_step (fail); refine wpQuiet_nil ?_)
   refine tree_end ?_
   clear hov_bg hl_bg bg_
   replace Hbg := Lib.hid (Hbg.out.up HT.out)
   replace HS := Lib.hid (HS.out.up HT.out)
   replace HP := Lib.hid (HP.out.up HT.out)
   replace BL := hbu BL HT.out
   replace HB := hbu HB HT.out
   replace HZS := sz HZS HT.out.size
   clear HT
   have bg_ := Hbg.out.c3
   have HU := HN3
   clear HN1 HN2 HN3 HS
   go_wp2_with fail
   have HT := Lib.hid (show Below w6.heap.size w6 w6.drew from (Below.refl _ _).drew)
   have hl_bg := Hbg.out.lt
   refine wp_region_tree (fun wq9 => ∃ E : Over w6, wq9 = E.w) ((.qs [0, 1, 2] (.a 3 (.a 4 (.qs [5] .done))))) (by kernel_rfl) (by kernel_rfl) (fun _ _ d _ _ h => by cases d <;> exact h) ⟨⟨_, HT.out⟩, rfl⟩ ?_
   have hov_bg := fun (E : Over w6) o => E.cell (b := w.heap.size) o hl_bg
   simp only [Tree.qs]
   repeat (refine tree_q rfl rfl ?_; go_big_quiet_step (fail); refine wpQuiet_nil ?_)
   refine tree_a rfl (fun K hK => ?_)
   go_simp
   refine (HOF.out _).mono ?_
   rintro e w7 ⟨a4, c4, rfl, hn9, hb9⟩
   replace HT := Lib.hid (below_up HT.out hb9)
   replace HZS := sz HZS (show w6.heap.size ≤ w7.heap.size from HT.out.size)
   clear hb9
   have HN4 := Lib.hid hn9
   clear hn9
   refine hK _ _ ⟨⟨⟨w7, HT.out⟩, rfl⟩, ?_⟩
   clear hK K
   repeat (refine tree_q rfl rfl ?_; go_big_quiet_step (fail); refine wpQuiet_nil ?_)
   refine tree_a rfl (fun K hK => ?_)
   go_simp
   refine (rMulQ OK.out HP16.out HX16.out _ (HRG.out.up (below_up HB.out HT.out)) (HP.out.up HT.out) HN4.out).mono ?_
   rintro e w8 ⟨a5, c5, rfl, hn9, hb9⟩
   replace HN4 := Lib.hid (HN4.out.up hb9)
   replace HT := Lib.hid (below_up HT.out hb9)
   replace HZS := sz HZS (show w6.heap.size ≤ w8.heap.size from HT.out.size)
   clear hb9
   have HN5 := Lib.hid hn9
   clear hn9
   refine hK _ _ ⟨⟨⟨w8, HT.out⟩, rfl⟩, ?_⟩
   clear hK K
   repeat (refine tree_q rfl rfl ?_; go_big_quiet_step (fail); refine wpQuiet_nil ?_)
   refine tree_end ?_
   clear hov_bg hl_bg bg_
   replace Hbg := Lib.hid (Hbg.out.up HT.out)
   replace HP := Lib.hid (HP.out.up HT.out)
   replace HU := Lib.hid (HU.out.up HT.out)
   replace BL := hbu BL HT.out
   replace HB := hbu HB HT.out
   replace HZS := sz HZS HT.out.size
   clear HT
   have bg_ := Hbg.out.c3
   go_wp2_with fail
   go_roundw
   case rel => exact ⟨t + 1, a3, c3, a5, c5, by omega, by go_num, by rw [HT1.out], by rw [HT2.out], BL, by rw [HT1.out]; exact HU, by rw [HT2.out]; exact HN5⟩
   case measure => simp [intOf]; omega
  ·have htn' : t = n := by omega
   subst htn'
   go_wp2_with fail
   go_ret
   exact ⟨au, cu, rfl, HS.out, HB.out⟩
theorem rSeenOf_any (ok : G.Ok) (cs : List ByteArray) (n : Nat) (hn : cs.length = n) (hn16 : n ≤ 16) (hel : cs.all (isEl G.q.m G.size) = true) (x : Nat) (hx : x ≤ 255) (ac : Option Addr) (cc : Nat) (w : World) (hG : RG w G aq ap) (hC : Sl w w.heap.size ac (cs.map Value.string)) :
  Calls Tryz.prog 54 #[.agg #[.int .i64 (G.size : Int), .slice aq (dl G.q.m) cq, .slice ap (dl G.p.m) cp], .slice ac n cc, .int .i64 (x : Int)] w fun e w' => NumR w e w' (sgQ G (comN cs) x n) := by
 have OK := Lib.hid ok
 have HRG := Lib.hid hG
 have HX := Lib.hid hC
 have HM := Lib.hid hn
 have HEL := Lib.hid (fun s (hs : s ∈ cs) => List.all_eq_true.1 hel s hs)
 have HCN := Lib.hid (fun i (hi : i < cs.length) => comN_here hi)
 have HL1 := Lib.hid (sgQ_le ok (comN cs) x)
 have HL2 := Lib.hid (pwQ_lt ok x)
 have HX16 := Lib.hid (show x < DD ^ 16 from Nat.lt_of_le_of_lt hx (by decide))
 have HOF := Lib.hid (fun w => refOf_any x (by omega) w)
 clear ok hG hx hC hn hel
 go_enter Tryz.func54, Tryz.ntmps54
 go_wp2_with fail
 obtain ⟨w1, hq1, hb9, hz9, Hbg⟩ := new1 w 97 [.int .i64 (G.size : Int), .slice aq (dl G.q.m) cq, .slice ap (dl G.p.m) cp]
 rw [hq1]
 clear hq1
 have HB := Lib.hid hb9
 have HZS := hz9
 clear hb9 hz9
 have bg_ := Hbg.out.c3
 go_wp2_with fail
 refine (refOf_any 1 (by decide) w1).mono ?_
 rintro e w2 ⟨as0, cs0, rfl, hn9, hb9⟩
 clear bg_
 replace Hbg := Lib.hid (Hbg.out.up hb9)
 replace HB := hbu HB hb9
 replace HZS := sz HZS hb9.size
 have HS := Lib.hid hn9
 clear hn9 hb9
 have bg_ := Hbg.out.c3
 go_wp2_with fail
 refine (refOf_any 1 (by decide) w2).mono ?_
 rintro e w3 ⟨ap0, cp0, rfl, hn9, hb9⟩
 clear bg_
 replace Hbg := Lib.hid (Hbg.out.up hb9)
 replace HS := Lib.hid (HS.out.up hb9)
 replace HB := hbu HB hb9
 replace HZS := sz HZS hb9.size
 have HP := Lib.hid hn9
 clear hn9 hb9
 have bg_ := Hbg.out.c3
 go_wp2_with fail
 have BL := Lib.hid (Below.refl w3.heap.size w3)
 go_loopw [15, 7, 8] (fun j u v wr => ∃ (t : Nat) (au : Option Addr) (cu : Nat) (av : Option Addr) (cv : Nat), t ≤ n ∧ j = .int .i64 t ∧ u = .slice au (dl (sgQ G (comN cs) x t)) cu ∧ v = .slice av (dl (pwQ G x t)) cv ∧ Hid (Below w3.heap.size w3 wr) ∧ Hid (NumAt wr au (sgQ G (comN cs) x t)) ∧ Hid (NumAt wr av (pwQ G x t))) (fun j _ _ _ => n - (intOf j).toNat)
 case atStart => exact ⟨0, as0, cs0, ap0, cp0, Nat.zero_le _, rfl, rfl, rfl, BL, HS, HP⟩
 case round =>
  clear HS HP
  obtain ⟨t, au, cu, av, cv, ht, rfl, rfl, rfl, HL9, HS, HP⟩ := hrel
  have hb9 := HL9.out
  clear HL9 bg_
  replace Hbg := Lib.hid (Hbg.out.up hb9)
  replace BL := hbu BL hb9
  replace HB := hbu HB hb9
  replace HZS := sz HZS hb9.size
  clear hb9
  have bg_ := Hbg.out.c3
  by_cases htn : t < n
  ·have htx : t < cs.length := by rw [HM.out]; exact htn
   obtain ⟨bv, ov, rfl, hbv, hcv⟩ := (HX.out.up HB.out).at t (by rw [List.length_map]; exact htx)
   rw [List.getElem_map] at hcv
   have HVI := Lib.hid (HCN.out t htx)
   have HE1 := Lib.hid (HEL.out _ (List.getElem_mem htx))
   generalize cs[t] = s at *
   have HV32 := Lib.hid (el_len OK.out HE1.out)
   have HT1 := Lib.hid (show sgQ G (comN cs) x (t + 1) = lowN G (sgQ G (comN cs) x t * lowN G (numOf s ^ pwQ G x t)) by rw [← HVI.out]; rfl)
   have HT2 := Lib.hid (show pwQ G x (t + 1) = mulQ G (pwQ G x t) x from rfl)
   have HS16 := Lib.hid (Nat.lt_of_le_of_lt (HL1.out t) OK.out.q.lt4)
   have HP16 := Lib.hid (q_16 OK.out (HL2.out t))
   have HPD := Lib.hid (q_dl OK.out (Nat.le_of_lt (HL2.out t)))
   obtain ⟨sv, hsv⟩ : ∃ v, sgQ G (comN cs) x t = v := ⟨_, rfl⟩
   obtain ⟨pv, hpv⟩ : ∃ v, pwQ G x t = v := ⟨_, rfl⟩
   rw [hsv, hpv] at HT1
   rw [hpv] at HT2 HP16 HPD HP ⊢
   rw [hsv] at HS16 HS ⊢
   clear hsv hpv
   go_upto_region 6 with fail
   clear hcv hbv
   have HT := Lib.hid (show Below wr.heap.size wr wr.drew from (Below.refl _ _).drew)
   have hl_bg := Hbg.out.lt
   refine wp_region_tree (fun wq9 => ∃ E : Over wr, wq9 = E.w) ((.qs [0, 1, 2, 3, 5] (.a 4 (.a 6 (.a 7 (.qs [8] .done)))))) (by kernel_rfl) (by kernel_rfl) (fun _ _ d _ _ h => by cases d <;> exact h) ⟨⟨_, HT.out⟩, rfl⟩ ?_
   have hov_bg := fun (E : Over wr) o => E.cell (b := w.heap.size) o hl_bg
   simp only [Tree.qs]
   repeat (refine tree_q rfl rfl ?_; go_big_quiet_step (fail); refine wpQuiet_nil ?_)
   refine tree_a rfl (fun K hK => ?_)
   go_simp
   refine (refRead_any s (Nat.le_trans HV32.out (by decide)) _).mono ?_
   rintro e w4 ⟨a1, c1, rfl, hn9, hb9⟩
   replace HT := Lib.hid (below_up HT.out hb9)
   replace HZS := sz HZS (show wr.heap.size ≤ w4.heap.size from HT.out.size)
   clear hb9
   have HN1 := Lib.hid hn9
   clear hn9
   refine hK _ _ ⟨⟨⟨w4, HT.out⟩, rfl⟩, ?_⟩
   clear hK K
   repeat (refine tree_q rfl rfl ?_; go_big_quiet_step (fail); refine wpQuiet_nil ?_)
   refine tree_a rfl (fun K hK => ?_)
   go_simp
   refine (rPow OK.out (numOf_16 s HV32.out) HPD.out _ (HRG.out.up (below_up HB.out HT.out)) HN1.out (HP.out.up HT.out)).mono ?_
   rintro e w5 ⟨a2, c2, rfl, hn9, hb9⟩
   replace HN1 := Lib.hid (HN1.out.up hb9)
   replace HT := Lib.hid (below_up HT.out hb9)
   replace HZS := sz HZS (show wr.heap.size ≤ w5.heap.size from HT.out.size)
   clear hb9
   have HN2 := Lib.hid hn9
   clear hn9
   refine hK _ _ ⟨⟨⟨w5, HT.out⟩, rfl⟩, ?_⟩
   clear hK K
   repeat (refine tree_q rfl rfl ?_; go_big_quiet_step (fail); refine wpQuiet_nil ?_)
   refine tree_a rfl (fun K hK => ?_)
   go_simp
   refine (rProd OK.out HS16.out (lowN_16 OK.out _) _ (HRG.out.up (below_up HB.out HT.out)) (HS.out.up HT.out) HN2.out).mono ?_
   rintro e w6 ⟨a3, c3, rfl, hn9, hb9⟩
   replace HN1 := Lib.hid (HN1.out.up hb9)
   replace HN2 := Lib.hid (HN2.out.up hb9)
   replace HT := Lib.hid (below_up HT.out hb9)
   replace HZS := sz HZS (show wr.heap.size ≤ w6.heap.size from HT.out.size)
   clear hb9
   have HN3 := Lib.hid hn9
   clear hn9
   refine hK _ _ ⟨⟨⟨w6, HT.out⟩, rfl⟩, ?_⟩
   clear hK K
   repeat (refine tree_q rfl rfl ?_; go_big_quiet_step (fail); refine wpQuiet_nil ?_)
   refine tree_end ?_
   clear hov_bg hl_bg bg_
   replace Hbg := Lib.hid (Hbg.out.up HT.out)
   replace HS := Lib.hid (HS.out.up HT.out)
   replace HP := Lib.hid (HP.out.up HT.out)
   replace BL := hbu BL HT.out
   replace HB := hbu HB HT.out
   replace HZS := sz HZS HT.out.size
   clear HT
   have bg_ := Hbg.out.c3
   have HU := HN3
   clear HN1 HN2 HN3 HS
   go_wp2_with fail
   have HT := Lib.hid (show Below w6.heap.size w6 w6.drew from (Below.refl _ _).drew)
   have hl_bg := Hbg.out.lt
   refine wp_region_tree (fun wq9 => ∃ E : Over w6, wq9 = E.w) ((.qs [0, 1, 2] (.a 3 (.a 4 (.qs [5] .done))))) (by kernel_rfl) (by kernel_rfl) (fun _ _ d _ _ h => by cases d <;> exact h) ⟨⟨_, HT.out⟩, rfl⟩ ?_
   have hov_bg := fun (E : Over w6) o => E.cell (b := w.heap.size) o hl_bg
   simp only [Tree.qs]
   repeat (refine tree_q rfl rfl ?_; go_big_quiet_step (fail); refine wpQuiet_nil ?_)
   refine tree_a rfl (fun K hK => ?_)
   go_simp
   refine (HOF.out _).mono ?_
   rintro e w7 ⟨a4, c4, rfl, hn9, hb9⟩
   replace HT := Lib.hid (below_up HT.out hb9)
   replace HZS := sz HZS (show w6.heap.size ≤ w7.heap.size from HT.out.size)
   clear hb9
   have HN4 := Lib.hid hn9
   clear hn9
   refine hK _ _ ⟨⟨⟨w7, HT.out⟩, rfl⟩, ?_⟩
   clear hK K
   repeat (refine tree_q rfl rfl ?_; go_big_quiet_step (fail); refine wpQuiet_nil ?_)
   refine tree_a rfl (fun K hK => ?_)
   go_simp
   refine (rMulQ OK.out HP16.out HX16.out _ (HRG.out.up (below_up HB.out HT.out)) (HP.out.up HT.out) HN4.out).mono ?_
   rintro e w8 ⟨a5, c5, rfl, hn9, hb9⟩
   replace HN4 := Lib.hid (HN4.out.up hb9)
   replace HT := Lib.hid (below_up HT.out hb9)
   replace HZS := sz HZS (show w6.heap.size ≤ w8.heap.size from HT.out.size)
   clear hb9
   have HN5 := Lib.hid hn9
   clear hn9
   refine hK _ _ ⟨⟨⟨w8, HT.out⟩, rfl⟩, ?_⟩
   clear hK K
   repeat (refine tree_q rfl rfl ?_; go_big_quiet_step (fail); refine wpQuiet_nil ?_)
   refine tree_end ?_
   clear hov_bg hl_bg bg_
   replace Hbg := Lib.hid (Hbg.out.up HT.out)
   replace HP := Lib.hid (HP.out.up HT.out)
   replace HU := Lib.hid (HU.out.up HT.out)
   replace BL := hbu BL HT.out
   replace HB := hbu HB HT.out
   replace HZS := sz HZS HT.out.size
   clear HT
   have bg_ := Hbg.out.c3
   go_wp2_with fail
   go_roundw
   case rel => exact ⟨t + 1, a3, c3, a5, c5, by omega, by go_num, by rw [HT1.out], by rw [HT2.out], BL, by rw [HT1.out]; exact HU, by rw [HT2.out]; exact HN5⟩
   case measure => simp [intOf]; omega
  ·have htn' : t = n := by omega
   subst htn'
   go_wp2_with fail
   go_ret
   exact ⟨au, cu, rfl, HS.out, HB.out⟩
theorem relems_any (ok : G.Ok) (cs : List ByteArray) (n : Nat) (hn : cs.length = n) (hnm : n ≤ 1152921504606846975) (b : Bool) (hb : cs.all (isEl G.q.m G.size) = b) (ac : Option Addr) (cc : Nat) (w : World) (hG : RG w G aq ap) (hC : Sl w w.heap.size ac (cs.map Value.string)) :
  Calls Tryz.prog 52 #[.agg #[.int .i64 (G.size : Int), .slice aq (dl G.q.m) cq, .slice ap (dl G.p.m) cp], .slice ac n cc] w (Gives (.bool b) w) := by
 unfold Gives
 have OK := Lib.hid ok
 have HRG := Lib.hid hG
 have HX := Lib.hid hC
 have HM := Lib.hid hn
 have HNO := Lib.hid (fun (h : ¬ cs.all (isEl G.q.m G.size) = true) => show b = false by rw [← hb]; exact Bool.eq_false_iff.2 h)
 have HYES := Lib.hid (fun (h : cs.all (isEl G.q.m G.size) = true) => show b = true by rw [← hb]; exact h)
 clear ok hG hC hn hb
 go_enter Tryz.func52, Tryz.ntmps52
 go_wp2_with fail
 obtain ⟨w1, hq1, hb9, hz9, Hbg⟩ := new1 w 97 [.int .i64 (G.size : Int), .slice aq (dl G.q.m) cq, .slice ap (dl G.p.m) cp]
 rw [hq1]
 clear hq1
 have HB := Lib.hid hb9
 have HZS := hz9
 clear hb9 hz9
 have bg_ := Hbg.out.c3
 go_wp2_with fail
 have BL := Lib.hid (Below.refl w1.heap.size w1)
 go_loopw [9] (fun j wr => ∃ (t : Nat), t ≤ n ∧ j = .int .i64 t ∧ Hid (Below w1.heap.size w1 wr) ∧ Hid ((cs.take t).all (isEl G.q.m G.size) = true)) (fun j _ => n - (intOf j).toNat)
 case atStart => exact ⟨0, Nat.zero_le _, rfl, BL, rfl⟩
 case round =>
  obtain ⟨t, ht, rfl, HL9, HAL⟩ := hrel
  have hb9 := HL9.out
  clear HL9 bg_
  replace Hbg := Lib.hid (Hbg.out.up hb9)
  replace BL := hbu BL hb9
  replace HB := hbu HB hb9
  replace HZS := sz HZS hb9.size
  clear hb9
  have bg_ := Hbg.out.c3
  by_cases htn : t < n
  ·have htx : t < cs.length := by rw [HM.out]; exact htn
   obtain ⟨bv, ov, rfl, hbv, hcv⟩ := (HX.out.up HB.out).at t (by rw [List.length_map]; exact htx)
   rw [List.getElem_map] at hcv
   obtain ⟨bj, hbj⟩ : ∃ x, isEl G.q.m G.size cs[t] = x := ⟨_, rfl⟩
   have HBJ := Lib.hid hbj
   clear hbj
   go_wp2_with fail
   refine (rIsEl_b OK.out cs[t] bj HBJ.out wr (HRG.out.up HB.out)).mono ?_
   rintro e w2 ⟨rfl, hb9⟩
   clear bg_
   replace Hbg := Lib.hid (Hbg.out.up hb9)
   replace BL := hbu BL hb9
   replace HB := hbu HB hb9
   replace HZS := sz HZS hb9.size
   clear hb9
   have bg_ := Hbg.out.c3
   cases bj
   ·obtain rfl := HNO.out (by rw [all_not htx HBJ.out]; decide)
    go_wp2_with fail
    go_ret
    exact ⟨rfl, HB.out⟩
   ·go_wp2_with fail
    go_roundw
    case rel => exact ⟨t + 1, by omega, by go_num, BL, all_snoc htx HAL.out HBJ.out⟩
    case measure => simp [intOf]; omega
  ·have htn' : t = n := by omega
   subst htn'
   obtain rfl : b = true := HYES.out (by rw [← HM.out] at HAL; exact all_take_true HAL.out)
   go_wp2_with fail
   go_ret
   exact ⟨rfl, HB.out⟩
end
end Go.Proofs.YtjmeakfjfpnciaaGreat
namespace Go.Proofs.YtjmeakfjfpnciaaGreat
open Go.RowKit
end Go.Proofs.YtjmeakfjfpnciaaGreat
namespace Go.Proofs.YtjmeakfjfpnciaaGreat
end Go.Proofs.YtjmeakfjfpnciaaGreat
namespace Go.Proofs.YtjmeakfjfpnciaaGreat
open Go.RowKit
section
variable {G : GP}
end
end Go.Proofs.YtjmeakfjfpnciaaGreat
namespace Go.Proofs.YtjmeakfjfpnciaaGreat
open Go.RowKit
end Go.Proofs.YtjmeakfjfpnciaaGreat
namespace Go.Proofs.YtjmeakfjfpnciaaGreat
open Go.RowKit
end Go.Proofs.YtjmeakfjfpnciaaGreat
namespace Go.Proofs.YtjmeakfjfpnciaaGreat
open Go.RowKit
end Go.Proofs.YtjmeakfjfpnciaaGreat
namespace Go.Proofs.YtjmeakfjfpnciaaGreat
open Go.RowKit
end Go.Proofs.YtjmeakfjfpnciaaGreat
namespace Go.Proofs.YtjmeakfjfpnciaaGreat
open Go.RowKit
end Go.Proofs.YtjmeakfjfpnciaaGreat
namespace Go.Proofs.YtjmeakfjfpnciaaGreat
open Go.RowKit
end Go.Proofs.YtjmeakfjfpnciaaGreat
namespace Go.Proofs.YtjmeakfjfpnciaaGreat
open Go.RowKit
end Go.Proofs.YtjmeakfjfpnciaaGreat
namespace Go.Proofs.YtjmeakfjfpnciaaGreat
open Go.RowKit
end Go.Proofs.YtjmeakfjfpnciaaGreat
namespace Go.Proofs.YtjmeakfjfpnciaaGreat
open Go.RowKit
end Go.Proofs.YtjmeakfjfpnciaaGreat
namespace Go.Proofs.YtjmeakfjfpnciaaGreat
open Go.RowKit
end Go.Proofs.YtjmeakfjfpnciaaGreat
namespace Go.Proofs.YtjmeakfjfpnciaaGreat
open Go.RowKit
end Go.Proofs.YtjmeakfjfpnciaaGreat
namespace Go.Proofs.YtjmeakfjfpnciaaGreat
open Go.RowKit
theorem pm_exp {q p a m n : Nat} (hpp : IsPrime p) (hp : p = 2 * q + 1) (h0 : 0 < a) (ha : a < p) (h : m % q = n % q) : PM p (a ^ m) (a ^ n) := by
 have h1 := pm_pow_mod hpp hp h0 ha m
 rw [h] at h1
 exact h1.symm.trans (pm_pow_mod hpp hp h0 ha n)
theorem isEl_bd {G : GP} (ok : G.Ok) {s : ByteArray} (h : isEl G.q.m G.size s = true) : 0 < numOf s ∧ numOf s < G.p.m := by
 unfold isEl at h
 simp only [Bool.and_eq_true, decide_eq_true_eq] at h
 have := ok.twice
 exact ⟨by omega, by omega⟩
end Go.Proofs.YtjmeakfjfpnciaaGreat
namespace Go.Proofs.YtjmeakfjfpnciaaGreat
def polS (f : Nat → Nat) (X : Nat) : Nat → Nat
 | 0 => 0
 | k + 1 => polS f X k + f k * X ^ k
def prdS (c : Nat → Nat) (X : Nat) : Nat → Nat
 | 0 => 1
 | k + 1 => prdS c X k * c k ^ X ^ k
theorem hr_pol (f : Nat → Nat) (X n : Nat) : ∀ d, d ≤ n → hrN f X n d * X ^ (n - d) + polS f X (n - d) = polS f X n
 | 0, _ => by show 0 * _ + polS f X n = _; rw [Nat.zero_mul, Nat.zero_add]
 | d + 1, h => by
  rw [← hr_pol f X n d (by omega)]
  obtain ⟨k, hk⟩ : ∃ k, n - d = k + 1 := ⟨n - d - 1, by omega⟩
  rw [show n - (d + 1) = k by omega, hk]
  show (hrN f X n d * X + f (n - 1 - d)) * X ^ k + polS f X k = hrN f X n d * X ^ (k + 1) + (polS f X k + f k * X ^ k)
  rw [show n - 1 - d = k by omega, Nat.pow_succ, Nat.add_mul, Nat.mul_assoc, Nat.mul_comm X (X ^ k)]
  omega
theorem hr_full (f : Nat → Nat) (X n : Nat) : hrN f X n n = polS f X n := by
 have h := hr_pol f X n n (Nat.le_refl _)
 rw [Nat.sub_self] at h
 rw [← h]
 show _ = hrN f X n n * X ^ 0 + 0
 rw [Nat.pow_zero, Nat.mul_one, Nat.add_zero]
theorem pw_pow (G : GP) (hq : 1 < G.q.m) (x : Nat) : ∀ k, pwQ G x k = (x % G.q.m) ^ k % G.q.m
 | 0 => by show 1 = 1 % _; rw [Nat.mod_eq_of_lt hq]
 | k + 1 => by
  show pwQ G x k * x % G.q.m = _
  rw [pw_pow G hq x k, Nat.pow_succ, Nat.mul_mod, Nat.mod_mod, ← Nat.mul_mod, Nat.mul_mod ((x % G.q.m) ^ k) x, Nat.mul_mod ((x % G.q.m) ^ k) (x % G.q.m), Nat.mod_mod]
theorem sh_pol (G : GP) (hq : 1 < G.q.m) (f : Nat → Nat) (x : Nat) : ∀ k, shQ G f x k = polS f (x % G.q.m) k % G.q.m
 | 0 => by show 0 = 0 % _; rw [Nat.zero_mod]
 | k + 1 => by
  show (shQ G f x k + (pwQ G x k * (f k % G.q.m) % G.q.m)) % G.q.m = (polS f (x % G.q.m) k + f k * (x % G.q.m) ^ k) % G.q.m
  rw [sh_pol G hq f x k, pw_pow G hq x k, ← Nat.mul_mod, ← Nat.add_mod, Nat.mul_comm ((x % G.q.m) ^ k)]
theorem sh_hr (G : GP) (hq : 1 < G.q.m) (f : Nat → Nat) (x n : Nat) : shQ G f x n = hrN f (modI G.q.m (x : Int)) n n % G.q.m := by
 rw [modI_pos, hr_full, sh_pol G hq]
theorem see_prd (q : Nat) (c : Nat → Nat) (x n : Nat) : ∀ d, d ≤ n → seeN q c x n d ^ (x % q) ^ (n - d) * prdS c (x % q) (n - d) = prdS c (x % q) n
 | 0, _ => by show 1 ^ _ * prdS c (x % q) n = _; rw [Nat.one_pow, Nat.one_mul]
 | d + 1, h => by
  rw [← see_prd q c x n d (by omega)]
  obtain ⟨k, hk⟩ : ∃ k, n - d = k + 1 := ⟨n - d - 1, by omega⟩
  rw [show n - (d + 1) = k by omega, hk]
  show (seeN q c x n d ^ (x % q) * c (n - 1 - d)) ^ (x % q) ^ k * prdS c (x % q) k = seeN q c x n d ^ (x % q) ^ (k + 1) * (prdS c (x % q) k * c k ^ (x % q) ^ k)
  rw [show n - 1 - d = k by omega, Nat.mul_pow, ← Nat.pow_mul, ← Nat.pow_succ', Nat.mul_assoc, Nat.mul_comm (c k ^ _)]
theorem see_full (q : Nat) (c : Nat → Nat) (x n : Nat) : seeN q c x n n = prdS c (x % q) n := by
 have h := see_prd q c x n n (Nat.le_refl _)
 rw [Nat.sub_self] at h
 rw [← h]
 show _ = seeN q c x n n ^ (x % q) ^ 0 * 1
 rw [Nat.pow_zero, Nat.pow_one, Nat.mul_one]
theorem sg_prd {G : GP} (ok : G.Ok) (hpp : IsPrime G.p.m) (c : Nat → Nat) (x n : Nat) (hc : ∀ k, k < n → 0 < c k ∧ c k < G.p.m) : ∀ k, k ≤ n → sgQ G c x k = lowN G (prdS c (x % G.q.m) k)
 | 0, _ => (lowN_fix ok (show 1 ≤ _ by have := ok.odd; omega)).symm
 | k + 1, h => by
  show lowN G (sgQ G c x k * lowN G (c k ^ pwQ G x k)) = lowN G (prdS c (x % G.q.m) k * c k ^ (x % G.q.m) ^ k)
  rw [sg_prd ok hpp c x n hc k (by omega), lowN_mul ok, pw_pow G (by have := ok.odd; omega)]
  exact lowN_eq ok (PM.mul (PM.refl _ _) (pm_exp hpp ok.twice (hc k (by omega)).1 (hc k (by omega)).2 (Nat.mod_mod _ _)))
theorem sg_see {G : GP} (ok : G.Ok) (hpp : IsPrime G.p.m) (cs : List ByteArray) (h : cs.all (isEl G.q.m G.size) = true) (x : Nat) : sgQ G (comN cs) x cs.length = lowN G (seeN G.q.m (comN cs) (modI G.q.m (x : Int)) cs.length cs.length) := by
 rw [modI_pos, see_full, Nat.mod_mod]
 exact sg_prd ok hpp _ x _ (fun k hk => by rw [comN_here hk]; exact isEl_bd ok (List.all_eq_true.1 h _ (List.getElem_mem hk))) _ (Nat.le_refl _)
end Go.Proofs.YtjmeakfjfpnciaaGreat
