/- Texts of this seat, one behind the other: what BoardStamps leans on. No condition beyond those that each names. -/
import Derived.Test.YtdlnnkbigeiilaaGreatZBoardStamps4
import Derived.Deep.OwnRows
import Derived.Outline
import Derived.Lib.Join

set_option maxRecDepth 100000
set_option maxHeartbeats 4000000
set_option linter.unusedVariables false
set_option linter.unusedSimpArgs false
namespace Go.Proofs.YtdlnnkbigeiilaaGreat
open Go.RowKit Go.Lib
theorem power_any (r : Nat) (hr : r < 4) (w : World) : Calls Tryz.prog 177 #[.int .i64 (r : Int)] w fun e w' => e = .returned (.int .u32 ((256 ^ r : Nat) : Int)) ∧ Below w.heap.size w w' := by
 go_enter Tryz.func177, Tryz.ntmps177
 go_wp2_with fail
 go_loop [3, 4] (fun v c => ∃ j : Nat, j ≤ r ∧ c = .int .i64 j ∧ v = .int .u32 ((256 ^ j : Nat) : Int)) (fun _ c => r - (RowKit.intOf c).toNat)
 case atStart => exact ⟨0, by omega, rfl, rfl⟩
 case round =>
  obtain ⟨j, hj, rfl, rfl⟩ := hrel
  by_cases hjr : j < r
  ·have HS := Lib.hid (show ((256 ^ (j + 1) : Nat) : Int) = ((256 ^ j : Nat) : Int) * 256 by rw [Nat.pow_succ]; omega)
   have hb : ((256 ^ j : Nat) : Int) ≤ 65536 := by
    have := Nat.pow_le_pow_right (show 0 < 256 by decide) (show j ≤ 2 by omega)
    have e : (256 : Nat) ^ 2 = 65536 := rfl
    omega
   have hb0 : (0 : Int) ≤ ((256 ^ j : Nat) : Int) := Int.natCast_nonneg _
   generalize ((256 ^ j : Nat) : Int) = p at *
   go_wp2_with fail
   exact ⟨⟨j + 1, by omega, by go_num, by rw [HS.out]⟩, by simp [RowKit.intOf]; omega⟩
  ·have hjr' : j = r := by omega
   subst hjr'
   go_wp2_with fail
   go_ret
   exact ⟨rfl, Below.refl _ _⟩
theorem wordsB_full (l : List UInt8) (_h : l.length ≤ 64) : wordsB l l.length = wordsB l 64 := by
 apply wordsB_congr
 intro j hj
 unfold byteW
 rw [if_pos hj]
 by_cases e : j < l.length
 ·rw [if_pos e]
 ·rw [if_neg e]
  simp [List.getD, List.getElem?_eq_none (show l.length ≤ j by omega)]
def keyW (s : List UInt8) (k : Nat) : WL := if k ≤ lastB s then allB s k else digW s
theorem keyW_len (s : List UInt8) (k : Nat) : (keyW s k).length = 8 := by unfold keyW; split; exact allB_len s k; exact digW_len s
theorem piece_get (s : List UInt8) (k i : Nat) (h : i < 64) : (pieceB s k).getD i 0 = s.getD (64 * k + i) 0 := by
 unfold pieceB List.getD
 rw [List.getElem?_take_of_lt h, List.getElem?_drop]
theorem piece_len (s : List UInt8) (k : Nat) : (pieceB s k).length = min 64 (s.length - 64 * k) := by unfold pieceB; rw [List.length_take, List.length_drop]
theorem word_mul (l : List UInt8) (i : Nat) : (((l.getD i 0).toNat : Int) * ((256 ^ (i % 4) : Nat) : Int)) % 4294967296 = ((BitVec.ofNat 32 ((l.getD i 0).toNat * 256 ^ (i % 4))).toNat : Int) := by
 rw [BitVec.toNat_ofNat]
 omega
def outP (s : List UInt8) (i : Nat) : List UInt8 := (digB s).take i ++ List.replicate (32 - i) 0
theorem outP_len (s : List UInt8) (i : Nat) (h : i ≤ 32) : (outP s i).length = 32 := by unfold outP; simp [digB_len]; omega
theorem outB_at : ∀ (w : WL) (i : Nat), i / 4 < w.length → (outB w)[i]? = some (UInt8.ofNat ((w.getD (i / 4) 0).toNat / 256 ^ (i % 4) % 256))
 | [], i, h => by simp at h
 | x :: w, i, h => by
   show ([_, _, _, _] ++ outB w)[i]? = _
   by_cases h4 : i < 4
   ·rcases (show i = 0 ∨ i = 1 ∨ i = 2 ∨ i = 3 by omega) with rfl | rfl | rfl | rfl <;> simp [List.getD]
   ·rw [List.getElem?_append_right (by simp; omega)]
    have e1 : i / 4 = (i - 4) / 4 + 1 := by omega
    have e2 : i % 4 = (i - 4) % 4 := by omega
    rw [e1, e2]
    exact outB_at w (i - 4) (by rw [List.length_cons] at h; omega)
theorem dig_get (s : List UInt8) (i : Nat) (h : i < 32) : (digB s).getD i 0 = UInt8.ofNat (((digW s).getD (i / 4) 0).toNat / 256 ^ (i % 4) % 256) := by
 unfold digB List.getD
 rw [outB_at _ _ (by rw [digW_len]; omega)]
 rfl
theorem digB_div (s : List UInt8) (i : Nat) (h : i < 32) : (((digW s).getD (i / 4) 0).toNat : Int) / ((256 ^ (i % 4) : Nat) : Int) % 256 = (((digB s).getD i 0).toNat : Int) := by
 rw [dig_get s i h, byte_int]
 omega
theorem outP_succ (s : List UInt8) (i : Nat) (h : i < 32) : outP s (i + 1) = (outP s i).set i ((digB s).getD i 0) := by
 have hl := digB_len s
 have e : (digB s).getD i 0 = (digB s)[i]'(by omega) := by simp [List.getD, hl, h]
 unfold outP
 rw [List.set_append_right _ _ (by rw [List.length_take]; omega), List.length_take, Nat.min_eq_left (by omega), Nat.sub_self, show 32 - i = (32 - (i + 1)) + 1 by omega, List.replicate_succ, List.set_cons_zero, List.take_succ_eq_append_getElem (by omega), List.append_assoc, e]
 rfl
theorem outP_all (s : List UInt8) : outP s 32 = digB s := by unfold outP; rw [List.take_of_length_le (by rw [digB_len]; exact Nat.le_refl _)]; simp
theorem make32 (s : List UInt8) (W : World) : (Instr.makeSlice 150 (.int .i64 32) (.int .i64 32)).run Tryz.prog W = .ok (.slice (some ⟨W.heap.size, 0, none⟩) 32 32) (W.alloc (.cells (byteCells (outP s 0)).toArray 5)) := by
 have e : madeCells #[Value.int .u8 0] 32 = (byteCells (outP s 0)).toArray := by
  unfold outP
  rw [List.take_zero, List.nil_append]
  kernel_rfl
 have h := Go.run_make_row' (P := Tryz.prog) 150 5 (.int .u8 0) 1 Tryz.underlying150 infoByte rfl .i64 .i64 32 (by decide) (by decide) W
 rw [e] at h
 exact h
theorem byteCells_set (l : List UInt8) (i : Nat) (y : UInt8) : (byteCells l).set i (.int .u8 (y.toNat : Int)) = byteCells (l.set i y) := by unfold byteCells; rw [List.map_set]
theorem Keyed_any (b : ByteArray) (hsz : b.size < 2305843009213693952) (w : World) :
  Calls Tryz.prog 160 #[.string ⟨#[]⟩, .string b] w fun e w' => e = .returned (.tuple #[.string (digS (bytesOf b)), .bool true]) ∧ Below w.heap.size w w' := by
 have hb0 : (0 : Int) ≤ (b.size : Int) := by omega
 by_cases hb : b.size = 0
 ·have hP : (((b.size : Int) + 63) / 64 == 0) = true := by rw [hb]; rfl
  have HPL := Lib.hid (show 1 = lastB (bytesOf b) + 1 by unfold lastB; rw [bytesOf_len, hb])
  clear hb
  go_enter Tryz.func160, Tryz.ntmps160
  go_wp2_with fail
  refine (rstart_any w).mono ?_
  rintro e w1 ⟨rfl, hb9⟩
  have HB := Lib.hid hb9
  have HZS := Lib.hid hb9.size
  clear hb9
  have HI8 := Lib.hid (show (Tryz.prog.info? 208).map (·.size) = some (wlV startV).length from info8)
  have HZ8 := Lib.hid (show (wlV (zw 8)).length = (wlV startV).length from rfl)
  have hz8 : (#[.int .u32 0, .int .u32 0, .int .u32 0, .int .u32 0, .int .u32 0, .int .u32 0, .int .u32 0, .int .u32 0] : Array Value) = (wlV (zw 8)).toArray := rfl
  go_upto_region 14 with (refine wpList_store_new rfl 208 208 (.tmp 10) (.tmp 40) rfl (wlV (zw 8)) (wlV startV) rfl rfl HI8.out HZ8.out (wl_one startV) ?_)
  clear hz8 HZ8 HI8
  have HBW := Lib.hid HB.out.size
  obtain ⟨w2, hq2, hb9, hz9, Hh⟩ := new1 w1 208 (wlV startV)
  rw [hq2]
  clear hq2
  replace HB := hbu HB hb9
  replace HZS := sz HZS hz9.out
  clear hb9 hz9
  have c0 : w2.cell? ⟨w1.heap.size, 0, none⟩ = some (.int .u32 1779033703) := Hh.out.cell rfl
  have hx0 : bits BinOp.xor IntKind.u32 1779033703 16842784 = 1795745351 := by decide
  have f3_h := Hh.out.frozen
  obtain ⟨w3, hq3, hg9, hz9, hx9⟩ := put1 Hh 0 (.int .u32 1795745351) _ rfl
  replace HB := hbg HB hg9 (by have g0 := HZS.out; omega)
  replace HZS := sz HZS hz9.out
  replace Hh := hx9
  clear hx9 hg9 hz9
  replace Hh := Lib.hid (show Bx w3 w1.heap.size 208 (wlV h0B) from Hh.out)
  go_wp2_with fail
  clear hq3 f3_h c0 hx0
  have HZ0 := Lib.hid (show w.heap.size ≤ w1.heap.size from HBW.out)
  have HP9 := Lib.hid hP
  clear hP HBW
  generalize w1.heap.size = hB at *
  have HQ0 := Lib.hid (show Bx w3 hB 208 (wlV (keyW (bytesOf b) 0)) from Hh.out)
  clear Hh
  go_loopw [11] (fun c wr => ∃ k : Nat, k ≤ 1 ∧ c = .int .i64 k ∧ Hid (Bx wr hB 208 (wlV (keyW (bytesOf b) k))) ∧ Hid (Below w.heap.size w wr)) (fun c _ => 1 - (RowKit.intOf c).toNat)
  case atStart => exact ⟨0, by omega, rfl, HQ0, HB⟩
  case round =>
   obtain ⟨k, hk, rfl, HQ, HB9⟩ := hrel
   clear HQ0 HB
   have HB := HB9
   have Hh := HQ
   clear HB9 HQ
   have HSB := Lib.hid HB.out.size
   have HSH := Lib.hid Hh.out.lt
   replace HZS := sz HZS HZ0.out
   replace HZS := sz HZS HSB.out
   replace HZS := sz HZS HSH.out
   by_cases hkP : k < 1
   ·have HKE := Lib.hid (show keyW (bytesOf b) k = allB (bytesOf b) k from by unfold keyW; rw [if_pos (by have := HPL.out; omega)])
    rw [HKE.out] at Hh
    have hz16 : (#[.int .u32 0, .int .u32 0, .int .u32 0, .int .u32 0, .int .u32 0, .int .u32 0, .int .u32 0, .int .u32 0, .int .u32 0, .int .u32 0, .int .u32 0, .int .u32 0, .int .u32 0, .int .u32 0, .int .u32 0, .int .u32 0] : Array Value) = (wlV (wordsB (pieceB (bytesOf b) k) 0)).toArray := by rw [wordsB_zero]; rfl
    have hkd : decide ((k : Int) < (1 : Int)) = true := by simp; omega
    have HCL := Lib.hid (show (pieceB (bytesOf b) k).length = min 64 (b.size - 64 * k) from by rw [piece_len, bytesOf_len])
    have hk64 : 64 * k ≤ b.size := by have := HPL.out; unfold lastB at this; rw [bytesOf_len] at this; omega
    go_upto_region 19 with (fail)
    obtain ⟨wo, rfl⟩ : ∃ wo : World, wo = wr := ⟨_, rfl⟩
    obtain ⟨w4, hq4, hb9, hz9, Hm⟩ := new1 wo 230 (wlV (wordsB (pieceB (bytesOf b) k) 0))
    rw [hq4]
    clear hq4
    replace Hh := Lib.hid (Hh.out.up hb9)
    replace HB := hbu HB hb9
    replace HZS := sz HZS hz9.out
    clear hb9 hz9 hz16
    have HK := Lib.hid (Kept.refl (fun q9 => q9 = wo.heap.size) w4)
    go_wp2_with fail
    go_loopw [13] (fun c wr => ∃ i : Nat, i ≤ (pieceB (bytesOf b) k).length ∧ c = .int .i64 i ∧ Hid (Bx wr wo.heap.size 230 (wlV (wordsB (pieceB (bytesOf b) k) i))) ∧ Hid (Kept (fun q9 => q9 = wo.heap.size) w4 wr)) (fun c _ => 64 - (RowKit.intOf c).toNat)
    case atStart => exact ⟨0, by omega, rfl, Hm, HK⟩
    case round =>
     obtain ⟨i, hi, rfl, HQ, HK1⟩ := hrel
     clear HK
     have hg9 := HK1.out
     clear Hm
     replace Hh := Lib.hid (Hh.out.keptP hg9 (show ¬ (_ = wo.heap.size) by have g0 := HZS.out; omega))
     replace HB := Lib.hid (Below.keptP HB.out hg9 (by have g0 := HZS.out; omega) (fun q9 h9 => (show w.heap.size ≤ _ by subst h9; have g0 := HZS.out; omega)))
     replace HZS := sz HZS (show w4.heap.size ≤ wr.heap.size from hg9.size)
     clear hg9
     have Hm := HQ
     clear HQ
     have HWL := Lib.hid (wordsB_len (pieceB (bytesOf b) k) i)
     have hi64 : i ≤ 64 := by have := HCL.out; omega
     by_cases hic : i < (pieceB (bytesOf b) k).length
     ·have hi6 : i < 64 := by have := HCL.out; omega
      have hin : 64 * k + i < b.size := by have := HCL.out; omega
      have hbb : (bytesOf b).getD (64 * k + i) 0 = b[64 * k + i] := by unfold bytesOf List.getD; rw [List.getElem?_eq_getElem (by rw [Array.length_toList]; exact hin)]; rfl
      have hix := fun W => run_index_str (P := Tryz.prog) W 9 b (64 * k + i) (64 * (k : Int) + (i : Int)) (by omega) hin (((pieceB (bytesOf b) k).getD i 0).toNat : Int) (by rw [piece_get _ _ _ hi6, hbb]) Tryz.underlying9
      have HWS := Lib.hid (wordsB_succ (pieceB (bytesOf b) k) i hi6)
      have HPW := fun w => power_any (i % 4) (by omega) w
      rw [show ((i % 4 : Nat) : Int) = (i : Int) % 4 from by omega] at HPW
      have HPW := Lib.hid HPW
      have hmul := word_mul (pieceB (bytesOf b) k) i
      have c1 := wl_cell Hm.out (i / 4) (by rw [HWL.out]; omega)
      generalize (wordsB (pieceB (bytesOf b) k) i).getD (i / 4) 0 = X at *
      generalize BitVec.ofNat 32 (((pieceB (bytesOf b) k).getD i 0).toNat * 256 ^ (i % 4)) = z at *
      clear hbb
      have hcb := ((pieceB (bytesOf b) k).getD i 0).toNat_lt
      generalize ((pieceB (bytesOf b) k).getD i 0).toNat = cb at *
      generalize ((256 ^ (i % 4) : Nat) : Int) = p at *
      have hadd := add32 X z
      obtain ⟨Z, hZ⟩ : ∃ Z, X + z = Z := ⟨_, rfl⟩
      rw [hZ] at hadd HWS
      clear hZ
      have a1 : (0 : Int) ≤ ((i / 4 : Nat) : Int) := by omega
      have a2 : ((i / 4 : Nat) : Int) < 16 := by omega
      have hdi : decide ((i : Int) < 64) = true := by simp; omega
      have hdn : decide (64 * (k : Int) + (i : Int) < (b.size : Int)) = true := by simp; omega
      go_wp2_with fail
      refine wp_region_otail 19 (by kernel_rfl) (by kernel_rfl) ?_
      simp only [List.take_succ_cons, List.take_zero, List.drop_succ_cons, List.drop_zero]
      have hov_wo_heap_size := fun (E : Over wr) o => E.cell (b := wo.heap.size) o Hm.out.lt
      repeat (go_big_quiet_step (first | (go_at_call 177; exact calls_over (HPW.out _))))
      all_goals (try unfold elV limbV)
      repeat (go_big_quiet_step (first | (go_at_call 177; exact calls_over (HPW.out _))))
      all_goals (try unfold elV limbV)
      repeat (go_big_quiet_step (first | (go_at_call 177; exact calls_over (HPW.out _))))
      all_goals (try unfold ciphV)
      refine wpQuiet_nil ?_
      rintro _ ⟨E, rfl⟩
      clear hov_wo_heap_size
      replace Hh := Lib.hid (Hh.out.up E.h)
      replace Hm := Lib.hid (Hm.out.up E.h)
      replace HK1 := Lib.hid (Kept.up HK1.out E.h)
      replace HB := hbu HB E.h
      replace HZS := sz HZS E.h.size
      obtain ⟨w5, hq9⟩ : ∃ W9 : World, E.w = W9 := ⟨_, rfl⟩
      rw [hq9] at Hh Hm HK1 HB HZS ⊢
      clear hq9 E c1 hix HPW
      have c1 := Hm.out.cell (wlV_get (wordsB (pieceB (bytesOf b) k) i) (i / 4) (by rw [HWL.out]; omega))
      have f6_m := Hm.out.frozen
      obtain ⟨w6, hq6, hg9, hz9, hx9⟩ := put1 Hm (i / 4) (.int .u32 (Z.toNat : Int)) _ rfl
      replace Hh := Lib.hid (Hh.out.grown hg9.out (sne (by have g0 := HZS.out; omega)))
      replace HK1 := Lib.hid (Kept.grown HK1.out hg9.out (fun q9 e9 => by obtain rfl := Option.some.inj e9; exact Or.inr (rfl)))
      replace HB := hbg HB hg9 (by have g0 := HZS.out; omega)
      replace HZS := sz HZS hz9.out
      replace Hm := hx9
      clear hx9 hg9 hz9
      replace Hm := Lib.hid Hm.out.wset
      rw [← HWS.out] at Hm
      go_wp2_with fail
      clear hq6 f6_m
      exact ⟨⟨i + 1, hic, by go_num, Hm, HK1⟩, by simp [RowKit.intOf]; omega⟩
     ·have hie : i = (pieceB (bytesOf b) k).length := by omega
      have hpl : (pieceB (bytesOf b) k).length ≤ 64 := by rw [← hie]; exact hi64
      rw [hie, wordsB_full _ hpl] at Hm
      have hcl := HCL.out
      rw [← hie] at hcl
      have hpl9 := HPL.out
      unfold lastB at hpl9
      rw [bytesOf_len] at hpl9
      have HHL := Lib.hid (allB_len (bytesOf b) k)
      have HHI := Lib.hid (show (Tryz.prog.info? 208).map (·.size) = some (wlV (allB (bytesOf b) k)).length by rw [wlV_len, HHL.out]; exact info8)
      have HMI := Lib.hid (show (Tryz.prog.info? 230).map (·.size) = some (wlV (wordsB (pieceB (bytesOf b) k) 64)).length by rw [wlV_len, wordsB_len]; exact info16)
      clear hie hpl
      by_cases hi6 : i < 64
      ·have hdi : decide ((i : Int) < 64) = true := by simp; omega
       have hdn : decide (64 * (k : Int) + (i : Int) < (b.size : Int)) = false := by simp; omega
       have hgt : (b.size : Int) < 64 * (k : Int) + 64 := by omega
       have hke : ((k : Int) == 0) = true := by rw [beq_iff_eq]; omega
       have HKN := Lib.hid (show keyW (bytesOf b) (k + 1) = pressB (allB (bytesOf b) k) (wordsB (pieceB (bytesOf b) k) 64) b.size true from by
        have e : k = lastB (bytesOf b) := by have := HPL.out; omega
        unfold keyW
        rw [if_neg (by omega), e]
        unfold digW
        rw [bytesOf_len])
       have HPR := Lib.hid (fun w => rPress_any (allB (bytesOf b) k) (wordsB (pieceB (bytesOf b) k) 64) HHL.out (wordsB_len _ _) b.size (by omega) true w)
       clear hcl hpl9
       go_wp2_with (first | refine wpList_load_mid rfl 208 (.tmp 10) rfl hB 0 rfl (wlV (allB (bytesOf b) k)) _ Hh.out.range Tryz.underlying208 rfl HHI.out ?_ | refine wpList_load_mid rfl 230 (.tmp 12) rfl wo.heap.size 0 rfl (wlV (wordsB (pieceB (bytesOf b) k) 64)) _ Hm.out.range Tryz.underlying230 rfl HMI.out ?_)
       refine (HPR.out wr).mono ?_
       rintro e w5 ⟨rfl, hb9⟩
       replace Hh := Lib.hid (Hh.out.up hb9)
       replace Hm := Lib.hid (Hm.out.up hb9)
       replace HK1 := Lib.hid (Kept.up HK1.out hb9)
       replace HB := hbu HB hb9
       replace HZS := sz HZS hb9.size
       clear hb9
       rw [← HKN.out]
       have HRL := Lib.hid (keyW_len (bytesOf b) (k + 1))
       obtain ⟨R, hR⟩ : ∃ R, keyW (bytesOf b) (k + 1) = R := ⟨_, rfl⟩
       rw [hR] at HRL ⊢
       have HRE := Lib.hid hR
       clear hR
       have HRI := Lib.hid (show (Tryz.prog.info? 208).map (·.size) = some (wlV R).length by rw [wlV_len, HRL.out]; exact info8)
       have HRZ := Lib.hid (show (wlV R).length = (wlV (allB (bytesOf b) k)).length by rw [wlV_len, wlV_len, HRL.out, HHL.out])
       obtain ⟨wz, hqz, hgz, hzz, hrz⟩ := puts Hh 0 (wlV R) (wlV R) (putL_all _ _ HRZ.out)
       have HBZ := hbg HB hgz (by have g0 := HZS.out; omega)
       go_wp2_with (refine wpList_store_mid rfl 208 (.tmp 10) (.tmp 101) rfl hB 0 (wlV R).toArray rfl rfl (Hh.out.there (by simp [HRZ.out])) (by simpa using HRI.out) (all_oneCell_toArray (wl_one R)) ?_)
       exact ⟨⟨k + 1, by omega, by go_num, by rw [HRE.out]; exact hrz, HBZ⟩, by simp [RowKit.intOf]; omega⟩
      ·have hdi : decide ((i : Int) < 64) = false := by simp; omega
       have hgt : 64 * (k : Int) + 64 ≤ (b.size : Int) := by omega
       by_cases hkl : k + 1 < 1
       ·omega
       ·have hke : ((k : Int) == 0) = true := by rw [beq_iff_eq]; omega
        have HKN := Lib.hid (show keyW (bytesOf b) (k + 1) = pressB (allB (bytesOf b) k) (wordsB (pieceB (bytesOf b) k) 64) (64 * k + 64) true from by
         have e : k = lastB (bytesOf b) := by have := HPL.out; omega
         have e2 : b.size = 64 * k + 64 := by omega
         unfold keyW
         rw [if_neg (by omega), ← e2, e]
         unfold digW
         rw [bytesOf_len])
        have hpr := fun w => rPress_any (allB (bytesOf b) k) (wordsB (pieceB (bytesOf b) k) 64) HHL.out (wordsB_len _ _) (64 * k + 64) (by omega) true w
        rw [show ((64 * k + 64 : Nat) : Int) = 64 * (k : Int) + 64 from by omega] at hpr
        have HPR := Lib.hid hpr
        clear hpr hcl hpl9
        go_wp2_with (first | refine wpList_load_mid rfl 208 (.tmp 10) rfl hB 0 rfl (wlV (allB (bytesOf b) k)) _ Hh.out.range Tryz.underlying208 rfl HHI.out ?_ | refine wpList_load_mid rfl 230 (.tmp 12) rfl wo.heap.size 0 rfl (wlV (wordsB (pieceB (bytesOf b) k) 64)) _ Hm.out.range Tryz.underlying230 rfl HMI.out ?_)
        refine (HPR.out wr).mono ?_
        rintro e w5 ⟨rfl, hb9⟩
        replace Hh := Lib.hid (Hh.out.up hb9)
        replace Hm := Lib.hid (Hm.out.up hb9)
        replace HK1 := Lib.hid (Kept.up HK1.out hb9)
        replace HB := hbu HB hb9
        replace HZS := sz HZS hb9.size
        clear hb9
        rw [← HKN.out]
        have HRL := Lib.hid (keyW_len (bytesOf b) (k + 1))
        obtain ⟨R, hR⟩ : ∃ R, keyW (bytesOf b) (k + 1) = R := ⟨_, rfl⟩
        rw [hR] at HRL ⊢
        have HRE := Lib.hid hR
        clear hR
        have HRI := Lib.hid (show (Tryz.prog.info? 208).map (·.size) = some (wlV R).length by rw [wlV_len, HRL.out]; exact info8)
        have HRZ := Lib.hid (show (wlV R).length = (wlV (allB (bytesOf b) k)).length by rw [wlV_len, wlV_len, HRL.out, HHL.out])
        obtain ⟨wz, hqz, hgz, hzz, hrz⟩ := puts Hh 0 (wlV R) (wlV R) (putL_all _ _ HRZ.out)
        have HBZ := hbg HB hgz (by have g0 := HZS.out; omega)
        go_wp2_with (refine wpList_store_mid rfl 208 (.tmp 10) (.tmp 101) rfl hB 0 (wlV R).toArray rfl rfl (Hh.out.there (by simp [HRZ.out])) (by simpa using HRI.out) (all_oneCell_toArray (wl_one R)) ?_)
        exact ⟨⟨k + 1, by omega, by go_num, by rw [HRE.out]; exact hrz, HBZ⟩, by simp [RowKit.intOf]; omega⟩
   ·have hkP' : k = 1 := by omega
    have HKD := Lib.hid (show keyW (bytesOf b) k = digW (bytesOf b) from by unfold keyW; rw [if_neg (by have := HPL.out; omega)])
    rw [HKD.out] at Hh
    have hkd : decide ((k : Int) < (1 : Int)) = false := by simp; omega
    clear HKD
    have hmk := make32 (bytesOf b)
    go_upto_region 28 with (fail)
    clear hmk
    obtain ⟨wo, rfl⟩ : ∃ wo : World, wo = wr := ⟨_, rfl⟩
    obtain ⟨w4, hq4, hb9, hz9, Ho⟩ := new1 wo 5 (byteCells (outP (bytesOf b) 0))
    rw [hq4]
    clear hq4
    replace Hh := Lib.hid (Hh.out.up hb9)
    replace HB := hbu HB hb9
    replace HZS := sz HZS hz9.out
    clear hb9 hz9
    have HK := Lib.hid (Kept.refl (fun q9 => q9 = wo.heap.size) w4)
    have HRL := Lib.hid (digW_len (bytesOf b))
    go_wp2_with fail
    go_loopw [16] (fun c wr => ∃ i : Nat, i ≤ 32 ∧ c = .int .i64 i ∧ Hid (Bx wr wo.heap.size 5 (byteCells (outP (bytesOf b) i))) ∧ Hid (Kept (fun q9 => q9 = wo.heap.size) w4 wr)) (fun c _ => 32 - (RowKit.intOf c).toNat)
    case atStart => exact ⟨0, by omega, rfl, Ho, HK⟩
    case round =>
     obtain ⟨i, hi, rfl, HQ, HK1⟩ := hrel
     clear HK
     have hg9 := HK1.out
     clear Ho
     replace Hh := Lib.hid (Hh.out.keptP hg9 (show ¬ (_ = wo.heap.size) by have g0 := HZS.out; omega))
     replace HB := Lib.hid (Below.keptP HB.out hg9 (by have g0 := HZS.out; omega) (fun q9 h9 => (show w.heap.size ≤ _ by subst h9; have g0 := HZS.out; omega)))
     replace HZS := sz HZS (show w4.heap.size ≤ wr.heap.size from hg9.size)
     clear hg9
     have Ho := HQ
     clear HQ
     by_cases hi3 : i < 32
     ·have HPW := fun w => power_any (i % 4) (by omega) w
      rw [show ((i % 4 : Nat) : Int) = (i : Int) % 4 from by omega] at HPW
      have HPW := Lib.hid HPW
      have c1 := wl_cell Hh.out (i / 4) (by rw [HRL.out]; omega)
      have hdv := digB_div (bytesOf b) i hi3
      have HON := Lib.hid (outP_succ (bytesOf b) i hi3)
      have hp1 : (1 : Int) ≤ ((256 ^ (i % 4) : Nat) : Int) := by have := Nat.pow_pos (n := i % 4) (show 0 < 256 by decide); omega
      generalize (digW (bytesOf b)).getD (i / 4) 0 = X at *
      generalize ((256 ^ (i % 4) : Nat) : Int) = p at *
      obtain ⟨y, hy⟩ : ∃ y, (digB (bytesOf b)).getD i 0 = y := ⟨_, rfl⟩
      rw [hy] at hdv HON
      clear hy
      have hyl := y.toNat_lt
      have HOL := Lib.hid (outP_len (bytesOf b) i hi)
      have a1 : (0 : Int) ≤ ((i / 4 : Nat) : Int) := by omega
      have a2 : ((i / 4 : Nat) : Int) < 8 := by omega
      go_wp2_with fail
      refine wp_region_otail 13 (by kernel_rfl) (by kernel_rfl) ?_
      simp only [List.take_succ_cons, List.take_zero, List.drop_succ_cons, List.drop_zero]
      have hov_hB := fun (E : Over wr) o => E.cell (b := hB) o Hh.out.lt
      repeat (go_big_quiet_step (first | (go_at_call 177; exact calls_over (HPW.out _))))
      all_goals (try unfold elV limbV)
      repeat (go_big_quiet_step (first | (go_at_call 177; exact calls_over (HPW.out _))))
      all_goals (try unfold elV limbV)
      repeat (go_big_quiet_step (first | (go_at_call 177; exact calls_over (HPW.out _))))
      all_goals (try unfold ciphV)
      refine wpQuiet_nil ?_
      rintro _ ⟨E, rfl⟩
      clear hov_hB
      replace Hh := Lib.hid (Hh.out.up E.h)
      replace Ho := Lib.hid (Ho.out.up E.h)
      replace HK1 := Lib.hid (Kept.up HK1.out E.h)
      replace HB := hbu HB E.h
      replace HZS := sz HZS E.h.size
      obtain ⟨w5, hq9⟩ : ∃ W9 : World, E.w = W9 := ⟨_, rfl⟩
      rw [hq9] at Hh Ho HK1 HB HZS ⊢
      clear hq9 E c1 HPW
      have c1 := Ho.out.cell (byte_cell (outP (bytesOf b) i) i (by rw [HOL.out]; exact hi3))
      have f6_o := Ho.out.frozen
      obtain ⟨w6, hq6, hg9, hz9, hx9⟩ := put1 Ho i (.int .u8 (y.toNat : Int)) _ rfl
      replace Hh := Lib.hid (Hh.out.grown hg9.out (sne (by have g0 := HZS.out; omega)))
      replace HK1 := Lib.hid (Kept.grown HK1.out hg9.out (fun q9 e9 => by obtain rfl := Option.some.inj e9; exact Or.inr (rfl)))
      replace HB := hbg HB hg9 (by have g0 := HZS.out; omega)
      replace HZS := sz HZS hz9.out
      replace Ho := hx9
      clear hx9 hg9 hz9
      replace Ho := Lib.hid (show Bx w6 wo.heap.size 5 (byteCells (outP (bytesOf b) (i + 1))) from by rw [HON.out, ← byteCells_set]; exact Ho.out)
      go_wp2_with fail
      clear hq6 f6_o
      exact ⟨⟨i + 1, by omega, by go_num, Ho, HK1⟩, by simp [RowKit.intOf]; omega⟩
     ·have hi3' : i = 32 := by omega
      subst hi3'
      rw [outP_all] at Ho
      have hcv := run_convert_bytes_arg (P := Tryz.prog) wr 150 5 Tryz.underlying150 Tryz.underlying5 wo.heap.size 0 32 32 ((digB (bytesOf b)).map fun b => (b.toNat : Int)) (by rw [List.length_map, digB_len]) (fun j hj => by rw [Nat.zero_add, Ho.out.cell (byte_cell _ j (by rw [digB_len]; exact hj))]; simp [List.getD, digB_len, hj]) 9 Tryz.underlying9
      rw [out_str] at hcv
      go_wp2_with fail
      go_ret2
      exact ⟨rfl, HB.out⟩
 ·have hP : (((b.size : Int) + 63) / 64 == 0) = false := by rw [beq_eq_false_iff_ne]; omega
  obtain ⟨P, hp⟩ : ∃ P : Nat, lastB (bytesOf b) + 1 = P := ⟨_, rfl⟩
  have HPL := Lib.hid hp.symm
  have hPP : ((b.size : Int) + 63) / 64 = (P : Int) := by rw [← hp]; unfold lastB; rw [bytesOf_len]; omega
  rw [hPP] at hP
  clear hb hp
  go_enter Tryz.func160, Tryz.ntmps160
  go_wp2_with fail
  refine (rstart_any w).mono ?_
  rintro e w1 ⟨rfl, hb9⟩
  have HB := Lib.hid hb9
  have HZS := Lib.hid hb9.size
  clear hb9
  have HI8 := Lib.hid (show (Tryz.prog.info? 208).map (·.size) = some (wlV startV).length from info8)
  have HZ8 := Lib.hid (show (wlV (zw 8)).length = (wlV startV).length from rfl)
  have hz8 : (#[.int .u32 0, .int .u32 0, .int .u32 0, .int .u32 0, .int .u32 0, .int .u32 0, .int .u32 0, .int .u32 0] : Array Value) = (wlV (zw 8)).toArray := rfl
  go_upto_region 14 with (refine wpList_store_new rfl 208 208 (.tmp 10) (.tmp 40) rfl (wlV (zw 8)) (wlV startV) rfl rfl HI8.out HZ8.out (wl_one startV) ?_)
  clear hz8 HZ8 HI8
  have HBW := Lib.hid HB.out.size
  obtain ⟨w2, hq2, hb9, hz9, Hh⟩ := new1 w1 208 (wlV startV)
  rw [hq2]
  clear hq2
  replace HB := hbu HB hb9
  replace HZS := sz HZS hz9.out
  clear hb9 hz9
  have c0 : w2.cell? ⟨w1.heap.size, 0, none⟩ = some (.int .u32 1779033703) := Hh.out.cell rfl
  have hx0 : bits BinOp.xor IntKind.u32 1779033703 16842784 = 1795745351 := by decide
  have f3_h := Hh.out.frozen
  obtain ⟨w3, hq3, hg9, hz9, hx9⟩ := put1 Hh 0 (.int .u32 1795745351) _ rfl
  replace HB := hbg HB hg9 (by have g0 := HZS.out; omega)
  replace HZS := sz HZS hz9.out
  replace Hh := hx9
  clear hx9 hg9 hz9
  replace Hh := Lib.hid (show Bx w3 w1.heap.size 208 (wlV h0B) from Hh.out)
  go_wp2_with fail
  clear hq3 f3_h c0 hx0
  have HZ0 := Lib.hid (show w.heap.size ≤ w1.heap.size from HBW.out)
  have HP9 := Lib.hid hP
  clear hP HBW
  generalize w1.heap.size = hB at *
  have HQ0 := Lib.hid (show Bx w3 hB 208 (wlV (keyW (bytesOf b) 0)) from Hh.out)
  clear Hh
  go_loopw [11] (fun c wr => ∃ k : Nat, k ≤ P ∧ c = .int .i64 k ∧ Hid (Bx wr hB 208 (wlV (keyW (bytesOf b) k))) ∧ Hid (Below w.heap.size w wr)) (fun c _ => P - (RowKit.intOf c).toNat)
  case atStart => exact ⟨0, by omega, rfl, HQ0, HB⟩
  case round =>
   obtain ⟨k, hk, rfl, HQ, HB9⟩ := hrel
   clear HQ0 HB
   have HB := HB9
   have Hh := HQ
   clear HB9 HQ
   have HSB := Lib.hid HB.out.size
   have HSH := Lib.hid Hh.out.lt
   replace HZS := sz HZS HZ0.out
   replace HZS := sz HZS HSB.out
   replace HZS := sz HZS HSH.out
   by_cases hkP : k < P
   ·have HKE := Lib.hid (show keyW (bytesOf b) k = allB (bytesOf b) k from by unfold keyW; rw [if_pos (by have := HPL.out; omega)])
    rw [HKE.out] at Hh
    have hz16 : (#[.int .u32 0, .int .u32 0, .int .u32 0, .int .u32 0, .int .u32 0, .int .u32 0, .int .u32 0, .int .u32 0, .int .u32 0, .int .u32 0, .int .u32 0, .int .u32 0, .int .u32 0, .int .u32 0, .int .u32 0, .int .u32 0] : Array Value) = (wlV (wordsB (pieceB (bytesOf b) k) 0)).toArray := by rw [wordsB_zero]; rfl
    have hkd : decide ((k : Int) < (P : Int)) = true := by simp; omega
    have HCL := Lib.hid (show (pieceB (bytesOf b) k).length = min 64 (b.size - 64 * k) from by rw [piece_len, bytesOf_len])
    have hk64 : 64 * k ≤ b.size := by have := HPL.out; unfold lastB at this; rw [bytesOf_len] at this; omega
    go_upto_region 19 with (fail)
    obtain ⟨wo, rfl⟩ : ∃ wo : World, wo = wr := ⟨_, rfl⟩
    obtain ⟨w4, hq4, hb9, hz9, Hm⟩ := new1 wo 230 (wlV (wordsB (pieceB (bytesOf b) k) 0))
    rw [hq4]
    clear hq4
    replace Hh := Lib.hid (Hh.out.up hb9)
    replace HB := hbu HB hb9
    replace HZS := sz HZS hz9.out
    clear hb9 hz9 hz16
    have HK := Lib.hid (Kept.refl (fun q9 => q9 = wo.heap.size) w4)
    go_wp2_with fail
    go_loopw [13] (fun c wr => ∃ i : Nat, i ≤ (pieceB (bytesOf b) k).length ∧ c = .int .i64 i ∧ Hid (Bx wr wo.heap.size 230 (wlV (wordsB (pieceB (bytesOf b) k) i))) ∧ Hid (Kept (fun q9 => q9 = wo.heap.size) w4 wr)) (fun c _ => 64 - (RowKit.intOf c).toNat)
    case atStart => exact ⟨0, by omega, rfl, Hm, HK⟩
    case round =>
     obtain ⟨i, hi, rfl, HQ, HK1⟩ := hrel
     clear HK
     have hg9 := HK1.out
     clear Hm
     replace Hh := Lib.hid (Hh.out.keptP hg9 (show ¬ (_ = wo.heap.size) by have g0 := HZS.out; omega))
     replace HB := Lib.hid (Below.keptP HB.out hg9 (by have g0 := HZS.out; omega) (fun q9 h9 => (show w.heap.size ≤ _ by subst h9; have g0 := HZS.out; omega)))
     replace HZS := sz HZS (show w4.heap.size ≤ wr.heap.size from hg9.size)
     clear hg9
     have Hm := HQ
     clear HQ
     have HWL := Lib.hid (wordsB_len (pieceB (bytesOf b) k) i)
     have hi64 : i ≤ 64 := by have := HCL.out; omega
     by_cases hic : i < (pieceB (bytesOf b) k).length
     ·have hi6 : i < 64 := by have := HCL.out; omega
      have hin : 64 * k + i < b.size := by have := HCL.out; omega
      have hbb : (bytesOf b).getD (64 * k + i) 0 = b[64 * k + i] := by unfold bytesOf List.getD; rw [List.getElem?_eq_getElem (by rw [Array.length_toList]; exact hin)]; rfl
      have hix := fun W => run_index_str (P := Tryz.prog) W 9 b (64 * k + i) (64 * (k : Int) + (i : Int)) (by omega) hin (((pieceB (bytesOf b) k).getD i 0).toNat : Int) (by rw [piece_get _ _ _ hi6, hbb]) Tryz.underlying9
      have HWS := Lib.hid (wordsB_succ (pieceB (bytesOf b) k) i hi6)
      have HPW := fun w => power_any (i % 4) (by omega) w
      rw [show ((i % 4 : Nat) : Int) = (i : Int) % 4 from by omega] at HPW
      have HPW := Lib.hid HPW
      have hmul := word_mul (pieceB (bytesOf b) k) i
      have c1 := wl_cell Hm.out (i / 4) (by rw [HWL.out]; omega)
      generalize (wordsB (pieceB (bytesOf b) k) i).getD (i / 4) 0 = X at *
      generalize BitVec.ofNat 32 (((pieceB (bytesOf b) k).getD i 0).toNat * 256 ^ (i % 4)) = z at *
      clear hbb
      have hcb := ((pieceB (bytesOf b) k).getD i 0).toNat_lt
      generalize ((pieceB (bytesOf b) k).getD i 0).toNat = cb at *
      generalize ((256 ^ (i % 4) : Nat) : Int) = p at *
      have hadd := add32 X z
      obtain ⟨Z, hZ⟩ : ∃ Z, X + z = Z := ⟨_, rfl⟩
      rw [hZ] at hadd HWS
      clear hZ
      have a1 : (0 : Int) ≤ ((i / 4 : Nat) : Int) := by omega
      have a2 : ((i / 4 : Nat) : Int) < 16 := by omega
      have hdi : decide ((i : Int) < 64) = true := by simp; omega
      have hdn : decide (64 * (k : Int) + (i : Int) < (b.size : Int)) = true := by simp; omega
      go_wp2_with fail
      refine wp_region_otail 19 (by kernel_rfl) (by kernel_rfl) ?_
      simp only [List.take_succ_cons, List.take_zero, List.drop_succ_cons, List.drop_zero]
      have hov_wo_heap_size := fun (E : Over wr) o => E.cell (b := wo.heap.size) o Hm.out.lt
      repeat (go_big_quiet_step (first | (go_at_call 177; exact calls_over (HPW.out _))))
      all_goals (try unfold elV limbV)
      repeat (go_big_quiet_step (first | (go_at_call 177; exact calls_over (HPW.out _))))
      all_goals (try unfold elV limbV)
      repeat (go_big_quiet_step (first | (go_at_call 177; exact calls_over (HPW.out _))))
      all_goals (try unfold ciphV)
      refine wpQuiet_nil ?_
      rintro _ ⟨E, rfl⟩
      clear hov_wo_heap_size
      replace Hh := Lib.hid (Hh.out.up E.h)
      replace Hm := Lib.hid (Hm.out.up E.h)
      replace HK1 := Lib.hid (Kept.up HK1.out E.h)
      replace HB := hbu HB E.h
      replace HZS := sz HZS E.h.size
      obtain ⟨w5, hq9⟩ : ∃ W9 : World, E.w = W9 := ⟨_, rfl⟩
      rw [hq9] at Hh Hm HK1 HB HZS ⊢
      clear hq9 E c1 hix HPW
      have c1 := Hm.out.cell (wlV_get (wordsB (pieceB (bytesOf b) k) i) (i / 4) (by rw [HWL.out]; omega))
      have f6_m := Hm.out.frozen
      obtain ⟨w6, hq6, hg9, hz9, hx9⟩ := put1 Hm (i / 4) (.int .u32 (Z.toNat : Int)) _ rfl
      replace Hh := Lib.hid (Hh.out.grown hg9.out (sne (by have g0 := HZS.out; omega)))
      replace HK1 := Lib.hid (Kept.grown HK1.out hg9.out (fun q9 e9 => by obtain rfl := Option.some.inj e9; exact Or.inr (rfl)))
      replace HB := hbg HB hg9 (by have g0 := HZS.out; omega)
      replace HZS := sz HZS hz9.out
      replace Hm := hx9
      clear hx9 hg9 hz9
      replace Hm := Lib.hid Hm.out.wset
      rw [← HWS.out] at Hm
      go_wp2_with fail
      clear hq6 f6_m
      exact ⟨⟨i + 1, hic, by go_num, Hm, HK1⟩, by simp [RowKit.intOf]; omega⟩
     ·have hie : i = (pieceB (bytesOf b) k).length := by omega
      have hpl : (pieceB (bytesOf b) k).length ≤ 64 := by rw [← hie]; exact hi64
      rw [hie, wordsB_full _ hpl] at Hm
      have hcl := HCL.out
      rw [← hie] at hcl
      have hpl9 := HPL.out
      unfold lastB at hpl9
      rw [bytesOf_len] at hpl9
      have HHL := Lib.hid (allB_len (bytesOf b) k)
      have HHI := Lib.hid (show (Tryz.prog.info? 208).map (·.size) = some (wlV (allB (bytesOf b) k)).length by rw [wlV_len, HHL.out]; exact info8)
      have HMI := Lib.hid (show (Tryz.prog.info? 230).map (·.size) = some (wlV (wordsB (pieceB (bytesOf b) k) 64)).length by rw [wlV_len, wordsB_len]; exact info16)
      clear hie hpl
      by_cases hi6 : i < 64
      ·have hdi : decide ((i : Int) < 64) = true := by simp; omega
       have hdn : decide (64 * (k : Int) + (i : Int) < (b.size : Int)) = false := by simp; omega
       have hgt : (b.size : Int) < 64 * (k : Int) + 64 := by omega
       have hke : ((k : Int) == ((P : Int) - 1)) = true := by rw [beq_iff_eq]; omega
       have HKN := Lib.hid (show keyW (bytesOf b) (k + 1) = pressB (allB (bytesOf b) k) (wordsB (pieceB (bytesOf b) k) 64) b.size true from by
        have e : k = lastB (bytesOf b) := by have := HPL.out; omega
        unfold keyW
        rw [if_neg (by omega), e]
        unfold digW
        rw [bytesOf_len])
       have HPR := Lib.hid (fun w => rPress_any (allB (bytesOf b) k) (wordsB (pieceB (bytesOf b) k) 64) HHL.out (wordsB_len _ _) b.size (by omega) true w)
       clear hcl hpl9
       go_wp2_with (first | refine wpList_load_mid rfl 208 (.tmp 10) rfl hB 0 rfl (wlV (allB (bytesOf b) k)) _ Hh.out.range Tryz.underlying208 rfl HHI.out ?_ | refine wpList_load_mid rfl 230 (.tmp 12) rfl wo.heap.size 0 rfl (wlV (wordsB (pieceB (bytesOf b) k) 64)) _ Hm.out.range Tryz.underlying230 rfl HMI.out ?_)
       refine (HPR.out wr).mono ?_
       rintro e w5 ⟨rfl, hb9⟩
       replace Hh := Lib.hid (Hh.out.up hb9)
       replace Hm := Lib.hid (Hm.out.up hb9)
       replace HK1 := Lib.hid (Kept.up HK1.out hb9)
       replace HB := hbu HB hb9
       replace HZS := sz HZS hb9.size
       clear hb9
       rw [← HKN.out]
       have HRL := Lib.hid (keyW_len (bytesOf b) (k + 1))
       obtain ⟨R, hR⟩ : ∃ R, keyW (bytesOf b) (k + 1) = R := ⟨_, rfl⟩
       rw [hR] at HRL ⊢
       have HRE := Lib.hid hR
       clear hR
       have HRI := Lib.hid (show (Tryz.prog.info? 208).map (·.size) = some (wlV R).length by rw [wlV_len, HRL.out]; exact info8)
       have HRZ := Lib.hid (show (wlV R).length = (wlV (allB (bytesOf b) k)).length by rw [wlV_len, wlV_len, HRL.out, HHL.out])
       obtain ⟨wz, hqz, hgz, hzz, hrz⟩ := puts Hh 0 (wlV R) (wlV R) (putL_all _ _ HRZ.out)
       have HBZ := hbg HB hgz (by have g0 := HZS.out; omega)
       go_wp2_with (refine wpList_store_mid rfl 208 (.tmp 10) (.tmp 101) rfl hB 0 (wlV R).toArray rfl rfl (Hh.out.there (by simp [HRZ.out])) (by simpa using HRI.out) (all_oneCell_toArray (wl_one R)) ?_)
       exact ⟨⟨k + 1, by omega, by go_num, by rw [HRE.out]; exact hrz, HBZ⟩, by simp [RowKit.intOf]; omega⟩
      ·have hdi : decide ((i : Int) < 64) = false := by simp; omega
       have hgt : 64 * (k : Int) + 64 ≤ (b.size : Int) := by omega
       by_cases hkl : k + 1 < P
       ·have hke : ((k : Int) == ((P : Int) - 1)) = false := by rw [beq_eq_false_iff_ne]; omega
        have HKN := Lib.hid (show keyW (bytesOf b) (k + 1) = pressB (allB (bytesOf b) k) (wordsB (pieceB (bytesOf b) k) 64) (64 * k + 64) false from by
         unfold keyW
         rw [if_pos (by have := HPL.out; omega), show 64 * k + 64 = 64 * (k + 1) by omega]
         rfl)
        have hpr := fun w => rPress_any (allB (bytesOf b) k) (wordsB (pieceB (bytesOf b) k) 64) HHL.out (wordsB_len _ _) (64 * k + 64) (by omega) false w
        rw [show ((64 * k + 64 : Nat) : Int) = 64 * (k : Int) + 64 from by omega] at hpr
        have HPR := Lib.hid hpr
        clear hpr hcl hpl9
        go_wp2_with (first | refine wpList_load_mid rfl 208 (.tmp 10) rfl hB 0 rfl (wlV (allB (bytesOf b) k)) _ Hh.out.range Tryz.underlying208 rfl HHI.out ?_ | refine wpList_load_mid rfl 230 (.tmp 12) rfl wo.heap.size 0 rfl (wlV (wordsB (pieceB (bytesOf b) k) 64)) _ Hm.out.range Tryz.underlying230 rfl HMI.out ?_)
        refine (HPR.out wr).mono ?_
        rintro e w5 ⟨rfl, hb9⟩
        replace Hh := Lib.hid (Hh.out.up hb9)
        replace Hm := Lib.hid (Hm.out.up hb9)
        replace HK1 := Lib.hid (Kept.up HK1.out hb9)
        replace HB := hbu HB hb9
        replace HZS := sz HZS hb9.size
        clear hb9
        rw [← HKN.out]
        have HRL := Lib.hid (keyW_len (bytesOf b) (k + 1))
        obtain ⟨R, hR⟩ : ∃ R, keyW (bytesOf b) (k + 1) = R := ⟨_, rfl⟩
        rw [hR] at HRL ⊢
        have HRE := Lib.hid hR
        clear hR
        have HRI := Lib.hid (show (Tryz.prog.info? 208).map (·.size) = some (wlV R).length by rw [wlV_len, HRL.out]; exact info8)
        have HRZ := Lib.hid (show (wlV R).length = (wlV (allB (bytesOf b) k)).length by rw [wlV_len, wlV_len, HRL.out, HHL.out])
        obtain ⟨wz, hqz, hgz, hzz, hrz⟩ := puts Hh 0 (wlV R) (wlV R) (putL_all _ _ HRZ.out)
        have HBZ := hbg HB hgz (by have g0 := HZS.out; omega)
        go_wp2_with (refine wpList_store_mid rfl 208 (.tmp 10) (.tmp 101) rfl hB 0 (wlV R).toArray rfl rfl (Hh.out.there (by simp [HRZ.out])) (by simpa using HRI.out) (all_oneCell_toArray (wl_one R)) ?_)
        exact ⟨⟨k + 1, by omega, by go_num, by rw [HRE.out]; exact hrz, HBZ⟩, by simp [RowKit.intOf]; omega⟩
       ·have hke : ((k : Int) == ((P : Int) - 1)) = true := by rw [beq_iff_eq]; omega
        have HKN := Lib.hid (show keyW (bytesOf b) (k + 1) = pressB (allB (bytesOf b) k) (wordsB (pieceB (bytesOf b) k) 64) (64 * k + 64) true from by
         have e : k = lastB (bytesOf b) := by have := HPL.out; omega
         have e2 : b.size = 64 * k + 64 := by omega
         unfold keyW
         rw [if_neg (by omega), ← e2, e]
         unfold digW
         rw [bytesOf_len])
        have hpr := fun w => rPress_any (allB (bytesOf b) k) (wordsB (pieceB (bytesOf b) k) 64) HHL.out (wordsB_len _ _) (64 * k + 64) (by omega) true w
        rw [show ((64 * k + 64 : Nat) : Int) = 64 * (k : Int) + 64 from by omega] at hpr
        have HPR := Lib.hid hpr
        clear hpr hcl hpl9
        go_wp2_with (first | refine wpList_load_mid rfl 208 (.tmp 10) rfl hB 0 rfl (wlV (allB (bytesOf b) k)) _ Hh.out.range Tryz.underlying208 rfl HHI.out ?_ | refine wpList_load_mid rfl 230 (.tmp 12) rfl wo.heap.size 0 rfl (wlV (wordsB (pieceB (bytesOf b) k) 64)) _ Hm.out.range Tryz.underlying230 rfl HMI.out ?_)
        refine (HPR.out wr).mono ?_
        rintro e w5 ⟨rfl, hb9⟩
        replace Hh := Lib.hid (Hh.out.up hb9)
        replace Hm := Lib.hid (Hm.out.up hb9)
        replace HK1 := Lib.hid (Kept.up HK1.out hb9)
        replace HB := hbu HB hb9
        replace HZS := sz HZS hb9.size
        clear hb9
        rw [← HKN.out]
        have HRL := Lib.hid (keyW_len (bytesOf b) (k + 1))
        obtain ⟨R, hR⟩ : ∃ R, keyW (bytesOf b) (k + 1) = R := ⟨_, rfl⟩
        rw [hR] at HRL ⊢
        have HRE := Lib.hid hR
        clear hR
        have HRI := Lib.hid (show (Tryz.prog.info? 208).map (·.size) = some (wlV R).length by rw [wlV_len, HRL.out]; exact info8)
        have HRZ := Lib.hid (show (wlV R).length = (wlV (allB (bytesOf b) k)).length by rw [wlV_len, wlV_len, HRL.out, HHL.out])
        obtain ⟨wz, hqz, hgz, hzz, hrz⟩ := puts Hh 0 (wlV R) (wlV R) (putL_all _ _ HRZ.out)
        have HBZ := hbg HB hgz (by have g0 := HZS.out; omega)
        go_wp2_with (refine wpList_store_mid rfl 208 (.tmp 10) (.tmp 101) rfl hB 0 (wlV R).toArray rfl rfl (Hh.out.there (by simp [HRZ.out])) (by simpa using HRI.out) (all_oneCell_toArray (wl_one R)) ?_)
        exact ⟨⟨k + 1, by omega, by go_num, by rw [HRE.out]; exact hrz, HBZ⟩, by simp [RowKit.intOf]; omega⟩
   ·have hkP' : k = P := by omega
    have HKD := Lib.hid (show keyW (bytesOf b) k = digW (bytesOf b) from by unfold keyW; rw [if_neg (by have := HPL.out; omega)])
    rw [HKD.out] at Hh
    have hkd : decide ((k : Int) < (P : Int)) = false := by simp; omega
    clear HKD
    have hmk := make32 (bytesOf b)
    go_upto_region 28 with (fail)
    clear hmk
    obtain ⟨wo, rfl⟩ : ∃ wo : World, wo = wr := ⟨_, rfl⟩
    obtain ⟨w4, hq4, hb9, hz9, Ho⟩ := new1 wo 5 (byteCells (outP (bytesOf b) 0))
    rw [hq4]
    clear hq4
    replace Hh := Lib.hid (Hh.out.up hb9)
    replace HB := hbu HB hb9
    replace HZS := sz HZS hz9.out
    clear hb9 hz9
    have HK := Lib.hid (Kept.refl (fun q9 => q9 = wo.heap.size) w4)
    have HRL := Lib.hid (digW_len (bytesOf b))
    go_wp2_with fail
    go_loopw [16] (fun c wr => ∃ i : Nat, i ≤ 32 ∧ c = .int .i64 i ∧ Hid (Bx wr wo.heap.size 5 (byteCells (outP (bytesOf b) i))) ∧ Hid (Kept (fun q9 => q9 = wo.heap.size) w4 wr)) (fun c _ => 32 - (RowKit.intOf c).toNat)
    case atStart => exact ⟨0, by omega, rfl, Ho, HK⟩
    case round =>
     obtain ⟨i, hi, rfl, HQ, HK1⟩ := hrel
     clear HK
     have hg9 := HK1.out
     clear Ho
     replace Hh := Lib.hid (Hh.out.keptP hg9 (show ¬ (_ = wo.heap.size) by have g0 := HZS.out; omega))
     replace HB := Lib.hid (Below.keptP HB.out hg9 (by have g0 := HZS.out; omega) (fun q9 h9 => (show w.heap.size ≤ _ by subst h9; have g0 := HZS.out; omega)))
     replace HZS := sz HZS (show w4.heap.size ≤ wr.heap.size from hg9.size)
     clear hg9
     have Ho := HQ
     clear HQ
     by_cases hi3 : i < 32
     ·have HPW := fun w => power_any (i % 4) (by omega) w
      rw [show ((i % 4 : Nat) : Int) = (i : Int) % 4 from by omega] at HPW
      have HPW := Lib.hid HPW
      have c1 := wl_cell Hh.out (i / 4) (by rw [HRL.out]; omega)
      have hdv := digB_div (bytesOf b) i hi3
      have HON := Lib.hid (outP_succ (bytesOf b) i hi3)
      have hp1 : (1 : Int) ≤ ((256 ^ (i % 4) : Nat) : Int) := by have := Nat.pow_pos (n := i % 4) (show 0 < 256 by decide); omega
      generalize (digW (bytesOf b)).getD (i / 4) 0 = X at *
      generalize ((256 ^ (i % 4) : Nat) : Int) = p at *
      obtain ⟨y, hy⟩ : ∃ y, (digB (bytesOf b)).getD i 0 = y := ⟨_, rfl⟩
      rw [hy] at hdv HON
      clear hy
      have hyl := y.toNat_lt
      have HOL := Lib.hid (outP_len (bytesOf b) i hi)
      have a1 : (0 : Int) ≤ ((i / 4 : Nat) : Int) := by omega
      have a2 : ((i / 4 : Nat) : Int) < 8 := by omega
      go_wp2_with fail
      refine wp_region_otail 13 (by kernel_rfl) (by kernel_rfl) ?_
      simp only [List.take_succ_cons, List.take_zero, List.drop_succ_cons, List.drop_zero]
      have hov_hB := fun (E : Over wr) o => E.cell (b := hB) o Hh.out.lt
      repeat (go_big_quiet_step (first | (go_at_call 177; exact calls_over (HPW.out _))))
      all_goals (try unfold elV limbV)
      repeat (go_big_quiet_step (first | (go_at_call 177; exact calls_over (HPW.out _))))
      all_goals (try unfold elV limbV)
      repeat (go_big_quiet_step (first | (go_at_call 177; exact calls_over (HPW.out _))))
      all_goals (try unfold ciphV)
      refine wpQuiet_nil ?_
      rintro _ ⟨E, rfl⟩
      clear hov_hB
      replace Hh := Lib.hid (Hh.out.up E.h)
      replace Ho := Lib.hid (Ho.out.up E.h)
      replace HK1 := Lib.hid (Kept.up HK1.out E.h)
      replace HB := hbu HB E.h
      replace HZS := sz HZS E.h.size
      obtain ⟨w5, hq9⟩ : ∃ W9 : World, E.w = W9 := ⟨_, rfl⟩
      rw [hq9] at Hh Ho HK1 HB HZS ⊢
      clear hq9 E c1 HPW
      have c1 := Ho.out.cell (byte_cell (outP (bytesOf b) i) i (by rw [HOL.out]; exact hi3))
      have f6_o := Ho.out.frozen
      obtain ⟨w6, hq6, hg9, hz9, hx9⟩ := put1 Ho i (.int .u8 (y.toNat : Int)) _ rfl
      replace Hh := Lib.hid (Hh.out.grown hg9.out (sne (by have g0 := HZS.out; omega)))
      replace HK1 := Lib.hid (Kept.grown HK1.out hg9.out (fun q9 e9 => by obtain rfl := Option.some.inj e9; exact Or.inr (rfl)))
      replace HB := hbg HB hg9 (by have g0 := HZS.out; omega)
      replace HZS := sz HZS hz9.out
      replace Ho := hx9
      clear hx9 hg9 hz9
      replace Ho := Lib.hid (show Bx w6 wo.heap.size 5 (byteCells (outP (bytesOf b) (i + 1))) from by rw [HON.out, ← byteCells_set]; exact Ho.out)
      go_wp2_with fail
      clear hq6 f6_o
      exact ⟨⟨i + 1, by omega, by go_num, Ho, HK1⟩, by simp [RowKit.intOf]; omega⟩
     ·have hi3' : i = 32 := by omega
      subst hi3'
      rw [outP_all] at Ho
      have hcv := run_convert_bytes_arg (P := Tryz.prog) wr 150 5 Tryz.underlying150 Tryz.underlying5 wo.heap.size 0 32 32 ((digB (bytesOf b)).map fun b => (b.toNat : Int)) (by rw [List.length_map, digB_len]) (fun j hj => by rw [Nat.zero_add, Ho.out.cell (byte_cell _ j (by rw [digB_len]; exact hj))]; simp [List.getD, digB_len, hj]) 9 Tryz.underlying9
      rw [out_str] at hcv
      go_wp2_with fail
      go_ret2
      exact ⟨rfl, HB.out⟩
end Go.Proofs.YtdlnnkbigeiilaaGreat
namespace Go.Proofs.YtdlnnkbigeiilaaGreat
open Go.RowKit Go.Lib
theorem Digest_any (b : ByteArray) (hsz : b.size < 2305843009213693952) (w : World) : Calls Tryz.prog 133 #[.string b] w fun e w' => e = .returned (.string (digS (bytesOf b))) ∧ Below w.heap.size w w' := by
 have HK := Lib.hid (fun w => Keyed_any b hsz w)
 go_enter Tryz.func133, Tryz.ntmps133
 go_wp2_with fail
 refine (HK.out w).mono ?_
 rintro e w1 ⟨rfl, hb9⟩
 have HB := Lib.hid hb9
 have HZS := Lib.hid hb9.size
 clear hb9
 go_wp2_with fail
 go_ret
 exact ⟨rfl, HB.out⟩
theorem Four_any (n : Nat) (hn : n < 9223372036854775808) (w : World) : Calls Tryz.prog 141 #[.int .i64 (n : Int)] w fun e w' => e = .returned (.string (fourS n)) ∧ Below w.heap.size w w' := by
 have hn0 : (0 : Int) ≤ (n : Int) := by omega
 go_enter Tryz.func141, Tryz.ntmps141
 obtain ⟨w1, hq1, hb9, hz9, Hr⟩ := new1 w 5 [.int .u8 ((n : Int) / 16777216 % 256), .int .u8 ((n : Int) / 65536 % 256), .int .u8 ((n : Int) / 256 % 256), .int .u8 ((n : Int) % 256)]
 have HB := Lib.hid hb9
 have HZS := hz9
 clear hb9 hz9
 have r_ := Hr.out.c4
 have hcv := run_convert_bytes_arg (P := Tryz.prog) w1 150 5 Tryz.underlying150 Tryz.underlying5 w.heap.size 0 4 4 [(n : Int) / 16777216 % 256, (n : Int) / 65536 % 256, (n : Int) / 256 % 256, (n : Int) % 256] rfl (fun i hi => by
  rcases (show i = 0 ∨ i = 1 ∨ i = 2 ∨ i = 3 by omega) with rfl | rfl | rfl | rfl
  ·exact Hr.out.cell (i := 0) rfl
  ·exact Hr.out.cell (i := 1) rfl
  ·exact Hr.out.cell (i := 2) rfl
  ·exact Hr.out.cell (i := 3) rfl) 9 Tryz.underlying9
 go_wp2_with fail
 clear hq1
 go_ret
 exact ⟨rfl, HB.out⟩
theorem bytesOf_app (a b : ByteArray) : bytesOf (a ++ b) = bytesOf a ++ bytesOf b := by
 unfold bytesOf
 simp
theorem Joined_any (label : ByteArray) (ps : List ByteArray) (n : Nat) (hpn : ps.length = n) (hsz : (joinL label ps).length < 2305843009213693952) (a : Option Addr) (c : Nat) (w : World) (hX : Sl w w.heap.size a (ps.map Value.string)) :
  Calls Tryz.prog 134 #[.string label, .slice a n c] w fun e w' => ∃ y, e = .returned (.string y) ∧ bytesOf y = joinL label ps ∧ Below w.heap.size w w' := by
 have HPN := Lib.hid hpn
 have HSZ := Lib.hid (show ((label :: ps).flatMap pfxL).length < 2305843009213693952 from joinL_eq label ps ▸ hsz)
 have HX := Lib.hid hX
 have hn6 : n < 1152921504606846976 := by
  have := join_ge (label :: ps)
  rw [← joinL_eq, List.length_cons, hpn] at this
  omega
 have hl0 := join_len (label :: ps) 0 (by simp)
 rw [List.getElem_cons_zero, ← joinL_eq] at hl0
 have hl1 : label.size < 2305843009213693952 := by omega
 clear hpn hsz hX hl0
 go_enter Tryz.func134, Tryz.ntmps134
 go_wp2_with fail
 refine (Four_any label.size (by omega) w).mono ?_
 rintro e w1 ⟨rfl, hb9⟩
 have HB := Lib.hid hb9
 have HZS := Lib.hid hb9.size
 clear hb9
 have hfs : (fourS label.size).size = 4 := rfl
 have HY0 := Lib.hid (show bytesOf (fourS label.size ++ label) = ((label :: ps).take (0 + 1)).flatMap pfxL from by rw [bytesOf_app, fourS_bytes]; simp [pfxL])
 generalize fourS label.size = f0 at *
 have hfc : ¬ (9223372036854775807 < f0.size + label.size) := by omega
 go_wp2_with fail
 go_loopw [15, 5] (fun c v wr => ∃ (j : Nat) (y : ByteArray), j ≤ n ∧ c = .int .i64 j ∧ v = .string y ∧ Hid (bytesOf y = ((label :: ps).take (j + 1)).flatMap pfxL) ∧ Hid (Below w.heap.size w wr)) (fun c _ _ => n - (RowKit.intOf c).toNat)
 case atStart => exact ⟨0, _, by omega, rfl, rfl, HY0, HB⟩
 case round =>
  clear HY0 HB hfs hfc
  obtain ⟨j, y, hj, rfl, rfl, HY, HB⟩ := hrel
  by_cases hjn : j < n
  ·have hjp : j < ps.length := by rw [HPN.out]; exact hjn
   have hl9 := join_len (label :: ps) (j + 1) (by rw [List.length_cons]; omega)
   have hs9 := join_snoc (label :: ps) (j + 1) (by rw [List.length_cons]; omega)
   rw [List.getElem_cons_succ] at hl9 hs9
   rw [← HY.out] at hl9 hs9
   rw [bytesOf_len] at hl9
   have hT := HSZ.out
   obtain ⟨xb, xo, rfl, hxl, hxc⟩ := (HX.out.up HB.out).at j (by rw [List.length_map]; exact hjp)
   rw [List.getElem_map] at hxc
   generalize ps[j] = x at *
   have hl8 : y.size + 4 + x.size < 2305843009213693952 := by omega
   have HYN := Lib.hid (show bytesOf (y ++ fourS x.size ++ x) = ((label :: ps).take (j + 1 + 1)).flatMap pfxL from by rw [bytesOf_app, bytesOf_app, fourS_bytes, hs9, List.append_assoc])
   have HF4 := Lib.hid (fun w => Four_any x.size (by omega) w)
   have hfs : (fourS x.size).size = 4 := rfl
   clear hl9 hs9 hT
   generalize fourS x.size = f at *
   have hc1 : ¬ (9223372036854775807 < y.size + f.size) := by omega
   have hc2 : ¬ (9223372036854775807 < (y ++ f).size + x.size) := by rw [ByteArray.size_append]; omega
   have hc3 : ¬ (9223372036854775807 < y.size + f.size + x.size) := by omega
   go_wp2_with fail
   refine (HF4.out wr).mono ?_
   rintro e w2 ⟨rfl, hb9⟩
   replace HB := hbu HB hb9
   replace HZS := sz HZS hb9.size
   clear hb9
   go_wp2_with fail
   go_roundw
   case rel => exact ⟨j + 1, _, by omega, by go_num, rfl, HYN, HB⟩
   case measure => simp [RowKit.intOf]; omega
  ·have hjn' : j = n := by omega
   subst hjn'
   rw [List.take_of_length_le (by rw [List.length_cons, HPN.out]; exact Nat.le_refl _), ← joinL_eq] at HY
   go_wp2_with fail
   go_ret
   exact ⟨y, rfl, HY.out, HB.out⟩
theorem rTag_any (label : ByteArray) (ps : List ByteArray) (n : Nat) (hpn : ps.length = n) (hsz : (joinL label ps).length < 2305843009213693952) (a : Option Addr) (c : Nat) (w : World) (hX : Sl w w.heap.size a (ps.map Value.string)) :
  Calls Tryz.prog 83 #[.string label, .slice a n c] w fun e w' => e = .returned (.string (tagS label ps)) ∧ Below w.heap.size w w' := by
 have HJ := Lib.hid (Joined_any label ps n hpn hsz a c w hX)
 have HSZ := Lib.hid hsz
 clear hpn hsz hX
 go_enter Tryz.func83, Tryz.ntmps83
 go_wp2_with fail
 refine (HJ.out).mono ?_
 rintro e w1 ⟨y, rfl, hy, hb9⟩
 have HB := Lib.hid hb9
 have HZS := Lib.hid hb9.size
 have HY := Lib.hid hy
 clear hy hb9
 go_wp2_with fail
 refine (Digest_any y (by rw [← bytesOf_len, HY.out]; exact HSZ.out) w1).mono ?_
 rintro e w2 ⟨rfl, hb9⟩
 replace HB := hbu HB hb9
 replace HZS := sz HZS hb9.size
 clear hb9
 have HE := Lib.hid (show digS (bytesOf y) = tagS label ps from by rw [HY.out]; rfl)
 rw [HE.out]
 go_wp2_with fail
 go_ret
 exact ⟨rfl, HB.out⟩
end Go.Proofs.YtdlnnkbigeiilaaGreat
namespace Go.Proofs.YtdlnnkbigeiilaaGreat
open Go.RowKit Go.Lib
theorem rNewTalk_any (label : ByteArray) (hl : label.size < 140737488355328) (w : World) :
  Calls Tryz.prog 112 #[.string label] w fun e w' => e = .returned (.agg #[.string (tagS talkB [label])]) ∧ Below w.heap.size w w' := by
 have HJ := Lib.hid (join_small talkB [label] 0 (by simp) (by simpa using hl) (by decide))
 have HT := Lib.hid (fun a c w hX => rTag_any talkB [label] 1 rfl HJ.out a c w hX)
 obtain ⟨T, hT⟩ : ∃ T, tagS talkB [label] = T := ⟨_, rfl⟩
 rw [hT] at HT ⊢
 clear hl hT HJ
 go_enter Tryz.func112, Tryz.ntmps112
 go_upto_region 1 with (fail)
 obtain ⟨w1, hq1, hb9, hz9, Ho⟩ := new1 w 89 [.string ⟨#[]⟩]
 rw [hq1]
 clear hq1
 have HB := Lib.hid hb9
 have HZS := hz9
 clear hb9 hz9
 have o_ := Ho.out.c1
 have o2_o_ := o_; clear o_
 obtain ⟨w2, hq2, hb9, hz9, Hr⟩ := new1 w1 9 [.string label]
 replace Ho := Lib.hid (Ho.out.up hb9)
 replace HB := hbu HB hb9
 replace HZS := sz HZS hz9.out
 clear hb9 hz9
 have o_ := Ho.out.c1
 have r_ := Hr.out.c1
 go_wp2_with fail
 clear hq2 o2_o_
 refine (HT.out _ _ _ (Sl.ofB Hr.out)).mono ?_
 rintro e w3 ⟨rfl, hb9⟩
 clear o_
 replace Ho := Lib.hid (Ho.out.up hb9)
 clear r_
 replace Hr := Lib.hid (Hr.out.up hb9)
 replace HB := hbu HB hb9
 replace HZS := sz HZS hb9.size
 clear hb9
 have o_ := Ho.out.c1
 have r_ := Hr.out.c1
 have f4_o := Ho.out.frozen
 have o4_o_ := o_; clear o_
 have o4_r_ := r_; clear r_
 obtain ⟨w4, hq4, hg9, hz9, hx9⟩ := put1 Ho 0 (.string T) [.string T] rfl
 replace Hr := Lib.hid (Hr.out.grown hg9.out (sne (by have g0 := HZS.out; omega)))
 replace HB := hbg HB hg9 (by have g0 := HZS.out; omega)
 replace HZS := sz HZS hz9.out
 replace Ho := hx9
 clear hx9 hg9 hz9
 have o_ := Ho.out.c1
 have r_ := Hr.out.c1
 go_wp2_with fail
 clear hq4 o4_r_ o4_o_ f4_o
 simp [bodyPost, results, Tryz.results112, go_sem, o_]
 exact HB.out
theorem rSay_any (s label b : ByteArray) (hs : s.size < 140737488355328) (hl : label.size < 140737488355328) (hb : b.size < 140737488355328) (w : World) :
  Calls Tryz.prog 73 #[.agg #[.string s], .string label, .string b] w fun e w' => e = .returned (.agg #[.string (tagS sayB [s, label, b])]) ∧ Below w.heap.size w w' := by
 have HJ := Lib.hid (join_small sayB [s, label, b] 0 (by simp) (by simp [hs, hl, hb]) (by decide))
 have HT := Lib.hid (fun a c w hX => rTag_any sayB [s, label, b] 3 rfl HJ.out a c w hX)
 obtain ⟨T, hT⟩ : ∃ T, tagS sayB [s, label, b] = T := ⟨_, rfl⟩
 rw [hT] at HT ⊢
 clear hs hl hb hT HJ
 go_enter Tryz.func73, Tryz.ntmps73
 go_upto_region 1 with (fail)
 obtain ⟨w1, hq1, hb9, hz9, Ht, Ho⟩ := new2 w 89 [.string s] 89 [.string ⟨#[]⟩]
 rw [hq1]
 clear hq1
 have HB := Lib.hid hb9
 have HZS := hz9
 clear hb9 hz9
 have t_ := Ht.out.c1
 have o_ := Ho.out.c1
 have o2_t_ := t_; clear t_
 have o2_o_ := o_; clear o_
 obtain ⟨w2, hq2, hb9, hz9, Hr⟩ := new1 w1 9 [.string s, .string label, .string b]
 replace Ht := Lib.hid (Ht.out.up hb9)
 replace Ho := Lib.hid (Ho.out.up hb9)
 replace HB := hbu HB hb9
 replace HZS := sz HZS hz9.out
 clear hb9 hz9
 have t_ := Ht.out.c1
 have o_ := Ho.out.c1
 have r_ := Hr.out.c3
 go_wp2_with fail
 clear hq2 o2_o_ o2_t_
 refine (HT.out _ _ _ (Sl.ofB Hr.out)).mono ?_
 rintro e w3 ⟨rfl, hb9⟩
 clear t_
 replace Ht := Lib.hid (Ht.out.up hb9)
 clear o_
 replace Ho := Lib.hid (Ho.out.up hb9)
 clear r_
 replace Hr := Lib.hid (Hr.out.up hb9)
 replace HB := hbu HB hb9
 replace HZS := sz HZS hb9.size
 clear hb9
 have t_ := Ht.out.c1
 have o_ := Ho.out.c1
 have r_ := Hr.out.c3
 have f4_o := Ho.out.frozen
 have o4_t_ := t_; clear t_
 have o4_o_ := o_; clear o_
 have o4_r_ := r_; clear r_
 obtain ⟨w4, hq4, hg9, hz9, hx9⟩ := put1 Ho 0 (.string T) [.string T] rfl
 replace Ht := Lib.hid (Ht.out.grown hg9.out (sne (by have g0 := HZS.out; omega)))
 replace Hr := Lib.hid (Hr.out.grown hg9.out (sne (by have g0 := HZS.out; omega)))
 replace HB := hbg HB hg9 (by have g0 := HZS.out; omega)
 replace HZS := sz HZS hz9.out
 replace Ho := hx9
 clear hx9 hg9 hz9
 have t_ := Ht.out.c1
 have o_ := Ho.out.c1
 have r_ := Hr.out.c3
 go_wp2_with fail
 clear hq4 o4_r_ o4_o_ o4_t_ f4_o
 simp [bodyPost, results, Tryz.results73, go_sem, o_]
 exact HB.out
theorem new1D (w : World) (t0 : TypeId) (c0 : List Value) : ∃ W, (w.alloc (Obj.cells c0.toArray t0)).drew = W ∧ Below w.heap.size w W ∧ Hid (W.heap.size = w.heap.size + 1) ∧ Hid (Bx W w.heap.size t0 c0) := by
 obtain ⟨W, hq, hb, hz, hx⟩ := new1 w t0 c0
 subst hq
 exact ⟨_, rfl, hb.drew, hz, hx⟩
theorem rAsk_any (s label : ByteArray) (hs : s.size < 140737488355328) (hl : label.size < 140737488355328) (w : World) :
  Calls Tryz.prog 109 #[.agg #[.string s], .string label] w fun e w' => e = .returned (.tuple #[.string (tagS askB [s, label]), .agg #[.string (tagS askedB [s, label])]]) ∧ Below w.heap.size w w' := by
 have HJ := Lib.hid (join_small askB [s, label] 0 (by simp) (by simp [hs, hl]) (by decide))
 have HJ2 := Lib.hid (join_small askedB [s, label] 0 (by simp) (by simp [hs, hl]) (by decide))
 have H1 := Lib.hid (fun a c w hX => rTag_any askB [s, label] 2 rfl HJ.out a c w hX)
 have H2 := Lib.hid (fun a c w hX => rTag_any askedB [s, label] 2 rfl HJ2.out a c w hX)
 obtain ⟨A, hA⟩ : ∃ A, tagS askB [s, label] = A := ⟨_, rfl⟩
 obtain ⟨D, hD⟩ : ∃ D, tagS askedB [s, label] = D := ⟨_, rfl⟩
 rw [hA] at H1 ⊢
 rw [hD] at H2 ⊢
 clear hs hl hA hD HJ HJ2
 go_enter Tryz.func109, Tryz.ntmps109
 go_wp2_with fail
 obtain ⟨w1, hq1, hb9, hz9, Ht, Ho⟩ := new2 w 89 [.string s] 89 [.string ⟨#[]⟩]
 rw [hq1]
 clear hq1
 have HB := Lib.hid hb9
 have HZS := hz9
 clear hb9 hz9
 have t_ := Ht.out.c1
 have o_ := Ho.out.c1
 have HT := Lib.hid (show Below w1.heap.size w1 w1.drew from (Below.refl _ _).drew)
 have hl_t := Ht.out.lt
 refine wp_region_tree (fun wq9 => ∃ E : But w1 (some (w.heap.size + 1)), wq9 = E.w) ((.qs [0, 1, 2, 5, 6, 7] (.two 3 (.two 4 (.a 8 (.a 9 (.qs [10, 11] (.a 12 .done)))) 8 (.a 4 (.a 9 (.qs [10, 11] (.a 12 .done))))) 8 (.a 3 (.a 4 (.a 9 (.qs [10, 11] (.a 12 .done)))))))) (by kernel_rfl) (by kernel_rfl) (fun _ _ d _ _ h => by cases d <;> exact h) ⟨⟨_, ((below_grown HT.out).but _)⟩, rfl⟩ ?_
 have hov_t := fun (E : But w1 (some (w.heap.size + 1))) o => E.cell (b := w.heap.size) o hl_t (by intro e9; have a0 := Option.some.inj e9; have g0 := HZS.out; omega)
 simp only [Tree.qs]
 repeat (refine tree_q rfl rfl ?_; go_big_quiet_step (fail); refine wpQuiet_nil ?_)
 refine tree_two rfl rfl (fun K hK => ?_) (fun K hK => ?_)
 ·go_simp
  obtain ⟨w2, hq9, hb9, hz9, Hr⟩ := new1D w1 9 [.string s, .string label]
  rw [hq9]
  clear hq9
  have HAr := Lib.hid HT.out.size
  replace HT := Lib.hid hb9
  replace HZS := sz HZS (show w1.heap.size ≤ w2.heap.size from HT.out.size)
  clear hb9 hz9
  refine hK _ _ ⟨⟨⟨w2, ((below_grown HT.out).but _)⟩, rfl⟩, ?_⟩
  clear hK K
  repeat (refine tree_q rfl rfl ?_; go_big_quiet_step (fail); refine wpQuiet_nil ?_)
  refine tree_two rfl rfl (fun K hK => ?_) (fun K hK => ?_)
  ·go_simp
   refine (H1.out _ _ _ (Sl.ofB Hr.out)).mono ?_
   rintro e w3 ⟨rfl, hb9⟩
   replace Hr := Lib.hid (Hr.out.up hb9)
   replace HT := Lib.hid (below_up HT.out hb9)
   replace HZS := sz HZS (show w1.heap.size ≤ w3.heap.size from HT.out.size)
   clear hb9
   refine hK _ _ ⟨⟨⟨w3, ((below_grown HT.out).but _)⟩, rfl⟩, ?_⟩
   clear hK K
   repeat (refine tree_q rfl rfl ?_; go_big_quiet_step (fail); refine wpQuiet_nil ?_)
   refine tree_a rfl (fun K hK => ?_)
   go_simp
   obtain ⟨w4, hq9, hb9, hz9, Hq⟩ := new1 w3 9 [.string s, .string label]
   rw [hq9]
   clear hq9
   have HAq := Lib.hid HT.out.size
   replace Hr := Lib.hid (Hr.out.up hb9)
   replace HT := Lib.hid (below_up HT.out hb9)
   replace HZS := sz HZS (show w1.heap.size ≤ w4.heap.size from HT.out.size)
   clear hb9 hz9
   refine hK _ _ ⟨⟨⟨w4, ((below_grown HT.out).but _)⟩, rfl⟩, ?_⟩
   clear hK K
   repeat (refine tree_q rfl rfl ?_; go_big_quiet_step (fail); refine wpQuiet_nil ?_)
   refine tree_a rfl (fun K hK => ?_)
   go_simp
   refine (H2.out _ _ _ (Sl.ofB Hq.out)).mono ?_
   rintro e w5 ⟨rfl, hb9⟩
   replace Hr := Lib.hid (Hr.out.up hb9)
   replace Hq := Lib.hid (Hq.out.up hb9)
   replace HT := Lib.hid (below_up HT.out hb9)
   replace HZS := sz HZS (show w1.heap.size ≤ w5.heap.size from HT.out.size)
   clear hb9
   refine hK _ _ ⟨⟨⟨w5, ((below_grown HT.out).but _)⟩, rfl⟩, ?_⟩
   clear hK K
   repeat (refine tree_q rfl rfl ?_; go_big_quiet_step (fail); refine wpQuiet_nil ?_)
   clear hov_t hl_t
   refine tree_a rfl (fun K hK => ?_)
   clear t_
   replace Ht := Lib.hid (Ht.out.up HT.out)
   clear o_
   replace Ho := Lib.hid (Ho.out.up HT.out)
   replace HB := hbu HB HT.out
   replace HZS := sz HZS HT.out.size
   have t_ := Ht.out.c1
   have o_ := Ho.out.c1
   clear Hr Hq
   have f6_o := Ho.out.frozen
   have o6_t_ := t_; clear t_
   have o6_o_ := o_; clear o_
   obtain ⟨w6, hq6, hg9, hz9, hx9⟩ := put1 Ho 0 (.string D) [.string D] rfl
   replace Ht := Lib.hid (Ht.out.grown hg9.out (sne (by have g0 := HZS.out; omega)))
   replace HB := hbg HB hg9 (by have g0 := HZS.out; omega)
   replace HZS := sz HZS hz9.out
   replace Ho := hx9
   have HGR := Lib.hid (((below_grown HT.out).but _).trans hg9.out)
   clear hx9 hg9 hz9
   have t_ := Ht.out.c1
   have o_ := Ho.out.c1
   clear HT
   go_simp
   try rw [hq6]
   refine hK _ _ ⟨⟨⟨w6, HGR.out⟩, rfl⟩, ?_⟩
   clear hK K HGR hq6 o6_o_ o6_t_ f6_o
   repeat (refine tree_q rfl rfl ?_; go_big_quiet_step (fail); refine wpQuiet_nil ?_)
   refine tree_end ?_
   go_wp2_with fail
   simp [bodyPost, results, Tryz.results109, go_sem, o_]
   exact HB.out
  ·go_simp
   obtain ⟨w3, hq9, hb9, hz9, Hq⟩ := new1 w2 9 [.string s, .string label]
   rw [hq9]
   clear hq9
   have HAq := Lib.hid HT.out.size
   replace Hr := Lib.hid (Hr.out.up hb9)
   replace HT := Lib.hid (below_up HT.out hb9)
   replace HZS := sz HZS (show w1.heap.size ≤ w3.heap.size from HT.out.size)
   clear hb9 hz9
   refine hK _ _ ⟨⟨⟨w3, ((below_grown HT.out).but _)⟩, rfl⟩, ?_⟩
   clear hK K
   repeat (refine tree_q rfl rfl ?_; go_big_quiet_step (fail); refine wpQuiet_nil ?_)
   refine tree_a rfl (fun K hK => ?_)
   go_simp
   refine (H1.out _ _ _ (Sl.ofB Hr.out)).mono ?_
   rintro e w4 ⟨rfl, hb9⟩
   replace Hr := Lib.hid (Hr.out.up hb9)
   replace Hq := Lib.hid (Hq.out.up hb9)
   replace HT := Lib.hid (below_up HT.out hb9)
   replace HZS := sz HZS (show w1.heap.size ≤ w4.heap.size from HT.out.size)
   clear hb9
   refine hK _ _ ⟨⟨⟨w4, ((below_grown HT.out).but _)⟩, rfl⟩, ?_⟩
   clear hK K
   repeat (refine tree_q rfl rfl ?_; go_big_quiet_step (fail); refine wpQuiet_nil ?_)
   refine tree_a rfl (fun K hK => ?_)
   go_simp
   refine (H2.out _ _ _ (Sl.ofB Hq.out)).mono ?_
   rintro e w5 ⟨rfl, hb9⟩
   replace Hr := Lib.hid (Hr.out.up hb9)
   replace Hq := Lib.hid (Hq.out.up hb9)
   replace HT := Lib.hid (below_up HT.out hb9)
   replace HZS := sz HZS (show w1.heap.size ≤ w5.heap.size from HT.out.size)
   clear hb9
   refine hK _ _ ⟨⟨⟨w5, ((below_grown HT.out).but _)⟩, rfl⟩, ?_⟩
   clear hK K
   repeat (refine tree_q rfl rfl ?_; go_big_quiet_step (fail); refine wpQuiet_nil ?_)
   clear hov_t hl_t
   refine tree_a rfl (fun K hK => ?_)
   clear t_
   replace Ht := Lib.hid (Ht.out.up HT.out)
   clear o_
   replace Ho := Lib.hid (Ho.out.up HT.out)
   replace HB := hbu HB HT.out
   replace HZS := sz HZS HT.out.size
   have t_ := Ht.out.c1
   have o_ := Ho.out.c1
   clear Hr Hq
   have f6_o := Ho.out.frozen
   have o6_t_ := t_; clear t_
   have o6_o_ := o_; clear o_
   obtain ⟨w6, hq6, hg9, hz9, hx9⟩ := put1 Ho 0 (.string D) [.string D] rfl
   replace Ht := Lib.hid (Ht.out.grown hg9.out (sne (by have g0 := HZS.out; omega)))
   replace HB := hbg HB hg9 (by have g0 := HZS.out; omega)
   replace HZS := sz HZS hz9.out
   replace Ho := hx9
   have HGR := Lib.hid (((below_grown HT.out).but _).trans hg9.out)
   clear hx9 hg9 hz9
   have t_ := Ht.out.c1
   have o_ := Ho.out.c1
   clear HT
   go_simp
   try rw [hq6]
   refine hK _ _ ⟨⟨⟨w6, HGR.out⟩, rfl⟩, ?_⟩
   clear hK K HGR hq6 o6_o_ o6_t_ f6_o
   repeat (refine tree_q rfl rfl ?_; go_big_quiet_step (fail); refine wpQuiet_nil ?_)
   refine tree_end ?_
   go_wp2_with fail
   simp [bodyPost, results, Tryz.results109, go_sem, o_]
   exact HB.out
 ·go_simp
  obtain ⟨w2, hq9, hb9, hz9, Hq⟩ := new1D w1 9 [.string s, .string label]
  rw [hq9]
  clear hq9
  have HAq := Lib.hid HT.out.size
  replace HT := Lib.hid hb9
  replace HZS := sz HZS (show w1.heap.size ≤ w2.heap.size from HT.out.size)
  clear hb9 hz9
  refine hK _ _ ⟨⟨⟨w2, ((below_grown HT.out).but _)⟩, rfl⟩, ?_⟩
  clear hK K
  repeat (refine tree_q rfl rfl ?_; go_big_quiet_step (fail); refine wpQuiet_nil ?_)
  refine tree_a rfl (fun K hK => ?_)
  go_simp
  obtain ⟨w3, hq9, hb9, hz9, Hr⟩ := new1 w2 9 [.string s, .string label]
  rw [hq9]
  clear hq9
  have HAr := Lib.hid HT.out.size
  replace Hq := Lib.hid (Hq.out.up hb9)
  replace HT := Lib.hid (below_up HT.out hb9)
  replace HZS := sz HZS (show w1.heap.size ≤ w3.heap.size from HT.out.size)
  clear hb9 hz9
  refine hK _ _ ⟨⟨⟨w3, ((below_grown HT.out).but _)⟩, rfl⟩, ?_⟩
  clear hK K
  repeat (refine tree_q rfl rfl ?_; go_big_quiet_step (fail); refine wpQuiet_nil ?_)
  refine tree_a rfl (fun K hK => ?_)
  go_simp
  refine (H1.out _ _ _ (Sl.ofB Hr.out)).mono ?_
  rintro e w4 ⟨rfl, hb9⟩
  replace Hq := Lib.hid (Hq.out.up hb9)
  replace Hr := Lib.hid (Hr.out.up hb9)
  replace HT := Lib.hid (below_up HT.out hb9)
  replace HZS := sz HZS (show w1.heap.size ≤ w4.heap.size from HT.out.size)
  clear hb9
  refine hK _ _ ⟨⟨⟨w4, ((below_grown HT.out).but _)⟩, rfl⟩, ?_⟩
  clear hK K
  repeat (refine tree_q rfl rfl ?_; go_big_quiet_step (fail); refine wpQuiet_nil ?_)
  refine tree_a rfl (fun K hK => ?_)
  go_simp
  refine (H2.out _ _ _ (Sl.ofB Hq.out)).mono ?_
  rintro e w5 ⟨rfl, hb9⟩
  replace Hq := Lib.hid (Hq.out.up hb9)
  replace Hr := Lib.hid (Hr.out.up hb9)
  replace HT := Lib.hid (below_up HT.out hb9)
  replace HZS := sz HZS (show w1.heap.size ≤ w5.heap.size from HT.out.size)
  clear hb9
  refine hK _ _ ⟨⟨⟨w5, ((below_grown HT.out).but _)⟩, rfl⟩, ?_⟩
  clear hK K
  repeat (refine tree_q rfl rfl ?_; go_big_quiet_step (fail); refine wpQuiet_nil ?_)
  clear hov_t hl_t
  refine tree_a rfl (fun K hK => ?_)
  clear t_
  replace Ht := Lib.hid (Ht.out.up HT.out)
  clear o_
  replace Ho := Lib.hid (Ho.out.up HT.out)
  replace HB := hbu HB HT.out
  replace HZS := sz HZS HT.out.size
  have t_ := Ht.out.c1
  have o_ := Ho.out.c1
  clear Hq Hr
  have f6_o := Ho.out.frozen
  have o6_t_ := t_; clear t_
  have o6_o_ := o_; clear o_
  obtain ⟨w6, hq6, hg9, hz9, hx9⟩ := put1 Ho 0 (.string D) [.string D] rfl
  replace Ht := Lib.hid (Ht.out.grown hg9.out (sne (by have g0 := HZS.out; omega)))
  replace HB := hbg HB hg9 (by have g0 := HZS.out; omega)
  replace HZS := sz HZS hz9.out
  replace Ho := hx9
  have HGR := Lib.hid (((below_grown HT.out).but _).trans hg9.out)
  clear hx9 hg9 hz9
  have t_ := Ht.out.c1
  have o_ := Ho.out.c1
  clear HT
  go_simp
  try rw [hq6]
  refine hK _ _ ⟨⟨⟨w6, HGR.out⟩, rfl⟩, ?_⟩
  clear hK K HGR hq6 o6_o_ o6_t_ f6_o
  repeat (refine tree_q rfl rfl ?_; go_big_quiet_step (fail); refine wpQuiet_nil ?_)
  refine tree_end ?_
  go_wp2_with fail
  simp [bodyPost, results, Tryz.results109, go_sem, o_]
  exact HB.out
end Go.Proofs.YtdlnnkbigeiilaaGreat
namespace Go.Proofs.YtdlnnkbigeiilaaGreat
open Go.RowKit
section
variable {P : Program} {ops : Array Oper} {S : World → Prop} {Q : Exit → Act → World → Prop} {k : Nat} {md : Region.Mode}
def wpAnyK (P : Program) (md : Region.Mode) (ops : Array Oper) (Q : Exit → Act → World → Prop) (S : World → Prop) (k : Nat) : Nat → Array Bool → Act → World → Prop
 | 0, listed, a, w => Region.ready md ops listed = [] ∧ Q .normal a w
 | fuel + 1, listed, a, w =>
  (Region.ready md ops listed = [] → Q .normal a w) ∧
  ∀ i ∈ Region.ready md ops listed, wpOp P ops Q i (fun a' w' => ((listed.setIfInBounds i true).getD k false = false → S w') ∧ wpAnyK P md ops Q S k fuel (listed.setIfInBounds i true) a' w') a w
theorem any_of_K : ∀ (fuel : Nat) (listed : Array Bool) (a : Act) (w : World), wpAnyK P md ops Q S k fuel listed a w → wpAny P md ops Q fuel listed a w
 | 0, _, _, _, h => h
 | fuel + 1, _, _, _, h => ⟨h.1, fun i hi => wpOp_mono (fun a' w' h' => any_of_K fuel _ a' w' h'.2) (h.2 i hi)⟩
theorem anyK_first {SS : World → Prop} (C : Array Bool → Prop) {i : Nat} {oi : Oper} {v : Value} (hi : ops[i]? = some oi) (hik : i ≠ k) (hsel : ∀ (j : Nat) (o : Oper) cs b, ops[j]? = some o → o.op ≠ .select cs b)
  (hQ : ∀ c a w, Q (.panic c) (a.put oi.dst v) w → Q (.panic c) a w)
  (hstep : ∀ listed j, C listed → i ∈ Region.ready md ops listed → j ∈ Region.ready md ops listed → j ≠ i → C (listed.setIfInBounds j true))
  (hSS : ∀ listed w, C listed → (listed.getD k false = false → S w) → SS w) :
  ∀ (fuel : Nat) (listed : Array Bool) (a : Act) (w : World),
   (∀ j oj, ops[j]? = some oj → j ≠ i → listed.getD j true = false → (∀ e ∈ oj.after, Region.binds md e = true → e.on ≠ i) → oi.apart ops oj = true) →
   i ∈ Region.ready md ops listed → C listed → YieldsIf P ops SS oi v a → (listed.getD k false = false → S w) →
   wpAnyK P md ops Q S k fuel (listed.setIfInBounds i true) (a.put oi.dst v) w → wpAnyK P md ops Q S k (fuel + 1) listed a w := by
 intro fuel
 induction fuel with
 | zero =>
  intro listed a w _ hr hC hy hS H
  refine ⟨fun h => (by rw [h] at hr; cases hr), fun j hj => ?_⟩
  by_cases hji : j = i
  ·subst hji; exact hy.wpOp hi (hSS listed w hC hS) ⟨fun h => hS (by rwa [getD_set_ne false hik] at h), H⟩
  ·have := ready_mono hj hji
   rw [H.1] at this
   cases this
 | succ fuel ih =>
  intro listed a w hfree hr hC hy hS H
  refine ⟨fun h => (by rw [h] at hr; cases hr), fun j hj => ?_⟩
  by_cases hji : j = i
  ·subst hji; exact hy.wpOp hi (hSS listed w hC hS) ⟨fun h => hS (by rwa [getD_set_ne false hik] at h), H⟩
  ·have h1 := H.2 j (ready_mono hj hji)
   obtain ⟨hjun, oj, hoj, hall⟩ := mem_ready.1 hj
   have hnot : ∀ e ∈ oj.after, Region.binds md e = true → e.on ≠ i := fun e he hb heq => by
    have h1 := hall e he hb
    have h0 := (mem_ready.1 hr).1
    rw [heq] at h1
    rcases Nat.lt_or_ge i listed.size with h' | h'
    ·simp [h'] at h0 h1; rw [h0] at h1; cases h1
    ·simp [Array.getElem?_eq_none h'] at h1
   have h2 := wpOp_putIf hoj (hfree j oj hoj hji hjun hnot) (fun cs b => hsel i oi cs b hi) (fun cs b => hsel j oj cs b hoj) hQ hy h1
   have hfree' : ∀ m om, ops[m]? = some om → m ≠ i → (listed.setIfInBounds j true).getD m true = false →
     (∀ e ∈ om.after, Region.binds md e = true → e.on ≠ i) → oi.apart ops om = true := fun m om hm hmi hun hno => by
    refine hfree m om hm hmi ?_ hno
    by_cases hjm : j = m
    ·subst hjm; exact hjun
    ·rw [getD_set_ne true hjm] at hun; exact hun
   have hkk : ((listed.setIfInBounds i true).setIfInBounds j true).getD k false = (listed.setIfInBounds j true).getD k false := by
    rw [Array.setIfInBounds_comm _ _ (Ne.symm hji), getD_set_ne false hik]
   have hr' := ready_mono hr (Ne.symm hji)
   refine wpOp_mono (fun a' w' h3 => ?_) h2
   have hS' : (listed.setIfInBounds j true).getD k false = false → S w' := fun h => h3.2.1 (by rw [hkk]; exact h)
   refine ⟨hS', ih (listed.setIfInBounds j true) a' w' hfree' hr' (hstep listed j hC hr hj hji) h3.1 hS' ?_⟩
   rw [Array.setIfInBounds_comm _ _ hji]
   exact h3.2.2
def chainB (md : Region.Mode) (ops : Array Oper) : Nat → List Nat → Bool
 | _, [] => true
 | i, j :: l => (match ops[j]? with | some o => o.after.any (fun e => Region.binds md e && e.on == i) | none => false) && chainB md ops j l
theorem chain_step {i j : Nat} {l : List Nat} {listed : Array Bool} : ∀ (i : Nat) (l : List Nat), chainB md ops i l = true → listed.getD i true = false → (∀ c ∈ l, listed.getD c true = false) → j ∈ Region.ready md ops listed → j ∉ l
 | _, [], _, _, _, _ => by simp
 | i, c :: l, hB, h0, hl, hj => by
  simp only [chainB, Bool.and_eq_true] at hB
  have ih := chain_step (listed := listed) (j := j) (i := i) (l := l) c l hB.2 (hl c (by simp)) (fun d hd => hl d (by simp [hd])) hj
  intro hm
  rcases List.mem_cons.1 hm with rfl | hm
  ·obtain ⟨_, o, ho, hall⟩ := mem_ready.1 hj
   have hB1 := hB.1
   rw [ho] at hB1
   simp only [Array.any_eq_true', Bool.and_eq_true, beq_iff_eq] at hB1
   obtain ⟨e, he, hb, hon⟩ := hB1
   have h1 := hall e he hb
   rw [hon] at h1
   rcases Nat.lt_or_ge i listed.size with h' | h'
   ·simp [h'] at h0 h1; rw [h0] at h1; cases h1
   ·simp [Array.getElem?_eq_none h'] at h1
  ·exact ih hm
inductive TreeK where
 | done : TreeK
 | q : Nat → TreeK → TreeK
 | e : Nat → List Nat → TreeK → TreeK
 | a : Nat → TreeK → TreeK
 | z : Nat → TreeK → TreeK
 | two : Nat → TreeK → Nat → TreeK → TreeK
def TreeK.qs : List Nat → TreeK → TreeK
 | [], t => t
 | i :: l, t => .q i (TreeK.qs l t)
def TreeK.size : TreeK → Nat
 | .done => 0
 | .q _ r => r.size + 1
 | .e _ _ r => r.size + 1
 | .a _ r => r.size + 1
 | .z _ r => r.size + 1
 | .two _ r _ _ => r.size + 1
def wpTreeK (P : Program) (ops : Array Oper) (S : World → Prop) (Q : Exit → Act → World → Prop) (k : Nat) : TreeK → Act → World → Prop
 | .done, a, w => Q .normal a w
 | .q i r, a, w => match ops[i]? with
  | none => False
  | some o => easyOp o = true ∧ wpQuiet P ops (fun _ => True) (fun a' => wpTreeK P ops S Q k r a' w) [o] a
 | .e i _ r, a, w => match ops[i]? with
  | none => False
  | some o => easyOp o = true ∧ wpQuiet P ops S (fun a' => wpTreeK P ops S Q k r a' w) [o] a
 | .a i r, a, w => wpOp P ops Q i (fun a' w' => (i ≠ k → S w') ∧ wpTreeK P ops S Q k r a' w') a w
 | .z i r, a, w => wpOp P ops Q i (fun a' w' => wpTreeK P ops S Q k r a' w') a w
 | .two i r j s, a, w => wpOp P ops Q i (fun a' w' => (i ≠ k → S w') ∧ wpTreeK P ops S Q k r a' w') a w ∧ wpOp P ops Q j (fun a' w' => (j ≠ k → S w') ∧ wpTreeK P ops S Q k s a' w') a w
def treeKB (md : Region.Mode) (ops : Array Oper) (k : Nat) : TreeK → Array Bool → Bool
 | .done, listed => (Region.ready md ops listed).isEmpty
 | .q i r, listed => (Region.ready md ops listed).contains i && Region.free md ops listed i && !(i == k) && treeKB md ops k r (listed.setIfInBounds i true)
 | .e i ch r, listed => (Region.ready md ops listed).contains i && Region.free md ops listed i && !(i == k) && chainB md ops i (ch ++ [k]) && (ch ++ [k]).all (fun c => !listed.getD c true) && !(i ∈ ch ++ [k]) && treeKB md ops k r (listed.setIfInBounds i true)
 | .a i r, listed => decide (Region.ready md ops listed = [i]) && treeKB md ops k r (listed.setIfInBounds i true)
 | .z i r, listed => decide (Region.ready md ops listed = [i]) && listed.getD k false && !(i == k) && treeKB md ops k r (listed.setIfInBounds i true)
 | .two i r j s, listed => decide (Region.ready md ops listed = [i, j]) && decide (r.size = s.size) && treeKB md ops k r (listed.setIfInBounds i true) && treeKB md ops k s (listed.setIfInBounds j true)
theorem listed_k {listed : Array Bool} {i : Nat} (hi : i ∈ Region.ready md ops listed) {w' : World} (h : i ≠ k → S w') : (listed.setIfInBounds i true).getD k false = false → S w' := by
 intro h9
 refine h (fun e => ?_)
 subst e
 have h0 := (mem_ready.1 hi).1
 rcases Nat.lt_or_ge i listed.size with h' | h'
 ·simp [h'] at h9
 ·simp [h'] at h0
theorem K_of_tree (hsel : Region.noSelect ops = true) (hQ : ∀ c a d v w, Q (.panic c) (a.put d v) w → Q (.panic c) a w) :
  ∀ (t : TreeK) (listed : Array Bool) (a : Act) (w : World), (listed.getD k false = false → S w) → treeKB md ops k t listed = true → wpTreeK P ops S Q k t a w → wpAnyK P md ops Q S k t.size listed a w
 | .done, listed, a, w, _, hB, h => ⟨by simpa [treeKB] using hB, h⟩
 | .q i r, listed, a, w, hS, hB, h => by
  unfold wpTreeK at h
  split at h
  ·cases h
  ·rename_i o ho
   obtain ⟨hp, hq⟩ := h
   obtain ⟨v, hy, hK⟩ := yieldsIf_easy hp hq
   simp only [treeKB, Bool.and_eq_true, Bool.not_eq_true', beq_eq_false_iff_ne] at hB
   exact anyK_first (fun _ => True) ho hB.1.2 (Region.noSelect_spec hsel) (fun c a w hq => hQ c a _ _ w hq) (fun _ _ _ _ _ _ => trivial) (fun _ _ _ _ => trivial) _ listed a w (Region.free_spec ho hB.1.1.2) (by simpa using hB.1.1.1) trivial hy hS
    (K_of_tree hsel hQ r _ _ w (fun h9 => hS (by rwa [getD_set_ne false hB.1.2] at h9)) hB.2 hK)
 | .e i ch r, listed, a, w, hS, hB, h => by
  unfold wpTreeK at h
  split at h
  ·cases h
  ·rename_i o ho
   obtain ⟨hp, hq⟩ := h
   obtain ⟨v, hy, hK⟩ := yieldsIf_easy hp hq
   simp only [treeKB, Bool.and_eq_true, Bool.not_eq_true', beq_eq_false_iff_ne, List.all_eq_true, decide_eq_false_iff_not] at hB
   obtain ⟨⟨⟨⟨⟨⟨h1, h2⟩, h3⟩, h4⟩, h5⟩, h6⟩, h7⟩ := hB
   refine anyK_first (SS := S) (fun l => ∀ c ∈ ch ++ [k], l.getD c true = false) ho h3 (Region.noSelect_spec hsel) (fun c a w hq => hQ c a _ _ w hq) ?_ ?_ _ listed a w (Region.free_spec ho h2) (by simpa using h1) h5 hy hS
    (K_of_tree hsel hQ r _ _ w (fun h9 => hS (by rwa [getD_set_ne false h3] at h9)) h7 hK)
   ·intro l j hC hr hj hji c hc
    have hn := chain_step (i := i) (l := ch) (j := j) i (ch ++ [k]) h4 (mem_ready.1 hr).1 hC hj
    rw [getD_set_ne true (fun e => hn (by rw [e]; exact hc))]
    exact hC c hc
   ·intro l w' hC h9
    refine h9 ?_
    have := hC k (by simp)
    rcases Nat.lt_or_ge k l.size with h' | h'
    ·simp [h'] at this ⊢; exact this
    ·simp [h'] at this
 | .a i r, listed, a, w, hS, hB, h => by
  simp only [treeKB, Bool.and_eq_true, decide_eq_true_eq] at hB
  unfold wpTreeK at h
  refine ⟨fun h9 => (by rw [hB.1] at h9; cases h9), fun j hj => ?_⟩
  have hj' : j = i := by rw [hB.1] at hj; simpa using hj
  subst hj'
  exact wpOp_mono (fun a' w' ⟨hS', h'⟩ => ⟨listed_k hj hS', K_of_tree hsel hQ r _ a' w' (listed_k hj hS') hB.2 h'⟩) h
 | .z i r, listed, a, w, hS, hB, h => by
  simp only [treeKB, Bool.and_eq_true, decide_eq_true_eq, Bool.not_eq_true', beq_eq_false_iff_ne] at hB
  unfold wpTreeK at h
  refine ⟨fun h9 => (by rw [hB.1.1.1] at h9; cases h9), fun j hj => ?_⟩
  have hj' : j = i := by rw [hB.1.1.1] at hj; simpa using hj
  subst hj'
  have hk : ∀ W : World, (listed.setIfInBounds j true).getD k false = false → S W := fun W h9 => by
   rw [getD_set_ne false hB.1.2, hB.1.1.2] at h9
   cases h9
  exact wpOp_mono (fun a' w' h' => ⟨hk w', K_of_tree hsel hQ r _ a' w' (hk w') hB.2 h'⟩) h
 | .two i r j s, listed, a, w, hS, hB, h => by
  simp only [treeKB, Bool.and_eq_true, decide_eq_true_eq] at hB
  obtain ⟨⟨⟨h1, h2⟩, h3⟩, h4⟩ := hB
  unfold wpTreeK at h
  refine ⟨fun h9 => (by rw [h1] at h9; cases h9), fun m hm => ?_⟩
  rcases (by rw [h1] at hm; simpa using hm : m = i ∨ m = j) with rfl | rfl
  ·exact wpOp_mono (fun a' w' ⟨hS', h'⟩ => ⟨listed_k hm hS', K_of_tree hsel hQ r _ a' w' (listed_k hm hS') h3 h'⟩) h.1
  ·exact wpOp_mono (fun a' w' ⟨hS', h'⟩ => ⟨listed_k hm hS', by rw [h2]; exact K_of_tree hsel hQ s _ a' w' (listed_k hm hS') h4 h'⟩) h.2
theorem wp_region_treek {id : Nat} {a : Act} {w : World} {l : List Oper} (S : World → Prop) (k : Nat) (t : TreeK) (hm : P.follows .mixedOrders = true)
  (hB : (Region.noSelect l.toArray && decide (t.size = l.toArray.size) && treeKB .any l.toArray k t (Array.replicate l.toArray.size false)) = true)
  (hQ : ∀ c a d v w, Q (.panic c) (a.put d v) w → Q (.panic c) a w) (hS : S w.drew) (h : wpTreeK P l.toArray S Q k t a w.drew) : (Code.region id l.toArray true).wp P Q a w := by
 simp only [Bool.and_eq_true, decide_eq_true_eq] at hB
 refine wp_region_any hm (any_of_K (S := S) (k := k) _ _ _ _ ?_)
 have := K_of_tree hB.1.1 hQ t _ a _ (fun _ => hS) hB.2 h
 rw [hB.1.2] at this
 exact this
theorem treek_q {l : List Oper} {i : Nat} {r : TreeK} {o : Oper} {a : Act} {w : World} (ho : l[i]? = some o) (hp : easyOp o = true) (h : wpQuiet P l.toArray (fun _ => True) (fun a' => wpTreeK P l.toArray S Q k r a' w) [o] a) :
  wpTreeK P l.toArray S Q k (.q i r) a w := by
 unfold wpTreeK
 rw [List.getElem?_toArray, ho]
 exact ⟨hp, h⟩
theorem treek_e {l ch : List _} {i : Nat} {r : TreeK} {o : Oper} {a : Act} {w : World} (ho : l[i]? = some o) (hp : easyOp o = true) (h : wpQuiet P l.toArray S (fun a' => wpTreeK P l.toArray S Q k r a' w) [o] a) :
  wpTreeK P l.toArray S Q k (.e i ch r) a w := by
 unfold wpTreeK
 rw [List.getElem?_toArray, ho]
 exact ⟨hp, h⟩
theorem treek_a {l : List Oper} {i : Nat} {r : TreeK} {o : Oper} {a : Act} {w : World} (ho : l[i]? = some o)
  (h : ∀ K : Act → World → Prop, (∀ a w, (i ≠ k → S w) ∧ wpTreeK P l.toArray S Q k r a w → K a w) → if Region.wanted o (yielded l.toArray a.tmps) = true then Oper.wp P o a w K Q else K (a.put o.dst undef) w) :
  wpTreeK P l.toArray S Q k (.a i r) a w := by
 unfold wpTreeK
 exact wpOp_step (by rw [List.getElem?_toArray, ho]) h
theorem treek_end {a : Act} {w : World} (h : Q .normal a w) : wpTreeK P ops S Q k .done a w := h
end
end Go.Proofs.YtdlnnkbigeiilaaGreat
namespace Go.Proofs.YtdlnnkbigeiilaaGreat
open Go.RowKit
theorem rjoined_any (l : List ByteArray) (n : Nat) (hn : l.length = n) (h8 : n ≤ 4096) (hz : ∀ x ∈ l, x.size ≤ 4096) (a : Option Addr) (c : Nat) (w : World) (hX : Sl w w.heap.size a (l.map Value.string)) :
  Calls Tryz.prog 111 #[.slice a n c] w fun e w' => e = .returned (.string (catB l)) ∧ Below w.heap.size w w' := by
 have HX := Lib.hid hX
 have HN := Lib.hid hn
 have HZ := Lib.hid hz
 clear hX hn hz
 go_enter Tryz.func111, Tryz.ntmps111
 go_wp2_with fail
 go_loopw [8, 3] (fun c v wr => ∃ (j : Nat) (y : ByteArray), j ≤ n ∧ c = .int .i64 (j : Int) ∧ v = .string y ∧ Hid (y = catB (l.take j)) ∧ Hid (Below w.heap.size w wr)) (fun c _ _ => n - (intOf c).toNat)
 case atStart => exact ⟨0, _, by omega, rfl, rfl, rfl, Below.refl _ _⟩
 case round =>
  obtain ⟨j, y, hj, rfl, rfl, HY, HB⟩ := hrel
  by_cases hjn : j < n
  ·have hjl : j < l.length := by rw [HN.out]; exact hjn
   obtain ⟨xb, xo, rfl, hxl, hxc⟩ := (HX.out.up HB.out).at j (by rw [List.length_map]; exact hjl)
   rw [List.getElem_map] at hxc
   have hs9 := catB_take l j hjl
   have hy9 : y.size ≤ 4096 * 4096 := by
    rw [HY.out]
    refine Nat.le_trans (catB_size 4096 _ fun x hx => HZ.out x (List.mem_of_mem_take hx)) (Nat.mul_le_mul_right _ ?_)
    rw [List.length_take]; omega
   have hx9 := HZ.out _ (List.getElem_mem hjl)
   rw [← HY.out] at hs9
   obtain ⟨x, hx8⟩ : ∃ x, l[j]'hjl = x := ⟨_, rfl⟩
   rw [hx8] at hxc hx9 hs9
   have HS9 := Lib.hid hs9.symm
   have hcc : ¬ (9223372036854775807 < y.size + x.size) := by omega
   clear hx8 hs9 hy9 hx9 HY hjl
   go_wp2_with fail
   exact ⟨⟨j + 1, _, by omega, by go_num, rfl, HS9, HB⟩, by simp [intOf]; omega⟩
  ·have hj' : j = n := by omega
   subst hj'
   rw [List.take_of_length_le (by rw [HN.out]; exact Nat.le_refl _)] at HY
   go_wp2_with fail
   go_ret
   exact ⟨by rw [HY.out]; rfl, HB.out⟩
theorem rbegin_any (k : Int) (hk : 0 ≤ k ∧ k < 256) (nm label : ByteArray) (hm : nm.size < 140737488355328) (hl : label.size < 140737488355328) (w : World) :
  Calls Tryz.prog 48 #[.int .i64 k, .string nm, .string label] w fun e w' => e = .returned (.agg #[.string (beginT nm label k)]) ∧ Below w.heap.size w w' := by
 have H1 := Lib.hid (fun w => rNewTalk_any nm hm w)
 have hz1 : (tagS talkB [nm]).size < 140737488355328 := by rw [tagS_size]; decide
 have H2 := Lib.hid (fun w => rSay_any (tagS talkB [nm]) labelB label hz1 (by decide) hl w)
 have hz2 : (say1 (tagS talkB [nm]) labelB label).size < 140737488355328 := by rw [say1_size]; decide
 have H3 := Lib.hid (fun w => rSay_any (say1 (tagS talkB [nm]) labelB label) kindB (kindS k) hz2 (by decide) (show (1 : Nat) < 140737488355328 by decide) w)
 unfold beginT
 unfold say1 at *
 generalize tagS talkB [nm] = t0 at *
 generalize tagS sayB [t0, labelB, label] = t1 at *
 generalize tagS sayB [t1, kindB, kindS k] = t2 at *
 clear hz1 hz2 hm hl
 unfold kindS at H3
 have hk0 := hk.1
 have hk1 := hk.2
 clear hk
 go_enter Tryz.func48, Tryz.ntmps48
 go_wp2_with fail
 obtain ⟨w1, hq1, hb9, hz9, Ho⟩ := new1 w 89 [.string ⟨#[]⟩]
 rw [hq1]
 clear hq1
 have HB := Lib.hid hb9
 have HZS := hz9
 clear hb9 hz9
 have o_ := Ho.out.c1
 go_wp2_with fail
 refine (H1.out w1).mono ?_
 rintro e w2 ⟨rfl, hb9⟩
 clear o_
 replace Ho := Lib.hid (Ho.out.up hb9)
 replace HB := hbu HB hb9
 replace HZS := sz HZS hb9.size
 clear hb9
 have o_ := Ho.out.c1
 go_wp2_with fail
 refine (H2.out w2).mono ?_
 rintro e w3 ⟨rfl, hb9⟩
 clear o_
 replace Ho := Lib.hid (Ho.out.up hb9)
 replace HB := hbu HB hb9
 replace HZS := sz HZS hb9.size
 clear hb9
 have o_ := Ho.out.c1
 have o4_o_ := o_; clear o_
 obtain ⟨w4, hq4, hb9, hz9, Ht⟩ := new1 w3 89 [.string t1]
 replace Ho := Lib.hid (Ho.out.up hb9)
 replace HB := hbu HB hb9
 replace HZS := sz HZS hz9.out
 clear hb9 hz9
 have o_ := Ho.out.c1
 have t_ := Ht.out.c1
 have o5_o_ := o_; clear o_
 have o5_t_ := t_; clear t_
 obtain ⟨w5, hq5, hb9, hz9, Hr⟩ := new1 w4 5 [.int .u8 k]
 replace Ho := Lib.hid (Ho.out.up hb9)
 replace Ht := Lib.hid (Ht.out.up hb9)
 replace HB := hbu HB hb9
 replace HZS := sz HZS hz9.out
 clear hb9 hz9
 have o_ := Ho.out.c1
 have t_ := Ht.out.c1
 have r_ := Hr.out.c1
 have hcv := run_convert_bytes_arg (P := Tryz.prog) w5 150 5 Tryz.underlying150 Tryz.underlying5 w4.heap.size 0 1 1 [k] rfl (fun i hi => by
  obtain rfl : i = 0 := by omega
  exact Hr.out.cell (i := 0) rfl) 9 Tryz.underlying9
 go_wp2_with fail
 clear hq5 o5_t_ o5_o_ hq4 o4_o_
 refine (H3.out w5).mono ?_
 rintro e w6 ⟨rfl, hb9⟩
 clear o_
 replace Ho := Lib.hid (Ho.out.up hb9)
 clear t_
 replace Ht := Lib.hid (Ht.out.up hb9)
 clear r_
 replace Hr := Lib.hid (Hr.out.up hb9)
 replace HB := hbu HB hb9
 replace HZS := sz HZS hb9.size
 clear hb9
 have o_ := Ho.out.c1
 have t_ := Ht.out.c1
 have r_ := Hr.out.c1
 have f7_o := Ho.out.frozen
 have o7_o_ := o_; clear o_
 have o7_t_ := t_; clear t_
 have o7_r_ := r_; clear r_
 obtain ⟨w7, hq7, hg9, hz9, hx9⟩ := put1 Ho 0 (.string t2) [.string t2] rfl
 replace Ht := Lib.hid (Ht.out.grown hg9.out (sne (by have g0 := HZS.out; omega)))
 replace Hr := Lib.hid (Hr.out.grown hg9.out (sne (by have g0 := HZS.out; omega)))
 replace HB := hbg HB hg9 (by have g0 := HZS.out; omega)
 replace HZS := sz HZS hz9.out
 replace Ho := hx9
 clear hx9 hg9 hz9
 have o_ := Ho.out.c1
 have t_ := Ht.out.c1
 have r_ := Hr.out.c1
 go_wp2_with fail
 clear hq7 o7_r_ o7_t_ o7_o_ f7_o
 simp [bodyPost, results, Tryz.results48, go_sem, o_]
 exact HB.out
def SayOk (c : ClaimA) : Prop := c.bases.length ≤ 8 ∧ c.images.length ≤ 8 ∧ (∀ x ∈ c.bases, x.size ≤ 32) ∧ (∀ x ∈ c.images, x.size ≤ 32)
theorem cat_small {l : List ByteArray} (h8 : l.length ≤ 8) (h : ∀ x ∈ l, x.size ≤ 32) : (catB l).size < 140737488355328 := by
 have h1 := catB_size 32 l h
 have h2 : l.length * 32 ≤ 8 * 32 := Nat.mul_le_mul_right _ h8
 omega
theorem rsayCl_any (s : ByteArray) (l : List ClaimA) (n : Nat) (hn : l.length = n) (h64 : n ≤ 64) (hz : s.size = 32) (sh : ∀ c ∈ l, SayOk c) (al : Option Addr) (cl : Nat) (w : World) (hC : ClaimsAt w al l) :
  Calls Tryz.prog 47 #[.agg #[.string s], .slice al n cl] w fun e w' => e = .returned (.agg #[.string (sayCl s l)]) ∧ Below w.heap.size w w' := by
 have HTK := Lib.hid (fun j h => sayCl_take s l j h)
 unfold sayC at HTK
 have HF := Lib.hid (fun s lb x hs hl hx w => (show Calls Tryz.prog 73 #[.agg #[.string s], .string lb, .string x] w fun e w' => e = .returned (.agg #[.string (say1 s lb x)]) ∧ Below w.heap.size w w' from rSay_any s lb x hs hl hx w))
 have HS1 := Lib.hid say1_size
 have HT0 := Lib.hid (show sayCl s [] = s from rfl)
 generalize sayCl s = SC at *
 generalize say1 = S1 at *
 have HC := Lib.hid hC
 have HN := Lib.hid hn
 have HZ := Lib.hid hz
 have HSH := Lib.hid sh
 clear hC hn hz sh
 go_enter Tryz.func47, Tryz.ntmps47
 go_wp2_with fail
 obtain ⟨w1, hq1, hb9, hz9, Ht, Ho⟩ := new2 w 89 [.string s] 89 [.string ⟨#[]⟩]
 rw [hq1]
 clear hq1
 have HB := Lib.hid hb9
 have HZS := hz9
 clear hb9 hz9
 have t_ := Ht.out.c1
 have o_ := Ho.out.c1
 go_wp2_with fail
 go_loopw [9] (fun i wr => ∃ (j : Nat) (y : ByteArray), j ≤ n ∧ i = .int .i64 (j : Int) ∧ Hid (y.size = 32) ∧ Hid (y = SC (l.take j)) ∧ Hid (Bx wr w.heap.size 89 [.string y]) ∧ Hid (Bx wr (w.heap.size + 1) 89 [.string ⟨#[]⟩]) ∧ Hid (Below w.heap.size w wr)) (fun i _ => n - (intOf i).toNat)
 case atStart => exact ⟨0, s, Nat.zero_le _, rfl, HZ, HT0.out.symm, Ht, Ho, HB⟩
 case round =>
  clear Ht Ho HB t_ o_
  obtain ⟨j, y, hj, rfl, HY, HYS, Ht, Ho, HB⟩ := hrel
  have HO9 := Lib.hid Ho.out.lt
  by_cases hjn : j < n
  ·have hjl : j < l.length := by rw [HN.out]; exact hjn
   obtain ⟨bl, ol, rfl, hbl0, hc⟩ := (HC.out.s.up HB.out).elem ClaimA.cells_len (by omega) j hjl
   have hc_0 := hc 0 _ rfl
   rw [Nat.add_zero] at hc_0
   have hc_1 := hc 1 _ rfl
   clear hc
   have HAT := Lib.hid (HC.out.one j hjl)
   have hsj := HSH.out _ (List.getElem_mem hjl)
   unfold SayOk at hsj
   have HSJ := Lib.hid hsj
   have HTJ := Lib.hid (HTK.out j hjl)
   clear hsj
   generalize l[j] = c at *
   have HAB := Lib.hid HAT.out.b
   have HAJ := Lib.hid HAT.out.i
   clear HAT
   generalize c.bases = bs at *
   generalize c.images = ims at *
   generalize c.ab = ab at *
   generalize c.ai = ai at *
   generalize c.cb = cb at *
   generalize c.ci = ci at *
   rw [← HYS.out] at HTJ
   have HCB := Lib.hid (cat_small HSJ.out.1 HSJ.out.2.2.1)
   have HCI := Lib.hid (cat_small HSJ.out.2.1 HSJ.out.2.2.2)
   have HJ1 := Lib.hid (fun w h => rjoined_any bs bs.length rfl (by have := HSJ.out.1; omega) (fun x hx => Nat.le_trans (HSJ.out.2.2.1 x hx) (by decide)) ab cb w h)
   have HJ2 := Lib.hid (fun w h => rjoined_any ims ims.length rfl (by have := HSJ.out.2.1; omega) (fun x hx => Nat.le_trans (HSJ.out.2.2.2 x hx) (by decide)) ai ci w h)
   clear HYS HSJ
   replace HZS := sz HZS HO9.out
   have t_ := Ht.out.c1
   have o_ := Ho.out.c1
   have o2_t_ := t_; clear t_
   have o2_o_ := o_; clear o_
   obtain ⟨w2, hq2, hb9, hz9, Hbc⟩ := new1 wr 50 [.slice ab bs.length cb, .slice ai ims.length ci]
   replace Ht := Lib.hid (Ht.out.up hb9)
   replace Ho := Lib.hid (Ho.out.up hb9)
   replace HB := hbu HB hb9
   replace HZS := sz HZS hz9.out
   clear hb9 hz9
   have t_ := Ht.out.c1
   have o_ := Ho.out.c1
   have bc_ := Hbc.out.c2
   go_wp2_with fail
   clear hq2 o2_o_ o2_t_
   have HT := Lib.hid (show Below w2.heap.size w2 w2.drew from (Below.refl _ _).drew)
   have hl_t := Ht.out.lt
   have hl_o := Ho.out.lt
   have hl_bc := Hbc.out.lt
   refine wp_region_treek (fun wq9 => ∃ E : Over w2, wq9 = E.w) 5 ((.e 0 [] (.qs [1] (.e 2 [] (.a 3 (.a 4 (.a 5 .done))))))) (by kernel_rfl) (by kernel_rfl) (fun _ _ d _ _ h => by cases d <;> exact h) ⟨⟨_, HT.out⟩, rfl⟩ ?_
   have hov_t := fun (E : Over w2) o => E.cell (b := w.heap.size) o hl_t
   have hov_o := fun (E : Over w2) o => E.cell (b := (w.heap.size + 1)) o hl_o
   have hov_bc := fun (E : Over w2) o => E.cell (b := wr.heap.size) o hl_bc
   simp only [TreeK.qs]
   repeat (first | (refine treek_q rfl rfl ?_; go_big_quiet_step (fail); refine wpQuiet_nil ?_) | (refine treek_e rfl rfl ?_; go_big_quiet_step (fail); refine wpQuiet_nil ?_))
   refine treek_a rfl (fun K hK => ?_)
   go_simp
   refine (HJ1.out _ (HAB.out.up (below_up HB.out HT.out))).mono ?_
   rintro e w3 ⟨rfl, hb9⟩
   replace HT := Lib.hid (below_up HT.out hb9)
   replace HZS := sz HZS (show w2.heap.size ≤ w3.heap.size from HT.out.size)
   clear hb9
   refine hK _ _ ⟨fun _ => ⟨⟨w3, HT.out⟩, rfl⟩, ?_⟩
   clear hK K
   repeat (first | (refine treek_q rfl rfl ?_; go_big_quiet_step (fail); refine wpQuiet_nil ?_) | (refine treek_e rfl rfl ?_; go_big_quiet_step (fail); refine wpQuiet_nil ?_))
   refine treek_a rfl (fun K hK => ?_)
   go_simp
   refine (HF.out y basesB (catB bs) (by have := HY.out; omega) (by decide) HCB.out _).mono ?_
   rintro e w4 ⟨rfl, hb9⟩
   replace HT := Lib.hid (below_up HT.out hb9)
   replace HZS := sz HZS (show w2.heap.size ≤ w4.heap.size from HT.out.size)
   clear hb9
   refine hK _ _ ⟨fun _ => ⟨⟨w4, HT.out⟩, rfl⟩, ?_⟩
   clear hK K
   repeat (first | (refine treek_q rfl rfl ?_; go_big_quiet_step (fail); refine wpQuiet_nil ?_) | (refine treek_e rfl rfl ?_; go_big_quiet_step (fail); refine wpQuiet_nil ?_))
   clear hov_t hl_t hov_o hl_o hov_bc hl_bc
   refine treek_a rfl (fun K hK => ?_)
   clear t_
   replace Ht := Lib.hid (Ht.out.up HT.out)
   clear o_
   replace Ho := Lib.hid (Ho.out.up HT.out)
   clear bc_
   replace Hbc := Lib.hid (Hbc.out.up HT.out)
   replace HB := hbu HB HT.out
   replace HZS := sz HZS HT.out.size
   clear HT
   have t_ := Ht.out.c1
   have o_ := Ho.out.c1
   have bc_ := Hbc.out.c2
   have f5_t := Ht.out.frozen
   have o5_t_ := t_; clear t_
   have o5_o_ := o_; clear o_
   have o5_bc_ := bc_; clear bc_
   obtain ⟨w5, hq5, hg9, hz9, hx9⟩ := put1 Ht 0 (.string (S1 y basesB (catB bs))) [.string (S1 y basesB (catB bs))] rfl
   replace Ho := Lib.hid (Ho.out.grown hg9.out (sne (by have g0 := HZS.out; omega)))
   replace Hbc := Lib.hid (Hbc.out.grown hg9.out (sne (by have g0 := HZS.out; omega)))
   replace HB := hbg HB hg9 (by have g0 := HZS.out; omega)
   replace HZS := sz HZS hz9.out
   replace Ht := hx9
   clear hx9 hg9 hz9
   have t_ := Ht.out.c1
   have o_ := Ho.out.c1
   have bc_ := Hbc.out.c2
   go_simp
   try rw [hq5]
   refine hK _ _ ⟨fun h9 => absurd rfl h9, ?_⟩
   clear hK K hq5 o5_bc_ o5_o_ o5_t_ f5_t
   refine treek_end ?_
   go_wp2_with fail
   have HT := Lib.hid (show Below w5.heap.size w5 w5.drew from (Below.refl _ _).drew)
   have hl_t := Ht.out.lt
   have hl_o := Ho.out.lt
   have hl_bc := Hbc.out.lt
   refine wp_region_treek (fun wq9 => ∃ E : Over w5, wq9 = E.w) 5 ((.e 0 [] (.qs [1] (.e 2 [] (.a 3 (.a 4 (.a 5 .done))))))) (by kernel_rfl) (by kernel_rfl) (fun _ _ d _ _ h => by cases d <;> exact h) ⟨⟨_, HT.out⟩, rfl⟩ ?_
   have hov_t := fun (E : Over w5) o => E.cell (b := w.heap.size) o hl_t
   have hov_o := fun (E : Over w5) o => E.cell (b := (w.heap.size + 1)) o hl_o
   have hov_bc := fun (E : Over w5) o => E.cell (b := wr.heap.size) o hl_bc
   simp only [TreeK.qs]
   repeat (first | (refine treek_q rfl rfl ?_; go_big_quiet_step (fail); refine wpQuiet_nil ?_) | (refine treek_e rfl rfl ?_; go_big_quiet_step (fail); refine wpQuiet_nil ?_))
   refine treek_a rfl (fun K hK => ?_)
   go_simp
   refine (HJ2.out _ (HAJ.out.up (below_up HB.out HT.out))).mono ?_
   rintro e w6 ⟨rfl, hb9⟩
   replace HT := Lib.hid (below_up HT.out hb9)
   replace HZS := sz HZS (show w5.heap.size ≤ w6.heap.size from HT.out.size)
   clear hb9
   refine hK _ _ ⟨fun _ => ⟨⟨w6, HT.out⟩, rfl⟩, ?_⟩
   clear hK K
   repeat (first | (refine treek_q rfl rfl ?_; go_big_quiet_step (fail); refine wpQuiet_nil ?_) | (refine treek_e rfl rfl ?_; go_big_quiet_step (fail); refine wpQuiet_nil ?_))
   refine treek_a rfl (fun K hK => ?_)
   go_simp
   refine (HF.out (S1 y basesB (catB bs)) imagesB (catB ims) (by rw [HS1.out]; decide) (by decide) HCI.out _).mono ?_
   rintro e w7 ⟨rfl, hb9⟩
   replace HT := Lib.hid (below_up HT.out hb9)
   replace HZS := sz HZS (show w5.heap.size ≤ w7.heap.size from HT.out.size)
   clear hb9
   refine hK _ _ ⟨fun _ => ⟨⟨w7, HT.out⟩, rfl⟩, ?_⟩
   clear hK K
   repeat (first | (refine treek_q rfl rfl ?_; go_big_quiet_step (fail); refine wpQuiet_nil ?_) | (refine treek_e rfl rfl ?_; go_big_quiet_step (fail); refine wpQuiet_nil ?_))
   clear hov_t hl_t hov_o hl_o hov_bc hl_bc
   refine treek_a rfl (fun K hK => ?_)
   clear t_
   replace Ht := Lib.hid (Ht.out.up HT.out)
   clear o_
   replace Ho := Lib.hid (Ho.out.up HT.out)
   clear bc_
   replace Hbc := Lib.hid (Hbc.out.up HT.out)
   replace HB := hbu HB HT.out
   replace HZS := sz HZS HT.out.size
   clear HT
   have t_ := Ht.out.c1
   have o_ := Ho.out.c1
   have bc_ := Hbc.out.c2
   have f8_t := Ht.out.frozen
   have o8_t_ := t_; clear t_
   have o8_o_ := o_; clear o_
   have o8_bc_ := bc_; clear bc_
   obtain ⟨w8, hq8, hg9, hz9, hx9⟩ := put1 Ht 0 (.string (S1 (S1 y basesB (catB bs)) imagesB (catB ims))) [.string (S1 (S1 y basesB (catB bs)) imagesB (catB ims))] rfl
   replace Ho := Lib.hid (Ho.out.grown hg9.out (sne (by have g0 := HZS.out; omega)))
   replace Hbc := Lib.hid (Hbc.out.grown hg9.out (sne (by have g0 := HZS.out; omega)))
   replace HB := hbg HB hg9 (by have g0 := HZS.out; omega)
   replace HZS := sz HZS hz9.out
   replace Ht := hx9
   clear hx9 hg9 hz9
   have t_ := Ht.out.c1
   have o_ := Ho.out.c1
   have bc_ := Hbc.out.c2
   go_simp
   try rw [hq8]
   refine hK _ _ ⟨fun h9 => absurd rfl h9, ?_⟩
   clear hK K hq8 o8_bc_ o8_o_ o8_t_ f8_t
   refine treek_end ?_
   go_wp2_with fail
   exact ⟨⟨j + 1, _, by omega, by go_num, Lib.hid (HS1.out _ _ _), Lib.hid HTJ.out.symm, Ht, Ho, HB⟩, by simp [intOf]; omega⟩
  ·have hj' : j = n := by omega
   subst hj'
   rw [List.take_of_length_le (by rw [HN.out]; exact Nat.le_refl _)] at HYS
   replace HZS := sz HZS HO9.out
   have t_ := Ht.out.c1
   have o_ := Ho.out.c1
   have f2_o := Ho.out.frozen
   have o2_t_ := t_; clear t_
   have o2_o_ := o_; clear o_
   obtain ⟨w2, hq2, hg9, hz9, hx9⟩ := put1 Ho 0 (.string y) [.string y] rfl
   replace Ht := Lib.hid (Ht.out.grown hg9.out (sne (by have g0 := HZS.out; omega)))
   replace HB := hbg HB hg9 (by have g0 := HZS.out; omega)
   replace HZS := sz HZS hz9.out
   replace Ho := hx9
   clear hx9 hg9 hz9
   have t_ := Ht.out.c1
   have o_ := Ho.out.c1
   go_wp2_with fail
   clear hq2 o2_o_ o2_t_ f2_o
   rw [← HYS.out]
   simp [bodyPost, results, Tryz.results47, go_sem, o_]
   exact HB.out
theorem rsayFi_any (s : ByteArray) (ro : List RowA) (n : Nat) (hn : ro.length = n) (h64 : n ≤ 64) (hz : s.size = 32) (sh : ∀ r ∈ ro, r.l.length ≤ 8 ∧ ∀ x ∈ r.l, x.size ≤ 32) (al : Option Addr) (cl : Nat) (w : World) (hC : RowsAt w al ro) :
  Calls Tryz.prog 46 #[.agg #[.string s], .slice al n cl] w fun e w' => e = .returned (.agg #[.string (sayFi s (ro.map RowA.l))]) ∧ Below w.heap.size w w' := by
 have HTK := Lib.hid (fun j (h : j < ro.length) => by
  have h1 := sayFi_take s (ro.map RowA.l) j (by rw [List.length_map]; exact h)
  rw [List.getElem_map, ← List.map_take, ← List.map_take] at h1
  exact h1)
 unfold sayF at HTK
 have HF := Lib.hid (fun s lb x hs hl hx w => (show Calls Tryz.prog 73 #[.agg #[.string s], .string lb, .string x] w fun e w' => e = .returned (.agg #[.string (say1 s lb x)]) ∧ Below w.heap.size w w' from rSay_any s lb x hs hl hx w))
 have HS1 := Lib.hid say1_size
 have HT0 := Lib.hid (show sayFi s ([].map RowA.l) = s from rfl)
 generalize sayFi s = SC at *
 generalize say1 = S1 at *
 have HC := Lib.hid hC
 have HN := Lib.hid hn
 have HZ := Lib.hid hz
 have HSH := Lib.hid sh
 clear hC hn hz sh
 go_enter Tryz.func46, Tryz.ntmps46
 go_wp2_with fail
 obtain ⟨w1, hq1, hb9, hz9, Ht, Ho⟩ := new2 w 89 [.string s] 89 [.string ⟨#[]⟩]
 rw [hq1]
 clear hq1
 have HB := Lib.hid hb9
 have HZS := hz9
 clear hb9 hz9
 have t_ := Ht.out.c1
 have o_ := Ho.out.c1
 go_wp2_with fail
 go_loopw [9] (fun i wr => ∃ (j : Nat) (y : ByteArray), j ≤ n ∧ i = .int .i64 (j : Int) ∧ Hid (y.size = 32) ∧ Hid (y = SC ((ro.take j).map RowA.l)) ∧ Hid (Bx wr w.heap.size 89 [.string y]) ∧ Hid (Bx wr (w.heap.size + 1) 89 [.string ⟨#[]⟩]) ∧ Hid (Below w.heap.size w wr)) (fun i _ => n - (intOf i).toNat)
 case atStart => exact ⟨0, s, Nat.zero_le _, rfl, HZ, HT0.out.symm, Ht, Ho, HB⟩
 case round =>
  clear Ht Ho HB t_ o_
  obtain ⟨j, y, hj, rfl, HY, HYS, Ht, Ho, HB⟩ := hrel
  have HO9 := Lib.hid Ho.out.lt
  by_cases hjn : j < n
  ·have hjl : j < ro.length := by rw [HN.out]; exact hjn
   obtain ⟨bl, ol, rfl, hbl0, hc⟩ := (HC.out.s.up HB.out).elem RowA.cells_len (by omega) j hjl
   have hc_0 := hc 0 _ rfl
   rw [Nat.add_zero] at hc_0
   clear hc
   rw [Nat.mul_one] at hc_0
   have HAB := Lib.hid (HC.out.one j hjl)
   have hsj := HSH.out _ (List.getElem_mem hjl)
   have HSJ := Lib.hid hsj
   have HTJ := Lib.hid (HTK.out j hjl)
   clear hsj
   generalize ro[j] = c at *
   unfold RowA.At at HAB
   generalize c.l = bs at *
   generalize c.a = ab at *
   generalize c.c = cb at *
   rw [← HYS.out] at HTJ
   have HCB := Lib.hid (cat_small HSJ.out.1 HSJ.out.2)
   have HJ1 := Lib.hid (fun w h => rjoined_any bs bs.length rfl (by have := HSJ.out.1; omega) (fun x hx => Nat.le_trans (HSJ.out.2 x hx) (by decide)) ab cb w h)
   clear HYS HSJ
   replace HZS := sz HZS HO9.out
   have t_ := Ht.out.c1
   have o_ := Ho.out.c1
   go_wp2_with fail
   have HT := Lib.hid (show Below wr.heap.size wr wr.drew from (Below.refl _ _).drew)
   have hl_t := Ht.out.lt
   have hl_o := Ho.out.lt
   refine wp_region_treek (fun wq9 => ∃ E : Over wr, wq9 = E.w) 4 ((.e 0 [] (.qs [1] (.a 2 (.a 3 (.a 4 .done)))))) (by kernel_rfl) (by kernel_rfl) (fun _ _ d _ _ h => by cases d <;> exact h) ⟨⟨_, HT.out⟩, rfl⟩ ?_
   have hov_t := fun (E : Over wr) o => E.cell (b := w.heap.size) o hl_t
   have hov_o := fun (E : Over wr) o => E.cell (b := (w.heap.size + 1)) o hl_o
   simp only [TreeK.qs]
   repeat (first | (refine treek_q rfl rfl ?_; go_big_quiet_step (fail); refine wpQuiet_nil ?_) | (refine treek_e rfl rfl ?_; go_big_quiet_step (fail); refine wpQuiet_nil ?_))
   refine treek_a rfl (fun K hK => ?_)
   go_simp
   refine (HJ1.out _ (HAB.out.up (below_up HB.out HT.out))).mono ?_
   rintro e w2 ⟨rfl, hb9⟩
   replace HT := Lib.hid (below_up HT.out hb9)
   replace HZS := sz HZS (show wr.heap.size ≤ w2.heap.size from HT.out.size)
   clear hb9
   refine hK _ _ ⟨fun _ => ⟨⟨w2, HT.out⟩, rfl⟩, ?_⟩
   clear hK K
   repeat (first | (refine treek_q rfl rfl ?_; go_big_quiet_step (fail); refine wpQuiet_nil ?_) | (refine treek_e rfl rfl ?_; go_big_quiet_step (fail); refine wpQuiet_nil ?_))
   refine treek_a rfl (fun K hK => ?_)
   go_simp
   refine (HF.out y firstB (catB bs) (by have := HY.out; omega) (by decide) HCB.out _).mono ?_
   rintro e w3 ⟨rfl, hb9⟩
   replace HT := Lib.hid (below_up HT.out hb9)
   replace HZS := sz HZS (show wr.heap.size ≤ w3.heap.size from HT.out.size)
   clear hb9
   refine hK _ _ ⟨fun _ => ⟨⟨w3, HT.out⟩, rfl⟩, ?_⟩
   clear hK K
   repeat (first | (refine treek_q rfl rfl ?_; go_big_quiet_step (fail); refine wpQuiet_nil ?_) | (refine treek_e rfl rfl ?_; go_big_quiet_step (fail); refine wpQuiet_nil ?_))
   clear hov_t hl_t hov_o hl_o
   refine treek_a rfl (fun K hK => ?_)
   clear t_
   replace Ht := Lib.hid (Ht.out.up HT.out)
   clear o_
   replace Ho := Lib.hid (Ho.out.up HT.out)
   replace HB := hbu HB HT.out
   replace HZS := sz HZS HT.out.size
   clear HT
   have t_ := Ht.out.c1
   have o_ := Ho.out.c1
   have f4_t := Ht.out.frozen
   have o4_t_ := t_; clear t_
   have o4_o_ := o_; clear o_
   obtain ⟨w4, hq4, hg9, hz9, hx9⟩ := put1 Ht 0 (.string (S1 y firstB (catB bs))) [.string (S1 y firstB (catB bs))] rfl
   replace Ho := Lib.hid (Ho.out.grown hg9.out (sne (by have g0 := HZS.out; omega)))
   replace HB := hbg HB hg9 (by have g0 := HZS.out; omega)
   replace HZS := sz HZS hz9.out
   replace Ht := hx9
   clear hx9 hg9 hz9
   have t_ := Ht.out.c1
   have o_ := Ho.out.c1
   go_simp
   try rw [hq4]
   refine hK _ _ ⟨fun h9 => absurd rfl h9, ?_⟩
   clear hK K hq4 o4_o_ o4_t_ f4_t
   refine treek_end ?_
   go_wp2_with fail
   exact ⟨⟨j + 1, _, by omega, by go_num, Lib.hid (HS1.out _ _ _), Lib.hid HTJ.out.symm, Ht, Ho, HB⟩, by simp [intOf]; omega⟩
  ·have hj' : j = n := by omega
   subst hj'
   rw [List.take_of_length_le (by rw [HN.out]; exact Nat.le_refl _)] at HYS
   replace HZS := sz HZS HO9.out
   have t_ := Ht.out.c1
   have o_ := Ho.out.c1
   have f2_o := Ho.out.frozen
   have o2_t_ := t_; clear t_
   have o2_o_ := o_; clear o_
   obtain ⟨w2, hq2, hg9, hz9, hx9⟩ := put1 Ho 0 (.string y) [.string y] rfl
   replace Ht := Lib.hid (Ht.out.grown hg9.out (sne (by have g0 := HZS.out; omega)))
   replace HB := hbg HB hg9 (by have g0 := HZS.out; omega)
   replace HZS := sz HZS hz9.out
   replace Ho := hx9
   clear hx9 hg9 hz9
   have t_ := Ht.out.c1
   have o_ := Ho.out.c1
   go_wp2_with fail
   clear hq2 o2_o_ o2_t_ f2_o
   rw [← HYS.out]
   simp [bodyPost, results, Tryz.results46, go_sem, o_]
   exact HB.out
end Go.Proofs.YtdlnnkbigeiilaaGreat
namespace Go.Proofs.YtdlnnkbigeiilaaGreat
open Go.RowKit
def Gives (v : Value) (w : World) (e : Ending) (w' : World) : Prop := e = .returned v ∧ Below w.heap.size w w'
theorem all_take_true {α : Type} {f : α → Bool} {l : List α} (h : (l.take l.length).all f = true) : l.all f = true := by rwa [List.take_length] at h
theorem all_not {α : Type} {f : α → Bool} {l : List α} {i : Nat} (hi : i < l.length) (h : f l[i] = false) : l.all f = false := by
 rw [List.all_eq_false]
 exact ⟨l[i], List.getElem_mem hi, by simp [h]⟩
theorem all_snoc {α : Type} {f : α → Bool} {l : List α} {i : Nat} (hi : i < l.length) (ht : (l.take i).all f = true) (h : f l[i] = true) : (l.take (i + 1)).all f = true := by
 rw [List.take_succ_eq_append_getElem hi, List.all_append, ht]
 simp [h]
section
variable {G : GP}
theorem rText2 (ok : G.Ok) {x : Nat} {an : Option Addr} {cn : Nat} (w : World) (hN : NumAt w an (lowN G x)) :
  Calls Tryz.prog 49 #[.slice an (dl (lowN G x)) cn, .int .i64 (G.size : Int)] w fun e w' => e = .returned (.string (textS (lowN G x) G.size)) ∧ Below w.heap.size w w' :=
 rText ok (lowN_16 ok x) w hN
theorem isEl_size {q n : Nat} {s : ByteArray} (h : isEl q n s = true) : s.size = n := by
 unfold isEl at h
 simp only [Bool.and_eq_true, decide_eq_true_eq] at h
 exact h.1.1
theorem isSc_size {q n : Nat} {s : ByteArray} (h : isSc q n s = true) : s.size = n := by
 unfold isSc at h
 simp only [Bool.and_eq_true, decide_eq_true_eq] at h
 exact h.1
end
end Go.Proofs.YtdlnnkbigeiilaaGreat
namespace Go.Proofs.YtdlnnkbigeiilaaGreat
open Go.RowKit
theorem infoScalar : (Tryz.prog.info? 72).map (fun i => (i.zero, i.size, i.bytes)) = some (some (.agg #[.int .u64 0, .int .u64 0, .int .u64 0, .int .u64 0]), 4, 32) := by kernel_rfl
theorem infoElem : (Tryz.prog.info? 127).map (fun i => (i.zero, i.size, i.bytes)) = some (some (.agg #[.int .u64 0, .int .u64 0, .int .u64 0, .int .u64 0]), 4, 32) := by kernel_rfl
def limC (m : Nat) (s : ByteArray) : List Value := [.int .u64 (dig (mont m (numOf s)) 0 : Int), .int .u64 (dig (mont m (numOf s)) 1 : Int), .int .u64 (dig (mont m (numOf s)) 2 : Int), .int .u64 (dig (mont m (numOf s)) 3 : Int)]
theorem limC_len (m : Nat) (s : ByteArray) : (limC m s).length = 4 := rfl
def AllR (m : Nat) (f : ByteArray → Bool) (l : List ByteArray) (w : World) (e : Ending) (w' : World) : Prop :=
 Below w.heap.size w w' ∧ if l.all f then ∃ a c, e = .returned (.tuple #[.slice a l.length c, .bool true]) ∧ Sl w' w'.heap.size a (l.flatMap (limC m)) ∧ (∀ x, a = some x → w.heap.size ≤ x.block) else e = .returned (.tuple #[.slice none 0 0, .bool false])
theorem allSc_any (G : GP) (ok : G.Ok) (gb : Nat) (l : List ByteArray) (al : Option Addr) (cl : Nat) (hl : l.length ≤ 8796093022207) (w : World) (hG : GroupAt w gb G) (hS : Sl w w.heap.size al (l.map Value.string)) :
  Calls Tryz.prog 113 #[.slice al l.length cl, .func (.func 37) #[.pointer (some ⟨gb, 0, none⟩)] #[]] w (AllR G.q.m (isSc G.q.m G.size) l w) := by
 have OK := Lib.hid ok
 have HG := Lib.hid hG
 have HS := Lib.hid hS
 clear ok hG hS
 go_enter Tryz.func113, Tryz.ntmps113
 obtain ⟨i9, hi9, hz90, hz91, hz92⟩ := info_parts infoScalar
 go_wp2_with (at_make; refine wpList_make_own _ rfl _ _ 65 rfl (w.heap.size) 72 i9 _ 4 Tryz.underlying65 hi9 hz90 hz91 _ _ _ (l.length) rfl rfl ?c1 ?c2 ?c3 ?c4 ?_)
 case c1 => rfl
 case c2 => rw [hz92]; omega
 case c3 => unfold maxLen; omega
 case c4 => omega
 intro w1 hown9 hg9
 have hb9 : Below w.heap.size w w1 := (Below.refl _ _).grown hg9 (Nat.le_refl _) (fun q hq => by cases hq)
 have HB := Lib.hid hb9
 have HZS := Lib.hid hb9.size
 have Hr : Hid (RowO (w.heap.size) w1 72 4 (.slice (some ⟨w.heap.size, 0, none⟩) 0 (l.length)) 0 []) := Lib.hid hown9
 clear hb9 hown9 hg9 hi9 hz90 hz91 hz92
 go_wp2_with fail
 go_loopw [16, 6] (fun i v wr => ∃ j : Nat, j ≤ l.length ∧ i = .int .i64 j ∧ v = .slice (some ⟨w.heap.size, 0, none⟩) j l.length ∧ Hid (Below w.heap.size w wr) ∧ Hid ((l.take j).all (isSc G.q.m G.size) = true) ∧ Hid (RowO w.heap.size wr 72 4 (.slice (some ⟨w.heap.size, 0, none⟩) j l.length) j ((l.take j).flatMap (limC G.q.m)))) (fun i _ _ => l.length - (intOf i).toNat)
 case atStart => exact ⟨0, Nat.zero_le _, rfl, rfl, HB, rfl, Hr⟩
 case round =>
  obtain ⟨j, hj, rfl, rfl, HB, HAL, Hr⟩ := hrel
  by_cases hjl : j < l.length
  ·skip
   have Hs0 := Lib.hid (show w.heap.size < wr.heap.size from (Hr.out.lt _ rfl).2)
   replace HZS := sz HZS Hs0.out
   obtain ⟨bl, ol, rfl, hbl, hc⟩ := (HS.out.up HB.out).at j (by simpa using hjl)
   rw [List.getElem_map] at hc
   obtain ⟨bj, hbj⟩ : ∃ x, isSc G.q.m G.size l[j] = x := ⟨_, rfl⟩
   have HBJ := Lib.hid hbj
   clear hbj
   go_wp2_with fail
   refine (gScalar_m G OK.out gb l[j] bj HBJ.out wr (HG.out.up HB.out)).mono ?_
   rintro e w2 ⟨sx, rfl, hb9, hx9⟩
   replace Hr := Lib.hid (Hr.out.up hb9)
   replace HB := hbu HB hb9
   replace HZS := sz HZS hb9.size
   have HSX := Lib.hid hx9
   clear hx9 hb9
   unfold limbV
   obtain ⟨w3, hq3, hb9, hz9, Hbp⟩ := new1 w2 72 [.int .u64 (dig (sx) 0 : Int), .int .u64 (dig (sx) 1 : Int), .int .u64 (dig (sx) 2 : Int), .int .u64 (dig (sx) 3 : Int)]
   replace Hr := Lib.hid (Hr.out.up hb9)
   replace HB := hbu HB hb9
   replace HZS := sz HZS hz9.out
   clear hb9 hz9
   have bp_ := Hbp.out.c4
   cases bj
   ·go_wp2_with fail
    clear hq3
    go_ret2
    exact ⟨HB.out, by rw [if_neg (by rw [all_not hjl HBJ.out]; decide)]; rfl⟩
   ·obtain rfl := HSX.out rfl
    obtain ⟨i9, hi9, hz90, hz91, hz92⟩ := info_parts infoScalar
    go_wp2_with (at_builtin; refine wpList_fitR (w.heap.size) w3 rfl _ _ 65 rfl 72 i9 4 Tryz.underlying65 hi9 hz91 (w.heap.size) (j) ((l.length)) (((l.take j).flatMap (limC G.q.m))) rfl Hr.out _ _ _ rfl rfl rfl (by simp [Value.oneCell']) (by omega) ?_)
    intro w4 hown9 hg9
    clear hq3 bp_
    have hb9 := Below.grown HB.out hg9 (by have g0 := HZS.out; omega) (fun q hq => Nat.le_trans (show w.heap.size ≤ w.heap.size by have g0 := HZS.out; omega) (Hr.out.lt q hq).1)
    replace Hbp := Lib.hid (Hbp.out.grown hg9 (fun e9 => by have a0 := Option.some.inj e9; have a1 := Hr.out.lt _ e9; have g0 := HZS.out; omega))
    replace HZS := sz HZS hg9.size
    clear Hr HB
    have Hr := Lib.hid hown9
    have HB := Lib.hid hb9
    clear hb9 hown9 hg9 hi9 hz90 hz91 hz92
    have bp_ := Hbp.out.c4
    go_wp2_with fail
    go_roundw
    case rel => exact ⟨j + 1, by omega, by go_num, rfl, HB, all_snoc hjl HAL.out HBJ.out, Hr.out.eq (flat_snoc _ _ _ hjl).symm rfl⟩
    case measure => simp [intOf]; omega
  ·have hjn : j = l.length := by omega
   subst hjn
   go_wp2_with fail
   go_ret2
   rw [List.take_length] at Hr
   exact ⟨HB.out, by rw [if_pos (all_take_true HAL.out)]; exact ⟨_, _, rfl, Hr.out.sl, fun x hx => by cases hx; exact Nat.le_refl _⟩⟩
theorem allEl_any (G : GP) (ok : G.Ok) (gb : Nat) (l : List ByteArray) (al : Option Addr) (cl : Nat) (hl : l.length ≤ 8796093022207) (w : World) (hG : GroupAt w gb G) (hS : Sl w w.heap.size al (l.map Value.string)) :
  Calls Tryz.prog 143 #[.slice al l.length cl, .func (.func 137) #[.pointer (some ⟨gb, 0, none⟩)] #[]] w (AllR G.p.m (isEl G.q.m G.size) l w) := by
 have OK := Lib.hid ok
 have HG := Lib.hid hG
 have HS := Lib.hid hS
 clear ok hG hS
 go_enter Tryz.func143, Tryz.ntmps143
 obtain ⟨i9, hi9, hz90, hz91, hz92⟩ := info_parts infoElem
 go_wp2_with (at_make; refine wpList_make_own _ rfl _ _ 152 rfl (w.heap.size) 127 i9 _ 4 Tryz.underlying152 hi9 hz90 hz91 _ _ _ (l.length) rfl rfl ?c1 ?c2 ?c3 ?c4 ?_)
 case c1 => rfl
 case c2 => rw [hz92]; omega
 case c3 => unfold maxLen; omega
 case c4 => omega
 intro w1 hown9 hg9
 have hb9 : Below w.heap.size w w1 := (Below.refl _ _).grown hg9 (Nat.le_refl _) (fun q hq => by cases hq)
 have HB := Lib.hid hb9
 have HZS := Lib.hid hb9.size
 have Hr : Hid (RowO (w.heap.size) w1 127 4 (.slice (some ⟨w.heap.size, 0, none⟩) 0 (l.length)) 0 []) := Lib.hid hown9
 clear hb9 hown9 hg9 hi9 hz90 hz91 hz92
 go_wp2_with fail
 go_loopw [16, 6] (fun i v wr => ∃ j : Nat, j ≤ l.length ∧ i = .int .i64 j ∧ v = .slice (some ⟨w.heap.size, 0, none⟩) j l.length ∧ Hid (Below w.heap.size w wr) ∧ Hid ((l.take j).all (isEl G.q.m G.size) = true) ∧ Hid (RowO w.heap.size wr 127 4 (.slice (some ⟨w.heap.size, 0, none⟩) j l.length) j ((l.take j).flatMap (limC G.p.m)))) (fun i _ _ => l.length - (intOf i).toNat)
 case atStart => exact ⟨0, Nat.zero_le _, rfl, rfl, HB, rfl, Hr⟩
 case round =>
  obtain ⟨j, hj, rfl, rfl, HB, HAL, Hr⟩ := hrel
  by_cases hjl : j < l.length
  ·skip
   have Hs0 := Lib.hid (show w.heap.size < wr.heap.size from (Hr.out.lt _ rfl).2)
   replace HZS := sz HZS Hs0.out
   obtain ⟨bl, ol, rfl, hbl, hc⟩ := (HS.out.up HB.out).at j (by simpa using hjl)
   rw [List.getElem_map] at hc
   obtain ⟨bj, hbj⟩ : ∃ x, isEl G.q.m G.size l[j] = x := ⟨_, rfl⟩
   have HBJ := Lib.hid hbj
   clear hbj
   go_wp2_with fail
   refine (gElem_m G OK.out gb l[j] bj HBJ.out wr (HG.out.up HB.out)).mono ?_
   rintro e w2 ⟨sx, rfl, hb9, hx9⟩
   replace Hr := Lib.hid (Hr.out.up hb9)
   replace HB := hbu HB hb9
   replace HZS := sz HZS hb9.size
   have HSX := Lib.hid hx9
   clear hx9 hb9
   unfold limbV
   obtain ⟨w3, hq3, hb9, hz9, Hbp⟩ := new1 w2 127 [.int .u64 (dig (sx) 0 : Int), .int .u64 (dig (sx) 1 : Int), .int .u64 (dig (sx) 2 : Int), .int .u64 (dig (sx) 3 : Int)]
   replace Hr := Lib.hid (Hr.out.up hb9)
   replace HB := hbu HB hb9
   replace HZS := sz HZS hz9.out
   clear hb9 hz9
   have bp_ := Hbp.out.c4
   cases bj
   ·go_wp2_with fail
    clear hq3
    go_ret2
    exact ⟨HB.out, by rw [if_neg (by rw [all_not hjl HBJ.out]; decide)]; rfl⟩
   ·obtain rfl := HSX.out rfl
    obtain ⟨i9, hi9, hz90, hz91, hz92⟩ := info_parts infoElem
    go_wp2_with (at_builtin; refine wpList_fitR (w.heap.size) w3 rfl _ _ 152 rfl 127 i9 4 Tryz.underlying152 hi9 hz91 (w.heap.size) (j) ((l.length)) (((l.take j).flatMap (limC G.p.m))) rfl Hr.out _ _ _ rfl rfl rfl (by simp [Value.oneCell']) (by omega) ?_)
    intro w4 hown9 hg9
    clear hq3 bp_
    have hb9 := Below.grown HB.out hg9 (by have g0 := HZS.out; omega) (fun q hq => Nat.le_trans (show w.heap.size ≤ w.heap.size by have g0 := HZS.out; omega) (Hr.out.lt q hq).1)
    replace Hbp := Lib.hid (Hbp.out.grown hg9 (fun e9 => by have a0 := Option.some.inj e9; have a1 := Hr.out.lt _ e9; have g0 := HZS.out; omega))
    replace HZS := sz HZS hg9.size
    clear Hr HB
    have Hr := Lib.hid hown9
    have HB := Lib.hid hb9
    clear hb9 hown9 hg9 hi9 hz90 hz91 hz92
    have bp_ := Hbp.out.c4
    go_wp2_with fail
    go_roundw
    case rel => exact ⟨j + 1, by omega, by go_num, rfl, HB, all_snoc hjl HAL.out HBJ.out, Hr.out.eq (flat_snoc _ _ _ hjl).symm rfl⟩
    case measure => simp [intOf]; omega
  ·have hjn : j = l.length := by omega
   subst hjn
   go_wp2_with fail
   go_ret2
   rw [List.take_length] at Hr
   exact ⟨HB.out, by rw [if_pos (all_take_true HAL.out)]; exact ⟨_, _, rfl, Hr.out.sl, fun x hx => by cases hx; exact Nat.le_refl _⟩⟩
end Go.Proofs.YtdlnnkbigeiilaaGreat
namespace Go.Proofs.YtdlnnkbigeiilaaGreat
open Go.RowKit
theorem scalField : ∃ f, (Tryz.prog.fieldsOf 72).toList = [f] ∧ f.name = "n" ∧ f.type = 70 ∧ f.offset = 0 := by
 have h : ((Tryz.prog.fieldsOf 72).toList.map fun f => (f.name, f.type, f.offset)) = [("n", 70, 0)] := by kernel_rfl
 generalize (Tryz.prog.fieldsOf 72).toList = fs at *
 obtain ⟨f, rfl⟩ : ∃ f, fs = [f] := List.length_eq_one_iff.1 (by have := congrArg List.length h; simpa using this)
 simp only [List.map_cons, List.map_nil, List.cons.injEq, Prod.mk.injEq, and_true] at h
 exact ⟨f, rfl, h.1, h.2.1, h.2.2⟩
theorem partLimbs (a b c d : Value) (w : World) : (part 70 #[a, b, c, d] 0).run Tryz.prog w = .ok (.agg #[a, b, c, d]) w := by
 simp [part, isAgg, run_underlying Tryz.underlying70]
theorem eqScal (x y : Nat) (hx : x < BB ^ 4) (hy : y < BB ^ 4) (w : World) (b : Bool) (hb : b = decide (x = y)) :
  (Op.equalIn 10000 72 (.agg #[.int .u64 (dig x 0 : Int), .int .u64 (dig x 1 : Int), .int .u64 (dig x 2 : Int), .int .u64 (dig x 3 : Int)]) (.agg #[.int .u64 (dig y 0 : Int), .int .u64 (dig y 1 : Int), .int .u64 (dig y 2 : Int), .int .u64 (dig y 3 : Int)])).run Tryz.prog w = .ok b w := by
 obtain ⟨f, hf, hn, ht, ho⟩ := scalField
 rw [run_equalIn_struct w 9999 _ _ _ (by kernel_rfl) (by kernel_rfl), hf]
 obtain ⟨i, hi⟩ := Option.isSome_iff_exists.1 infoU64
 have h4 := run_equalIn_four w 9997 _ _ Tryz.underlying70 Tryz.underlying68 i hi cellsU64 plainU64 (dig x 0 : Int) (dig x 1 : Int) (dig x 2 : Int) (dig x 3 : Int) (dig y 0 : Int) (dig y 1 : Int) (dig y 2 : Int) (dig y 3 : Int)
 have he : ((dig x 0 : Int) == (dig y 0 : Int) && ((dig x 1 : Int) == (dig y 1 : Int) && ((dig x 2 : Int) == (dig y 2 : Int) && (dig x 3 : Int) == (dig y 3 : Int)))) = b := by
  rw [hb, Bool.eq_iff_iff]
  simp only [Bool.and_eq_true, beq_iff_eq, Int.natCast_inj, decide_eq_true_eq]
  exact ⟨fun ⟨h0, h1, h2, h3⟩ => lim_eq x y hx hy h0 h1 h2 h3, fun e => by rw [e]; exact ⟨rfl, rfl, rfl, rfl⟩⟩
 rw [he] at h4
 simp only [Op.eqFields, hn, ht, ho]
 rw [if_pos (by decide), Sem.run_bind, partLimbs, Result.andThen_ok, Sem.run_bind, partLimbs, Result.andThen_ok, Sem.run_bind]
 erw [h4]
 cases b <;> rfl
theorem guardScal (op : BinOp) (x y : Operand) (xs ys : Array Value) (w : World) : (eqGuard op 72 x y (.agg xs) (.agg ys)).run Tryz.prog w = .ok () w := run_eqGuard_agg w op _ x y xs ys (by kernel_rfl)
theorem binScal {xs ys : Array Value} {b : Bool} {w : World} (h : (Op.equalIn 10000 72 (.agg xs) (.agg ys)).run Tryz.prog w = .ok b w) : (binOp .eql 72 (.agg xs) (.agg ys)).run Tryz.prog w = .ok (.bool b) w := by
 rw [run_eql_struct, h]
 rfl
theorem allSc_v (G : GP) (ok : G.Ok) (gb : Nat) (l : List ByteArray) (b : Bool) (hb : l.all (isSc G.q.m G.size) = b) (n : Nat) (hn : l.length = n) (al : Option Addr) (cl : Nat) (hl : n ≤ 8796093022207) (w : World) (hG : GroupAt w gb G) (hS : Sl w w.heap.size al (l.map Value.string)) :
  Calls Tryz.prog 113 #[.slice al n cl, .func (.func 37) #[.pointer (some ⟨gb, 0, none⟩)] #[]] w fun e w' => ∃ v, e = .returned (.tuple #[v, .bool b]) ∧ Below w.heap.size w w' ∧ (b = true → ∃ a c, v = .slice a n c ∧ Sl w' w'.heap.size a (l.flatMap (limC G.q.m)) ∧ (∀ x, a = some x → w.heap.size ≤ x.block)) := by
 subst hb
 subst hn
 refine (allSc_any G ok gb l al cl hl w hG hS).mono ?_
 rintro e w' ⟨h1, h2⟩
 cases hb : l.all (isSc G.q.m G.size) with
 | true =>
  rw [if_pos hb] at h2
  obtain ⟨a, c, rfl, h3⟩ := h2
  exact ⟨_, rfl, h1, fun _ => ⟨a, c, rfl, h3⟩⟩
 | false =>
  rw [if_neg (by rw [hb]; decide)] at h2
  exact ⟨_, h2, h1, fun h => by cases h⟩
theorem allEl_v (G : GP) (ok : G.Ok) (gb : Nat) (l : List ByteArray) (b : Bool) (hb : l.all (isEl G.q.m G.size) = b) (n : Nat) (hn : l.length = n) (al : Option Addr) (cl : Nat) (hl : n ≤ 8796093022207) (w : World) (hG : GroupAt w gb G) (hS : Sl w w.heap.size al (l.map Value.string)) :
  Calls Tryz.prog 143 #[.slice al n cl, .func (.func 137) #[.pointer (some ⟨gb, 0, none⟩)] #[]] w fun e w' => ∃ v, e = .returned (.tuple #[v, .bool b]) ∧ Below w.heap.size w w' ∧ (b = true → ∃ a c, v = .slice a n c ∧ Sl w' w'.heap.size a (l.flatMap (limC G.p.m)) ∧ (∀ x, a = some x → w.heap.size ≤ x.block)) := by
 subst hb
 subst hn
 refine (allEl_any G ok gb l al cl hl w hG hS).mono ?_
 rintro e w' ⟨h1, h2⟩
 cases hb : l.all (isEl G.q.m G.size) with
 | true =>
  rw [if_pos hb] at h2
  obtain ⟨a, c, rfl, h3⟩ := h2
  exact ⟨_, rfl, h1, fun _ => ⟨a, c, rfl, h3⟩⟩
 | false =>
  rw [if_neg (by rw [hb]; decide)] at h2
  exact ⟨_, h2, h1, fun h => by cases h⟩
theorem infoStr : (Tryz.prog.info? 9).map (fun i => (i.zero, i.size, i.bytes)) = some (some (.string ⟨#[]⟩), 1, 16) := by kernel_rfl
theorem Sl.adr {w : World} {B : Nat} {a : Option Addr} {cs : List Value} (h : Sl w B a cs) (h0 : cs ≠ []) : ∃ b o, a = some ⟨b, o, none⟩ ∧ b < B := by
 rcases h with h | ⟨b, off, rfl, hb, _⟩
 ·exact absurd h h0
 ·exact ⟨b, off, rfl, hb⟩
theorem Sl.elemS {w : World} {B b o : Nat} {α : Type} {f : α → List Value} {k : Nat} {l : List α} (h : Sl w B (some ⟨b, o, none⟩) (l.flatMap f)) (hk : ∀ x, (f x).length = k) (h0 : 0 < k) (i : Nat) (hi : i < l.length) :
  b < B ∧ ∀ j v, (f l[i])[j]? = some v → w.cell? ⟨b, o + i * k + j, none⟩ = some v := by
 obtain ⟨b', o', he, hb, hc⟩ := h.elem hk h0 i hi
 simp only [Option.some.injEq, Addr.mk.injEq, and_true] at he
 obtain ⟨rfl, rfl⟩ := he
 exact ⟨hb, hc⟩
theorem Sl.atUp {w0 w : World} {a : Option Addr} {cs : List Value} (h : Sl w0 w0.heap.size a cs) (hb : Below w0.heap.size w0 w) (i : Nat) (hi : i < cs.length) :
  ∃ b off, a = some ⟨b, off, none⟩ ∧ b < w0.heap.size ∧ b < w.heap.size ∧ w.cell? ⟨b, off + i, none⟩ = some cs[i] := by
 obtain ⟨b, off, he, h1, h2⟩ := h.at i hi
 exact ⟨b, off, he, h1, Nat.lt_of_lt_of_le h1 hb.size, by rw [hb.cell (p := ⟨b, off + i, none⟩) h1]; exact h2⟩
theorem Sl.elemUp {w0 w : World} {a : Option Addr} {α : Type} {f : α → List Value} {k : Nat} {l : List α} (h : Sl w0 w0.heap.size a (l.flatMap f)) (hb : Below w0.heap.size w0 w) (hk : ∀ x, (f x).length = k) (h0 : 0 < k) (i : Nat) (hi : i < l.length) :
  ∃ b off, a = some ⟨b, off, none⟩ ∧ b < w0.heap.size ∧ b < w.heap.size ∧ ∀ j v, (f l[i])[j]? = some v → w.cell? ⟨b, off + i * k + j, none⟩ = some v := by
 obtain ⟨b, off, he, h1, h2⟩ := h.elem hk h0 i hi
 exact ⟨b, off, he, h1, Nat.lt_of_lt_of_le h1 hb.size, fun j v hv => by rw [hb.cell (p := ⟨b, off + i * k + j, none⟩) h1]; exact h2 j v hv⟩
theorem flat_ne {α : Type} {f : α → List Value} {k : Nat} {l : List α} (hk : ∀ x, (f x).length = k) (h0 : 0 < k) (hl : l ≠ []) : l.flatMap f ≠ [] := by
 intro e
 have := flat_len f k hk l
 rw [e, List.length_nil] at this
 have : 0 < l.length * k := Nat.mul_pos (List.length_pos_iff.2 hl) h0
 omega
theorem isSc_le {G : GP} {s : ByteArray} (h : isSc G.q.m G.size s = true) : numOf s ≤ G.q.m := by
 unfold isSc at h
 simp only [Bool.and_eq_true, decide_eq_true_eq] at h
 omega
end Go.Proofs.YtdlnnkbigeiilaaGreat
namespace Go.Proofs.YtdlnnkbigeiilaaGreat
open Go.RowKit
def ClaimA.val (c : ClaimA) : Value := .agg #[.slice c.ab c.bases.length c.cb, .slice c.ai c.images.length c.ci]
theorem any_take_true {α : Type} {f : α → Bool} {l : List α} {i : Nat} (hi : i < l.length) (h : f l[i] = true) : l.any f = true := List.any_eq_true.2 ⟨l[i], List.getElem_mem hi, h⟩
theorem any_snoc {α : Type} {f : α → Bool} {l : List α} {i : Nat} (hi : i < l.length) (ht : (l.take i).any f = false) (h : f l[i] = false) : (l.take (i + 1)).any f = false := by
 rw [List.take_succ_eq_append_getElem hi, List.any_append, ht]
 simp [h]
theorem shape1_any (c : ClaimA) (b : Bool) (hb : cLong c = b) (w : World) : Calls Tryz.prog 166 #[c.val] w (Gives (.bool b) w) := by
 obtain ⟨n, hn⟩ : ∃ n, c.bases.length = n := ⟨_, rfl⟩
 obtain ⟨m, hm⟩ : ∃ m, c.images.length = m := ⟨_, rfl⟩
 have hbv : b = (decide (8 < n) || decide (8 < m)) := by rw [← hb, ← hn, ← hm]; rfl
 unfold ClaimA.val Gives
 rw [hn, hm]
 clear hn hm hb
 by_cases h1 : 8 < n
 ·have hd : decide ((n : Int) > 8) = true := by simp; omega
  obtain rfl : b = true := by rw [hbv]; simp [h1]
  clear hbv h1
  go_enter Tryz.func166, Tryz.ntmps166
  go_wp2_with fail
  obtain ⟨w1, hq1, hb9, hz9, Hbc⟩ := new1 w 50 [.slice c.ab n c.cb, .slice c.ai m c.ci]
  rw [hq1]
  clear hq1
  have HB := Lib.hid hb9
  have HZS := hz9
  clear hb9 hz9
  have bc_ := Hbc.out.c2
  go_wp2_with fail
  go_ret
  exact ⟨rfl, HB.out⟩
 ·have hd : decide ((n : Int) > 8) = false := by simp; omega
  by_cases h2 : 8 < m
  ·have hd2 : decide ((m : Int) > 8) = true := by simp; omega
   obtain rfl : b = true := by rw [hbv]; simp [h2]
   clear hbv h1 h2
   go_enter Tryz.func166, Tryz.ntmps166
   go_wp2_with fail
   obtain ⟨w1, hq1, hb9, hz9, Hbc⟩ := new1 w 50 [.slice c.ab n c.cb, .slice c.ai m c.ci]
   rw [hq1]
   clear hq1
   have HB := Lib.hid hb9
   have HZS := hz9
   clear hb9 hz9
   have bc_ := Hbc.out.c2
   go_wp2_with fail
   go_ret
   exact ⟨rfl, HB.out⟩
  ·have hd2 : decide ((m : Int) > 8) = false := by simp; omega
   obtain rfl : b = false := by rw [hbv]; simp [h1, h2]
   clear hbv h1 h2
   go_enter Tryz.func166, Tryz.ntmps166
   go_wp2_with fail
   obtain ⟨w1, hq1, hb9, hz9, Hbc⟩ := new1 w 50 [.slice c.ab n c.cb, .slice c.ai m c.ci]
   rw [hq1]
   clear hq1
   have HB := Lib.hid hb9
   have HZS := hz9
   clear hb9 hz9
   have bc_ := Hbc.out.c2
   go_wp2_with fail
   go_ret
   exact ⟨rfl, HB.out⟩
theorem shape2_any (c : ClaimA) (b : Bool) (hb : cForm c = b) (w : World) : Calls Tryz.prog 167 #[c.val] w (Gives (.bool b) w) := by
 obtain ⟨n, hn⟩ : ∃ n, c.bases.length = n := ⟨_, rfl⟩
 obtain ⟨m, hm⟩ : ∃ m, c.images.length = m := ⟨_, rfl⟩
 have hbv : b = (decide (n = 0) || decide (n ≠ m)) := by rw [← hb, ← hn, ← hm]; rfl
 unfold ClaimA.val Gives
 rw [hn, hm]
 clear hn hm hb
 by_cases h1 : n = 0
 ·have hd : ((n : Int) == 0) = true := by simp; omega
  obtain rfl : b = true := by rw [hbv]; simp [h1]
  clear hbv h1
  go_enter Tryz.func167, Tryz.ntmps167
  go_wp2_with fail
  obtain ⟨w1, hq1, hb9, hz9, Hbc⟩ := new1 w 50 [.slice c.ab n c.cb, .slice c.ai m c.ci]
  rw [hq1]
  clear hq1
  have HB := Lib.hid hb9
  have HZS := hz9
  clear hb9 hz9
  have bc_ := Hbc.out.c2
  go_wp2_with fail
  go_ret
  exact ⟨rfl, HB.out⟩
 ·have hd : ((n : Int) == 0) = false := by simp; omega
  by_cases h2 : n ≠ m
  ·have hd2 : ((n : Int) != (m : Int)) = true := by simp; omega
   obtain rfl : b = true := by rw [hbv]; simp [h2]
   clear hbv h1 h2
   go_enter Tryz.func167, Tryz.ntmps167
   go_wp2_with fail
   obtain ⟨w1, hq1, hb9, hz9, Hbc⟩ := new1 w 50 [.slice c.ab n c.cb, .slice c.ai m c.ci]
   rw [hq1]
   clear hq1
   have HB := Lib.hid hb9
   have HZS := hz9
   clear hb9 hz9
   have bc_ := Hbc.out.c2
   go_wp2_with fail
   go_ret
   exact ⟨rfl, HB.out⟩
  ·have hd2 : ((n : Int) != (m : Int)) = false := by simp; omega
   obtain rfl : b = false := by rw [hbv]; simp [h1]; omega
   clear hbv h1 h2
   go_enter Tryz.func167, Tryz.ntmps167
   go_wp2_with fail
   obtain ⟨w1, hq1, hb9, hz9, Hbc⟩ := new1 w 50 [.slice c.ab n c.cb, .slice c.ai m c.ci]
   rw [hq1]
   clear hq1
   have HB := Lib.hid hb9
   have HZS := hz9
   clear hb9 hz9
   have bc_ := Hbc.out.c2
   go_wp2_with fail
   go_ret
   exact ⟨rfl, HB.out⟩
theorem idxLong (l : List ClaimA) (al : Option Addr) (cl : Nat) (b : Bool) (hb : l.any cLong = b) (hl : l.length ≤ 64) (w : World) (hS : Sl w w.heap.size al (l.flatMap ClaimA.cells)) :
  Calls Tryz.prog 179 #[.slice al l.length cl, .func (.func 166) #[] #[]] w fun e w' => ∃ z : Int, e = .returned (.int .i64 z) ∧ decide (z ≥ 0) = b ∧ Below w.heap.size w w' := by
 have HS := Lib.hid hS
 have HBQ := Lib.hid hb
 clear hS hb
 go_enter Tryz.func179, Tryz.ntmps179
 go_wp2_with fail
 go_loopw [8] (fun i wr => ∃ j : Nat, j ≤ l.length ∧ i = .int .i64 j ∧ Hid (Below w.heap.size w wr) ∧ Hid ((l.take j).any cLong = false)) (fun i _ => l.length - (intOf i).toNat)
 case atStart => exact ⟨0, Nat.zero_le _, rfl, Below.refl _ _, rfl⟩
 case round =>
  obtain ⟨j, hj, rfl, HB, HAL⟩ := hrel
  by_cases hjl : j < l.length
  ·skip
   obtain ⟨bl, ol, rfl, hbl, hc⟩ := (HS.out.up HB.out).elem ClaimA.cells_len (by omega) j hjl
   have hc_0 := hc 0 _ rfl
   rw [Nat.add_zero] at hc_0
   have hc_1 := hc 1 _ rfl
   clear hc
   obtain ⟨bj, hbj⟩ : ∃ x, cLong l[j] = x := ⟨_, rfl⟩
   have HBJ := Lib.hid hbj
   clear hbj
   go_wp2_with fail
   refine (shape1_any l[j] bj HBJ.out wr).mono ?_
   rintro e w1 ⟨rfl, hb9⟩
   replace HB := hbu HB hb9
   have HZS := Lib.hid hb9.size
   clear hb9
   cases bj
   ·go_wp2_with fail
    go_roundw
    case rel => exact ⟨j + 1, by omega, by go_num, HB, any_snoc hjl HAL.out HBJ.out⟩
    case measure => simp [intOf]; omega
   ·go_wp2_with fail
    go_ret
    exact ⟨j, rfl, by rw [← HBQ.out, any_take_true hjl HBJ.out]; simp, HB.out⟩
  ·have hjn : j = l.length := by omega
   subst hjn
   go_wp2_with fail
   go_ret
   rw [List.take_length] at HAL
   exact ⟨-1, rfl, by rw [← HBQ.out, HAL.out]; rfl, HB.out⟩
theorem conLong (l : List ClaimA) (al : Option Addr) (cl : Nat) (b : Bool) (hb : l.any cLong = b) (hl : l.length ≤ 64) (w : World) (hS : Sl w w.heap.size al (l.flatMap ClaimA.cells)) :
  Calls Tryz.prog 165 #[.slice al l.length cl, .func (.func 166) #[] #[]] w (Gives (.bool b) w) := by
 have HS := Lib.hid hS
 have HBQ := Lib.hid hb
 clear hS hb
 unfold Gives
 go_enter Tryz.func165, Tryz.ntmps165
 go_wp2_with fail
 refine (idxLong l al cl b HBQ.out hl w HS.out).mono ?_
 rintro e w1 ⟨z, rfl, hz, hb9⟩
 have HB := Lib.hid hb9
 have HZS := Lib.hid hb9.size
 clear hb9
 go_wp2_with fail
 go_ret
 exact ⟨rfl, HB.out⟩
theorem idxForm (l : List ClaimA) (al : Option Addr) (cl : Nat) (b : Bool) (hb : l.any cForm = b) (hl : l.length ≤ 64) (w : World) (hS : Sl w w.heap.size al (l.flatMap ClaimA.cells)) :
  Calls Tryz.prog 179 #[.slice al l.length cl, .func (.func 167) #[] #[]] w fun e w' => ∃ z : Int, e = .returned (.int .i64 z) ∧ decide (z ≥ 0) = b ∧ Below w.heap.size w w' := by
 have HS := Lib.hid hS
 have HBQ := Lib.hid hb
 clear hS hb
 go_enter Tryz.func179, Tryz.ntmps179
 go_wp2_with fail
 go_loopw [8] (fun i wr => ∃ j : Nat, j ≤ l.length ∧ i = .int .i64 j ∧ Hid (Below w.heap.size w wr) ∧ Hid ((l.take j).any cForm = false)) (fun i _ => l.length - (intOf i).toNat)
 case atStart => exact ⟨0, Nat.zero_le _, rfl, Below.refl _ _, rfl⟩
 case round =>
  obtain ⟨j, hj, rfl, HB, HAL⟩ := hrel
  by_cases hjl : j < l.length
  ·skip
   obtain ⟨bl, ol, rfl, hbl, hc⟩ := (HS.out.up HB.out).elem ClaimA.cells_len (by omega) j hjl
   have hc_0 := hc 0 _ rfl
   rw [Nat.add_zero] at hc_0
   have hc_1 := hc 1 _ rfl
   clear hc
   obtain ⟨bj, hbj⟩ : ∃ x, cForm l[j] = x := ⟨_, rfl⟩
   have HBJ := Lib.hid hbj
   clear hbj
   go_wp2_with fail
   refine (shape2_any l[j] bj HBJ.out wr).mono ?_
   rintro e w1 ⟨rfl, hb9⟩
   replace HB := hbu HB hb9
   have HZS := Lib.hid hb9.size
   clear hb9
   cases bj
   ·go_wp2_with fail
    go_roundw
    case rel => exact ⟨j + 1, by omega, by go_num, HB, any_snoc hjl HAL.out HBJ.out⟩
    case measure => simp [intOf]; omega
   ·go_wp2_with fail
    go_ret
    exact ⟨j, rfl, by rw [← HBQ.out, any_take_true hjl HBJ.out]; simp, HB.out⟩
  ·have hjn : j = l.length := by omega
   subst hjn
   go_wp2_with fail
   go_ret
   rw [List.take_length] at HAL
   exact ⟨-1, rfl, by rw [← HBQ.out, HAL.out]; rfl, HB.out⟩
theorem conForm (l : List ClaimA) (al : Option Addr) (cl : Nat) (b : Bool) (hb : l.any cForm = b) (hl : l.length ≤ 64) (w : World) (hS : Sl w w.heap.size al (l.flatMap ClaimA.cells)) :
  Calls Tryz.prog 165 #[.slice al l.length cl, .func (.func 167) #[] #[]] w (Gives (.bool b) w) := by
 have HS := Lib.hid hS
 have HBQ := Lib.hid hb
 clear hS hb
 unfold Gives
 go_enter Tryz.func165, Tryz.ntmps165
 go_wp2_with fail
 refine (idxForm l al cl b HBQ.out hl w HS.out).mono ?_
 rintro e w1 ⟨z, rfl, hz, hb9⟩
 have HB := Lib.hid hb9
 have HZS := Lib.hid hb9.size
 clear hb9
 go_wp2_with fail
 go_ret
 exact ⟨rfl, HB.out⟩
theorem shape_any (l : List ClaimA) (al : Option Addr) (cl : Nat) (w : World) (hS : Sl w w.heap.size al (l.flatMap ClaimA.cells)) :
  Calls Tryz.prog 142 #[.slice al l.length cl] w (Gives (.int .i64 (shapeE l : Int)) w) := by
 have HS := Lib.hid hS
 clear hS
 obtain ⟨z, hz⟩ : ∃ z, shapeE l = z := ⟨_, rfl⟩
 obtain ⟨b1, hb1⟩ : ∃ b, l.any cLong = b := ⟨_, rfl⟩
 obtain ⟨b2, hb2⟩ : ∃ b, l.any cForm = b := ⟨_, rfl⟩
 have HB1 := Lib.hid hb1
 have HB2 := Lib.hid hb2
 have hzz : z = if (decide (64 < l.length) || b1) = true then 3 else if (decide (l.length = 0) || b2) = true then 2 else 0 := by rw [← hz, ← hb1, ← hb2]; rfl
 rw [hz]
 clear hz hb1 hb2
 unfold Gives
 by_cases h1 : 64 < l.length
 ·have hd : decide ((l.length : Int) > 64) = true := by simp; omega
  obtain rfl : z = 3 := by rw [hzz]; simp [h1]
  clear hzz h1
  go_enter Tryz.func142, Tryz.ntmps142
  go_wp2_with fail
  go_ret
  exact ⟨rfl, Below.refl _ _⟩
 have hd : decide ((l.length : Int) > 64) = false := by simp; omega
 cases b1
 case true =>
  obtain rfl : z = 3 := by rw [hzz]; simp
  clear hzz
  go_enter Tryz.func142, Tryz.ntmps142
  go_wp2_with fail
  refine (conLong l al cl true HB1.out (by omega) w HS.out).mono ?_
  rintro e w1 ⟨rfl, hb9⟩
  have HB := Lib.hid hb9
  have HZS := Lib.hid hb9.size
  clear hb9
  go_wp2_with fail
  go_ret
  exact ⟨rfl, HB.out⟩
 by_cases h2 : l.length = 0
 ·have hd2 : ((l.length : Int) == 0) = true := by rw [beq_iff_eq]; omega
  obtain rfl : z = 2 := by rw [hzz]; simp [h2]
  clear hzz h2
  go_enter Tryz.func142, Tryz.ntmps142
  go_wp2_with fail
  refine (conLong l al cl false HB1.out (by omega) w HS.out).mono ?_
  rintro e w1 ⟨rfl, hb9⟩
  have HB := Lib.hid hb9
  have HZS := Lib.hid hb9.size
  clear hb9
  go_wp2_with fail
  go_ret
  exact ⟨rfl, HB.out⟩
 have hd2 : ((l.length : Int) == 0) = false := by rw [beq_eq_false_iff_ne]; omega
 cases b2
 case true =>
  obtain rfl : z = 2 := by rw [hzz]; simp [h1, h2]
  clear hzz h2
  go_enter Tryz.func142, Tryz.ntmps142
  go_wp2_with fail
  refine (conLong l al cl false HB1.out (by omega) w HS.out).mono ?_
  rintro e w1 ⟨rfl, hb9⟩
  have HB := Lib.hid hb9
  have HZS := Lib.hid hb9.size
  clear hb9
  go_wp2_with fail
  refine (conForm l al cl true HB2.out (by omega) w1 (HS.out.up HB.out)).mono ?_
  rintro e w2 ⟨rfl, hb9⟩
  replace HB := hbu HB hb9
  replace HZS := sz HZS hb9.size
  clear hb9
  go_wp2_with fail
  go_ret
  exact ⟨rfl, HB.out⟩
 case false =>
  obtain rfl : z = 0 := by rw [hzz]; simp [h1, h2]
  clear hzz h2
  go_enter Tryz.func142, Tryz.ntmps142
  go_wp2_with fail
  refine (conLong l al cl false HB1.out (by omega) w HS.out).mono ?_
  rintro e w1 ⟨rfl, hb9⟩
  have HB := Lib.hid hb9
  have HZS := Lib.hid hb9.size
  clear hb9
  go_wp2_with fail
  refine (conForm l al cl false HB2.out (by omega) w1 (HS.out.up HB.out)).mono ?_
  rintro e w2 ⟨rfl, hb9⟩
  replace HB := hbu HB hb9
  replace HZS := sz HZS hb9.size
  clear hb9
  go_wp2_with fail
  go_ret
  exact ⟨rfl, HB.out⟩
end Go.Proofs.YtdlnnkbigeiilaaGreat
namespace Go.Proofs.YtdlnnkbigeiilaaGreat
open Go.RowKit
structure ClaimR where
 k : ClaimA
 pb : Nat
 po : Nat
 bb : Nat
 bo : Nat
 bc : Nat
 ib : Nat
 io : Nat
 ic : Nat
def ClaimR.cells (r : ClaimR) : List Value := [.pointer (some ⟨r.pb, r.po, none⟩), .slice (some ⟨r.bb, r.bo, none⟩) r.k.bases.length r.bc, .slice (some ⟨r.ib, r.io, none⟩) r.k.images.length r.ic]
theorem ClaimR.cells_len (r : ClaimR) : r.cells.length = 3 := rfl
structure ClaimR.At (G : GP) (w : World) (r : ClaimR) : Prop where
 b : Sl w w.heap.size (some ⟨r.bb, r.bo, none⟩) (r.k.bases.flatMap (limC G.p.m))
 i : Sl w w.heap.size (some ⟨r.ib, r.io, none⟩) (r.k.images.flatMap (limC G.p.m))
 bl : r.bb < w.heap.size
 il : r.ib < w.heap.size
structure ClaimR.Src (w : World) (r : ClaimR) : Prop where
 c : ∀ j v, r.k.cells[j]? = some v → w.cell? ⟨r.pb, r.po + j, none⟩ = some v
 l : r.pb < w.heap.size
 k : ClaimA.At w r.k
theorem ClaimR.At.up {G : GP} {w w' : World} {r : ClaimR} (h : r.At G w) (hb : Below w.heap.size w w') : r.At G w' := ⟨h.b.up hb, h.i.up hb, Nat.lt_of_lt_of_le h.bl hb.size, Nat.lt_of_lt_of_le h.il hb.size⟩
theorem ClaimR.At.keptP {G : GP} {P : Nat → Prop} {w w' : World} {r : ClaimR} (h : r.At G w) (hk : Kept P w w') (h1 : ¬ P r.bb) (h2 : ¬ P r.ib) : r.At G w' :=
 ⟨h.b.kept hk (fun x e => by cases e; exact h1), h.i.kept hk (fun x e => by cases e; exact h2), Nat.lt_of_lt_of_le h.bl hk.size, Nat.lt_of_lt_of_le h.il hk.size⟩
theorem ClaimR.Src.up {w w' : World} {r : ClaimR} (h : r.Src w) (hb : Below w.heap.size w w') : r.Src w' :=
 ⟨fun j v hv => by rw [hb.cell (p := ⟨r.pb, r.po + j, none⟩) h.l]; exact h.c j v hv, Nat.lt_of_lt_of_le h.l hb.size, h.k.up hb⟩
structure SetAt (G : GP) (w : World) (a : Option Addr) (rs : List ClaimR) : Prop where
 s : Sl w w.heap.size a (rs.flatMap ClaimR.cells)
 e : ∀ r ∈ rs, r.At G w
theorem SetAt.up {G : GP} {w w' : World} {a : Option Addr} {rs : List ClaimR} (h : SetAt G w a rs) (hb : Below w.heap.size w w') : SetAt G w' a rs := ⟨h.s.up hb, fun r hr => (h.e r hr).up hb⟩
def RsP (bl ol : Nat) (rs : List ClaimR) : Prop := ∀ i (h : i < rs.length), rs[i].pb = bl ∧ rs[i].po = ol + i * 2
structure SetNew (n : Nat) (a : Option Addr) (rs : List ClaimR) : Prop where
 a : ∀ x, a = some x → n ≤ x.block
 e : ∀ r ∈ rs, n ≤ r.bb ∧ n ≤ r.ib
theorem SetNew.mono {n m : Nat} {a : Option Addr} {rs : List ClaimR} (h : SetNew n a rs) (hm : m ≤ n) : SetNew m a rs := ⟨fun x hx => Nat.le_trans hm (h.a x hx), fun r hr => ⟨Nat.le_trans hm (h.e r hr).1, Nat.le_trans hm (h.e r hr).2⟩⟩
theorem SetAt.keptP {G : GP} {P : Nat → Prop} {n : Nat} {w w' : World} {a : Option Addr} {rs : List ClaimR} (h : SetAt G w a rs) (hk : Kept P w w') (hn : SetNew n a rs) (hp : ∀ q, P q → q < n) : SetAt G w' a rs :=
 ⟨h.s.kept hk (fun x hx e => by have := hn.a x hx; have := hp _ e; omega), fun r hr => (h.e r hr).keptP hk (fun e => by have := (hn.e r hr).1; have := hp _ e; omega) (fun e => by have := (hn.e r hr).2; have := hp _ e; omega)⟩
def set0 : Value := .agg #[.pointer none, .slice none 0 0]
def ReadSet (G : GP) (gb : Nat) (al : Option Addr) (l : List ClaimA) (w : World) (e : Ending) (w' : World) : Prop :=
 Below w.heap.size w w' ∧ if wrongE G l = 0 then ∃ rs a c, e = .returned (.tuple #[.agg #[.pointer (some ⟨gb, 0, none⟩), .slice a rs.length c], .int .i64 0]) ∧ rs.map ClaimR.k = l ∧ SetAt G w' a rs ∧ SetNew w.heap.size a rs ∧ (∃ bl ol, al = some ⟨bl, ol, none⟩ ∧ RsP bl ol rs) else e = .returned (.tuple #[set0, .int .i64 (wrongE G l : Int)])
theorem infoClaim : (Tryz.prog.info? 154).map (fun i => (i.zero, i.size, i.bytes)) = some (some (.agg #[.pointer none, .slice none 0 0, .slice none 0 0]), 3, 56) := by kernel_rfl
theorem cElems_eq (G : GP) (c : ClaimA) {b1 b2 : Bool} (h1 : c.bases.all (isEl G.q.m G.size) = b1) (h2 : c.images.all (isEl G.q.m G.size) = b2) : cElems G c = (b1 && b2) := by unfold cElems; rw [h1, h2]
theorem RowO.own_le {N n c k size : Nat} {w : World} {e : TypeId} {a : Option Addr} {xs : List Value} {x : Addr} (h : RowO N w e size (.slice a k c) n xs) (hx : a = some x) : N ≤ x.block := by
 rcases h.2 with ⟨hv, _⟩ | ⟨g, cap, cur, hv, hN, _⟩
 ·simp only [Value.slice.injEq] at hv
  rw [hv.1] at hx
  cases hx
 ·simp only [Value.slice.injEq] at hv
  rw [hv.1] at hx
  cases hx
  exact hN
def RsOk (G : GP) (w : World) (v : Value) (B : Nat) (rs : List ClaimR) : Prop := ∀ r ∈ rs, r.At G w ∧ v.ownBlock ≠ some r.bb ∧ v.ownBlock ≠ some r.ib ∧ B ≤ r.bb ∧ B ≤ r.ib
theorem RsOk.snoc {G : GP} {w0 wn w w' : World} {v : Value} {g n c B bs : Nat} {rs : List ClaimR} {r : ClaimR} (h : RsOk G w0 v B rs) (hk : Kept (fun q => q = bs ∨ v.ownBlock = some q) w0 w') (hB : bs < B)
  (hr : r.At G wn) (hk2 : Kept (fun q => q = bs ∨ v.ownBlock = some q) wn w') (h1 : B ≤ r.bb) (h2 : B ≤ r.ib) (h3 : v.ownBlock ≠ some r.bb) (h4 : v.ownBlock ≠ some r.ib)
  (hf : v.ownBlock = some g ∨ w.heap.size ≤ g) (hw0 : w0.heap.size ≤ w.heap.size) (hwn : wn.heap.size ≤ w.heap.size) : RsOk G w' (.slice (some ⟨g, 0, none⟩) n c) B (rs ++ [r]) := by
 have key : ∀ (x : World) (s : ClaimR), s.At G x → x.heap.size ≤ w.heap.size → Kept (fun q => q = bs ∨ v.ownBlock = some q) x w' → v.ownBlock ≠ some s.bb → v.ownBlock ≠ some s.ib → B ≤ s.bb → B ≤ s.ib → s.At G w' ∧ (Value.slice (some ⟨g, 0, none⟩) n c).ownBlock ≠ some s.bb ∧ (Value.slice (some ⟨g, 0, none⟩) n c).ownBlock ≠ some s.ib ∧ B ≤ s.bb ∧ B ≤ s.ib := by
  intro x s a1 a2 a3 a4 a5 a6 a7
  refine ⟨a1.keptP a3 (fun e => e.elim (fun e => by omega) (fun e => a4 e)) (fun e => e.elim (fun e => by omega) (fun e => a5 e)), fun e => ?_, fun e => ?_, a6, a7⟩
  ·have e : g = s.bb := Option.some.inj e
   rcases hf with hf | hf
   ·exact a4 (by rw [hf, e])
   ·have := a1.bl; omega
  ·have e : g = s.ib := Option.some.inj e
   rcases hf with hf | hf
   ·exact a5 (by rw [hf, e])
   ·have := a1.il; omega
 intro s hs
 rcases List.mem_append.1 hs with hs | hs
 ·obtain ⟨b1, b2, b3, b4, b5⟩ := h s hs
  exact key w0 s b1 hw0 hk b2 b3 b4 b5
 ·obtain rfl := List.mem_singleton.1 hs
  exact key wn s hr hwn hk2 h3 h4 h1 h2
theorem RsP.snoc {bl ol j : Nat} {rs : List ClaimR} {r : ClaimR} (h : RsP bl ol rs) (hl : rs.length = j) (h1 : r.pb = bl) (h2 : r.po = ol + j * 2) : RsP bl ol (rs ++ [r]) := by
 intro i hi
 by_cases h9 : i < rs.length
 ·rw [List.getElem_append_left h9]; exact h i h9
 ·have : i = rs.length := by simp at hi; omega
  subst this
  rw [List.getElem_append_right (Nat.le_refl _)]
  simp only [Nat.sub_self, List.getElem_singleton]
  exact ⟨h1, by rw [h2, hl]⟩
theorem src_all {rs : List ClaimR} {l : List ClaimA} {bl ol : Nat} {w : World} (hk : rs.map ClaimR.k = l) (hp : RsP bl ol rs) (hC : ClaimsAt w (some ⟨bl, ol, none⟩) l) : ∀ r ∈ rs, r.Src w := by
 subst hk
 intro r hr
 obtain ⟨i, hi, rfl⟩ := List.getElem_of_mem hr
 obtain ⟨h1, h2⟩ := hp i hi
 obtain ⟨h3, h4⟩ := hC.s.elemS ClaimA.cells_len (by omega) i (by simpa using hi)
 rw [List.getElem_map] at h4
 exact ⟨fun j v hv => by rw [h1, h2]; exact h4 j v hv, by rw [h1]; exact h3, hC.e _ (List.mem_map.2 ⟨_, List.getElem_mem hi, rfl⟩)⟩
theorem wrong_elems {G : GP} {l : List ClaimA} (hz : shapeE l = 0) : (l.all (cElems G) = true → wrongE G l = 0) ∧ (l.all (cElems G) = false → wrongE G l = 7) := by
 unfold wrongE
 rw [if_neg (by rw [hz]; decide)]
 exact ⟨fun h => if_pos h, fun h => if_neg (by rw [h]; decide)⟩
theorem read_shape (gb : Nat) (l : List ClaimA) (z : Nat) (hz : shapeE l = z) (h0 : z ≠ 0) (al : Option Addr) (cl : Nat) (w : World) (hS : Sl w w.heap.size al (l.flatMap ClaimA.cells)) :
  Calls Tryz.prog 92 #[.pointer (some ⟨gb, 0, none⟩), .slice al l.length cl] w (Gives (.tuple #[set0, .int .i64 (z : Int)]) w) := by
 have hsh := shape_any l al cl w hS
 rw [hz] at hsh
 have hb : ∀ w1, Below w.heap.size w w1 → Calls Tryz.prog 142 #[.slice al l.length cl] w1 (Gives (.int .i64 (z : Int)) w1) := fun w1 h1 => by
  have h2 := shape_any l al cl w1 (hS.up h1)
  rwa [hz] at h2
 have HSH := Lib.hid hb
 have hd : ((z : Int) != 0) = true := by simp; omega
 clear hb hsh hz hS h0
 unfold Gives set0
 go_enter Tryz.func92, Tryz.ntmps92
 go_wp2_with fail
 obtain ⟨w1, hq1, hb9, hz9, Hbr⟩ := new1 w 64 [.pointer none, .slice none 0 0]
 rw [hq1]
 clear hq1
 have HB := Lib.hid hb9
 have HZS := hz9
 clear hb9 hz9
 have br_ := Hbr.out.c2
 go_wp2_with fail
 refine (HSH.out _ HB.out).mono ?_
 rintro e w2 ⟨rfl, hb9⟩
 clear br_
 replace Hbr := Lib.hid (Hbr.out.up hb9)
 replace HB := hbu HB hb9
 replace HZS := sz HZS hb9.size
 clear hb9
 have br_ := Hbr.out.c2
 have f3_br := Hbr.out.frozen
 have o3_br_ := br_; clear br_
 obtain ⟨w3, hq3, hg9, hz9, hx9⟩ := put2 Hbr 0 (.pointer none) 1 (.slice none 0 0) [.pointer none, .slice none 0 0] rfl
 replace HB := hbg HB hg9 (by have g0 := HZS.out; omega)
 replace HZS := sz HZS hz9.out
 replace Hbr := hx9
 clear hx9 hg9 hz9
 have br_ := Hbr.out.c2
 go_wp2_with fail
 clear hq3 o3_br_ f3_br
 simp [bodyPost, results, Tryz.results92, go_sem, br_]
 exact HB.out
theorem read_body (G : GP) (ok : G.Ok) (gb : Nat) (l : List ClaimA) (hz : shapeE l = 0) (bl ol cl : Nat) (w : World) (hG : GroupAt w gb G) (hC : ClaimsAt w (some ⟨bl, ol, none⟩) l) :
  Calls Tryz.prog 92 #[.pointer (some ⟨gb, 0, none⟩), .slice (some ⟨bl, ol, none⟩) l.length cl] w (ReadSet G gb (some ⟨bl, ol, none⟩) l w) := by
 have hb : ∀ w1, Below w.heap.size w w1 → Calls Tryz.prog 142 #[.slice (some ⟨bl, ol, none⟩) l.length cl] w1 (Gives (.int .i64 0) w1) := fun w1 h1 => by
  have h2 := shape_any l _ cl w1 (hC.s.up h1)
  rwa [hz] at h2
 have HSH := Lib.hid hb
 obtain ⟨hl0, hl64, hlc⟩ := shape_ok hz
 have HZ := Lib.hid hz
 have HLC := Lib.hid hlc
 have HC := Lib.hid hC
 have HG := Lib.hid hG
 have OK := Lib.hid ok
 have HGB := Lib.hid hG.lt
 have HBLK := Lib.hid (hC.s.elemS ClaimA.cells_len (by omega) 0 hl0).1
 clear hb hz hlc hC hG ok
 go_enter Tryz.func92, Tryz.ntmps92
 go_wp2_with fail
 have HZS := HGB
 replace HZS := sz HZS HBLK.out
 obtain ⟨w1, hq1, hb9, hz9, Hbr⟩ := new1 w 64 [.pointer none, .slice none 0 0]
 rw [hq1]
 clear hq1
 replace HG := Lib.hid (HG.out.up hb9)
 have HB := Lib.hid hb9
 replace HZS := sz HZS hz9.out
 clear hb9 hz9
 have br_ := Hbr.out.c2
 go_wp2_with fail
 refine (HSH.out _ HB.out).mono ?_
 rintro e w2 ⟨rfl, hb9⟩
 clear br_
 replace Hbr := Lib.hid (Hbr.out.up hb9)
 replace HG := Lib.hid (HG.out.up hb9)
 replace HB := hbu HB hb9
 replace HZS := sz HZS hb9.size
 clear hb9
 have br_ := Hbr.out.c2
 have o3_br_ := br_; clear br_
 obtain ⟨w3, hq3, hb9, hz9, Hbs⟩ := new1 w2 64 [.pointer (some ⟨gb, 0, none⟩), .slice none 0 0]
 replace Hbr := Lib.hid (Hbr.out.up hb9)
 replace HG := Lib.hid (HG.out.up hb9)
 replace HB := hbu HB hb9
 replace HZS := sz HZS hz9.out
 clear hb9 hz9
 have br_ := Hbr.out.c2
 have bs_ := Hbs.out.c2
 have f4_bs := Hbs.out.frozen
 have o4_br_ := br_; clear br_
 have o4_bs_ := bs_; clear bs_
 obtain ⟨w4, hq4, hg9, hz9, hx9⟩ := put1 Hbs 1 (.slice none 0 0) [.pointer (some ⟨gb, 0, none⟩), .slice none 0 0] rfl
 replace Hbr := Lib.hid (Hbr.out.grown hg9.out (sne (by have g0 := HZS.out; omega)))
 replace HG := Lib.hid (HG.out.grown hg9.out (sne (by have g0 := HZS.out; omega)))
 replace HB := hbg HB hg9 (by have g0 := HZS.out; omega)
 replace HZS := sz HZS hz9.out
 replace Hbs := hx9
 clear hx9 hg9 hz9
 have br_ := Hbr.out.c2
 have bs_ := Hbs.out.c2
 have HK := Lib.hid (Kept.refl (fun q9 => q9 = w2.heap.size) w4)
 go_wp2_with fail
 clear hq4 o4_bs_ o4_br_ f4_bs hq3 o3_br_
 go_loopw [23] (fun i wr => ∃ (j : Nat) (rs : List ClaimR) (g : Option Addr) (c9 : Nat), j ≤ l.length ∧ i = .int .i64 j ∧ Hid (rs.length = j) ∧ Hid (rs.map ClaimR.k = l.take j) ∧ Hid (Kept (fun q => q = w2.heap.size) w4 wr) ∧ Hid (Bx wr w2.heap.size 64 [.pointer (some ⟨gb, 0, none⟩), .slice g j c9]) ∧ Hid (RowO w4.heap.size wr 154 3 (.slice g j c9) j (rs.flatMap ClaimR.cells)) ∧ Hid (RsOk G wr (.slice g j c9) w4.heap.size rs) ∧ Hid (RsP bl ol rs) ∧ Hid ((l.take j).all (cElems G) = true)) (fun i _ => l.length - (intOf i).toNat)
 case atStart => exact ⟨0, [], none, 0, Nat.zero_le _, rfl, rfl, rfl, HK, Hbs, RowO.nil, Lib.hid (show RsOk G _ _ _ [] from fun _ h => absurd h (by simp)), Lib.hid (show RsP bl ol [] from fun _ h => absurd h (by simp)), rfl⟩
 case round =>
  obtain ⟨j, rs, g, c9, hj, rfl, HRL, HRK, HK, Hbs9, Hr, HRS, HRP, HAL⟩ := hrel
  have hg9 := HK.out
  clear br_ bs_ Hbs
  replace Hbr := Lib.hid (Hbr.out.keptP hg9 (show ¬ (_ = w2.heap.size) by have g0 := HZS.out; omega))
  replace HG := Lib.hid (HG.out.keptP hg9 (show ¬ (_ = w2.heap.size) by have g0 := HZS.out; omega))
  replace HB := Lib.hid (Below.keptP HB.out hg9 (by have g0 := HZS.out; omega) (fun q9 h9 => (show w.heap.size ≤ _ by subst h9; have g0 := HZS.out; omega)))
  replace HZS := sz HZS (show w4.heap.size ≤ wr.heap.size from hg9.size)
  clear hg9
  have br_ := Hbr.out.c2
  have Hbs := Hbs9
  clear Hbs9
  have bs_ := Hbs.out.c2
  by_cases hjl : j < l.length
  ·have HCC := Lib.hid (fun W (hb : Below w.heap.size w W) => ((HC.out.s.up hb).elemS ClaimA.cells_len (by omega) j hjl).2)
   have HKA := Lib.hid (HC.out.one j hjl)
   have HSHP := Lib.hid (HLC.out l[j] (List.getElem_mem hjl))
   have HTK := Lib.hid (List.take_succ_eq_append_getElem hjl)
   have HALS := Lib.hid (fun h => all_snoc (f := cElems G) hjl HAL.out h)
   have HALN := Lib.hid (fun h => all_not (f := cElems G) hjl h)
   generalize l[j] = c at *
   obtain ⟨b1, hb1⟩ : ∃ b, c.bases.all (isEl G.q.m G.size) = b := ⟨_, rfl⟩
   obtain ⟨b2, hb2⟩ : ∃ b, c.images.all (isEl G.q.m G.size) = b := ⟨_, rfl⟩
   have HB1 := Lib.hid hb1
   have HB2 := Lib.hid hb2
   have HCE := Lib.hid (cElems_eq G c hb1 hb2)
   clear hb1 hb2
   have hn8 := HSHP.out.2.1
   have hni := HSHP.out.2.2
   have HNI := Lib.hid hni
   clear hni
   have HRLT := Lib.hid (fun q (e : (Value.slice g j c9).ownBlock = some q) => (Hr.out.lt q e).2)
   have HSB := Lib.hid (show w2.heap.size < w4.heap.size from (by have a1 := HZS.out; have a2 := HZS.out; omega))
   have HK2 := Lib.hid (Kept.refl (fun q9 => q9 = w2.heap.size ∨ Value.ownBlock (.slice g j c9) = some q9) wr)
   have hc := HCC.out _ HB.out
   have hc_0 := hc 0 _ rfl
   rw [Nat.add_zero] at hc_0
   have hc_1 := hc 1 _ rfl
   clear hc
   go_wp2_with fail
   clear hc_0 hc_1
   refine (allEl_v G OK.out gb c.bases b1 HB1.out c.bases.length rfl c.ab c.cb (by omega) wr HG.out (HKA.out.b.up HB.out)).mono ?_
   rintro e w5 ⟨vx, rfl, hb9, hx9⟩
   clear br_
   replace Hbr := Lib.hid (Hbr.out.up hb9)
   clear bs_
   replace Hbs := Lib.hid (Hbs.out.up hb9)
   replace HG := Lib.hid (HG.out.up hb9)
   replace Hr := Lib.hid (Hr.out.up hb9)
   replace HK := Lib.hid (Kept.up HK.out hb9)
   replace HK2 := Lib.hid (Kept.up HK2.out hb9)
   replace HB := hbu HB hb9
   replace HZS := sz HZS hb9.size
   have HX := Lib.hid hx9
   clear hx9 hb9
   have br_ := Hbr.out.c2
   have bs_ := Hbs.out.c2
   have BR1 := Lib.hid (Below.refl w5.heap.size w5)
   have hc := HCC.out _ HB.out
   have hc_0 := hc 0 _ rfl
   rw [Nat.add_zero] at hc_0
   have hc_1 := hc 1 _ rfl
   clear hc
   go_wp2_with fail
   clear hc_0 hc_1
   refine (allEl_v G OK.out gb c.images b2 HB2.out c.images.length rfl c.ai c.ci (by rw [HNI.out]; omega) w5 HG.out (HKA.out.i.up HB.out)).mono ?_
   rintro e w6 ⟨vy, rfl, hb9, hy9⟩
   clear br_
   replace Hbr := Lib.hid (Hbr.out.up hb9)
   clear bs_
   replace Hbs := Lib.hid (Hbs.out.up hb9)
   replace HG := Lib.hid (HG.out.up hb9)
   replace Hr := Lib.hid (Hr.out.up hb9)
   replace BR1 := hbu BR1 hb9
   replace HK := Lib.hid (Kept.up HK.out hb9)
   replace HK2 := Lib.hid (Kept.up HK2.out hb9)
   replace HB := hbu HB hb9
   replace HZS := sz HZS hb9.size
   have HY := Lib.hid hy9
   clear hy9 hb9
   have br_ := Hbr.out.c2
   have bs_ := Hbs.out.c2
   have HK4 := Lib.hid (Kept.refl (fun q9 => q9 = w2.heap.size ∨ Value.ownBlock (.slice g j c9) = some q9) w6)
   obtain ⟨bb, hbb⟩ : ∃ b, (b1 && b2) = b := ⟨_, rfl⟩
   cases b1
   case false =>
    have hw7 := (wrong_elems (G := G) HZ.out).2 (HALN.out HCE.out)
    have f7_br := Hbr.out.frozen
    have o7_br_ := br_; clear br_
    have o7_bs_ := bs_; clear bs_
    obtain ⟨w7, hq7, hg9, hz9, hx9⟩ := put2 Hbr 0 (.pointer none) 1 (.slice none 0 0) [.pointer none, .slice none 0 0] rfl
    replace Hbs := Lib.hid (Hbs.out.grown hg9.out (sne (by have g0 := HZS.out; omega)))
    replace HG := Lib.hid (HG.out.grown hg9.out (sne (by have g0 := HZS.out; omega)))
    replace HB := hbg HB hg9 (by have g0 := HZS.out; omega)
    replace HZS := sz HZS hz9.out
    replace Hbr := hx9
    clear hx9 hg9 hz9
    have br_ := Hbr.out.c2
    have bs_ := Hbs.out.c2
    go_wp2_with fail
    clear hq7 o7_bs_ o7_br_ f7_br
    simp [bodyPost, results, Tryz.results92, go_sem, br_]
    exact ⟨HB.out, by rw [if_neg (by rw [hw7]; decide), hw7]; rfl⟩
   cases b2
   case false =>
    have hw7 := (wrong_elems (G := G) HZ.out).2 (HALN.out HCE.out)
    have f7_br := Hbr.out.frozen
    have o7_br_ := br_; clear br_
    have o7_bs_ := bs_; clear bs_
    obtain ⟨w7, hq7, hg9, hz9, hx9⟩ := put2 Hbr 0 (.pointer none) 1 (.slice none 0 0) [.pointer none, .slice none 0 0] rfl
    replace Hbs := Lib.hid (Hbs.out.grown hg9.out (sne (by have g0 := HZS.out; omega)))
    replace HG := Lib.hid (HG.out.grown hg9.out (sne (by have g0 := HZS.out; omega)))
    replace HB := hbg HB hg9 (by have g0 := HZS.out; omega)
    replace HZS := sz HZS hz9.out
    replace Hbr := hx9
    clear hx9 hg9 hz9
    have br_ := Hbr.out.c2
    have bs_ := Hbs.out.c2
    go_wp2_with fail
    clear hq7 o7_bs_ o7_br_ f7_br
    simp [bodyPost, results, Tryz.results92, go_sem, br_]
    exact ⟨HB.out, by rw [if_neg (by rw [hw7]; decide), hw7]; rfl⟩
   clear hbb bb
   obtain ⟨ax, cx, rfl, hsx, hfx⟩ := HX.out rfl
   obtain ⟨ay, cy, rfl, hsy, hfy⟩ := HY.out rfl
   obtain ⟨xb, xo, rfl, hxl⟩ := hsx.adr (flat_ne (limC_len _) (by omega) (List.length_pos_iff.1 HSHP.out.1))
   obtain ⟨yb, yo, rfl, hyl⟩ := hsy.adr (flat_ne (limC_len _) (by omega) (List.length_pos_iff.1 (by rw [HNI.out]; exact HSHP.out.1)))
   have HAN := Lib.hid (show ClaimR.At G w6 ⟨c, bl, ol + j * 2, xb, xo, cx, yb, yo, cy⟩ from ⟨hsx.up BR1.out, hsy, Nat.lt_of_lt_of_le hxl BR1.out.size, hyl⟩)
   have HFX := Lib.hid (hfx _ rfl)
   have HFY := Lib.hid (hfy _ rfl)
   clear hsx hsy hfx hfy hxl hyl HX HY
   go_wp2_with fail
   have HT := Lib.hid (show Below w6.heap.size w6 w6.drew from (Below.refl _ _).drew)
   have hl_br := Hbr.out.lt
   have hl_bs := Hbs.out.lt
   refine wp_region_treek (fun wq9 => ∃ E : But w6 (Value.ownBlock (.slice g j c9)), wq9 = E.w) 11 ((.qs [0] (.e 1 [] (.qs [2, 3, 4, 5, 6, 7] (.a 8 (.a 9 (.qs [10] (.a 11 .done)))))))) (by kernel_rfl) (by kernel_rfl) (fun _ _ d _ _ h => by cases d <;> exact h) ⟨⟨_, ((below_grown HT.out).but _)⟩, rfl⟩ ?_
   have hov_br := fun (E : But w6 (Value.ownBlock (.slice g j c9))) o => E.cell (b := w.heap.size) o hl_br (by intro e9; have a1 := Hr.out.lt _ e9; have g0 := HZS.out; omega)
   have hov_bs := fun (E : But w6 (Value.ownBlock (.slice g j c9))) o => E.cell (b := w2.heap.size) o hl_bs (by intro e9; have a1 := Hr.out.lt _ e9; have g0 := HZS.out; omega)
   simp only [TreeK.qs]
   repeat (first | (refine treek_q rfl rfl ?_; go_big_quiet_step (fail); refine wpQuiet_nil ?_) | (refine treek_e rfl rfl ?_; go_big_quiet_step (fail); refine wpQuiet_nil ?_))
   clear hov_br hl_br hov_bs hl_bs
   refine treek_a rfl (fun K hK => ?_)
   go_simp
   refine hK _ _ ⟨fun _ => ⟨⟨_, (below_grown (HT.out.alloc HT.out.size _)).but _⟩, rfl⟩, ?_⟩
   clear hK K
   obtain ⟨i9, hi9, hz90, hz91, hz92⟩ := info_parts infoClaim
   have HG1 := Lib.hid ((below_grown HT.out).but (Value.ownBlock (.slice g j c9)))
   clear br_
   replace Hbr := Lib.hid (Hbr.out.up HT.out)
   clear bs_
   replace Hbs := Lib.hid (Hbs.out.up HT.out)
   replace HG := Lib.hid (HG.out.up HT.out)
   replace Hr := Lib.hid (Hr.out.up HT.out)
   replace HK := Lib.hid (Kept.up HK.out HT.out)
   replace HK2 := Lib.hid (Kept.up HK2.out HT.out)
   replace HK4 := Lib.hid (Kept.up HK4.out HT.out)
   replace HB := hbu HB HT.out
   replace HZS := sz HZS HT.out.size
   refine treek_a rfl (fun K hK => ?_)
   refine step_pushF (w4.heap.size) w6.drew (by have g0 := HZS.out; omega) rfl _ _ 62 rfl 154 i9 _ 3 56 Tryz.underlying62 hi9 hz90 hz91 hz92 rfl (by omega) ((.slice g j c9)) (j) ((rs.flatMap ClaimR.cells)) rfl Hr.out _ _ _ rfl rfl rfl (by simp [Value.oneCell']) (by omega) (by unfold maxLen; omega) ?_
   intro g7 c7 w7 hown9 hg9 hf9
   have HF9 := Lib.hid hf9
   clear hf9
   have HGR := Lib.hid (HG1.out.trans hg9)
   have hb9 := Below.grown HB.out hg9 (by have g0 := HZS.out; omega) (fun q hq => Nat.le_trans (show w.heap.size ≤ w4.heap.size by have g0 := HZS.out; omega) (Hr.out.lt q hq).1)
   replace Hbr := Lib.hid (Hbr.out.grown hg9 (fun e9 => by have a1 := Hr.out.lt _ e9; have g0 := HZS.out; omega))
   replace Hbs := Lib.hid (Hbs.out.grown hg9 (fun e9 => by have a1 := Hr.out.lt _ e9; have g0 := HZS.out; omega))
   replace HG := Lib.hid (HG.out.grown hg9 (fun e9 => by have a1 := Hr.out.lt _ e9; have g0 := HZS.out; omega))
   replace HK := Lib.hid (Kept.grown HK.out hg9 (fun q hq => Or.inl (Nat.le_trans (show w4.heap.size ≤ w4.heap.size by have g0 := HZS.out; omega) (Hr.out.lt q hq).1)))
   replace HK2 := Lib.hid (Kept.grown HK2.out hg9 (fun q hq => Or.inr (Or.inr hq)))
   replace HK4 := Lib.hid (Kept.grown HK4.out hg9 (fun q hq => Or.inr (Or.inr hq)))
   replace HZS := sz HZS hg9.size
   clear Hr HB HT HG1
   have Hr := Lib.hid hown9
   have HB := Lib.hid hb9
   clear hb9 hown9 hg9 hi9 hz90 hz91 hz92
   refine hK _ _ ⟨fun _ => ⟨⟨w7, HGR.out⟩, rfl⟩, ?_⟩
   clear hK K HGR
   try simp only [Act.put, List.setIfInBounds_toArray, List.set_cons_succ, List.set_cons_zero]
   repeat (first | (refine treek_q rfl rfl ?_; go_big_quiet_step (fail); refine wpQuiet_nil ?_) | (refine treek_e rfl rfl ?_; go_big_quiet_step (fail); refine wpQuiet_nil ?_))
   replace HZS := sz HZS (Hr.out.lt g7 rfl).1
   have br_ := Hbr.out.c2
   have bs_ := Hbs.out.c2
   have f8_bs := Hbs.out.frozen
   have o8_br_ := br_; clear br_
   have o8_bs_ := bs_; clear bs_
   obtain ⟨w8, hq8, hg9, hz9, hx9⟩ := put1 Hbs 1 (.slice (some ⟨g7, 0, none⟩) ((j + 1)) c7) [.pointer (some ⟨gb, 0, none⟩), .slice (some ⟨g7, 0, none⟩) ((j + 1)) c7] rfl
   replace Hbr := Lib.hid (Hbr.out.grown hg9.out (sne (by have g0 := HZS.out; omega)))
   replace HG := Lib.hid (HG.out.grown hg9.out (sne (by have g0 := HZS.out; omega)))
   replace Hr := Lib.hid (RowO.grown Hr.out hg9.out (fun q9 e8 e9 => by have a1 := Hr.out.lt _ e8; have a0 := Option.some.inj e9; have g0 := HZS.out; omega))
   replace HK := Lib.hid (Kept.grown HK.out hg9.out (fun q9 e9 => by obtain rfl := Option.some.inj e9; exact Or.inr (rfl)))
   replace HK2 := Lib.hid (Kept.grown HK2.out hg9.out (fun q9 e9 => by obtain rfl := Option.some.inj e9; exact Or.inr (Or.inl rfl)))
   replace HK4 := Lib.hid (Kept.grown HK4.out hg9.out (fun q9 e9 => by obtain rfl := Option.some.inj e9; exact Or.inr (Or.inl rfl)))
   replace HB := hbg HB hg9 (by have g0 := HZS.out; omega)
   replace HZS := sz HZS hz9.out
   replace Hbs := hx9
   clear hx9 hg9 hz9
   have br_ := Hbr.out.c2
   have bs_ := Hbs.out.c2
   refine treek_a rfl (fun K hK => ?_)
   go_simp
   try rw [hq8]
   refine hK _ _ ⟨fun h9 => absurd rfl h9, ?_⟩
   clear hK K hq8 o8_bs_ o8_br_ f8_bs
   refine treek_end ?_
   go_wp2_with fail
   go_roundw
   case rel => exact ⟨j + 1, rs ++ [⟨c, bl, ol + j * 2, xb, xo, cx, yb, yo, cy⟩], _, _, by omega, by go_num, Lib.hid (by rw [List.length_append, HRL.out]; rfl), Lib.hid (by rw [List.map_append, HRK.out, HTK.out]; rfl), HK, Hbs, Hr.out.eq (by simp [ClaimR.cells]) rfl, Lib.hid (HRS.out.snoc HK2.out HSB.out HAN.out HK4.out (show _ ≤ xb by have a1 := HZS.out; have a2 := HFX.out; omega) (show _ ≤ yb by have a1 := HZS.out; have a2 := HZS.out; have a3 := HFY.out; omega) (fun e => by have a1 := HRLT.out xb e; have a2 := HFX.out; omega) (fun e => by have a1 := HRLT.out yb e; have a2 := HZS.out; have a3 := HFY.out; omega) HF9.out (by have a1 := HZS.out; have a2 := HZS.out; have a3 := HZS.out; omega) (by have a1 := HZS.out; omega)), HRP.out.snoc HRL.out rfl rfl, HALS.out HCE.out⟩
   case measure => simp [intOf]; omega
  ·have hjn : j = l.length := by omega
   subst hjn
   rw [List.take_length] at HRK HAL
   have HKB := Lib.hid (Kept.refl (fun q9 => q9 = w.heap.size) wr)
   have HBS := Lib.hid (show w.heap.size < w4.heap.size from (by have a0 := HZS.out; have a1 := HZS.out; have a2 := HZS.out; have a3 := HZS.out; omega))
   have f5_br := Hbr.out.frozen
   have o5_br_ := br_; clear br_
   have o5_bs_ := bs_; clear bs_
   obtain ⟨w5, hq5, hg9, hz9, hx9⟩ := put2 Hbr 0 (.pointer (some ⟨gb, 0, none⟩)) 1 (.slice g l.length c9) [.pointer (some ⟨gb, 0, none⟩), .slice g l.length c9] rfl
   replace Hbs := Lib.hid (Hbs.out.grown hg9.out (sne (by have g0 := HZS.out; omega)))
   replace HG := Lib.hid (HG.out.grown hg9.out (sne (by have g0 := HZS.out; omega)))
   replace Hr := Lib.hid (RowO.grown Hr.out hg9.out (fun q9 e8 e9 => by have a1 := Hr.out.lt _ e8; have a0 := Option.some.inj e9; have g0 := HZS.out; omega))
   replace HKB := Lib.hid (Kept.grown HKB.out hg9.out (fun q9 e9 => by obtain rfl := Option.some.inj e9; exact Or.inr (rfl)))
   replace HB := hbg HB hg9 (by have g0 := HZS.out; omega)
   replace HZS := sz HZS hz9.out
   replace Hbr := hx9
   clear hx9 hg9 hz9
   have br_ := Hbr.out.c2
   have bs_ := Hbs.out.c2
   go_wp2_with fail
   clear hq5 o5_bs_ o5_br_ f5_br
   simp [bodyPost, results, Tryz.results92, go_sem, br_]
   exact ⟨HB.out, by rw [if_pos ((wrong_elems HZ.out).1 HAL.out)]; exact ⟨rs, g, c9, by rw [HRL.out], HRK.out, ⟨Hr.out.sl, fun r hr => by obtain ⟨b1, _, _, b4, b5⟩ := HRS.out r hr; have a0 := HBS.out; exact b1.keptP HKB.out (show ¬ (r.bb = w.heap.size) by omega) (show ¬ (r.ib = w.heap.size) by omega)⟩, ⟨fun x hx => by have a0 := HBS.out; have a1 := RowO.own_le Hr.out hx; omega, fun r hr => by obtain ⟨_, _, _, b4, b5⟩ := HRS.out r hr; have a0 := HBS.out; omega⟩, ⟨bl, ol, rfl, HRP.out⟩⟩⟩
theorem sread_any (G : GP) (ok : G.Ok) (gb : Nat) (l : List ClaimA) (al : Option Addr) (cl : Nat) (w : World) (hG : GroupAt w gb G) (hC : ClaimsAt w al l) :
  Calls Tryz.prog 92 #[.pointer (some ⟨gb, 0, none⟩), .slice al l.length cl] w (ReadSet G gb al l w) := by
 by_cases hz : shapeE l = 0
 ·obtain ⟨bl, ol, rfl, _⟩ := hC.s.adr (flat_ne ClaimA.cells_len (by omega) (List.length_pos_iff.1 (shape_ok hz).1))
  exact read_body G ok gb l hz bl ol cl w hG hC
 ·refine (read_shape gb l _ rfl hz al cl w hC.s).mono ?_
  rintro e w' ⟨rfl, hb⟩
  have h9 : wrongE G l = shapeE l := by unfold wrongE; rw [if_pos hz]
  exact ⟨hb, by rw [h9, if_neg hz]⟩
end Go.Proofs.YtdlnnkbigeiilaaGreat
namespace Go.Proofs.YtdlnnkbigeiilaaGreat
open Go.RowKit
theorem catB_bytes : ∀ (l : List ByteArray) (a : ByteArray), (l.foldl (· ++ ·) a).data.toList = a.data.toList ++ (l.map (·.data.toList)).flatten
 | [], a => by simp
 | x :: l, a => by rw [List.foldl_cons, catB_bytes l (a ++ x)]; simp
theorem join_none : ∀ xs : List (List UInt8), Lib.join xs [] = xs.flatten
 | [] => rfl
 | x :: r => by rw [Lib.join_cons, Lib.joinTail]; simp
theorem join_cat (l : List ByteArray) : (⟨(Lib.join (l.map (·.data.toList)) (ByteArray.mk #[]).data.toList).toArray⟩ : ByteArray) = catB l := by
 have h := catB_bytes l ⟨#[]⟩
 have e : (ByteArray.mk #[]).data.toList = [] := rfl
 rw [e, List.nil_append] at h
 rw [e, join_none, ← h]
 rfl
theorem join_size (l : List ByteArray) : (Lib.join (l.map (·.data.toList)) (ByteArray.mk #[]).data.toList).length = (catB l).size := by
 rw [← join_cat]; rfl
theorem sJoin_any (l : List ByteArray) (h8 : l.length ≤ 4096) (hz : ∀ x ∈ l, x.size ≤ 4096) (a : Option Addr) (c : Nat) (hc : l.length ≤ c) (w : World) (hX : Sl w w.heap.size a (l.map Value.string)) :
  Calls Tryz.prog 98 #[.slice a l.length c, .string ⟨#[]⟩] w fun e w' => e = .returned (.string (catB l)) ∧ Below w.heap.size w w' := by
 by_cases h0 : l = []
 ·subst h0
  refine (Tryz.strings_Join_none a c ⟨#[]⟩ w).mono ?_
  rintro e w' ⟨rfl, rfl⟩
  exact ⟨rfl, Below.refl _ _⟩
 ·have hp : 0 < l.length := List.length_pos_iff.2 h0
  obtain ⟨b, o, rfl, hb, _⟩ := hX.at 0 (by rw [List.length_map]; exact hp)
  refine (Tryz.strings_Join b o c l ⟨#[]⟩ w (fun j x hx => ?_) hb (by omega) hc ?_).mono ?_
  ·obtain ⟨hj, rfl⟩ := List.getElem?_eq_some_iff.1 hx
   obtain ⟨b', o', he, _, h1⟩ := hX.at j (by rw [List.length_map]; exact hj)
   cases he
   rw [List.getElem_map] at h1
   exact h1
  ·rw [join_size]
   have h1 := catB_size 4096 l hz
   have h2 : l.length * 4096 ≤ 4096 * 4096 := Nat.mul_le_mul_right _ h8
   omega
  ·rintro e w' ⟨rfl, hb'⟩
   exact ⟨by rw [join_cat], hb'⟩
theorem sbegin_any (G : GP) (gb : Nat) (nm label : ByteArray) (hm : nm.size < 140737488355328) (hl : label.size < 140737488355328) (hk : G.kind < 256) (w : World) (hG : GroupAt w gb G) :
  Calls Tryz.prog 38 #[.pointer (some ⟨gb, 0, none⟩), .string nm, .string label] w fun e w' => ∃ tb, e = .returned (.pointer (some ⟨tb, 0, none⟩)) ∧ w.heap.size ≤ tb ∧ TalkAt w' tb (beginT nm label (G.kind : Int)) ∧ Below w.heap.size w w' := by
 have H1 := Lib.hid (fun w => NewTalk_any nm hm w)
 have hz1 : (tagS talkB [nm]).size < 140737488355328 := by rw [tagS_size]; decide
 have H2 := Lib.hid (fun tb w h => Say_any tb (tagS talkB [nm]) labelB label hz1 (by decide) hl w h)
 have hz2 : (say1 (tagS talkB [nm]) labelB label).size < 140737488355328 := by rw [say1_size]; decide
 have H3 := Lib.hid (fun tb w h => Say_any tb (say1 (tagS talkB [nm]) labelB label) kindB (kindS (G.kind : Int)) hz2 (by decide) (show (1 : Nat) < 140737488355328 by decide) w h)
 unfold beginT
 unfold say1 at *
 generalize tagS talkB [nm] = t0 at *
 generalize tagS sayB [t0, labelB, label] = t1 at *
 generalize tagS sayB [t1, kindB, kindS (G.kind : Int)] = t2 at *
 clear hz1 hz2 hm hl
 unfold kindS at H3
 have HG := Lib.hid hG
 have HLT := Lib.hid hG.lt
 clear hG
 go_enter Tryz.func38, Tryz.ntmps38
 go_wp2_with fail
 refine (H1.out w).mono ?_
 rintro e wa ⟨tb, rfl, hge, ht, hb⟩
 have HGE := Lib.hid hge
 have HT := Lib.hid ht
 have HB := Lib.hid hb
 clear hge ht hb
 go_wp2_with fail
 refine (H2.out tb wa HT.out).mono ?_
 rintro e wb ⟨rfl, ht, hk2⟩
 have hkc := ((HG.out.up HB.out).keptP hk2 (show ¬ gb = tb by have := HGE.out; have := HLT.out; omega)).kind
 have HT2 := Lib.hid ht
 have HB2 := Lib.hid (Below.keptP HB.out hk2 HB.out.size (fun q hq => hq ▸ HGE.out))
 clear HT HB ht hk2 HG
 generalize G.kind = k at *
 have hk0 : (0 : Int) ≤ (k : Int) := by omega
 have hk1 : (k : Int) < 256 := by omega
 have BL := Lib.hid (Below.refl wb.heap.size wb)
 obtain ⟨w1, hq1, hb9, hz9, Hr⟩ := new1 wb 5 [.int .u8 (k : Int)]
 replace BL := hbu BL hb9
 have HZS := hz9
 clear hb9 hz9
 have r_ := Hr.out.c1
 have hcv := run_convert_bytes_arg (P := Tryz.prog) w1 150 5 Tryz.underlying150 Tryz.underlying5 wb.heap.size 0 1 1 [(k : Int)] rfl (fun i hi => by
  obtain rfl : i = 0 := by omega
  exact Hr.out.cell (i := 0) rfl) 9 Tryz.underlying9
 go_wp2_with fail
 clear hq1
 refine (H3.out tb _ (Bx.up HT2.out BL.out)).mono ?_
 rintro e wz ⟨rfl, ht, hk2⟩
 have HB3 := Lib.hid (Below.keptP (below_up HB2.out BL.out) hk2 (below_up HB2.out BL.out).size (fun q hq => hq ▸ HGE.out))
 have HT3 := Lib.hid ht
 clear ht hk2
 go_wp2_with fail
 go_ret
 exact ⟨tb, rfl, HGE.out, HT3.out, HB3.out⟩
theorem said_any (tb : Nat) (s : ByteArray) (ro : List RowA) (n : Nat) (hn : ro.length = n) (h64 : n ≤ 64) (hz : s.size = 32) (sh : ∀ r ∈ ro, r.l.length ≤ 8 ∧ ∀ x ∈ r.l, x.size ≤ 32) (hok : ∀ r ∈ ro, r.l.length ≤ r.c) (al : Option Addr) (cl : Nat) (w : World) (hT : TalkAt w tb s) (hC : RowsAt w al ro) (ha : ∀ x, al = some x → ¬ x.block = tb) (hr : ∀ r ∈ ro, ∀ x, r.a = some x → ¬ x.block = tb) :
  Calls Tryz.prog 40 #[.pointer (some ⟨tb, 0, none⟩), .slice al n cl] w fun e w' => e = .returned (.tuple #[]) ∧ TalkAt w' tb (sayFi s (ro.map RowA.l)) ∧ Kept (fun q => q = tb) w w' := by
 have HTK := Lib.hid (fun j (h : j < ro.length) => by
  have h1 := sayFi_take s (ro.map RowA.l) j (by rw [List.length_map]; exact h)
  rw [List.getElem_map, ← List.map_take, ← List.map_take] at h1
  exact h1)
 unfold sayF at HTK
 have HF := Lib.hid (fun s lb x hs hl hx w h => (show Calls Tryz.prog 97 #[.pointer (some ⟨tb, 0, none⟩), .string lb, .string x] w fun e w' => e = .returned (.tuple #[]) ∧ TalkAt w' tb (say1 s lb x) ∧ Kept (fun q => q = tb) w w' from Say_any tb s lb x hs hl hx w h))
 have HS1 := Lib.hid say1_size
 have HT0 := Lib.hid (show sayFi s ([].map RowA.l) = s from rfl)
 generalize sayFi s = SC at *
 generalize say1 = S1 at *
 have HC := Lib.hid hC
 have HN := Lib.hid hn
 have HZ := Lib.hid hz
 have HSH := Lib.hid sh
 have HOK := Lib.hid hok
 have HA := Lib.hid ha
 have HR := Lib.hid hr
 have HT := Lib.hid hT
 clear hC hn hz sh hok ha hr hT
 go_enter Tryz.func40, Tryz.ntmps40
 go_wp2_with fail
 go_loopw [8] (fun i wr => ∃ (j : Nat) (y : ByteArray), j ≤ n ∧ i = .int .i64 (j : Int) ∧ Hid (y.size = 32) ∧ Hid (y = SC ((ro.take j).map RowA.l)) ∧ Hid (TalkAt wr tb y) ∧ Hid (Kept (fun q => q = tb) w wr)) (fun i _ => n - (intOf i).toNat)
 case atStart => exact ⟨0, s, Nat.zero_le _, rfl, HZ, HT0.out.symm, HT, Kept.refl _ _⟩
 case round =>
  clear HT
  obtain ⟨j, y, hj, rfl, HY, HYS, HT, HK⟩ := hrel
  by_cases hjn : j < n
  ·have hjl : j < ro.length := by rw [HN.out]; exact hjn
   obtain ⟨bl, ol, rfl, hbl0, hc⟩ := (HC.out.s.kept HK.out HA.out).elem RowA.cells_len (by omega) j hjl
   have hc_0 := hc 0 _ rfl
   rw [Nat.add_zero] at hc_0
   clear hc
   rw [Nat.mul_one] at hc_0
   have HAB := Lib.hid (Sl.kept (HC.out.one j hjl) HK.out (HR.out _ (List.getElem_mem hjl)))
   have HSJ := Lib.hid (HSH.out _ (List.getElem_mem hjl))
   have HOJ := Lib.hid (HOK.out _ (List.getElem_mem hjl))
   have HTJ := Lib.hid (HTK.out j hjl)
   generalize ro[j] = c at *
   generalize c.l = bs at *
   generalize c.a = ab at *
   generalize c.c = cb at *
   rw [← HYS.out] at HTJ
   have HCB := Lib.hid (cat_small HSJ.out.1 HSJ.out.2)
   have HJ1 := Lib.hid (fun w h => sJoin_any bs (by have := HSJ.out.1; omega) (fun x hx => Nat.le_trans (HSJ.out.2 x hx) (by decide)) ab cb HOJ.out w h)
   clear HYS HSJ HOJ
   go_wp2_with fail
   refine (HJ1.out wr HAB.out).mono ?_
   rintro e wz ⟨rfl, hb9⟩
   have HT9 := Lib.hid (Bx.up HT.out hb9)
   have HK9 := Lib.hid (HK.out.up hb9)
   clear hb9 HT HK HAB HJ1 hc_0
   go_wp2_with fail
   refine (HF.out y firstB (catB bs) (by have := HY.out; omega) (by decide) HCB.out wz HT9.out).mono ?_
   rintro e wy ⟨rfl, ht, hk⟩
   have HT8 := Lib.hid ht
   have HK8 := Lib.hid (HK9.out.trans hk)
   clear ht hk HT9 HK9
   go_wp2_with fail
   exact ⟨⟨j + 1, _, by omega, by go_num, Lib.hid (HS1.out _ _ _), Lib.hid HTJ.out.symm, HT8, HK8⟩, by simp [intOf]; omega⟩
  ·have hj' : j = n := by omega
   subst hj'
   rw [List.take_of_length_le (by rw [HN.out]; exact Nat.le_refl _)] at HYS
   go_wp2_with fail
   go_end0
   exact ⟨rfl, by rw [← HYS.out]; exact HT.out, HK.out⟩
def CapOk (c : ClaimA) : Prop := c.bases.length ≤ c.cb ∧ c.images.length ≤ c.ci
theorem say_any (G : GP) (gv : Value) (tb : Nat) (s : ByteArray) (rs : List ClaimR) (n : Nat) (hn : rs.length = n) (h64 : n ≤ 64) (hz : s.size = 32) (sh : ∀ r ∈ rs, SayOk r.k ∧ CapOk r.k) (al : Option Addr) (cl : Nat) (w0 w : World) (hb : Below w0.heap.size w0 w) (htb : w0.heap.size ≤ tb) (hT : TalkAt w tb s) (hS : SetAt G w0 al rs) (hC : ∀ r ∈ rs, r.Src w0) :
  Calls Tryz.prog 39 #[.agg #[gv, .slice al n cl], .pointer (some ⟨tb, 0, none⟩)] w fun e w' => e = .returned (.tuple #[]) ∧ TalkAt w' tb (sayCl s (rs.map ClaimR.k)) ∧ Kept (fun q => q = tb) w w' := by
 have HTK := Lib.hid (fun j (h : j < rs.length) => by
  have h1 := sayCl_take s (rs.map ClaimR.k) j (by rw [List.length_map]; exact h)
  rw [List.getElem_map, ← List.map_take, ← List.map_take] at h1
  exact h1)
 unfold sayC at HTK
 have HF := Lib.hid (fun s lb x hs hl hx w h => (show Calls Tryz.prog 97 #[.pointer (some ⟨tb, 0, none⟩), .string lb, .string x] w fun e w' => e = .returned (.tuple #[]) ∧ TalkAt w' tb (say1 s lb x) ∧ Kept (fun q => q = tb) w w' from Say_any tb s lb x hs hl hx w h))
 have HS1 := Lib.hid say1_size
 have HT0 := Lib.hid (show sayCl s ([].map ClaimR.k) = s from rfl)
 generalize sayCl s = SC at *
 generalize say1 = S1 at *
 have HC := Lib.hid hC
 have HN := Lib.hid hn
 have HZ := Lib.hid hz
 have HSH := Lib.hid sh
 have HS := Lib.hid hS
 have HT := Lib.hid hT
 have HB0 := Lib.hid hb
 have HTB := Lib.hid htb
 have HLT := Lib.hid hT.lt
 clear hC hn hz sh hS hT hb htb
 go_enter Tryz.func39, Tryz.ntmps39
 go_wp2_with fail
 obtain ⟨w1, hq1, hb9, hz9, Hp⟩ := new1 w 64 [gv, .slice al n cl]
 rw [hq1]
 clear hq1
 have HB := Lib.hid hb9
 have HZS := hz9
 clear hb9 hz9
 have p_ := Hp.out.c2
 have HKP := Lib.hid ((Kept.refl (fun q => q = tb) w).up HB.out)
 have HT1 := Lib.hid (Bx.up HT.out HB.out)
 have HP0 := Lib.hid (show ¬ w.heap.size = tb by have := HLT.out; omega)
 go_wp2_with fail
 go_loopw [9] (fun i wr => ∃ (j : Nat) (y : ByteArray), j ≤ n ∧ i = .int .i64 (j : Int) ∧ Hid (y.size = 32) ∧ Hid (y = SC ((rs.take j).map ClaimR.k)) ∧ Hid (TalkAt wr tb y) ∧ Hid (Kept (fun q => q = tb) w wr)) (fun i _ => n - (intOf i).toNat)
 case atStart => exact ⟨0, s, Nat.zero_le _, rfl, HZ, HT0.out.symm, HT1, HKP⟩
 case round =>
  clear HT HT1 HKP HB Hp p_
  obtain ⟨j, y, hj, rfl, HY, HYS, HT, HK⟩ := hrel
  have HB := Lib.hid (Below.keptP HB0.out HK.out HB0.out.size (fun q hq => hq ▸ HTB.out))
  by_cases hjn : j < n
  ·have hjl : j < rs.length := by rw [HN.out]; exact hjn
   obtain ⟨bl, ol, rfl, hbl0, hc⟩ := (HS.out.s.up HB.out).elem ClaimR.cells_len (by omega) j hjl
   have hc_0 := hc 0 _ rfl
   rw [Nat.add_zero] at hc_0
   have hc_1 := hc 1 _ rfl
   have hc_2 := hc 2 _ rfl
   clear hc
   have hsr := HC.out _ (List.getElem_mem hjl)
   have hsh := HSH.out _ (List.getElem_mem hjl)
   unfold SayOk CapOk at hsh
   have HSJ := Lib.hid hsh
   have HTJ := Lib.hid (HTK.out j hjl)
   generalize rs[j] = r at *
   have hq0 := hsr.c 0 _ rfl
   have hq1 := hsr.c 1 _ rfl
   rw [Nat.add_zero] at hq0
   have HPL := Lib.hid hsr.l
   have HAB := Lib.hid hsr.k.b
   have HAJ := Lib.hid hsr.k.i
   have HQ0 := Lib.hid hq0
   have HQ1 := Lib.hid hq1
   clear hsr hsh hq0 hq1
   generalize r.k.bases = bs at *
   generalize r.k.images = ims at *
   generalize r.k.ab = ab at *
   generalize r.k.ai = ai at *
   generalize r.k.cb = cb at *
   generalize r.k.ci = ci at *
   generalize r.pb = pb at *
   generalize r.po = po at *
   rw [← HYS.out] at HTJ
   have HCB := Lib.hid (cat_small HSJ.out.1.1 HSJ.out.1.2.2.1)
   have HCI := Lib.hid (cat_small HSJ.out.1.2.1 HSJ.out.1.2.2.2)
   have HJ1 := Lib.hid (fun w h => sJoin_any bs (by have := HSJ.out.1.1; omega) (fun x hx => Nat.le_trans (HSJ.out.1.2.2.1 x hx) (by decide)) ab cb HSJ.out.2.1 w h)
   have HJ2 := Lib.hid (fun w h => sJoin_any ims (by have := HSJ.out.1.2.1; omega) (fun x hx => Nat.le_trans (HSJ.out.1.2.2.2 x hx) (by decide)) ai ci HSJ.out.2.2 w h)
   have HRL := Lib.hid HT.out.lt
   clear HYS HSJ
   have BL := Lib.hid (Below.refl wr.heap.size wr)
   obtain ⟨w2, hq2, hb9, hz9, Hbc⟩ := new1 wr 154 [.pointer (some ⟨pb, po, none⟩), .slice (some ⟨r.bb, r.bo, none⟩) bs.length r.bc, .slice (some ⟨r.ib, r.io, none⟩) ims.length r.ic]
   replace BL := hbu BL hb9
   replace HZS := sz HZS hz9.out
   clear hb9 hz9
   have bc_ := Hbc.out.c3
   have hd0 := ((below_up HB.out BL.out).cell (p := ⟨pb, po, none⟩) HPL.out).trans HQ0.out
   go_wp2_with fail
   clear hq2
   refine (HJ1.out _ (HAB.out.up (below_up HB.out BL.out))).mono ?_
   rintro e wz ⟨rfl, hb9⟩
   have HBZ := Lib.hid (below_up BL.out hb9)
   have HT9 := Lib.hid (Bx.up HT.out HBZ.out)
   have HK9 := Lib.hid (HK.out.up HBZ.out)
   have HBC := Lib.hid (Bx.up Hbc.out hb9)
   have HB9 := Lib.hid (below_up HB.out HBZ.out)
   clear hb9 BL HT HK HB HJ1 Hbc
   go_wp2_with fail
   refine (HF.out y basesB (catB bs) (by have := HY.out; omega) (by decide) HCB.out wz HT9.out).mono ?_
   rintro e wy ⟨rfl, ht, hk⟩
   have HT8 := Lib.hid ht
   have HK8 := Lib.hid (HK9.out.trans hk)
   have HB8 := Lib.hid (Below.keptP HB9.out hk HB9.out.size (fun q hq => hq ▸ HTB.out))
   have Hbc := Lib.hid (HBC.out.keptP hk (show ¬ wr.heap.size = tb by have := HRL.out; omega))
   have hcc := Hbc.out.cell (i := 0) rfl
   have hd1 := (HB8.out.cell (p := ⟨pb, po + 1, none⟩) HPL.out).trans HQ1.out
   clear ht hk HT9 HK9 HB9 HBC HBZ
   go_wp2_with fail
   refine (HJ2.out wy (HAJ.out.up HB8.out)).mono ?_
   rintro e wx ⟨rfl, hb9⟩
   have HT7 := Lib.hid (Bx.up HT8.out hb9)
   have HK7 := Lib.hid (HK8.out.up hb9)
   clear hb9 HT8 HK8 HB8 HJ2
   go_wp2_with fail
   refine (HF.out (S1 y basesB (catB bs)) imagesB (catB ims) (by rw [HS1.out]; decide) (by decide) HCI.out wx HT7.out).mono ?_
   rintro e wv ⟨rfl, ht, hk⟩
   have HT6 := Lib.hid ht
   have HK6 := Lib.hid (HK7.out.trans hk)
   clear ht hk HT7 HK7
   go_wp2_with fail
   exact ⟨⟨j + 1, _, by omega, by go_num, Lib.hid (HS1.out _ _ _), Lib.hid HTJ.out.symm, HT6, HK6⟩, by simp [intOf]; omega⟩
  ·have hj' : j = n := by omega
   subst hj'
   rw [List.take_of_length_le (by rw [HN.out]; exact Nat.le_refl _)] at HYS
   go_wp2_with fail
   go_end0
   exact ⟨rfl, by rw [← HYS.out]; exact HT.out, HK.out⟩
end Go.Proofs.YtdlnnkbigeiilaaGreat
namespace Go.Proofs.YtdlnnkbigeiilaaGreat
theorem Lw_iff {q p : Nat} (hq : 0 < q) (hp : p = 2 * q + 1) (u v : Nat) : Lw q p u = Lw q p v ↔ PM p u v :=
 ⟨fun h => ((Lw_pm hp u).symm.trans (by rw [h]; exact PM.refl _ _)).trans (Lw_pm hp v), fun h => Lw_eq hq hp h⟩
theorem T_inj {G : GP} (ok : G.Ok) (fit : G.q.m < 256 ^ G.size) {u v : Nat} (hu : u ≤ G.q.m) (hv : v ≤ G.q.m) (h : T G u = T G v) : u = v := by
 have := congrArg numOf h
 rwa [T_num ok hu fit, T_num ok hv fit] at this
end Go.Proofs.YtdlnnkbigeiilaaGreat
namespace Go.Proofs.YtdlnnkbigeiilaaGreat
open Go.RowKit
section
variable {G : GP}
theorem lowN_iff (ok : G.Ok) (x y : Nat) : lowN G x = lowN G y ↔ PM G.p.m x y := Lw_iff ok.q.pos ok.twice x y
end
end Go.Proofs.YtdlnnkbigeiilaaGreat
