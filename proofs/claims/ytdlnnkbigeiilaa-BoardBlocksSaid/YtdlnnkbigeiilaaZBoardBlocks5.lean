/- Texts of this seat, one behind the other: what BoardBlocks leans on. No condition beyond those that each names. -/
import Derived.Test.YtdlnnkbigeiilaaZBoardBlocks4
import Derived.Deep.OwnRows
import Derived.Outline
import Derived.RangeFuncNested
import Derived.RangeFuncBox
import Derived.RangeFuncCalls
import Derived.RangeFuncBound
import Derived.RangeFuncLeaves
import Derived.Shelf.Abstract
import Derived.Shelf.RegionOpen
import Derived.WalkKit
import Derived.OwnWalkIn
import Derived.TacticsInMore
import Derived.LoopNIn
import Derived.LoopIn
import Derived.Maps.AppendAt
import Derived.Test.YtdlnnkbigeiilaaProg
import Derived.Deep.CutBlock
import Derived.OrdersIn

/- The document's digest: power, Keyed without a key. Condition: the bytes that a count of 61 bits can count. -/
namespace Go.Proofs.Ytdlnnkbigeiilaa
open Go.RowKit Go.Lib

theorem power_any (r : Nat) (hr : r < 4) (w : World) : Calls Try.prog 138 #[.int .i64 (r : Int)] w fun e w' => e = .returned (.int .u32 ((256 ^ r : Nat) : Int)) ∧ Below w.heap.size w w' := by
  go_enter Try.func138, Try.ntmps138
  go_wp2_with fail
  go_loop [3, 4] (fun v c => ∃ j : Nat, j ≤ r ∧ c = .int .i64 j ∧ v = .int .u32 ((256 ^ j : Nat) : Int)) (fun _ c => r - (RowKit.intOf c).toNat)
  case atStart => exact ⟨0, by omega, rfl, rfl⟩
  case round =>
    obtain ⟨j, hj, rfl, rfl⟩ := hrel
    by_cases hjr : j < r
    · have HS := Lib.hid (show ((256 ^ (j + 1) : Nat) : Int) = ((256 ^ j : Nat) : Int) * 256 by rw [Nat.pow_succ]; omega)
      have hb : ((256 ^ j : Nat) : Int) ≤ 65536 := by
        have := Nat.pow_le_pow_right (show 0 < 256 by decide) (show j ≤ 2 by omega)
        have e : (256 : Nat) ^ 2 = 65536 := rfl
        omega
      have hb0 : (0 : Int) ≤ ((256 ^ j : Nat) : Int) := Int.natCast_nonneg _
      generalize ((256 ^ j : Nat) : Int) = p at *
      go_wp2_with fail
      exact ⟨⟨j + 1, by omega, by go_num, by rw [HS.out]⟩, by simp [RowKit.intOf]; omega⟩
    · have hjr' : j = r := by omega
      subst hjr'
      go_wp2_with fail
      go_ret
      exact ⟨rfl, Below.refl _ _⟩
theorem wordsB_full (l : List UInt8) (h : l.length ≤ 64) : wordsB l l.length = wordsB l 64 := by
  apply wordsB_congr
  intro j hj
  unfold byteW
  rw [if_pos hj]
  by_cases e : j < l.length
  · rw [if_pos e]
  · rw [if_neg e]
    simp [List.getD, List.getElem?_eq_none (show l.length ≤ j by omega)]
def keyW (s : List UInt8) (k : Nat) : WL := if k ≤ lastB s then allB s k else digW s
theorem keyW_len (s : List UInt8) (k : Nat) : (keyW s k).length = 8 := by unfold keyW; split; exact allB_len s k; exact digW_len s
theorem piece_get (s : List UInt8) (k i : Nat) (h : i < 64) : (pieceB s k).getD i 0 = s.getD (64 * k + i) 0 := by
  unfold pieceB List.getD
  rw [List.getElem?_take_of_lt h, List.getElem?_drop]
theorem piece_len (s : List UInt8) (k : Nat) : (pieceB s k).length = min 64 (s.length - 64 * k) := by unfold pieceB; rw [List.length_take, List.length_drop]
theorem h0_set : (wlV startV).set 0 (.int .u32 1795745351) = wlV h0B := rfl
theorem word_mul (l : List UInt8) (i : Nat) : (((l.getD i 0).toNat : Int) * ((256 ^ (i % 4) : Nat) : Int)) % 4294967296 = ((BitVec.ofNat 32 ((l.getD i 0).toNat * 256 ^ (i % 4))).toNat : Int) := by
  rw [BitVec.toNat_ofNat]
  omega
def outP (s : List UInt8) (i : Nat) : List UInt8 := (digB s).take i ++ List.replicate (32 - i) 0
theorem outP_len (s : List UInt8) (i : Nat) (h : i ≤ 32) : (outP s i).length = 32 := by unfold outP; simp [digB_len]; omega
theorem outB_at : ∀ (w : WL) (i : Nat), i / 4 < w.length → (outB w)[i]? = some (UInt8.ofNat ((w.getD (i / 4) 0).toNat / 256 ^ (i % 4) % 256))
  | [], i, h => by simp at h
  | x :: w, i, h => by
      show ([_, _, _, _] ++ outB w)[i]? = _
      by_cases h4 : i < 4
      · rcases (show i = 0 ∨ i = 1 ∨ i = 2 ∨ i = 3 by omega) with rfl | rfl | rfl | rfl <;> simp [List.getD]
      · rw [List.getElem?_append_right (by simp; omega)]
        have e1 : i / 4 = (i - 4) / 4 + 1 := by omega
        have e2 : i % 4 = (i - 4) % 4 := by omega
        rw [e1, e2]
        exact outB_at w (i - 4) (by rw [List.length_cons] at h; omega)
theorem dig_get (s : List UInt8) (i : Nat) (h : i < 32) : (digB s).getD i 0 = UInt8.ofNat (((digW s).getD (i / 4) 0).toNat / 256 ^ (i % 4) % 256) := by
  unfold digB List.getD
  rw [outB_at _ _ (by rw [digW_len]; omega)]
  rfl
theorem digB_div (s : List UInt8) (i : Nat) (h : i < 32) : (((digW s).getD (i / 4) 0).toNat : Int) / ((256 ^ (i % 4) : Nat) : Int) % 256 = (((digB s).getD i 0).toNat : Int) := by
  rw [dig_get s i h, byte_int]
  omega
theorem outP_succ (s : List UInt8) (i : Nat) (h : i < 32) : outP s (i + 1) = (outP s i).set i ((digB s).getD i 0) := by
  have hl := digB_len s
  have e : (digB s).getD i 0 = (digB s)[i]'(by omega) := by simp [List.getD, hl, h]
  unfold outP
  rw [List.set_append_right _ _ (by rw [List.length_take]; omega), List.length_take, Nat.min_eq_left (by omega), Nat.sub_self, show 32 - i = (32 - (i + 1)) + 1 by omega, List.replicate_succ, List.set_cons_zero, List.take_succ_eq_append_getElem (by omega), List.append_assoc, e]
  rfl
theorem outP_all (s : List UInt8) : outP s 32 = digB s := by unfold outP; rw [List.take_of_length_le (by rw [digB_len]; exact Nat.le_refl _)]; simp
theorem make32 (s : List UInt8) (W : World) : (Instr.makeSlice 82 (.int .i64 32) (.int .i64 32)).run Try.prog W = .ok (.slice (some ⟨W.heap.size, 0, none⟩) 32 32) (W.alloc (.cells (byteCells (outP s 0)).toArray 5)) := by
  have e : madeCells #[Value.int .u8 0] 32 = (byteCells (outP s 0)).toArray := by
    unfold outP
    rw [List.take_zero, List.nil_append]
    kernel_rfl
  have h := Go.run_make_row' (P := Try.prog) 82 5 (.int .u8 0) 1 Try.underlying82 infoByte rfl .i64 .i64 32 (by decide) (by decide) W
  rw [e] at h
  exact h
theorem byteCells_set (l : List UInt8) (i : Nat) (y : UInt8) : (byteCells l).set i (.int .u8 (y.toNat : Int)) = byteCells (l.set i y) := by unfold byteCells; rw [List.map_set]
set_option maxRecDepth 100000 in
set_option maxHeartbeats 8000000 in
theorem Keyed_any (b : ByteArray) (hsz : b.size < 2305843009213693952) (w : World) :
    Calls Try.prog 101 #[.string ⟨#[]⟩, .string b] w fun e w' => e = .returned (.tuple #[.string (digS (bytesOf b)), .bool true]) ∧ Below w.heap.size w w' := by
  have hb0 : (0 : Int) ≤ (b.size : Int) := by omega
  by_cases hb : b.size = 0
  · have hP : (((b.size : Int) + 63) / 64 == 0) = true := by rw [hb]; rfl
    have HPL := Lib.hid (show 1 = lastB (bytesOf b) + 1 by unfold lastB; rw [bytesOf_len, hb])
    clear hb
    go_enter Try.func101, Try.ntmps101
    go_wp2_with fail
    refine (rstart_any w).mono ?_
    rintro e w1 ⟨rfl, hb9⟩
    have HB := Lib.hid hb9
    have HZS := Lib.hid hb9.size
    clear hb9
    have HI8 := Lib.hid (show (Try.prog.info? 135).map (·.size) = some (wlV startV).length from info8)
    have HZ8 := Lib.hid (show (wlV (zw 8)).length = (wlV startV).length from rfl)
    have hz8 : (#[.int .u32 0, .int .u32 0, .int .u32 0, .int .u32 0, .int .u32 0, .int .u32 0, .int .u32 0, .int .u32 0] : Array Value) = (wlV (zw 8)).toArray := rfl
    go_upto_region 14 with (refine wpList_store_new rfl 135 135 (.tmp 10) (.tmp 40) rfl (wlV (zw 8)) (wlV startV) rfl rfl HI8.out HZ8.out (wl_one startV) ?_)
    clear hz8 HZ8 HI8
    have HBW := Lib.hid HB.out.size
    obtain ⟨w2, hq2, hb9, hz9, Hh⟩ := new1 w1 135 (wlV startV)
    rw [hq2]
    clear hq2
    replace HB := hbu HB hb9
    replace HZS := sz HZS hz9.out
    clear hb9 hz9
    have c0 : w2.cell? ⟨w1.heap.size, 0, none⟩ = some (.int .u32 1779033703) := Hh.out.cell rfl
    have hx0 : bits BinOp.xor IntKind.u32 1779033703 16842784 = 1795745351 := by decide
    have f3_h := Hh.out.frozen
    obtain ⟨w3, hq3, hg9, hz9, hx9⟩ := put1 Hh 0 (.int .u32 1795745351) _ rfl
    replace HB := hbg HB hg9 (by have g0 := HZS.out; omega)
    replace HZS := sz HZS hz9.out
    replace Hh := hx9
    clear hx9 hg9 hz9
    replace Hh := Lib.hid (show Bx w3 w1.heap.size 135 (wlV h0B) from Hh.out)
    go_wp2_with fail
    clear hq3 f3_h
    clear c0 hx0
    have HZ0 := Lib.hid (show w.heap.size ≤ w1.heap.size from HBW.out)
    have HP9 := Lib.hid hP
    clear hP HBW
    generalize w1.heap.size = hB at *
    have HQ0 := Lib.hid (show Bx w3 hB 135 (wlV (keyW (bytesOf b) 0)) from Hh.out)
    clear Hh
    go_loopw [11] (fun c wr => ∃ k : Nat, k ≤ 1 ∧ c = .int .i64 k ∧ Hid (Bx wr hB 135 (wlV (keyW (bytesOf b) k))) ∧ Hid (Below w.heap.size w wr)) (fun c _ => 1 - (RowKit.intOf c).toNat)
    case atStart => exact ⟨0, by omega, rfl, HQ0, HB⟩
    case round =>
      obtain ⟨k, hk, rfl, HQ, HB9⟩ := hrel
      clear HQ0 HB
      have HB := HB9
      have Hh := HQ
      clear HB9 HQ
      have HSB := Lib.hid HB.out.size
      have HSH := Lib.hid Hh.out.lt
      replace HZS := sz HZS HZ0.out
      replace HZS := sz HZS HSB.out
      replace HZS := sz HZS HSH.out
      by_cases hkP : k < 1
      · have HKE := Lib.hid (show keyW (bytesOf b) k = allB (bytesOf b) k from by unfold keyW; rw [if_pos (by have := HPL.out; omega)])
        rw [HKE.out] at Hh
        have hz16 : (#[.int .u32 0, .int .u32 0, .int .u32 0, .int .u32 0, .int .u32 0, .int .u32 0, .int .u32 0, .int .u32 0, .int .u32 0, .int .u32 0, .int .u32 0, .int .u32 0, .int .u32 0, .int .u32 0, .int .u32 0, .int .u32 0] : Array Value) = (wlV (wordsB (pieceB (bytesOf b) k) 0)).toArray := by rw [wordsB_zero]; rfl
        have hkd : decide ((k : Int) < (1 : Int)) = true := by simp; omega
        have HCL := Lib.hid (show (pieceB (bytesOf b) k).length = min 64 (b.size - 64 * k) from by rw [piece_len, bytesOf_len])
        have hk64 : 64 * k ≤ b.size := by have := HPL.out; unfold lastB at this; rw [bytesOf_len] at this; omega
        go_upto_region 19 with (fail)
        obtain ⟨wo, rfl⟩ : ∃ wo : World, wo = wr := ⟨_, rfl⟩
        obtain ⟨w4, hq4, hb9, hz9, Hm⟩ := new1 wo 195 (wlV (wordsB (pieceB (bytesOf b) k) 0))
        rw [hq4]
        clear hq4
        replace Hh := Lib.hid (Hh.out.up hb9)
        replace HB := hbu HB hb9
        replace HZS := sz HZS hz9.out
        clear hb9 hz9
        clear hz16
        have HK := Lib.hid (Kept.refl (fun q9 => q9 = wo.heap.size) w4)
        go_wp2_with fail
        go_loopw [13] (fun c wr => ∃ i : Nat, i ≤ (pieceB (bytesOf b) k).length ∧ c = .int .i64 i ∧ Hid (Bx wr wo.heap.size 195 (wlV (wordsB (pieceB (bytesOf b) k) i))) ∧ Hid (Kept (fun q9 => q9 = wo.heap.size) w4 wr)) (fun c _ => 64 - (RowKit.intOf c).toNat)
        case atStart => exact ⟨0, by omega, rfl, Hm, HK⟩
        case round =>
          obtain ⟨i, hi, rfl, HQ, HK1⟩ := hrel
          clear HK
          have hg9 := HK1.out
          clear Hm
          replace Hh := Lib.hid (Hh.out.keptP hg9 (show ¬ (_ = wo.heap.size) by have g0 := HZS.out; omega))
          replace HB := Lib.hid (Below.keptP HB.out hg9 (by have g0 := HZS.out; omega) (fun q9 h9 => (show w.heap.size ≤ _ by subst h9; have g0 := HZS.out; omega)))
          replace HZS := sz HZS (show w4.heap.size ≤ wr.heap.size from hg9.size)
          clear hg9
          have Hm := HQ
          clear HQ
          have HWL := Lib.hid (wordsB_len (pieceB (bytesOf b) k) i)
          have hi64 : i ≤ 64 := by have := HCL.out; omega
          by_cases hic : i < (pieceB (bytesOf b) k).length
          · have hi6 : i < 64 := by have := HCL.out; omega
            have hin : 64 * k + i < b.size := by have := HCL.out; omega
            have hbb : (bytesOf b).getD (64 * k + i) 0 = b[64 * k + i] := by unfold bytesOf List.getD; rw [List.getElem?_eq_getElem (by rw [Array.length_toList]; exact hin)]; rfl
            have hix := fun W => run_index_str (P := Try.prog) W 9 b (64 * k + i) (64 * (k : Int) + (i : Int)) (by omega) hin (((pieceB (bytesOf b) k).getD i 0).toNat : Int) (by rw [piece_get _ _ _ hi6, hbb]) Try.underlying9
            have HWS := Lib.hid (wordsB_succ (pieceB (bytesOf b) k) i hi6)
            have HPW := fun w => power_any (i % 4) (by omega) w
            rw [show ((i % 4 : Nat) : Int) = (i : Int) % 4 from by omega] at HPW
            have HPW := Lib.hid HPW
            have hmul := word_mul (pieceB (bytesOf b) k) i
            have c1 := wl_cell Hm.out (i / 4) (by rw [HWL.out]; omega)
            generalize (wordsB (pieceB (bytesOf b) k) i).getD (i / 4) 0 = X at *
            generalize BitVec.ofNat 32 (((pieceB (bytesOf b) k).getD i 0).toNat * 256 ^ (i % 4)) = z at *
            clear hbb
            have hcb := ((pieceB (bytesOf b) k).getD i 0).toNat_lt
            generalize ((pieceB (bytesOf b) k).getD i 0).toNat = cb at *
            generalize ((256 ^ (i % 4) : Nat) : Int) = p at *
            have hadd := add32 X z
            obtain ⟨Z, hZ⟩ : ∃ Z, X + z = Z := ⟨_, rfl⟩
            rw [hZ] at hadd HWS
            clear hZ
            have a1 : (0 : Int) ≤ ((i / 4 : Nat) : Int) := by omega
            have a2 : ((i / 4 : Nat) : Int) < 16 := by omega
            have hdi : decide ((i : Int) < 64) = true := by simp; omega
            have hdn : decide (64 * (k : Int) + (i : Int) < (b.size : Int)) = true := by simp; omega
            go_wp2_with fail
            refine wp_region_otail 19 (by kernel_rfl) (by kernel_rfl) ?_
            simp only [List.take_succ_cons, List.take_zero, List.drop_succ_cons, List.drop_zero]
            have hov_wo_heap_size := fun (E : Over wr) o => E.cell (b := wo.heap.size) o Hm.out.lt
            repeat (go_big_quiet_step (first | (go_at_call 138; exact calls_over (HPW.out _))))
            all_goals (try unfold elV limbV)
            repeat (go_big_quiet_step (first | (go_at_call 138; exact calls_over (HPW.out _))))
            all_goals (try unfold elV limbV)
            repeat (go_big_quiet_step (first | (go_at_call 138; exact calls_over (HPW.out _))))
            all_goals (try unfold ciphV)
            refine wpQuiet_nil ?_
            rintro _ ⟨E, rfl⟩
            clear hov_wo_heap_size
            replace Hh := Lib.hid (Hh.out.up E.h)
            replace Hm := Lib.hid (Hm.out.up E.h)
            replace HK1 := Lib.hid (Kept.up HK1.out E.h)
            replace HB := hbu HB E.h
            replace HZS := sz HZS E.h.size
            obtain ⟨w5, hq9⟩ : ∃ W9 : World, E.w = W9 := ⟨_, rfl⟩
            rw [hq9] at Hh Hm HK1 HB HZS ⊢
            clear hq9 E
            clear c1 hix HPW
            have c1 := Hm.out.cell (wlV_get (wordsB (pieceB (bytesOf b) k) i) (i / 4) (by rw [HWL.out]; omega))
            have f6_m := Hm.out.frozen
            obtain ⟨w6, hq6, hg9, hz9, hx9⟩ := put1 Hm (i / 4) (.int .u32 (Z.toNat : Int)) _ rfl
            replace Hh := Lib.hid (Hh.out.grown hg9.out (sne (by have g0 := HZS.out; omega)))
            replace HK1 := Lib.hid (Kept.grown HK1.out hg9.out (fun q9 e9 => by obtain rfl := Option.some.inj e9; exact Or.inr (rfl)))
            replace HB := hbg HB hg9 (by have g0 := HZS.out; omega)
            replace HZS := sz HZS hz9.out
            replace Hm := hx9
            clear hx9 hg9 hz9
            replace Hm := Lib.hid Hm.out.wset
            rw [← HWS.out] at Hm
            go_wp2_with fail
            clear hq6 f6_m
            exact ⟨⟨i + 1, hic, by go_num, Hm, HK1⟩, by simp [RowKit.intOf]; omega⟩
          · have hie : i = (pieceB (bytesOf b) k).length := by omega
            have hpl : (pieceB (bytesOf b) k).length ≤ 64 := by rw [← hie]; exact hi64
            rw [hie, wordsB_full _ hpl] at Hm
            have hcl := HCL.out
            rw [← hie] at hcl
            have hpl9 := HPL.out
            unfold lastB at hpl9
            rw [bytesOf_len] at hpl9
            have HHL := Lib.hid (allB_len (bytesOf b) k)
            have HHI := Lib.hid (show (Try.prog.info? 135).map (·.size) = some (wlV (allB (bytesOf b) k)).length by rw [wlV_len, HHL.out]; exact info8)
            have HMI := Lib.hid (show (Try.prog.info? 195).map (·.size) = some (wlV (wordsB (pieceB (bytesOf b) k) 64)).length by rw [wlV_len, wordsB_len]; exact info16)
            clear hie hpl
            by_cases hi6 : i < 64
            · have hdi : decide ((i : Int) < 64) = true := by simp; omega
              have hdn : decide (64 * (k : Int) + (i : Int) < (b.size : Int)) = false := by simp; omega
              have hgt : (b.size : Int) < 64 * (k : Int) + 64 := by omega
              have hke : ((k : Int) == 0) = true := by rw [beq_iff_eq]; omega
              have HKN := Lib.hid (show keyW (bytesOf b) (k + 1) = pressB (allB (bytesOf b) k) (wordsB (pieceB (bytesOf b) k) 64) b.size true from by
                have e : k = lastB (bytesOf b) := by have := HPL.out; omega
                unfold keyW
                rw [if_neg (by omega), e]
                unfold digW
                rw [bytesOf_len])
              have HPR := Lib.hid (fun w => rPress_any (allB (bytesOf b) k) (wordsB (pieceB (bytesOf b) k) 64) HHL.out (wordsB_len _ _) b.size (by omega) true w)
              clear hcl hpl9
              go_wp2_with (first | refine wpList_load_mid rfl 135 (.tmp 10) rfl hB 0 rfl (wlV (allB (bytesOf b) k)) _ Hh.out.range Try.underlying135 rfl HHI.out ?_ | refine wpList_load_mid rfl 195 (.tmp 12) rfl wo.heap.size 0 rfl (wlV (wordsB (pieceB (bytesOf b) k) 64)) _ Hm.out.range Try.underlying195 rfl HMI.out ?_)
              refine (HPR.out wr).mono ?_
              rintro e w5 ⟨rfl, hb9⟩
              replace Hh := Lib.hid (Hh.out.up hb9)
              replace Hm := Lib.hid (Hm.out.up hb9)
              replace HK1 := Lib.hid (Kept.up HK1.out hb9)
              replace HB := hbu HB hb9
              replace HZS := sz HZS hb9.size
              clear hb9
              rw [← HKN.out]
              have HRL := Lib.hid (keyW_len (bytesOf b) (k + 1))
              obtain ⟨R, hR⟩ : ∃ R, keyW (bytesOf b) (k + 1) = R := ⟨_, rfl⟩
              rw [hR] at HRL ⊢
              have HRE := Lib.hid hR
              clear hR
              have HRI := Lib.hid (show (Try.prog.info? 135).map (·.size) = some (wlV R).length by rw [wlV_len, HRL.out]; exact info8)
              have HRZ := Lib.hid (show (wlV R).length = (wlV (allB (bytesOf b) k)).length by rw [wlV_len, wlV_len, HRL.out, HHL.out])
              obtain ⟨wz, hqz, hgz, hzz, hrz⟩ := puts Hh 0 (wlV R) (wlV R) (putL_all _ _ HRZ.out)
              have HBZ := hbg HB hgz (by have g0 := HZS.out; omega)
              go_wp2_with (refine wpList_store_mid rfl 135 (.tmp 10) (.tmp 101) rfl hB 0 (wlV R).toArray rfl rfl (Hh.out.there (by simp [HRZ.out])) (by simpa using HRI.out) (all_oneCell_toArray (wl_one R)) ?_)
              exact ⟨⟨k + 1, by omega, by go_num, by rw [HRE.out]; exact hrz, HBZ⟩, by simp [RowKit.intOf]; omega⟩
            · have hdi : decide ((i : Int) < 64) = false := by simp; omega
              have hgt : 64 * (k : Int) + 64 ≤ (b.size : Int) := by omega
              by_cases hkl : k + 1 < 1
              · omega
              · have hke : ((k : Int) == 0) = true := by rw [beq_iff_eq]; omega
                have HKN := Lib.hid (show keyW (bytesOf b) (k + 1) = pressB (allB (bytesOf b) k) (wordsB (pieceB (bytesOf b) k) 64) (64 * k + 64) true from by
                  have e : k = lastB (bytesOf b) := by have := HPL.out; omega
                  have e2 : b.size = 64 * k + 64 := by omega
                  unfold keyW
                  rw [if_neg (by omega), ← e2, e]
                  unfold digW
                  rw [bytesOf_len])
                have hpr := fun w => rPress_any (allB (bytesOf b) k) (wordsB (pieceB (bytesOf b) k) 64) HHL.out (wordsB_len _ _) (64 * k + 64) (by omega) true w
                rw [show ((64 * k + 64 : Nat) : Int) = 64 * (k : Int) + 64 from by omega] at hpr
                have HPR := Lib.hid hpr
                clear hpr
                clear hcl hpl9
                go_wp2_with (first | refine wpList_load_mid rfl 135 (.tmp 10) rfl hB 0 rfl (wlV (allB (bytesOf b) k)) _ Hh.out.range Try.underlying135 rfl HHI.out ?_ | refine wpList_load_mid rfl 195 (.tmp 12) rfl wo.heap.size 0 rfl (wlV (wordsB (pieceB (bytesOf b) k) 64)) _ Hm.out.range Try.underlying195 rfl HMI.out ?_)
                refine (HPR.out wr).mono ?_
                rintro e w5 ⟨rfl, hb9⟩
                replace Hh := Lib.hid (Hh.out.up hb9)
                replace Hm := Lib.hid (Hm.out.up hb9)
                replace HK1 := Lib.hid (Kept.up HK1.out hb9)
                replace HB := hbu HB hb9
                replace HZS := sz HZS hb9.size
                clear hb9
                rw [← HKN.out]
                have HRL := Lib.hid (keyW_len (bytesOf b) (k + 1))
                obtain ⟨R, hR⟩ : ∃ R, keyW (bytesOf b) (k + 1) = R := ⟨_, rfl⟩
                rw [hR] at HRL ⊢
                have HRE := Lib.hid hR
                clear hR
                have HRI := Lib.hid (show (Try.prog.info? 135).map (·.size) = some (wlV R).length by rw [wlV_len, HRL.out]; exact info8)
                have HRZ := Lib.hid (show (wlV R).length = (wlV (allB (bytesOf b) k)).length by rw [wlV_len, wlV_len, HRL.out, HHL.out])
                obtain ⟨wz, hqz, hgz, hzz, hrz⟩ := puts Hh 0 (wlV R) (wlV R) (putL_all _ _ HRZ.out)
                have HBZ := hbg HB hgz (by have g0 := HZS.out; omega)
                go_wp2_with (refine wpList_store_mid rfl 135 (.tmp 10) (.tmp 101) rfl hB 0 (wlV R).toArray rfl rfl (Hh.out.there (by simp [HRZ.out])) (by simpa using HRI.out) (all_oneCell_toArray (wl_one R)) ?_)
                exact ⟨⟨k + 1, by omega, by go_num, by rw [HRE.out]; exact hrz, HBZ⟩, by simp [RowKit.intOf]; omega⟩
      · have hkP' : k = 1 := by omega
        have HKD := Lib.hid (show keyW (bytesOf b) k = digW (bytesOf b) from by unfold keyW; rw [if_neg (by have := HPL.out; omega)])
        rw [HKD.out] at Hh
        have hkd : decide ((k : Int) < (1 : Int)) = false := by simp; omega
        clear HKD
        have hmk := make32 (bytesOf b)
        go_upto_region 28 with (fail)
        clear hmk
        obtain ⟨wo, rfl⟩ : ∃ wo : World, wo = wr := ⟨_, rfl⟩
        obtain ⟨w4, hq4, hb9, hz9, Ho⟩ := new1 wo 5 (byteCells (outP (bytesOf b) 0))
        rw [hq4]
        clear hq4
        replace Hh := Lib.hid (Hh.out.up hb9)
        replace HB := hbu HB hb9
        replace HZS := sz HZS hz9.out
        clear hb9 hz9
        have HK := Lib.hid (Kept.refl (fun q9 => q9 = wo.heap.size) w4)
        have HRL := Lib.hid (digW_len (bytesOf b))
        go_wp2_with fail
        go_loopw [16] (fun c wr => ∃ i : Nat, i ≤ 32 ∧ c = .int .i64 i ∧ Hid (Bx wr wo.heap.size 5 (byteCells (outP (bytesOf b) i))) ∧ Hid (Kept (fun q9 => q9 = wo.heap.size) w4 wr)) (fun c _ => 32 - (RowKit.intOf c).toNat)
        case atStart => exact ⟨0, by omega, rfl, Ho, HK⟩
        case round =>
          obtain ⟨i, hi, rfl, HQ, HK1⟩ := hrel
          clear HK
          have hg9 := HK1.out
          clear Ho
          replace Hh := Lib.hid (Hh.out.keptP hg9 (show ¬ (_ = wo.heap.size) by have g0 := HZS.out; omega))
          replace HB := Lib.hid (Below.keptP HB.out hg9 (by have g0 := HZS.out; omega) (fun q9 h9 => (show w.heap.size ≤ _ by subst h9; have g0 := HZS.out; omega)))
          replace HZS := sz HZS (show w4.heap.size ≤ wr.heap.size from hg9.size)
          clear hg9
          have Ho := HQ
          clear HQ
          by_cases hi3 : i < 32
          · have HPW := fun w => power_any (i % 4) (by omega) w
            rw [show ((i % 4 : Nat) : Int) = (i : Int) % 4 from by omega] at HPW
            have HPW := Lib.hid HPW
            have c1 := wl_cell Hh.out (i / 4) (by rw [HRL.out]; omega)
            have hdv := digB_div (bytesOf b) i hi3
            have HON := Lib.hid (outP_succ (bytesOf b) i hi3)
            have hp1 : (1 : Int) ≤ ((256 ^ (i % 4) : Nat) : Int) := by have := Nat.pow_pos (n := i % 4) (show 0 < 256 by decide); omega
            generalize (digW (bytesOf b)).getD (i / 4) 0 = X at *
            generalize ((256 ^ (i % 4) : Nat) : Int) = p at *
            obtain ⟨y, hy⟩ : ∃ y, (digB (bytesOf b)).getD i 0 = y := ⟨_, rfl⟩
            rw [hy] at hdv HON
            clear hy
            have hyl := y.toNat_lt
            have HOL := Lib.hid (outP_len (bytesOf b) i hi)
            have a1 : (0 : Int) ≤ ((i / 4 : Nat) : Int) := by omega
            have a2 : ((i / 4 : Nat) : Int) < 8 := by omega
            go_wp2_with fail
            refine wp_region_otail 13 (by kernel_rfl) (by kernel_rfl) ?_
            simp only [List.take_succ_cons, List.take_zero, List.drop_succ_cons, List.drop_zero]
            have hov_hB := fun (E : Over wr) o => E.cell (b := hB) o Hh.out.lt
            repeat (go_big_quiet_step (first | (go_at_call 138; exact calls_over (HPW.out _))))
            all_goals (try unfold elV limbV)
            repeat (go_big_quiet_step (first | (go_at_call 138; exact calls_over (HPW.out _))))
            all_goals (try unfold elV limbV)
            repeat (go_big_quiet_step (first | (go_at_call 138; exact calls_over (HPW.out _))))
            all_goals (try unfold ciphV)
            refine wpQuiet_nil ?_
            rintro _ ⟨E, rfl⟩
            clear hov_hB
            replace Hh := Lib.hid (Hh.out.up E.h)
            replace Ho := Lib.hid (Ho.out.up E.h)
            replace HK1 := Lib.hid (Kept.up HK1.out E.h)
            replace HB := hbu HB E.h
            replace HZS := sz HZS E.h.size
            obtain ⟨w5, hq9⟩ : ∃ W9 : World, E.w = W9 := ⟨_, rfl⟩
            rw [hq9] at Hh Ho HK1 HB HZS ⊢
            clear hq9 E
            clear c1 HPW
            have c1 := Ho.out.cell (byte_cell (outP (bytesOf b) i) i (by rw [HOL.out]; exact hi3))
            have f6_o := Ho.out.frozen
            obtain ⟨w6, hq6, hg9, hz9, hx9⟩ := put1 Ho i (.int .u8 (y.toNat : Int)) _ rfl
            replace Hh := Lib.hid (Hh.out.grown hg9.out (sne (by have g0 := HZS.out; omega)))
            replace HK1 := Lib.hid (Kept.grown HK1.out hg9.out (fun q9 e9 => by obtain rfl := Option.some.inj e9; exact Or.inr (rfl)))
            replace HB := hbg HB hg9 (by have g0 := HZS.out; omega)
            replace HZS := sz HZS hz9.out
            replace Ho := hx9
            clear hx9 hg9 hz9
            replace Ho := Lib.hid (show Bx w6 wo.heap.size 5 (byteCells (outP (bytesOf b) (i + 1))) from by rw [HON.out, ← byteCells_set]; exact Ho.out)
            go_wp2_with fail
            clear hq6 f6_o
            exact ⟨⟨i + 1, by omega, by go_num, Ho, HK1⟩, by simp [RowKit.intOf]; omega⟩
          · have hi3' : i = 32 := by omega
            subst hi3'
            rw [outP_all] at Ho
            have hcv := run_convert_bytes_arg (P := Try.prog) wr 82 5 Try.underlying82 Try.underlying5 wo.heap.size 0 32 32 ((digB (bytesOf b)).map fun b => (b.toNat : Int)) (by rw [List.length_map, digB_len]) (fun j hj => by rw [Nat.zero_add, Ho.out.cell (byte_cell _ j (by rw [digB_len]; exact hj))]; simp [List.getD, digB_len, hj]) 9 Try.underlying9
            rw [out_str] at hcv
            go_wp2_with fail
            go_ret2
            exact ⟨rfl, HB.out⟩
  · have hP : (((b.size : Int) + 63) / 64 == 0) = false := by rw [beq_eq_false_iff_ne]; omega
    obtain ⟨P, hp⟩ : ∃ P : Nat, lastB (bytesOf b) + 1 = P := ⟨_, rfl⟩
    have HPL := Lib.hid hp.symm
    have hPP : ((b.size : Int) + 63) / 64 = (P : Int) := by rw [← hp]; unfold lastB; rw [bytesOf_len]; omega
    rw [hPP] at hP
    clear hb hp
    go_enter Try.func101, Try.ntmps101
    go_wp2_with fail
    refine (rstart_any w).mono ?_
    rintro e w1 ⟨rfl, hb9⟩
    have HB := Lib.hid hb9
    have HZS := Lib.hid hb9.size
    clear hb9
    have HI8 := Lib.hid (show (Try.prog.info? 135).map (·.size) = some (wlV startV).length from info8)
    have HZ8 := Lib.hid (show (wlV (zw 8)).length = (wlV startV).length from rfl)
    have hz8 : (#[.int .u32 0, .int .u32 0, .int .u32 0, .int .u32 0, .int .u32 0, .int .u32 0, .int .u32 0, .int .u32 0] : Array Value) = (wlV (zw 8)).toArray := rfl
    go_upto_region 14 with (refine wpList_store_new rfl 135 135 (.tmp 10) (.tmp 40) rfl (wlV (zw 8)) (wlV startV) rfl rfl HI8.out HZ8.out (wl_one startV) ?_)
    clear hz8 HZ8 HI8
    have HBW := Lib.hid HB.out.size
    obtain ⟨w2, hq2, hb9, hz9, Hh⟩ := new1 w1 135 (wlV startV)
    rw [hq2]
    clear hq2
    replace HB := hbu HB hb9
    replace HZS := sz HZS hz9.out
    clear hb9 hz9
    have c0 : w2.cell? ⟨w1.heap.size, 0, none⟩ = some (.int .u32 1779033703) := Hh.out.cell rfl
    have hx0 : bits BinOp.xor IntKind.u32 1779033703 16842784 = 1795745351 := by decide
    have f3_h := Hh.out.frozen
    obtain ⟨w3, hq3, hg9, hz9, hx9⟩ := put1 Hh 0 (.int .u32 1795745351) _ rfl
    replace HB := hbg HB hg9 (by have g0 := HZS.out; omega)
    replace HZS := sz HZS hz9.out
    replace Hh := hx9
    clear hx9 hg9 hz9
    replace Hh := Lib.hid (show Bx w3 w1.heap.size 135 (wlV h0B) from Hh.out)
    go_wp2_with fail
    clear hq3 f3_h
    clear c0 hx0
    have HZ0 := Lib.hid (show w.heap.size ≤ w1.heap.size from HBW.out)
    have HP9 := Lib.hid hP
    clear hP HBW
    generalize w1.heap.size = hB at *
    have HQ0 := Lib.hid (show Bx w3 hB 135 (wlV (keyW (bytesOf b) 0)) from Hh.out)
    clear Hh
    go_loopw [11] (fun c wr => ∃ k : Nat, k ≤ P ∧ c = .int .i64 k ∧ Hid (Bx wr hB 135 (wlV (keyW (bytesOf b) k))) ∧ Hid (Below w.heap.size w wr)) (fun c _ => P - (RowKit.intOf c).toNat)
    case atStart => exact ⟨0, by omega, rfl, HQ0, HB⟩
    case round =>
      obtain ⟨k, hk, rfl, HQ, HB9⟩ := hrel
      clear HQ0 HB
      have HB := HB9
      have Hh := HQ
      clear HB9 HQ
      have HSB := Lib.hid HB.out.size
      have HSH := Lib.hid Hh.out.lt
      replace HZS := sz HZS HZ0.out
      replace HZS := sz HZS HSB.out
      replace HZS := sz HZS HSH.out
      by_cases hkP : k < P
      · have HKE := Lib.hid (show keyW (bytesOf b) k = allB (bytesOf b) k from by unfold keyW; rw [if_pos (by have := HPL.out; omega)])
        rw [HKE.out] at Hh
        have hz16 : (#[.int .u32 0, .int .u32 0, .int .u32 0, .int .u32 0, .int .u32 0, .int .u32 0, .int .u32 0, .int .u32 0, .int .u32 0, .int .u32 0, .int .u32 0, .int .u32 0, .int .u32 0, .int .u32 0, .int .u32 0, .int .u32 0] : Array Value) = (wlV (wordsB (pieceB (bytesOf b) k) 0)).toArray := by rw [wordsB_zero]; rfl
        have hkd : decide ((k : Int) < (P : Int)) = true := by simp; omega
        have HCL := Lib.hid (show (pieceB (bytesOf b) k).length = min 64 (b.size - 64 * k) from by rw [piece_len, bytesOf_len])
        have hk64 : 64 * k ≤ b.size := by have := HPL.out; unfold lastB at this; rw [bytesOf_len] at this; omega
        go_upto_region 19 with (fail)
        obtain ⟨wo, rfl⟩ : ∃ wo : World, wo = wr := ⟨_, rfl⟩
        obtain ⟨w4, hq4, hb9, hz9, Hm⟩ := new1 wo 195 (wlV (wordsB (pieceB (bytesOf b) k) 0))
        rw [hq4]
        clear hq4
        replace Hh := Lib.hid (Hh.out.up hb9)
        replace HB := hbu HB hb9
        replace HZS := sz HZS hz9.out
        clear hb9 hz9
        clear hz16
        have HK := Lib.hid (Kept.refl (fun q9 => q9 = wo.heap.size) w4)
        go_wp2_with fail
        go_loopw [13] (fun c wr => ∃ i : Nat, i ≤ (pieceB (bytesOf b) k).length ∧ c = .int .i64 i ∧ Hid (Bx wr wo.heap.size 195 (wlV (wordsB (pieceB (bytesOf b) k) i))) ∧ Hid (Kept (fun q9 => q9 = wo.heap.size) w4 wr)) (fun c _ => 64 - (RowKit.intOf c).toNat)
        case atStart => exact ⟨0, by omega, rfl, Hm, HK⟩
        case round =>
          obtain ⟨i, hi, rfl, HQ, HK1⟩ := hrel
          clear HK
          have hg9 := HK1.out
          clear Hm
          replace Hh := Lib.hid (Hh.out.keptP hg9 (show ¬ (_ = wo.heap.size) by have g0 := HZS.out; omega))
          replace HB := Lib.hid (Below.keptP HB.out hg9 (by have g0 := HZS.out; omega) (fun q9 h9 => (show w.heap.size ≤ _ by subst h9; have g0 := HZS.out; omega)))
          replace HZS := sz HZS (show w4.heap.size ≤ wr.heap.size from hg9.size)
          clear hg9
          have Hm := HQ
          clear HQ
          have HWL := Lib.hid (wordsB_len (pieceB (bytesOf b) k) i)
          have hi64 : i ≤ 64 := by have := HCL.out; omega
          by_cases hic : i < (pieceB (bytesOf b) k).length
          · have hi6 : i < 64 := by have := HCL.out; omega
            have hin : 64 * k + i < b.size := by have := HCL.out; omega
            have hbb : (bytesOf b).getD (64 * k + i) 0 = b[64 * k + i] := by unfold bytesOf List.getD; rw [List.getElem?_eq_getElem (by rw [Array.length_toList]; exact hin)]; rfl
            have hix := fun W => run_index_str (P := Try.prog) W 9 b (64 * k + i) (64 * (k : Int) + (i : Int)) (by omega) hin (((pieceB (bytesOf b) k).getD i 0).toNat : Int) (by rw [piece_get _ _ _ hi6, hbb]) Try.underlying9
            have HWS := Lib.hid (wordsB_succ (pieceB (bytesOf b) k) i hi6)
            have HPW := fun w => power_any (i % 4) (by omega) w
            rw [show ((i % 4 : Nat) : Int) = (i : Int) % 4 from by omega] at HPW
            have HPW := Lib.hid HPW
            have hmul := word_mul (pieceB (bytesOf b) k) i
            have c1 := wl_cell Hm.out (i / 4) (by rw [HWL.out]; omega)
            generalize (wordsB (pieceB (bytesOf b) k) i).getD (i / 4) 0 = X at *
            generalize BitVec.ofNat 32 (((pieceB (bytesOf b) k).getD i 0).toNat * 256 ^ (i % 4)) = z at *
            clear hbb
            have hcb := ((pieceB (bytesOf b) k).getD i 0).toNat_lt
            generalize ((pieceB (bytesOf b) k).getD i 0).toNat = cb at *
            generalize ((256 ^ (i % 4) : Nat) : Int) = p at *
            have hadd := add32 X z
            obtain ⟨Z, hZ⟩ : ∃ Z, X + z = Z := ⟨_, rfl⟩
            rw [hZ] at hadd HWS
            clear hZ
            have a1 : (0 : Int) ≤ ((i / 4 : Nat) : Int) := by omega
            have a2 : ((i / 4 : Nat) : Int) < 16 := by omega
            have hdi : decide ((i : Int) < 64) = true := by simp; omega
            have hdn : decide (64 * (k : Int) + (i : Int) < (b.size : Int)) = true := by simp; omega
            go_wp2_with fail
            refine wp_region_otail 19 (by kernel_rfl) (by kernel_rfl) ?_
            simp only [List.take_succ_cons, List.take_zero, List.drop_succ_cons, List.drop_zero]
            have hov_wo_heap_size := fun (E : Over wr) o => E.cell (b := wo.heap.size) o Hm.out.lt
            repeat (go_big_quiet_step (first | (go_at_call 138; exact calls_over (HPW.out _))))
            all_goals (try unfold elV limbV)
            repeat (go_big_quiet_step (first | (go_at_call 138; exact calls_over (HPW.out _))))
            all_goals (try unfold elV limbV)
            repeat (go_big_quiet_step (first | (go_at_call 138; exact calls_over (HPW.out _))))
            all_goals (try unfold ciphV)
            refine wpQuiet_nil ?_
            rintro _ ⟨E, rfl⟩
            clear hov_wo_heap_size
            replace Hh := Lib.hid (Hh.out.up E.h)
            replace Hm := Lib.hid (Hm.out.up E.h)
            replace HK1 := Lib.hid (Kept.up HK1.out E.h)
            replace HB := hbu HB E.h
            replace HZS := sz HZS E.h.size
            obtain ⟨w5, hq9⟩ : ∃ W9 : World, E.w = W9 := ⟨_, rfl⟩
            rw [hq9] at Hh Hm HK1 HB HZS ⊢
            clear hq9 E
            clear c1 hix HPW
            have c1 := Hm.out.cell (wlV_get (wordsB (pieceB (bytesOf b) k) i) (i / 4) (by rw [HWL.out]; omega))
            have f6_m := Hm.out.frozen
            obtain ⟨w6, hq6, hg9, hz9, hx9⟩ := put1 Hm (i / 4) (.int .u32 (Z.toNat : Int)) _ rfl
            replace Hh := Lib.hid (Hh.out.grown hg9.out (sne (by have g0 := HZS.out; omega)))
            replace HK1 := Lib.hid (Kept.grown HK1.out hg9.out (fun q9 e9 => by obtain rfl := Option.some.inj e9; exact Or.inr (rfl)))
            replace HB := hbg HB hg9 (by have g0 := HZS.out; omega)
            replace HZS := sz HZS hz9.out
            replace Hm := hx9
            clear hx9 hg9 hz9
            replace Hm := Lib.hid Hm.out.wset
            rw [← HWS.out] at Hm
            go_wp2_with fail
            clear hq6 f6_m
            exact ⟨⟨i + 1, hic, by go_num, Hm, HK1⟩, by simp [RowKit.intOf]; omega⟩
          · have hie : i = (pieceB (bytesOf b) k).length := by omega
            have hpl : (pieceB (bytesOf b) k).length ≤ 64 := by rw [← hie]; exact hi64
            rw [hie, wordsB_full _ hpl] at Hm
            have hcl := HCL.out
            rw [← hie] at hcl
            have hpl9 := HPL.out
            unfold lastB at hpl9
            rw [bytesOf_len] at hpl9
            have HHL := Lib.hid (allB_len (bytesOf b) k)
            have HHI := Lib.hid (show (Try.prog.info? 135).map (·.size) = some (wlV (allB (bytesOf b) k)).length by rw [wlV_len, HHL.out]; exact info8)
            have HMI := Lib.hid (show (Try.prog.info? 195).map (·.size) = some (wlV (wordsB (pieceB (bytesOf b) k) 64)).length by rw [wlV_len, wordsB_len]; exact info16)
            clear hie hpl
            by_cases hi6 : i < 64
            · have hdi : decide ((i : Int) < 64) = true := by simp; omega
              have hdn : decide (64 * (k : Int) + (i : Int) < (b.size : Int)) = false := by simp; omega
              have hgt : (b.size : Int) < 64 * (k : Int) + 64 := by omega
              have hke : ((k : Int) == ((P : Int) - 1)) = true := by rw [beq_iff_eq]; omega
              have HKN := Lib.hid (show keyW (bytesOf b) (k + 1) = pressB (allB (bytesOf b) k) (wordsB (pieceB (bytesOf b) k) 64) b.size true from by
                have e : k = lastB (bytesOf b) := by have := HPL.out; omega
                unfold keyW
                rw [if_neg (by omega), e]
                unfold digW
                rw [bytesOf_len])
              have HPR := Lib.hid (fun w => rPress_any (allB (bytesOf b) k) (wordsB (pieceB (bytesOf b) k) 64) HHL.out (wordsB_len _ _) b.size (by omega) true w)
              clear hcl hpl9
              go_wp2_with (first | refine wpList_load_mid rfl 135 (.tmp 10) rfl hB 0 rfl (wlV (allB (bytesOf b) k)) _ Hh.out.range Try.underlying135 rfl HHI.out ?_ | refine wpList_load_mid rfl 195 (.tmp 12) rfl wo.heap.size 0 rfl (wlV (wordsB (pieceB (bytesOf b) k) 64)) _ Hm.out.range Try.underlying195 rfl HMI.out ?_)
              refine (HPR.out wr).mono ?_
              rintro e w5 ⟨rfl, hb9⟩
              replace Hh := Lib.hid (Hh.out.up hb9)
              replace Hm := Lib.hid (Hm.out.up hb9)
              replace HK1 := Lib.hid (Kept.up HK1.out hb9)
              replace HB := hbu HB hb9
              replace HZS := sz HZS hb9.size
              clear hb9
              rw [← HKN.out]
              have HRL := Lib.hid (keyW_len (bytesOf b) (k + 1))
              obtain ⟨R, hR⟩ : ∃ R, keyW (bytesOf b) (k + 1) = R := ⟨_, rfl⟩
              rw [hR] at HRL ⊢
              have HRE := Lib.hid hR
              clear hR
              have HRI := Lib.hid (show (Try.prog.info? 135).map (·.size) = some (wlV R).length by rw [wlV_len, HRL.out]; exact info8)
              have HRZ := Lib.hid (show (wlV R).length = (wlV (allB (bytesOf b) k)).length by rw [wlV_len, wlV_len, HRL.out, HHL.out])
              obtain ⟨wz, hqz, hgz, hzz, hrz⟩ := puts Hh 0 (wlV R) (wlV R) (putL_all _ _ HRZ.out)
              have HBZ := hbg HB hgz (by have g0 := HZS.out; omega)
              go_wp2_with (refine wpList_store_mid rfl 135 (.tmp 10) (.tmp 101) rfl hB 0 (wlV R).toArray rfl rfl (Hh.out.there (by simp [HRZ.out])) (by simpa using HRI.out) (all_oneCell_toArray (wl_one R)) ?_)
              exact ⟨⟨k + 1, by omega, by go_num, by rw [HRE.out]; exact hrz, HBZ⟩, by simp [RowKit.intOf]; omega⟩
            · have hdi : decide ((i : Int) < 64) = false := by simp; omega
              have hgt : 64 * (k : Int) + 64 ≤ (b.size : Int) := by omega
              by_cases hkl : k + 1 < P
              · have hke : ((k : Int) == ((P : Int) - 1)) = false := by rw [beq_eq_false_iff_ne]; omega
                have HKN := Lib.hid (show keyW (bytesOf b) (k + 1) = pressB (allB (bytesOf b) k) (wordsB (pieceB (bytesOf b) k) 64) (64 * k + 64) false from by
                  unfold keyW
                  rw [if_pos (by have := HPL.out; omega), show 64 * k + 64 = 64 * (k + 1) by omega]
                  rfl)
                have hpr := fun w => rPress_any (allB (bytesOf b) k) (wordsB (pieceB (bytesOf b) k) 64) HHL.out (wordsB_len _ _) (64 * k + 64) (by omega) false w
                rw [show ((64 * k + 64 : Nat) : Int) = 64 * (k : Int) + 64 from by omega] at hpr
                have HPR := Lib.hid hpr
                clear hpr
                clear hcl hpl9
                go_wp2_with (first | refine wpList_load_mid rfl 135 (.tmp 10) rfl hB 0 rfl (wlV (allB (bytesOf b) k)) _ Hh.out.range Try.underlying135 rfl HHI.out ?_ | refine wpList_load_mid rfl 195 (.tmp 12) rfl wo.heap.size 0 rfl (wlV (wordsB (pieceB (bytesOf b) k) 64)) _ Hm.out.range Try.underlying195 rfl HMI.out ?_)
                refine (HPR.out wr).mono ?_
                rintro e w5 ⟨rfl, hb9⟩
                replace Hh := Lib.hid (Hh.out.up hb9)
                replace Hm := Lib.hid (Hm.out.up hb9)
                replace HK1 := Lib.hid (Kept.up HK1.out hb9)
                replace HB := hbu HB hb9
                replace HZS := sz HZS hb9.size
                clear hb9
                rw [← HKN.out]
                have HRL := Lib.hid (keyW_len (bytesOf b) (k + 1))
                obtain ⟨R, hR⟩ : ∃ R, keyW (bytesOf b) (k + 1) = R := ⟨_, rfl⟩
                rw [hR] at HRL ⊢
                have HRE := Lib.hid hR
                clear hR
                have HRI := Lib.hid (show (Try.prog.info? 135).map (·.size) = some (wlV R).length by rw [wlV_len, HRL.out]; exact info8)
                have HRZ := Lib.hid (show (wlV R).length = (wlV (allB (bytesOf b) k)).length by rw [wlV_len, wlV_len, HRL.out, HHL.out])
                obtain ⟨wz, hqz, hgz, hzz, hrz⟩ := puts Hh 0 (wlV R) (wlV R) (putL_all _ _ HRZ.out)
                have HBZ := hbg HB hgz (by have g0 := HZS.out; omega)
                go_wp2_with (refine wpList_store_mid rfl 135 (.tmp 10) (.tmp 101) rfl hB 0 (wlV R).toArray rfl rfl (Hh.out.there (by simp [HRZ.out])) (by simpa using HRI.out) (all_oneCell_toArray (wl_one R)) ?_)
                exact ⟨⟨k + 1, by omega, by go_num, by rw [HRE.out]; exact hrz, HBZ⟩, by simp [RowKit.intOf]; omega⟩
              · have hke : ((k : Int) == ((P : Int) - 1)) = true := by rw [beq_iff_eq]; omega
                have HKN := Lib.hid (show keyW (bytesOf b) (k + 1) = pressB (allB (bytesOf b) k) (wordsB (pieceB (bytesOf b) k) 64) (64 * k + 64) true from by
                  have e : k = lastB (bytesOf b) := by have := HPL.out; omega
                  have e2 : b.size = 64 * k + 64 := by omega
                  unfold keyW
                  rw [if_neg (by omega), ← e2, e]
                  unfold digW
                  rw [bytesOf_len])
                have hpr := fun w => rPress_any (allB (bytesOf b) k) (wordsB (pieceB (bytesOf b) k) 64) HHL.out (wordsB_len _ _) (64 * k + 64) (by omega) true w
                rw [show ((64 * k + 64 : Nat) : Int) = 64 * (k : Int) + 64 from by omega] at hpr
                have HPR := Lib.hid hpr
                clear hpr
                clear hcl hpl9
                go_wp2_with (first | refine wpList_load_mid rfl 135 (.tmp 10) rfl hB 0 rfl (wlV (allB (bytesOf b) k)) _ Hh.out.range Try.underlying135 rfl HHI.out ?_ | refine wpList_load_mid rfl 195 (.tmp 12) rfl wo.heap.size 0 rfl (wlV (wordsB (pieceB (bytesOf b) k) 64)) _ Hm.out.range Try.underlying195 rfl HMI.out ?_)
                refine (HPR.out wr).mono ?_
                rintro e w5 ⟨rfl, hb9⟩
                replace Hh := Lib.hid (Hh.out.up hb9)
                replace Hm := Lib.hid (Hm.out.up hb9)
                replace HK1 := Lib.hid (Kept.up HK1.out hb9)
                replace HB := hbu HB hb9
                replace HZS := sz HZS hb9.size
                clear hb9
                rw [← HKN.out]
                have HRL := Lib.hid (keyW_len (bytesOf b) (k + 1))
                obtain ⟨R, hR⟩ : ∃ R, keyW (bytesOf b) (k + 1) = R := ⟨_, rfl⟩
                rw [hR] at HRL ⊢
                have HRE := Lib.hid hR
                clear hR
                have HRI := Lib.hid (show (Try.prog.info? 135).map (·.size) = some (wlV R).length by rw [wlV_len, HRL.out]; exact info8)
                have HRZ := Lib.hid (show (wlV R).length = (wlV (allB (bytesOf b) k)).length by rw [wlV_len, wlV_len, HRL.out, HHL.out])
                obtain ⟨wz, hqz, hgz, hzz, hrz⟩ := puts Hh 0 (wlV R) (wlV R) (putL_all _ _ HRZ.out)
                have HBZ := hbg HB hgz (by have g0 := HZS.out; omega)
                go_wp2_with (refine wpList_store_mid rfl 135 (.tmp 10) (.tmp 101) rfl hB 0 (wlV R).toArray rfl rfl (Hh.out.there (by simp [HRZ.out])) (by simpa using HRI.out) (all_oneCell_toArray (wl_one R)) ?_)
                exact ⟨⟨k + 1, by omega, by go_num, by rw [HRE.out]; exact hrz, HBZ⟩, by simp [RowKit.intOf]; omega⟩
      · have hkP' : k = P := by omega
        have HKD := Lib.hid (show keyW (bytesOf b) k = digW (bytesOf b) from by unfold keyW; rw [if_neg (by have := HPL.out; omega)])
        rw [HKD.out] at Hh
        have hkd : decide ((k : Int) < (P : Int)) = false := by simp; omega
        clear HKD
        have hmk := make32 (bytesOf b)
        go_upto_region 28 with (fail)
        clear hmk
        obtain ⟨wo, rfl⟩ : ∃ wo : World, wo = wr := ⟨_, rfl⟩
        obtain ⟨w4, hq4, hb9, hz9, Ho⟩ := new1 wo 5 (byteCells (outP (bytesOf b) 0))
        rw [hq4]
        clear hq4
        replace Hh := Lib.hid (Hh.out.up hb9)
        replace HB := hbu HB hb9
        replace HZS := sz HZS hz9.out
        clear hb9 hz9
        have HK := Lib.hid (Kept.refl (fun q9 => q9 = wo.heap.size) w4)
        have HRL := Lib.hid (digW_len (bytesOf b))
        go_wp2_with fail
        go_loopw [16] (fun c wr => ∃ i : Nat, i ≤ 32 ∧ c = .int .i64 i ∧ Hid (Bx wr wo.heap.size 5 (byteCells (outP (bytesOf b) i))) ∧ Hid (Kept (fun q9 => q9 = wo.heap.size) w4 wr)) (fun c _ => 32 - (RowKit.intOf c).toNat)
        case atStart => exact ⟨0, by omega, rfl, Ho, HK⟩
        case round =>
          obtain ⟨i, hi, rfl, HQ, HK1⟩ := hrel
          clear HK
          have hg9 := HK1.out
          clear Ho
          replace Hh := Lib.hid (Hh.out.keptP hg9 (show ¬ (_ = wo.heap.size) by have g0 := HZS.out; omega))
          replace HB := Lib.hid (Below.keptP HB.out hg9 (by have g0 := HZS.out; omega) (fun q9 h9 => (show w.heap.size ≤ _ by subst h9; have g0 := HZS.out; omega)))
          replace HZS := sz HZS (show w4.heap.size ≤ wr.heap.size from hg9.size)
          clear hg9
          have Ho := HQ
          clear HQ
          by_cases hi3 : i < 32
          · have HPW := fun w => power_any (i % 4) (by omega) w
            rw [show ((i % 4 : Nat) : Int) = (i : Int) % 4 from by omega] at HPW
            have HPW := Lib.hid HPW
            have c1 := wl_cell Hh.out (i / 4) (by rw [HRL.out]; omega)
            have hdv := digB_div (bytesOf b) i hi3
            have HON := Lib.hid (outP_succ (bytesOf b) i hi3)
            have hp1 : (1 : Int) ≤ ((256 ^ (i % 4) : Nat) : Int) := by have := Nat.pow_pos (n := i % 4) (show 0 < 256 by decide); omega
            generalize (digW (bytesOf b)).getD (i / 4) 0 = X at *
            generalize ((256 ^ (i % 4) : Nat) : Int) = p at *
            obtain ⟨y, hy⟩ : ∃ y, (digB (bytesOf b)).getD i 0 = y := ⟨_, rfl⟩
            rw [hy] at hdv HON
            clear hy
            have hyl := y.toNat_lt
            have HOL := Lib.hid (outP_len (bytesOf b) i hi)
            have a1 : (0 : Int) ≤ ((i / 4 : Nat) : Int) := by omega
            have a2 : ((i / 4 : Nat) : Int) < 8 := by omega
            go_wp2_with fail
            refine wp_region_otail 13 (by kernel_rfl) (by kernel_rfl) ?_
            simp only [List.take_succ_cons, List.take_zero, List.drop_succ_cons, List.drop_zero]
            have hov_hB := fun (E : Over wr) o => E.cell (b := hB) o Hh.out.lt
            repeat (go_big_quiet_step (first | (go_at_call 138; exact calls_over (HPW.out _))))
            all_goals (try unfold elV limbV)
            repeat (go_big_quiet_step (first | (go_at_call 138; exact calls_over (HPW.out _))))
            all_goals (try unfold elV limbV)
            repeat (go_big_quiet_step (first | (go_at_call 138; exact calls_over (HPW.out _))))
            all_goals (try unfold ciphV)
            refine wpQuiet_nil ?_
            rintro _ ⟨E, rfl⟩
            clear hov_hB
            replace Hh := Lib.hid (Hh.out.up E.h)
            replace Ho := Lib.hid (Ho.out.up E.h)
            replace HK1 := Lib.hid (Kept.up HK1.out E.h)
            replace HB := hbu HB E.h
            replace HZS := sz HZS E.h.size
            obtain ⟨w5, hq9⟩ : ∃ W9 : World, E.w = W9 := ⟨_, rfl⟩
            rw [hq9] at Hh Ho HK1 HB HZS ⊢
            clear hq9 E
            clear c1 HPW
            have c1 := Ho.out.cell (byte_cell (outP (bytesOf b) i) i (by rw [HOL.out]; exact hi3))
            have f6_o := Ho.out.frozen
            obtain ⟨w6, hq6, hg9, hz9, hx9⟩ := put1 Ho i (.int .u8 (y.toNat : Int)) _ rfl
            replace Hh := Lib.hid (Hh.out.grown hg9.out (sne (by have g0 := HZS.out; omega)))
            replace HK1 := Lib.hid (Kept.grown HK1.out hg9.out (fun q9 e9 => by obtain rfl := Option.some.inj e9; exact Or.inr (rfl)))
            replace HB := hbg HB hg9 (by have g0 := HZS.out; omega)
            replace HZS := sz HZS hz9.out
            replace Ho := hx9
            clear hx9 hg9 hz9
            replace Ho := Lib.hid (show Bx w6 wo.heap.size 5 (byteCells (outP (bytesOf b) (i + 1))) from by rw [HON.out, ← byteCells_set]; exact Ho.out)
            go_wp2_with fail
            clear hq6 f6_o
            exact ⟨⟨i + 1, by omega, by go_num, Ho, HK1⟩, by simp [RowKit.intOf]; omega⟩
          · have hi3' : i = 32 := by omega
            subst hi3'
            rw [outP_all] at Ho
            have hcv := run_convert_bytes_arg (P := Try.prog) wr 82 5 Try.underlying82 Try.underlying5 wo.heap.size 0 32 32 ((digB (bytesOf b)).map fun b => (b.toNat : Int)) (by rw [List.length_map, digB_len]) (fun j hj => by rw [Nat.zero_add, Ho.out.cell (byte_cell _ j (by rw [digB_len]; exact hj))]; simp [List.getD, digB_len, hj]) 9 Try.underlying9
            rw [out_str] at hcv
            go_wp2_with fail
            go_ret2
            exact ⟨rfl, HB.out⟩
end Go.Proofs.Ytdlnnkbigeiilaa

/- The document's digest: Digest, Four, Joined, Tag. Condition: the bytes that a count of 61 bits can count. -/
namespace Go.Proofs.Ytdlnnkbigeiilaa
open Go.RowKit Go.Lib

set_option maxHeartbeats 1000000 in
theorem Digest_any (b : ByteArray) (hsz : b.size < 2305843009213693952) (w : World) : Calls Try.prog 58 #[.string b] w fun e w' => e = .returned (.string (digS (bytesOf b))) ∧ Below w.heap.size w w' := by
  have HK := Lib.hid (fun w => Keyed_any b hsz w)
  go_enter Try.func58, Try.ntmps58
  go_wp2_with fail
  refine (HK.out w).mono ?_
  rintro e w1 ⟨rfl, hb9⟩
  have HB := Lib.hid hb9
  have HZS := Lib.hid hb9.size
  clear hb9
  go_wp2_with fail
  go_ret
  exact ⟨rfl, HB.out⟩
set_option maxRecDepth 100000 in
set_option maxHeartbeats 1000000 in
theorem Four_any (n : Nat) (hn : n < 9223372036854775808) (w : World) : Calls Try.prog 55 #[.int .i64 (n : Int)] w fun e w' => e = .returned (.string (fourS n)) ∧ Below w.heap.size w w' := by
  have hn0 : (0 : Int) ≤ (n : Int) := by omega
  go_enter Try.func55, Try.ntmps55
  obtain ⟨w1, hq1, hb9, hz9, Hr⟩ := new1 w 5 [.int .u8 ((n : Int) / 16777216 % 256), .int .u8 ((n : Int) / 65536 % 256), .int .u8 ((n : Int) / 256 % 256), .int .u8 ((n : Int) % 256)]
  have HB := Lib.hid hb9
  have HZS := hz9
  clear hb9 hz9
  have r_ := Hr.out.c4
  have hcv := run_convert_bytes_arg (P := Try.prog) w1 82 5 Try.underlying82 Try.underlying5 w.heap.size 0 4 4 [(n : Int) / 16777216 % 256, (n : Int) / 65536 % 256, (n : Int) / 256 % 256, (n : Int) % 256] rfl (fun i hi => by
    rcases (show i = 0 ∨ i = 1 ∨ i = 2 ∨ i = 3 by omega) with rfl | rfl | rfl | rfl
    · exact Hr.out.cell (i := 0) rfl
    · exact Hr.out.cell (i := 1) rfl
    · exact Hr.out.cell (i := 2) rfl
    · exact Hr.out.cell (i := 3) rfl) 9 Try.underlying9
  go_wp2_with fail
  clear hq1
  go_ret
  exact ⟨rfl, HB.out⟩
theorem bytesOf_app (a b : ByteArray) : bytesOf (a ++ b) = bytesOf a ++ bytesOf b := by
  unfold bytesOf
  simp
set_option maxRecDepth 100000 in
set_option maxHeartbeats 4000000 in
theorem Joined_any (label : ByteArray) (ps : List ByteArray) (n : Nat) (hpn : ps.length = n) (hsz : (joinL label ps).length < 2305843009213693952) (a : Option Addr) (c : Nat) (w : World) (hX : Sl w w.heap.size a (ps.map Value.string)) :
    Calls Try.prog 57 #[.string label, .slice a n c] w fun e w' => ∃ y, e = .returned (.string y) ∧ bytesOf y = joinL label ps ∧ Below w.heap.size w w' := by
  have HPN := Lib.hid hpn
  have HSZ := Lib.hid (show ((label :: ps).flatMap pfxL).length < 2305843009213693952 from joinL_eq label ps ▸ hsz)
  have HX := Lib.hid hX
  have hn6 : n < 1152921504606846976 := by
    have := join_ge (label :: ps)
    rw [← joinL_eq, List.length_cons, hpn] at this
    omega
  have hl0 := join_len (label :: ps) 0 (by simp)
  rw [List.getElem_cons_zero, ← joinL_eq] at hl0
  have hl1 : label.size < 2305843009213693952 := by omega
  clear hpn hsz hX hl0
  go_enter Try.func57, Try.ntmps57
  go_wp2_with fail
  refine (Four_any label.size (by omega) w).mono ?_
  rintro e w1 ⟨rfl, hb9⟩
  have HB := Lib.hid hb9
  have HZS := Lib.hid hb9.size
  clear hb9
  have hfs : (fourS label.size).size = 4 := rfl
  have HY0 := Lib.hid (show bytesOf (fourS label.size ++ label) = ((label :: ps).take (0 + 1)).flatMap pfxL from by rw [bytesOf_app, fourS_bytes]; simp [pfxL])
  generalize fourS label.size = f0 at *
  have hfc : ¬ (9223372036854775807 < f0.size + label.size) := by omega
  go_wp2_with fail
  go_loopw [15, 5] (fun c v wr => ∃ (j : Nat) (y : ByteArray), j ≤ n ∧ c = .int .i64 j ∧ v = .string y ∧ Hid (bytesOf y = ((label :: ps).take (j + 1)).flatMap pfxL) ∧ Hid (Below w.heap.size w wr)) (fun c _ _ => n - (RowKit.intOf c).toNat)
  case atStart => exact ⟨0, _, by omega, rfl, rfl, HY0, HB⟩
  case round =>
    clear HY0 HB hfs hfc
    obtain ⟨j, y, hj, rfl, rfl, HY, HB⟩ := hrel
    by_cases hjn : j < n
    · have hjp : j < ps.length := by rw [HPN.out]; exact hjn
      have hl9 := join_len (label :: ps) (j + 1) (by rw [List.length_cons]; omega)
      have hs9 := join_snoc (label :: ps) (j + 1) (by rw [List.length_cons]; omega)
      rw [List.getElem_cons_succ] at hl9 hs9
      rw [← HY.out] at hl9 hs9
      rw [bytesOf_len] at hl9
      have hT := HSZ.out
      obtain ⟨xb, xo, rfl, hxl, hxc⟩ := (HX.out.up HB.out).at j (by rw [List.length_map]; exact hjp)
      rw [List.getElem_map] at hxc
      generalize ps[j] = x at *
      have hl8 : y.size + 4 + x.size < 2305843009213693952 := by omega
      have HYN := Lib.hid (show bytesOf (y ++ fourS x.size ++ x) = ((label :: ps).take (j + 1 + 1)).flatMap pfxL from by rw [bytesOf_app, bytesOf_app, fourS_bytes, hs9, List.append_assoc])
      have HF4 := Lib.hid (fun w => Four_any x.size (by omega) w)
      have hfs : (fourS x.size).size = 4 := rfl
      clear hl9 hs9 hT
      generalize fourS x.size = f at *
      have hc1 : ¬ (9223372036854775807 < y.size + f.size) := by omega
      have hc2 : ¬ (9223372036854775807 < (y ++ f).size + x.size) := by rw [ByteArray.size_append]; omega
      have hc3 : ¬ (9223372036854775807 < y.size + f.size + x.size) := by omega
      go_wp2_with fail
      refine (HF4.out wr).mono ?_
      rintro e w2 ⟨rfl, hb9⟩
      replace HB := hbu HB hb9
      replace HZS := sz HZS hb9.size
      clear hb9
      go_wp2_with fail
      go_roundw
      case rel => exact ⟨j + 1, _, by omega, by go_num, rfl, HYN, HB⟩
      case measure => simp [RowKit.intOf]; omega
    · have hjn' : j = n := by omega
      subst hjn'
      rw [List.take_of_length_le (by rw [List.length_cons, HPN.out]; exact Nat.le_refl _), ← joinL_eq] at HY
      go_wp2_with fail
      go_ret
      exact ⟨y, rfl, HY.out, HB.out⟩
theorem bytesOf_digS {y : ByteArray} {s : List UInt8} (h : bytesOf y = s) : digS (bytesOf y) = digS s := by rw [h]
set_option maxHeartbeats 1000000 in
theorem rTag_any (label : ByteArray) (ps : List ByteArray) (n : Nat) (hpn : ps.length = n) (hsz : (joinL label ps).length < 2305843009213693952) (a : Option Addr) (c : Nat) (w : World) (hX : Sl w w.heap.size a (ps.map Value.string)) :
    Calls Try.prog 32 #[.string label, .slice a n c] w fun e w' => e = .returned (.string (tagS label ps)) ∧ Below w.heap.size w w' := by
  have HJ := Lib.hid (Joined_any label ps n hpn hsz a c w hX)
  have HSZ := Lib.hid hsz
  clear hpn hsz hX
  go_enter Try.func32, Try.ntmps32
  go_wp2_with fail
  refine (HJ.out).mono ?_
  rintro e w1 ⟨y, rfl, hy, hb9⟩
  have HB := Lib.hid hb9
  have HZS := Lib.hid hb9.size
  have HY := Lib.hid hy
  clear hy
  clear hb9
  go_wp2_with fail
  refine (Digest_any y (by rw [← bytesOf_len, HY.out]; exact HSZ.out) w1).mono ?_
  rintro e w2 ⟨rfl, hb9⟩
  replace HB := hbu HB hb9
  replace HZS := sz HZS hb9.size
  clear hb9
  have HE := Lib.hid (show digS (bytesOf y) = tagS label ps from by rw [HY.out]; rfl)
  rw [HE.out]
  go_wp2_with fail
  go_ret
  exact ⟨rfl, HB.out⟩
end Go.Proofs.Ytdlnnkbigeiilaa

/- The package fold: a talk. Conditions: the bytes that a count of 60 bits can count. -/
namespace Go.Proofs.Ytdlnnkbigeiilaa
open Go.RowKit Go.Lib

abbrev talkB : ByteArray := ⟨#[116, 97, 108, 107]⟩
abbrev sayB : ByteArray := ⟨#[115, 97, 121]⟩
abbrev askB : ByteArray := ⟨#[97, 115, 107]⟩
abbrev askedB : ByteArray := ⟨#[97, 115, 107, 101, 100]⟩
def TalkAt (W : World) (b : Nat) (s : ByteArray) : Prop := Bx W b 67 [.string s]
theorem Sl.ofB {W : World} {b : Nat} {t : TypeId} {cs : List Value} (h : Bx W b t cs) : Sl W W.heap.size (some ⟨b, 0, none⟩) cs := Or.inr ⟨b, 0, rfl, h.lt, fun i v hv => by rw [Nat.zero_add]; exact h.cell hv⟩
theorem join_small (l : ByteArray) (ps : List ByteArray) (m : Nat) (h : ps.length ≤ 3) (hp : ∀ p ∈ ps, p.size < 140737488355328) (hl : l.size < 140737488355328) : (joinL l ps).length < 2305843009213693952 := by
  have key : ∀ x : ByteArray, (pfxL x).length = 4 + x.size := fun x => by unfold pfxL; rw [List.length_append, bytesOf_len]; rfl
  have gen : ∀ qs : List ByteArray, (∀ p ∈ qs, p.size < 140737488355328) → (qs.flatMap pfxL).length ≤ qs.length * 140737488355332 := by
    intro qs
    induction qs with
    | nil => intro _; simp
    | cons x qs ih =>
      intro hq
      have h1 := ih fun p hp => hq p (List.mem_cons_of_mem _ hp)
      have h2 := hq x (List.mem_cons_self ..)
      rw [List.flatMap_cons, List.length_append, List.length_cons, key]
      omega
  have := gen ps hp
  unfold joinL
  rw [List.length_append, key]
  have h3 : ps.length * 140737488355332 ≤ 3 * 140737488355332 := Nat.mul_le_mul_right _ h
  omega
set_option maxRecDepth 100000 in
set_option maxHeartbeats 1000000 in
theorem NewTalk_any (label : ByteArray) (hl : label.size < 140737488355328) (w : World) :
    Calls Try.prog 8 #[.string label] w fun e w' => ∃ tb, e = .returned (.pointer (some ⟨tb, 0, none⟩)) ∧ w.heap.size ≤ tb ∧ TalkAt w' tb (tagS talkB [label]) ∧ Below w.heap.size w w' := by
  have HJ := Lib.hid (join_small talkB [label] 0 (by simp) (by simpa using hl) (by decide))
  have HT := Lib.hid (fun a c w hX => tag_any talkB [label] 1 rfl HJ.out a c w hX)
  clear hl
  go_enter Try.func8, Try.ntmps8
  obtain ⟨w1, hq1, hb9, hz9, Hr⟩ := new1 w 9 [.string label]
  have HB := Lib.hid hb9
  have HZS := hz9
  clear hb9 hz9
  have r_ := Hr.out.c1
  go_wp2_with fail
  clear hq1
  refine (HT.out _ _ _ (Sl.ofB Hr.out)).mono ?_
  rintro e w2 ⟨rfl, hb9⟩
  clear r_
  replace Hr := Lib.hid (Hr.out.up hb9)
  replace HB := hbu HB hb9
  replace HZS := sz HZS hb9.size
  clear hb9
  have r_ := Hr.out.c1
  have hsz := Lib.hid HB.out.size
  have o3_r_ := r_; clear r_
  obtain ⟨w3, hq3, hb9, hz9, Ht⟩ := new1 w2 67 [.string (tagS talkB [label])]
  replace Hr := Lib.hid (Hr.out.up hb9)
  replace HB := hbu HB hb9
  replace HZS := sz HZS hz9.out
  clear hb9 hz9
  have r_ := Hr.out.c1
  have t_ := Ht.out.c1
  go_wp2_with fail
  clear hq3 o3_r_
  go_ret
  exact ⟨_, rfl, hsz.out, Ht.out, HB.out⟩
set_option maxRecDepth 100000 in
set_option maxHeartbeats 1000000 in
theorem Say_any (tb : Nat) (s label b : ByteArray) (hs : s.size < 140737488355328) (hl : label.size < 140737488355328) (hb : b.size < 140737488355328) (w : World) (hT : TalkAt w tb s) :
    Calls Try.prog 10 #[.pointer (some ⟨tb, 0, none⟩), .string label, .string b] w fun e w' => e = .returned (.tuple #[]) ∧ TalkAt w' tb (tagS sayB [s, label, b]) ∧ Kept (fun q => q = tb) w w' := by
  have HJ := Lib.hid (join_small sayB [s, label, b] 0 (by simp) (by simp [hs, hl, hb]) (by decide))
  have HT := Lib.hid (fun a c w hX => tag_any sayB [s, label, b] 3 rfl HJ.out a c w hX)
  have Ht := Lib.hid (show Bx w tb 67 [.string s] from hT)
  have HLB := Lib.hid hT.lt
  generalize tagS sayB [s, label, b] = S at *
  clear hs hl hb hT
  go_enter Try.func10, Try.ntmps10
  have t_ := Ht.out.c1
  have HZS := HLB
  have HK := Lib.hid (Kept.refl (fun q9 => q9 = tb) w)
  have o1_t_ := t_; clear t_
  obtain ⟨w1, hq1, hb9, hz9, Hr⟩ := new1 w 9 [.string s, .string label, .string b]
  replace Ht := Lib.hid (Ht.out.up hb9)
  replace HK := Lib.hid (Kept.up HK.out hb9)
  replace HZS := sz HZS hz9.out
  clear hb9 hz9
  have t_ := Ht.out.c1
  have r_ := Hr.out.c3
  go_wp2_with fail
  clear hq1 o1_t_
  refine (HT.out _ _ _ (Sl.ofB Hr.out)).mono ?_
  rintro e w2 ⟨rfl, hb9⟩
  clear t_
  replace Ht := Lib.hid (Ht.out.up hb9)
  clear r_
  replace Hr := Lib.hid (Hr.out.up hb9)
  replace HK := Lib.hid (Kept.up HK.out hb9)
  replace HZS := sz HZS hb9.size
  clear hb9
  have t_ := Ht.out.c1
  have r_ := Hr.out.c3
  have f3_t := Ht.out.frozen
  have o3_t_ := t_; clear t_
  have o3_r_ := r_; clear r_
  obtain ⟨w3, hq3, hg9, hz9, hx9⟩ := put1 Ht 0 (.string S) [.string S] rfl
  replace Hr := Lib.hid (Hr.out.grown hg9.out (sne (by have g0 := HZS.out; omega)))
  replace HK := Lib.hid (Kept.grown HK.out hg9.out (fun q9 e9 => by obtain rfl := Option.some.inj e9; exact Or.inr (rfl)))
  replace HZS := sz HZS hz9.out
  replace Ht := hx9
  clear hx9 hg9 hz9
  have t_ := Ht.out.c1
  have r_ := Hr.out.c3
  go_wp2_with fail
  clear hq3 o3_r_ o3_t_ f3_t
  go_end0
  exact ⟨rfl, Ht.out, HK.out⟩
set_option maxRecDepth 100000 in
set_option maxHeartbeats 1000000 in
theorem Ask_any (tb : Nat) (s label : ByteArray) (hs : s.size < 140737488355328) (hl : label.size < 140737488355328) (w : World) (hT : TalkAt w tb s) :
    Calls Try.prog 16 #[.pointer (some ⟨tb, 0, none⟩), .string label] w fun e w' => e = .returned (.string (tagS askB [s, label])) ∧ TalkAt w' tb (tagS askedB [s, label]) ∧ Kept (fun q => q = tb) w w' := by
  have HJ := Lib.hid (join_small askB [s, label] 0 (by simp) (by simp [hs, hl]) (by decide))
  have HJ2 := Lib.hid (join_small askedB [s, label] 0 (by simp) (by simp [hs, hl]) (by decide))
  have HT := Lib.hid (fun a c w hX => tag_any askB [s, label] 2 rfl HJ.out a c w hX)
  have HT2 := Lib.hid (fun a c w hX => tag_any askedB [s, label] 2 rfl HJ2.out a c w hX)
  have Ht := Lib.hid (show Bx w tb 67 [.string s] from hT)
  have HLB := Lib.hid hT.lt
  obtain ⟨A, hA⟩ : ∃ A, tagS askB [s, label] = A := ⟨_, rfl⟩
  obtain ⟨D, hD⟩ : ∃ D, tagS askedB [s, label] = D := ⟨_, rfl⟩
  rw [hA] at HT ⊢
  rw [hD] at HT2 ⊢
  clear hs hl hT hA hD HJ HJ2
  go_enter Try.func16, Try.ntmps16
  have t_ := Ht.out.c1
  have HZS := HLB
  have HK := Lib.hid (Kept.refl (fun q9 => q9 = tb) w)
  have o1_t_ := t_; clear t_
  obtain ⟨w1, hq1, hb9, hz9, Hr⟩ := new1 w 9 [.string s, .string label]
  replace Ht := Lib.hid (Ht.out.up hb9)
  replace HK := Lib.hid (Kept.up HK.out hb9)
  replace HZS := sz HZS hz9.out
  clear hb9 hz9
  have t_ := Ht.out.c1
  have r_ := Hr.out.c2
  go_wp2_with fail
  clear hq1 o1_t_
  refine (HT.out _ _ _ (Sl.ofB Hr.out)).mono ?_
  rintro e w2 ⟨rfl, hb9⟩
  clear t_
  replace Ht := Lib.hid (Ht.out.up hb9)
  clear r_
  replace Hr := Lib.hid (Hr.out.up hb9)
  replace HK := Lib.hid (Kept.up HK.out hb9)
  replace HZS := sz HZS hb9.size
  clear hb9
  have t_ := Ht.out.c1
  have r_ := Hr.out.c2
  clear r_
  clear Hr
  have o3_t_ := t_; clear t_
  obtain ⟨w3, hq3, hb9, hz9, Hr⟩ := new1 w2 9 [.string s, .string label]
  replace Ht := Lib.hid (Ht.out.up hb9)
  replace HK := Lib.hid (Kept.up HK.out hb9)
  replace HZS := sz HZS hz9.out
  clear hb9 hz9
  have t_ := Ht.out.c1
  have r_ := Hr.out.c2
  go_wp2_with fail
  clear hq3 o3_t_
  refine (HT2.out _ _ _ (Sl.ofB Hr.out)).mono ?_
  rintro e w4 ⟨rfl, hb9⟩
  clear t_
  replace Ht := Lib.hid (Ht.out.up hb9)
  clear r_
  replace Hr := Lib.hid (Hr.out.up hb9)
  replace HK := Lib.hid (Kept.up HK.out hb9)
  replace HZS := sz HZS hb9.size
  clear hb9
  have t_ := Ht.out.c1
  have r_ := Hr.out.c2
  have f5_t := Ht.out.frozen
  have o5_t_ := t_; clear t_
  have o5_r_ := r_; clear r_
  obtain ⟨w5, hq5, hg9, hz9, hx9⟩ := put1 Ht 0 (.string D) [.string D] rfl
  replace Hr := Lib.hid (Hr.out.grown hg9.out (sne (by have g0 := HZS.out; omega)))
  replace HK := Lib.hid (Kept.grown HK.out hg9.out (fun q9 e9 => by obtain rfl := Option.some.inj e9; exact Or.inr (rfl)))
  replace HZS := sz HZS hz9.out
  replace Ht := hx9
  clear hx9 hg9 hz9
  have t_ := Ht.out.c1
  have r_ := Hr.out.c2
  go_wp2_with fail
  clear hq5 o5_r_ o5_t_ f5_t
  go_ret
  exact ⟨rfl, Ht.out, HK.out⟩
set_option maxHeartbeats 1000000 in
theorem Fork_any (tb : Nat) (s : ByteArray) (w : World) (hT : TalkAt w tb s) :
    Calls Try.prog 113 #[.pointer (some ⟨tb, 0, none⟩)] w fun e w' => ∃ fb, e = .returned (.pointer (some ⟨fb, 0, none⟩)) ∧ w.heap.size ≤ fb ∧ TalkAt w' fb s ∧ Below w.heap.size w w' := by
  have Ht := Lib.hid (show Bx w tb 67 [.string s] from hT)
  clear hT
  go_enter Try.func113, Try.ntmps113
  have t_ := Ht.out.c1
  have o1_t_ := t_; clear t_
  obtain ⟨w1, hq1, hb9, hz9, Hf⟩ := new1 w 67 [.string s]
  replace Ht := Lib.hid (Ht.out.up hb9)
  have HB := Lib.hid hb9
  have HZS := hz9
  clear hb9 hz9
  have t_ := Ht.out.c1
  have f_ := Hf.out.c1
  go_wp2_with fail
  clear hq1 o1_t_
  go_ret
  exact ⟨_, rfl, Nat.le_refl _, Hf.out, HB.out⟩
end Go.Proofs.Ytdlnnkbigeiilaa

/- The document's talk. Conditions: the bytes that memory can hold. -/
namespace Go.Proofs.Ytdlnnkbigeiilaa
open Go.RowKit Go.Lib

set_option maxRecDepth 100000 in
set_option maxHeartbeats 1000000 in
theorem rNewTalk_any (label : ByteArray) (hl : label.size < 140737488355328) (w : World) :
    Calls Try.prog 9 #[.string label] w fun e w' => e = .returned (.agg #[.string (tagS talkB [label])]) ∧ Below w.heap.size w w' := by
  have HJ := Lib.hid (join_small talkB [label] 0 (by simp) (by simpa using hl) (by decide))
  have HT := Lib.hid (fun a c w hX => rTag_any talkB [label] 1 rfl HJ.out a c w hX)
  obtain ⟨T, hT⟩ : ∃ T, tagS talkB [label] = T := ⟨_, rfl⟩
  rw [hT] at HT ⊢
  clear hl hT HJ
  go_enter Try.func9, Try.ntmps9
  go_upto_region 1 with (fail)
  obtain ⟨w1, hq1, hb9, hz9, Ho⟩ := new1 w 26 [.string ⟨#[]⟩]
  rw [hq1]
  clear hq1
  have HB := Lib.hid hb9
  have HZS := hz9
  clear hb9 hz9
  have o_ := Ho.out.c1
  have o2_o_ := o_; clear o_
  obtain ⟨w2, hq2, hb9, hz9, Hr⟩ := new1 w1 9 [.string label]
  replace Ho := Lib.hid (Ho.out.up hb9)
  replace HB := hbu HB hb9
  replace HZS := sz HZS hz9.out
  clear hb9 hz9
  have o_ := Ho.out.c1
  have r_ := Hr.out.c1
  go_wp2_with fail
  clear hq2 o2_o_
  refine (HT.out _ _ _ (Sl.ofB Hr.out)).mono ?_
  rintro e w3 ⟨rfl, hb9⟩
  clear o_
  replace Ho := Lib.hid (Ho.out.up hb9)
  clear r_
  replace Hr := Lib.hid (Hr.out.up hb9)
  replace HB := hbu HB hb9
  replace HZS := sz HZS hb9.size
  clear hb9
  have o_ := Ho.out.c1
  have r_ := Hr.out.c1
  have f4_o := Ho.out.frozen
  have o4_o_ := o_; clear o_
  have o4_r_ := r_; clear r_
  obtain ⟨w4, hq4, hg9, hz9, hx9⟩ := put1 Ho 0 (.string T) [.string T] rfl
  replace Hr := Lib.hid (Hr.out.grown hg9.out (sne (by have g0 := HZS.out; omega)))
  replace HB := hbg HB hg9 (by have g0 := HZS.out; omega)
  replace HZS := sz HZS hz9.out
  replace Ho := hx9
  clear hx9 hg9 hz9
  have o_ := Ho.out.c1
  have r_ := Hr.out.c1
  go_wp2_with fail
  clear hq4 o4_r_ o4_o_ f4_o
  simp [bodyPost, results, Try.results9, go_sem, o_]
  exact HB.out
set_option maxRecDepth 100000 in
set_option maxHeartbeats 1000000 in
theorem rSay_any (s label b : ByteArray) (hs : s.size < 140737488355328) (hl : label.size < 140737488355328) (hb : b.size < 140737488355328) (w : World) :
    Calls Try.prog 11 #[.agg #[.string s], .string label, .string b] w fun e w' => e = .returned (.agg #[.string (tagS sayB [s, label, b])]) ∧ Below w.heap.size w w' := by
  have HJ := Lib.hid (join_small sayB [s, label, b] 0 (by simp) (by simp [hs, hl, hb]) (by decide))
  have HT := Lib.hid (fun a c w hX => rTag_any sayB [s, label, b] 3 rfl HJ.out a c w hX)
  obtain ⟨T, hT⟩ : ∃ T, tagS sayB [s, label, b] = T := ⟨_, rfl⟩
  rw [hT] at HT ⊢
  clear hs hl hb hT HJ
  go_enter Try.func11, Try.ntmps11
  go_upto_region 1 with (fail)
  obtain ⟨w1, hq1, hb9, hz9, Ht, Ho⟩ := new2 w 26 [.string s] 26 [.string ⟨#[]⟩]
  rw [hq1]
  clear hq1
  have HB := Lib.hid hb9
  have HZS := hz9
  clear hb9 hz9
  have t_ := Ht.out.c1
  have o_ := Ho.out.c1
  have o2_t_ := t_; clear t_
  have o2_o_ := o_; clear o_
  obtain ⟨w2, hq2, hb9, hz9, Hr⟩ := new1 w1 9 [.string s, .string label, .string b]
  replace Ht := Lib.hid (Ht.out.up hb9)
  replace Ho := Lib.hid (Ho.out.up hb9)
  replace HB := hbu HB hb9
  replace HZS := sz HZS hz9.out
  clear hb9 hz9
  have t_ := Ht.out.c1
  have o_ := Ho.out.c1
  have r_ := Hr.out.c3
  go_wp2_with fail
  clear hq2 o2_o_ o2_t_
  refine (HT.out _ _ _ (Sl.ofB Hr.out)).mono ?_
  rintro e w3 ⟨rfl, hb9⟩
  clear t_
  replace Ht := Lib.hid (Ht.out.up hb9)
  clear o_
  replace Ho := Lib.hid (Ho.out.up hb9)
  clear r_
  replace Hr := Lib.hid (Hr.out.up hb9)
  replace HB := hbu HB hb9
  replace HZS := sz HZS hb9.size
  clear hb9
  have t_ := Ht.out.c1
  have o_ := Ho.out.c1
  have r_ := Hr.out.c3
  have f4_o := Ho.out.frozen
  have o4_t_ := t_; clear t_
  have o4_o_ := o_; clear o_
  have o4_r_ := r_; clear r_
  obtain ⟨w4, hq4, hg9, hz9, hx9⟩ := put1 Ho 0 (.string T) [.string T] rfl
  replace Ht := Lib.hid (Ht.out.grown hg9.out (sne (by have g0 := HZS.out; omega)))
  replace Hr := Lib.hid (Hr.out.grown hg9.out (sne (by have g0 := HZS.out; omega)))
  replace HB := hbg HB hg9 (by have g0 := HZS.out; omega)
  replace HZS := sz HZS hz9.out
  replace Ho := hx9
  clear hx9 hg9 hz9
  have t_ := Ht.out.c1
  have o_ := Ho.out.c1
  have r_ := Hr.out.c3
  go_wp2_with fail
  clear hq4 o4_r_ o4_o_ o4_t_ f4_o
  simp [bodyPost, results, Try.results11, go_sem, o_]
  exact HB.out
theorem new1D (w : World) (t0 : TypeId) (c0 : List Value) : ∃ W, (w.alloc (Obj.cells c0.toArray t0)).drew = W ∧ Below w.heap.size w W ∧ Hid (W.heap.size = w.heap.size + 1) ∧ Hid (Bx W w.heap.size t0 c0) := by
  obtain ⟨W, hq, hb, hz, hx⟩ := new1 w t0 c0
  subst hq
  exact ⟨_, rfl, hb.drew, hz, hx⟩
set_option maxRecDepth 100000 in
set_option maxHeartbeats 2000000 in
theorem rAsk_any (s label : ByteArray) (hs : s.size < 140737488355328) (hl : label.size < 140737488355328) (w : World) :
    Calls Try.prog 14 #[.agg #[.string s], .string label] w fun e w' => e = .returned (.tuple #[.string (tagS askB [s, label]), .agg #[.string (tagS askedB [s, label])]]) ∧ Below w.heap.size w w' := by
  have HJ := Lib.hid (join_small askB [s, label] 0 (by simp) (by simp [hs, hl]) (by decide))
  have HJ2 := Lib.hid (join_small askedB [s, label] 0 (by simp) (by simp [hs, hl]) (by decide))
  have H1 := Lib.hid (fun a c w hX => rTag_any askB [s, label] 2 rfl HJ.out a c w hX)
  have H2 := Lib.hid (fun a c w hX => rTag_any askedB [s, label] 2 rfl HJ2.out a c w hX)
  obtain ⟨A, hA⟩ : ∃ A, tagS askB [s, label] = A := ⟨_, rfl⟩
  obtain ⟨D, hD⟩ : ∃ D, tagS askedB [s, label] = D := ⟨_, rfl⟩
  rw [hA] at H1 ⊢
  rw [hD] at H2 ⊢
  clear hs hl hA hD HJ HJ2
  go_enter Try.func14, Try.ntmps14
  go_wp2_with fail
  obtain ⟨w1, hq1, hb9, hz9, Ht, Ho⟩ := new2 w 26 [.string s] 26 [.string ⟨#[]⟩]
  rw [hq1]
  clear hq1
  have HB := Lib.hid hb9
  have HZS := hz9
  clear hb9 hz9
  have t_ := Ht.out.c1
  have o_ := Ho.out.c1
  have HT := Lib.hid (show Below w1.heap.size w1 w1.drew from (Below.refl _ _).drew)
  have hl_t := Ht.out.lt
  refine wp_region_tree (fun wq9 => ∃ E : But w1 (some (w.heap.size + 1)), wq9 = E.w) ((.qs [0, 1, 2, 5, 6, 7] (.two 3 (.two 4 (.a 8 (.a 9 (.qs [10, 11] (.a 12 .done)))) 8 (.a 4 (.a 9 (.qs [10, 11] (.a 12 .done))))) 8 (.a 3 (.a 4 (.a 9 (.qs [10, 11] (.a 12 .done)))))))) (by kernel_rfl) (by kernel_rfl) (fun _ _ d _ _ h => by cases d <;> exact h) ⟨⟨_, ((below_grown HT.out).but _)⟩, rfl⟩ ?_
  have hov_t := fun (E : But w1 (some (w.heap.size + 1))) o => E.cell (b := w.heap.size) o hl_t (by intro e9; have a0 := Option.some.inj e9; have g0 := HZS.out; omega)
  simp only [Tree.qs]
  repeat (refine tree_q rfl rfl ?_; go_big_quiet_step (fail); refine wpQuiet_nil ?_)
  refine tree_two rfl rfl (fun K hK => ?_) (fun K hK => ?_)
  · go_simp
    obtain ⟨w2, hq9, hb9, hz9, Hr⟩ := new1D w1 9 [.string s, .string label]
    rw [hq9]
    clear hq9
    have HAr := Lib.hid HT.out.size
    replace HT := Lib.hid hb9
    replace HZS := sz HZS (show w1.heap.size ≤ w2.heap.size from HT.out.size)
    clear hb9 hz9
    refine hK _ _ ⟨⟨⟨w2, ((below_grown HT.out).but _)⟩, rfl⟩, ?_⟩
    clear hK K
    repeat (refine tree_q rfl rfl ?_; go_big_quiet_step (fail); refine wpQuiet_nil ?_)
    refine tree_two rfl rfl (fun K hK => ?_) (fun K hK => ?_)
    · go_simp
      refine (H1.out _ _ _ (Sl.ofB Hr.out)).mono ?_
      rintro e w3 ⟨rfl, hb9⟩
      replace Hr := Lib.hid (Hr.out.up hb9)
      replace HT := Lib.hid (below_up HT.out hb9)
      replace HZS := sz HZS (show w1.heap.size ≤ w3.heap.size from HT.out.size)
      clear hb9
      refine hK _ _ ⟨⟨⟨w3, ((below_grown HT.out).but _)⟩, rfl⟩, ?_⟩
      clear hK K
      repeat (refine tree_q rfl rfl ?_; go_big_quiet_step (fail); refine wpQuiet_nil ?_)
      refine tree_a rfl (fun K hK => ?_)
      go_simp
      obtain ⟨w4, hq9, hb9, hz9, Hq⟩ := new1 w3 9 [.string s, .string label]
      rw [hq9]
      clear hq9
      have HAq := Lib.hid HT.out.size
      replace Hr := Lib.hid (Hr.out.up hb9)
      replace HT := Lib.hid (below_up HT.out hb9)
      replace HZS := sz HZS (show w1.heap.size ≤ w4.heap.size from HT.out.size)
      clear hb9 hz9
      refine hK _ _ ⟨⟨⟨w4, ((below_grown HT.out).but _)⟩, rfl⟩, ?_⟩
      clear hK K
      repeat (refine tree_q rfl rfl ?_; go_big_quiet_step (fail); refine wpQuiet_nil ?_)
      refine tree_a rfl (fun K hK => ?_)
      go_simp
      refine (H2.out _ _ _ (Sl.ofB Hq.out)).mono ?_
      rintro e w5 ⟨rfl, hb9⟩
      replace Hr := Lib.hid (Hr.out.up hb9)
      replace Hq := Lib.hid (Hq.out.up hb9)
      replace HT := Lib.hid (below_up HT.out hb9)
      replace HZS := sz HZS (show w1.heap.size ≤ w5.heap.size from HT.out.size)
      clear hb9
      refine hK _ _ ⟨⟨⟨w5, ((below_grown HT.out).but _)⟩, rfl⟩, ?_⟩
      clear hK K
      repeat (refine tree_q rfl rfl ?_; go_big_quiet_step (fail); refine wpQuiet_nil ?_)
      clear hov_t hl_t
      refine tree_a rfl (fun K hK => ?_)
      clear t_
      replace Ht := Lib.hid (Ht.out.up HT.out)
      clear o_
      replace Ho := Lib.hid (Ho.out.up HT.out)
      replace HB := hbu HB HT.out
      replace HZS := sz HZS HT.out.size
      have t_ := Ht.out.c1
      have o_ := Ho.out.c1
      clear Hr Hq
      have f6_o := Ho.out.frozen
      have o6_t_ := t_; clear t_
      have o6_o_ := o_; clear o_
      obtain ⟨w6, hq6, hg9, hz9, hx9⟩ := put1 Ho 0 (.string D) [.string D] rfl
      replace Ht := Lib.hid (Ht.out.grown hg9.out (sne (by have g0 := HZS.out; omega)))
      replace HB := hbg HB hg9 (by have g0 := HZS.out; omega)
      replace HZS := sz HZS hz9.out
      replace Ho := hx9
      have HGR := Lib.hid (((below_grown HT.out).but _).trans hg9.out)
      clear hx9 hg9 hz9
      have t_ := Ht.out.c1
      have o_ := Ho.out.c1
      clear HT
      go_simp
      try rw [hq6]
      refine hK _ _ ⟨⟨⟨w6, HGR.out⟩, rfl⟩, ?_⟩
      clear hK K HGR
      clear hq6 o6_o_ o6_t_ f6_o
      repeat (refine tree_q rfl rfl ?_; go_big_quiet_step (fail); refine wpQuiet_nil ?_)
      refine tree_end ?_
      go_wp2_with fail
      simp [bodyPost, results, Try.results14, go_sem, o_]
      exact HB.out
    · go_simp
      obtain ⟨w3, hq9, hb9, hz9, Hq⟩ := new1 w2 9 [.string s, .string label]
      rw [hq9]
      clear hq9
      have HAq := Lib.hid HT.out.size
      replace Hr := Lib.hid (Hr.out.up hb9)
      replace HT := Lib.hid (below_up HT.out hb9)
      replace HZS := sz HZS (show w1.heap.size ≤ w3.heap.size from HT.out.size)
      clear hb9 hz9
      refine hK _ _ ⟨⟨⟨w3, ((below_grown HT.out).but _)⟩, rfl⟩, ?_⟩
      clear hK K
      repeat (refine tree_q rfl rfl ?_; go_big_quiet_step (fail); refine wpQuiet_nil ?_)
      refine tree_a rfl (fun K hK => ?_)
      go_simp
      refine (H1.out _ _ _ (Sl.ofB Hr.out)).mono ?_
      rintro e w4 ⟨rfl, hb9⟩
      replace Hr := Lib.hid (Hr.out.up hb9)
      replace Hq := Lib.hid (Hq.out.up hb9)
      replace HT := Lib.hid (below_up HT.out hb9)
      replace HZS := sz HZS (show w1.heap.size ≤ w4.heap.size from HT.out.size)
      clear hb9
      refine hK _ _ ⟨⟨⟨w4, ((below_grown HT.out).but _)⟩, rfl⟩, ?_⟩
      clear hK K
      repeat (refine tree_q rfl rfl ?_; go_big_quiet_step (fail); refine wpQuiet_nil ?_)
      refine tree_a rfl (fun K hK => ?_)
      go_simp
      refine (H2.out _ _ _ (Sl.ofB Hq.out)).mono ?_
      rintro e w5 ⟨rfl, hb9⟩
      replace Hr := Lib.hid (Hr.out.up hb9)
      replace Hq := Lib.hid (Hq.out.up hb9)
      replace HT := Lib.hid (below_up HT.out hb9)
      replace HZS := sz HZS (show w1.heap.size ≤ w5.heap.size from HT.out.size)
      clear hb9
      refine hK _ _ ⟨⟨⟨w5, ((below_grown HT.out).but _)⟩, rfl⟩, ?_⟩
      clear hK K
      repeat (refine tree_q rfl rfl ?_; go_big_quiet_step (fail); refine wpQuiet_nil ?_)
      clear hov_t hl_t
      refine tree_a rfl (fun K hK => ?_)
      clear t_
      replace Ht := Lib.hid (Ht.out.up HT.out)
      clear o_
      replace Ho := Lib.hid (Ho.out.up HT.out)
      replace HB := hbu HB HT.out
      replace HZS := sz HZS HT.out.size
      have t_ := Ht.out.c1
      have o_ := Ho.out.c1
      clear Hr Hq
      have f6_o := Ho.out.frozen
      have o6_t_ := t_; clear t_
      have o6_o_ := o_; clear o_
      obtain ⟨w6, hq6, hg9, hz9, hx9⟩ := put1 Ho 0 (.string D) [.string D] rfl
      replace Ht := Lib.hid (Ht.out.grown hg9.out (sne (by have g0 := HZS.out; omega)))
      replace HB := hbg HB hg9 (by have g0 := HZS.out; omega)
      replace HZS := sz HZS hz9.out
      replace Ho := hx9
      have HGR := Lib.hid (((below_grown HT.out).but _).trans hg9.out)
      clear hx9 hg9 hz9
      have t_ := Ht.out.c1
      have o_ := Ho.out.c1
      clear HT
      go_simp
      try rw [hq6]
      refine hK _ _ ⟨⟨⟨w6, HGR.out⟩, rfl⟩, ?_⟩
      clear hK K HGR
      clear hq6 o6_o_ o6_t_ f6_o
      repeat (refine tree_q rfl rfl ?_; go_big_quiet_step (fail); refine wpQuiet_nil ?_)
      refine tree_end ?_
      go_wp2_with fail
      simp [bodyPost, results, Try.results14, go_sem, o_]
      exact HB.out
  · go_simp
    obtain ⟨w2, hq9, hb9, hz9, Hq⟩ := new1D w1 9 [.string s, .string label]
    rw [hq9]
    clear hq9
    have HAq := Lib.hid HT.out.size
    replace HT := Lib.hid hb9
    replace HZS := sz HZS (show w1.heap.size ≤ w2.heap.size from HT.out.size)
    clear hb9 hz9
    refine hK _ _ ⟨⟨⟨w2, ((below_grown HT.out).but _)⟩, rfl⟩, ?_⟩
    clear hK K
    repeat (refine tree_q rfl rfl ?_; go_big_quiet_step (fail); refine wpQuiet_nil ?_)
    refine tree_a rfl (fun K hK => ?_)
    go_simp
    obtain ⟨w3, hq9, hb9, hz9, Hr⟩ := new1 w2 9 [.string s, .string label]
    rw [hq9]
    clear hq9
    have HAr := Lib.hid HT.out.size
    replace Hq := Lib.hid (Hq.out.up hb9)
    replace HT := Lib.hid (below_up HT.out hb9)
    replace HZS := sz HZS (show w1.heap.size ≤ w3.heap.size from HT.out.size)
    clear hb9 hz9
    refine hK _ _ ⟨⟨⟨w3, ((below_grown HT.out).but _)⟩, rfl⟩, ?_⟩
    clear hK K
    repeat (refine tree_q rfl rfl ?_; go_big_quiet_step (fail); refine wpQuiet_nil ?_)
    refine tree_a rfl (fun K hK => ?_)
    go_simp
    refine (H1.out _ _ _ (Sl.ofB Hr.out)).mono ?_
    rintro e w4 ⟨rfl, hb9⟩
    replace Hq := Lib.hid (Hq.out.up hb9)
    replace Hr := Lib.hid (Hr.out.up hb9)
    replace HT := Lib.hid (below_up HT.out hb9)
    replace HZS := sz HZS (show w1.heap.size ≤ w4.heap.size from HT.out.size)
    clear hb9
    refine hK _ _ ⟨⟨⟨w4, ((below_grown HT.out).but _)⟩, rfl⟩, ?_⟩
    clear hK K
    repeat (refine tree_q rfl rfl ?_; go_big_quiet_step (fail); refine wpQuiet_nil ?_)
    refine tree_a rfl (fun K hK => ?_)
    go_simp
    refine (H2.out _ _ _ (Sl.ofB Hq.out)).mono ?_
    rintro e w5 ⟨rfl, hb9⟩
    replace Hq := Lib.hid (Hq.out.up hb9)
    replace Hr := Lib.hid (Hr.out.up hb9)
    replace HT := Lib.hid (below_up HT.out hb9)
    replace HZS := sz HZS (show w1.heap.size ≤ w5.heap.size from HT.out.size)
    clear hb9
    refine hK _ _ ⟨⟨⟨w5, ((below_grown HT.out).but _)⟩, rfl⟩, ?_⟩
    clear hK K
    repeat (refine tree_q rfl rfl ?_; go_big_quiet_step (fail); refine wpQuiet_nil ?_)
    clear hov_t hl_t
    refine tree_a rfl (fun K hK => ?_)
    clear t_
    replace Ht := Lib.hid (Ht.out.up HT.out)
    clear o_
    replace Ho := Lib.hid (Ho.out.up HT.out)
    replace HB := hbu HB HT.out
    replace HZS := sz HZS HT.out.size
    have t_ := Ht.out.c1
    have o_ := Ho.out.c1
    clear Hq Hr
    have f6_o := Ho.out.frozen
    have o6_t_ := t_; clear t_
    have o6_o_ := o_; clear o_
    obtain ⟨w6, hq6, hg9, hz9, hx9⟩ := put1 Ho 0 (.string D) [.string D] rfl
    replace Ht := Lib.hid (Ht.out.grown hg9.out (sne (by have g0 := HZS.out; omega)))
    replace HB := hbg HB hg9 (by have g0 := HZS.out; omega)
    replace HZS := sz HZS hz9.out
    replace Ho := hx9
    have HGR := Lib.hid (((below_grown HT.out).but _).trans hg9.out)
    clear hx9 hg9 hz9
    have t_ := Ht.out.c1
    have o_ := Ho.out.c1
    clear HT
    go_simp
    try rw [hq6]
    refine hK _ _ ⟨⟨⟨w6, HGR.out⟩, rfl⟩, ?_⟩
    clear hK K HGR
    clear hq6 o6_o_ o6_t_ f6_o
    repeat (refine tree_q rfl rfl ?_; go_big_quiet_step (fail); refine wpQuiet_nil ?_)
    refine tree_end ?_
    go_wp2_with fail
    simp [bodyPost, results, Try.results14, go_sem, o_]
    exact HB.out
end Go.Proofs.Ytdlnnkbigeiilaa

/- A range over a function whose iterator keeps its place in a variable of its own: every round goes on. No condition. -/
namespace Go.Proofs.Ytdlnnkbigeiilaa
open Go.RowKit

/-- How a round ends: it goes on. -/
def goesOn (R : World → Prop) : Exit → Act → World → Prop
  | .normal, _, w => R w
  | _, _, _ => False

theorem range_rounds {F : Fence} {n : Nat} {P : Program} {α : Type} {g : Operand} {ps : Array Tmp} {assign body : Code} {Q : Exit → Act → World → Prop} {a : Act} {w : World}
    (hro : F.round = none) (h1 : 1 ≤ n) {gf : Nat} {lb : Array Value} (hg : a.eval g = .func (.func gf) #[] lb) (hFg : F.fn gf) (eg : ∀ args w, (callFunc gf args).run P w = .ok (.enter gf args) w)
    {encs : α → Array Value} (hps : ∀ x, (encs x).size = ps.size) (c : Nat) (xs : List α) (v0 : Value)
    (I : List α → Value → World → Prop) (Rd : Value → World → Prop) (hRd : ∀ s v W, I s v W → Rd v W)
    (hIp : ∀ s v W l o o', w.heap.size ≤ l → W.heap[l]? = some o → o.isCells = false → I s v W → I s v (W.putObj l o'))
    (hIa : ∀ s v W o, I s v W → I s v (W.alloc o)) (hIc : ∀ s v v' W, I s v W → I s v' (W.setCell ⟨c, 0, none⟩ v')) (h0 : I [] v0 w)
    (hround : ∀ (l : Nat) (s : List α) (x : α) (v : Value) (W : World), w.heap.size ≤ l → s ++ [x] <+: xs → I s v W → assign.wpIn (F.inRound l) (n - 1 - 1) P (Exit.then (fun a₁ W₁ => KeepsOthers W W₁ ∧
        ∀ r o', W₁.heap[l]? = some (.loop r) → body.wpIn (F.inRound l) (n - 1 - 1) P (goesOn fun W' => KeepsOthers (W₁.putObj l o') W' ∧ I (s ++ [x]) v W') a₁ (W₁.putObj l o')) (fun _ _ _ => False))
      { tmps := (ps.zip (encs x)).foldl (fun t (p, v) => t.setIfInBounds p v) a.tmps, defers := [] } W)
    (hiter : ∀ (l : Nat) (J : List α → Value → World → Prop) (W : World), (∀ s v W, J s v W → Rd v W) → (∀ s v v' W, J s v W → J s v' (W.setCell ⟨c, 0, none⟩ v')) →
      (∀ s x v W, s ++ [x] <+: xs → J s v W → YieldAt F (n - 1 - 1) P l (encs x) W fun e W' => e = .returned (.bool true) ∧ J (s ++ [x]) v W') → J [] v0 W →
      CallsIn F (n - 1) P gf (#[.func (.yield l) #[] #[]] ++ lb) W fun e W' => (∃ u, e = .returned u) ∧ ∃ v, J xs v W')
    (hdone : ∀ (D : Nat) (v : Value) (W : World), w.heap.size ≤ D → I xs v W → W.heap[D]? = some (.deferred (some [])) → Q .normal { a with defers := { target := .collected D, args := #[] } :: a.defers } W) :
    (Code.rangeFunc g ps assign body).wpIn F n P Q a w := by
  refine wpIn_rangeFunc (fun fn hfn => ?_)
  rw [hro]
  let L : LoopState → Option Code → Loop := fun st pe => { state := st, pending := pe, fn, tmps := a.tmps, params := ps, assign, body, defers := w.heap.size }
  obtain ⟨w1, hw1⟩ : ∃ w1, (w.alloc (.deferred (some []))).alloc (.loop (L .ready none)) = w1 := ⟨_, rfl⟩
  have hL1 : w1.heap[w.heap.size + 1]? = some (.loop (L .ready none)) := by
    rw [← hw1]
    have := World.alloc_heap_new (w.alloc (.deferred (some []))) (.loop (L .ready none))
    rwa [World.size_alloc] at this
  have hD1 : w1.heap[w.heap.size]? = some (.deferred (some [])) := by
    rw [← hw1]
    exact (Below.heap_alloc _ _ _ (by simp)).trans (World.alloc_heap_new w _)
  have hI1 : I [] v0 w1 := by rw [← hw1]; exact hIa _ _ _ _ (hIa _ _ _ _ h0)
  let J : List α → Value → World → Prop := fun s v W => I s v W ∧ W.heap[w.heap.size + 1]? = some (.loop (L .ready none)) ∧ W.heap[w.heap.size]? = some (.deferred (some []))
  refine ⟨w.heap.size + 1, [{ target := .collected w.heap.size, args := #[] }], w1, { target := .fn (.func gf) lb, args := #[.func (.yield (w.heap.size + 1)) #[] #[]] }, w1, gf,
    #[.func (.yield (w.heap.size + 1)) #[] #[]] ++ lb, w1, ?_, ?_, ?_, ?_, fun _ => h1, ?_⟩
  · rw [← hw1]; exact run_enterLoop_outer _ _ _ _ _
  · simp only [resolve, hg]
    simp [go_sem]
  · intro f' hf'; simp [Target.leads] at hf'; subst hf'; exact hFg
  · simp [invoke, go_sem, eg]
  · refine (hiter (w.heap.size + 1) J w1 (fun s v W h => hRd s v W h.1) (fun s v v' W h => ⟨hIc s v v' W h.1, (KeepsOthers.setCell W _ v').same _ _ h.2.1 rfl, (KeepsOthers.setCell W _ v').same _ _ h.2.2 rfl⟩) ?_ ⟨hI1, hL1, hD1⟩).mono ?_
    · rintro s x v W hpre ⟨hi, hl, hd⟩
      have hy := run_yield (P := P) (args := encs x) hl (hps x)
      refine ⟨fn, _, assign, body, hy, roundIn_of_wpIn hfn (wpIn_mono (hround (w.heap.size + 1) s x v W (by omega) hpre hi) ?_)⟩
      rintro e a1 W1 hp
      cases e with
      | normal =>
        obtain ⟨hk1, hb1⟩ := hp
        have hl1 := hk1.same _ _ hl rfl
        have hd1 := hk1.same _ _ hd rfl
        have hlt := (Array.getElem?_eq_some_iff.1 hl1).1
        refine ⟨_, run_beginRound hl1 rfl, wpIn_mono (hb1 _ (.loop { L .ready none with state := .busy }) hl1) ?_⟩
        rintro e2 a2 W2 hp2
        cases e2 with
        | normal =>
          obtain ⟨hk2, hi2⟩ := hp2
          have hl2 := hk2.same _ _ (World.putObj_heap_same hlt) rfl
          have hd2 := hk2.same _ _ ((World.putObj_heap_other (by omega)).trans hd1) rfl
          exact ⟨_, _, run_endRound none hl2, rfl, hIp _ _ _ _ _ _ (by omega) hl2 rfl hi2, World.putObj_heap_same (Array.getElem?_eq_some_iff.1 hl2).1, (World.putObj_heap_other (by omega)).trans hd2⟩
        | _ => exact hp2.elim
      | _ => exact hp.elim
    · rintro e W2 ⟨⟨u, rfl⟩, v, hi, hl, hd⟩
      exact ⟨none, _, run_endLoop hl (by simp [L]), hdone w.heap.size v _ (Nat.le_refl _) (hIp _ _ _ _ _ _ (by omega) hl rfl hi) ((World.putObj_heap_other (by omega)).trans hd)⟩

end Go.Proofs.Ytdlnnkbigeiilaa

/- A list that a closure appends to: what it holds, and what a call that goes on with it leaves as it was. No condition beyond those that each names. -/
namespace Go.Proofs.Ytdlnnkbigeiilaa
open Go.RowKit

/-- From w to w': all blocks that were there are as they were, but for the cell L and the list's own row; the list's row is the old one or a new block. -/
structure GStep (w w' : World) (L : Nat) (v v' : Value) : Prop where
  os : w'.os = w.os
  tape : w'.tape = w.tape
  output : w'.output = w.output
  size : w.heap.size ≤ w'.heap.size
  keep : ∀ k, k < w.heap.size → k ≠ L → v.ownBlock ≠ some k → w'.heap[k]? = w.heap[k]?
  next : ∀ k, v'.ownBlock = some k → v.ownBlock = some k ∨ w.heap.size ≤ k

/-- A block that no append to the list touches. -/
def Safe (w : World) (L : Nat) (v : Value) (b : Nat) : Prop := b < w.heap.size ∧ b ≠ L ∧ v.ownBlock ≠ some b

section
variable {w w1 w2 w' : World} {L : Nat} {v v1 v2 v' : Value}
theorem GStep.refl (w : World) (L : Nat) (v : Value) : GStep w w L v v := ⟨rfl, rfl, rfl, Nat.le_refl _, fun _ _ _ _ => rfl, fun _ h => Or.inl h⟩
theorem GStep.of_below (h : Below w.heap.size w w') (L : Nat) (v : Value) : GStep w w' L v v := ⟨h.os, h.tape, h.output, h.size, fun k hk _ _ => h.block k hk, fun _ h => Or.inl h⟩
theorem Safe.step {b : Nat} (hs : Safe w L v b) (h : GStep w w' L v v') : Safe w' L v' b :=
  ⟨Nat.lt_of_lt_of_le hs.1 h.size, hs.2.1, fun e => by rcases h.next _ e with h1 | h1; exact hs.2.2 h1; have := hs.1; omega⟩
theorem GStep.trans (h1 : GStep w w1 L v v1) (h2 : GStep w1 w2 L v1 v2) : GStep w w2 L v v2 := by
  refine ⟨h2.os.trans h1.os, h2.tape.trans h1.tape, h2.output.trans h1.output, Nat.le_trans h1.size h2.size, fun k hk hL hv => ?_, fun k hk => ?_⟩
  · have hs := Safe.step (b := k) ⟨hk, hL, hv⟩ h1
    exact (h2.keep k hs.1 hs.2.1 hs.2.2).trans (h1.keep k hk hL hv)
  · rcases h2.next k hk with h | h
    · exact h1.next k h
    · exact Or.inr (Nat.le_trans h1.size h)
theorem GStep.block {b : Nat} (h : GStep w w' L v v') (hs : Safe w L v b) : w'.heap[b]? = w.heap[b]? := h.keep b hs.1 hs.2.1 hs.2.2
theorem GStep.cell {b : Nat} (h : GStep w w' L v v') (hs : Safe w L v b) (o : Nat) : w'.cell? ⟨b, o, none⟩ = w.cell? ⟨b, o, none⟩ :=
  World.cell?_of_block (w := w) (a := ⟨b, o, none⟩) (h.block hs)
theorem GStep.below {B : Nat} (h : GStep w w' L v v') (hL : B ≤ L) (hv : ∀ q, v.ownBlock = some q → B ≤ q) (hB : B ≤ w.heap.size) : Below B w w' :=
  ⟨h.os, h.tape, h.output, h.size, fun k hk => h.keep k (by omega) (by omega) (fun e => by have := hv k e; omega)⟩
theorem Sl.gstep {a : Option Addr} {cs : List Value} (h : Sl w w.heap.size a cs) (hs : ∀ b o, a = some ⟨b, o, none⟩ → Safe w L v b) (hg : GStep w w' L v v') : Sl w' w'.heap.size a cs := by
  rcases h with rfl | ⟨b, off, rfl, hb, hc⟩
  · exact Or.inl rfl
  · exact Or.inr ⟨b, off, rfl, Nat.lt_of_lt_of_le hb hg.size, fun i u hu => by rw [hg.cell (hs b off rfl)]; exact hc i u hu⟩
end

def flat (gs : List (Int × Int)) : List Value := gs.flatMap fun g => [.int .i64 g.1, .int .i64 g.2]
theorem flat_append (a b : List (Int × Int)) : flat (a ++ b) = flat a ++ flat b := by simp [flat]
theorem flat_length (gs : List (Int × Int)) : (flat gs).length = gs.length * 2 := by
  induction gs with
  | nil => rfl
  | cons g gs ih => simp only [flat, List.flatMap_cons, List.length_append, List.length_cons, List.length_nil] at *; omega

theorem infoInt : (Try.prog.info? 3).map (fun i => (i.zero, i.size, i.bytes)) = some (some (.int .i64 0), 1, 8) := by kernel_rfl

theorem pairs_succ (k : Nat) (xs : List Int) : pairs (k + 1) xs = pairs k xs ++ [(xs.getD (2 * k) 0, xs.getD (2 * k + 1) 0)] := by
  simp [pairs, List.range_succ]

end Go.Proofs.Ytdlnnkbigeiilaa

/- The program's cover. No condition. -/
namespace Go.Proofs.Ytdlnnkbigeiilaa
open Go.RowKit

attribute [local go_sem] Oper.semAt_some

def spanV (x : Int × Int) : Value := .agg #[.int .i64 x.1, .int .i64 x.2]
def intAt (W : World) (c : Nat) : Int := match W.cell? ⟨c, 0, none⟩ with | some (.int _ k) => k | _ => 0
theorem intAt_eq {W : World} {c : Nat} {k : Int} (h : W.cell? ⟨c, 0, none⟩ = some (.int .i64 k)) : intAt W c = k := by simp [intAt, h]

theorem bitLen_some (d : Nat) (h0 : 0 < d) (hd : d ≤ 1048576) : ∃ p, Lib.bitLen d = p + 1 ∧ p ≤ 20 ∧ 2 ^ p ≤ d := by
  obtain ⟨a, b, _⟩ := bitLen_ok d h0 (by omega)
  have := bitLen_le d 21 h0 (by omega) (by omega)
  exact ⟨Lib.bitLen d - 1, by omega, by omega, b⟩

theorem low_and (k : Nat) (h0 : 0 < k) (h : k ≤ 1048576) : bits BinOp.and IntKind.i64 (k : Int) (-(k : Int)) = ((k &&& (2 ^ 64 - k) : Nat) : Int) := by
  have h1 : (BitVec.ofInt 64 (k : Int)).toNat = k := by
    rw [BitVec.toNat_ofInt]; omega
  have h2 : (BitVec.ofInt 64 (-(k : Int))).toNat = 2 ^ 64 - k := by
    rw [BitVec.toNat_ofInt]; omega
  have h3 : k &&& (2 ^ 64 - k) ≤ k := Nat.and_le_left
  have h4 : (BitVec.ofInt 64 (k : Int) &&& BitVec.ofInt 64 (-(k : Int))).toNat = k &&& (2 ^ 64 - k) := by rw [BitVec.toNat_and, h1, h2]
  show IntKind.i64.wrap ((BitVec.ofInt 64 (k : Int) &&& BitVec.ofInt 64 (-(k : Int))).toNat : Int) = _
  rw [h4]
  generalize k &&& (2 ^ 64 - k) = r at h3
  have h5 : ((r : Int) % 2 ^ 64) = (r : Int) := by omega
  simp only [IntKind.wrap, IntKind.bits, IntKind.signed, h5, Bool.true_and]
  rw [if_neg (by simp; omega)]

theorem pow_wrap (p : Nat) (hp : p ≤ 20) : wrap64 (2 ^ p) = ((2 ^ p : Nat) : Int) := by
  have h : (2 : Nat) ^ p ≤ 2 ^ 20 := Nat.pow_le_pow_right (by omega) hp
  have e : ((2 : Int) ^ p) = ((2 ^ p : Nat) : Int) := by simp
  rw [e]
  generalize 2 ^ p = q at *
  unfold wrap64
  omega

theorem Len_at (n : Nat) (d : Nat) (x : Int) (p : Nat) (hx : x = (d : Int)) (h0 : 0 < d) (hd : d ≤ 1048576) (hp : Lib.bitLen d = p + 1) (w : World) :
    CallsIn Fence.wide n Try.prog 95 #[.int .u64 x] w fun e w' => e = .returned (.int .i64 ((p : Int) + 1)) ∧ w' = w := by
  refine callsIn_wide.2 ((Try.bits_Len x w (by omega) (by omega)).mono ?_)
  rintro e w1 ⟨rfl, rfl⟩
  refine ⟨?_, rfl⟩
  rw [hx, Int.toNat_natCast, hp]
  rfl

set_option maxRecDepth 100000 in
set_option maxHeartbeats 2000000 in
theorem blocks1_in (n : Nat) (hn : 1 ≤ n) (l c h : Nat) (lo hi : Nat) (hle : lo ≤ hi) (hhi : hi ≤ 1048576) (J : List (Int × Int) → Value → World → Prop)
    (hRd : ∀ s v W, J s v W → Boxed W c 3 v ∧ Boxed W h 3 (.int .i64 hi)) (hset : ∀ s v v' W, J s v W → J s v' (W.setCell ⟨c, 0, none⟩ v'))
    (hY : ∀ s x v W, s ++ [x] <+: cover lo hi → J s v W → YieldAt Fence.wide (n - 1) Try.prog l #[spanV x] W fun e W' => e = .returned (.bool true) ∧ J (s ++ [x]) v W')
    (W : World) (h0 : J [] (.int .i64 lo) W) :
    CallsIn Fence.wide n Try.prog 94 #[.func (.yield l) #[] #[], .pointer (some ⟨c, 0, none⟩), .pointer (some ⟨h, 0, none⟩)] W fun e W' => (∃ u, e = .returned u) ∧ ∃ v, J (cover lo hi) v W' := by
  have HRD := Lib.hid hRd
  have HSET := Lib.hid hset
  have HY := Lib.hid hY
  clear hRd hset hY
  refine callsIn_of_wp Try.func94 rfl trivial ?_ rfl
  simp only [Try.ntmps94, List.size_toArray, List.length_cons, List.length_nil, Nat.reduceAdd, Nat.reduceSub, Array.replicate_succ, Array.replicate_zero, List.push_toArray, List.append_toArray, List.nil_append, List.cons_append]
  gi_wp2
  gi_loopw [4] (fun _ wr => ∃ (s : List (Int × Int)) (k : Nat), lo ≤ k ∧ k ≤ hi ∧ Hid (cover lo hi = s ++ cover k hi) ∧ J s (.int .i64 k) wr) (fun _ wr => hi - (intAt wr c).toNat)
  case atStart => exact ⟨[], lo, Nat.le_refl _, hle, rfl, h0⟩
  case round =>
    obtain ⟨s, k, hk1, hk2, HC, hj⟩ := hrel
    have hb := HRD.out _ _ _ hj
    have hbc := hb.1.cell
    have hbh := hb.2.cell
    have HM : Hid (intAt wr c = k) := intAt_eq hbc
    by_cases hkl : k < hi
    · have hcs := cover_some k hi hkl
      have hd : 0 < hi - k := by omega
      obtain ⟨p, hp, hp2, hpd⟩ := bitLen_some (hi - k) hd (by omega)
      have hm1 := down_le k (hi - k) hd 20
      have hm0 := down_pos k (hi - k) 20
      have hpre : s ++ [((k : Int), ((k + down 20 k (hi - k) : Nat) : Int))] <+: cover lo hi := ⟨cover (k + down 20 k (hi - k)) hi, by rw [HC.out, hcs]; simp⟩
      obtain ⟨fn, tmps, assign, body, hy, hR⟩ := HY.out _ _ _ _ hpre hj
      have HR := Lib.hid hR
      have hyw : (Instr.yield l #[.agg #[.int .i64 (k : Int), .int .i64 ((k : Int) + (down 20 k (hi - k) : Int))]]).run Try.prog wr = .ok (.round l fn tmps assign body) wr := by
        have h := hy
        simp only [spanV, Int.natCast_add] at h
        exact h
      have HNEXT : Hid (cover lo hi = (s ++ [((k : Int), ((k + down 20 k (hi - k) : Nat) : Int))]) ++ cover (k + down 20 k (hi - k)) hi) := by show _ = _; rw [HC.out, hcs]; simp
      have hsub : ((hi : Int) - (k : Int)) = ((hi - k : Nat) : Int) := by omega
      have HSUB := Lib.hid hsub
      clear hy hR hpre hcs hsub
      by_cases hk0 : 0 < k
      · have hpm : down 20 k (hi - k) = min (2 ^ p) (k &&& (2 ^ 64 - k)) := by rw [piece_more k (hi - k) hd (by omega) hk0 (by omega), hp]; rfl
        have HPM := Lib.hid hpm
        have HP := Lib.hid hp
        clear hpm hp
        generalize hM : down 20 k (hi - k) = m at *
        have HMM := Lib.hid hM
        have hkm : wrap64 ((k : Int) + (m : Int)) = (k : Int) + (m : Int) := by unfold wrap64; omega
        clear hM hpd
        gi_wp2
        refine ⟨trivial, (Len_at (n - 1) (hi - k) _ p HSUB.out hd (by omega) HP.out wr).mono ?_⟩
        rintro e w1 ⟨rfl, rfl⟩
        have hmin : min (wrap64 (2 ^ p)) (bits BinOp.and IntKind.i64 (k : Int) (-(k : Int))) = (m : Int) := by
          rw [pow_wrap p hp2, low_and k hk0 (by omega), HPM.out]; omega
        have HMIN := Lib.hid hmin
        have HKM := Lib.hid hkm
        have HYW := Lib.hid hyw
        clear hmin hkm hyw
        gi_wp2
        simp only [HMIN.out, HKM.out, HYW.out]
        gi_wp2
        refine HR.out.mono ?_
        rintro e W3 ⟨rfl, hj3⟩
        have hb3 := HRD.out _ _ _ hj3
        have hbc3 := hb3.1.cell
        have hbf3 := hb3.1.frozen
        have HB3 := Lib.hid hb3
        have hj4 := HSET.out _ _ (.int .i64 ((k + m : Nat) : Int)) _ hj3
        have HJ4 := Lib.hid hj4
        have HI4 : Hid (intAt (W3.setCell ⟨c, 0, none⟩ (.int .i64 ((k + m : Nat) : Int))) c = ((k + m : Nat) : Int)) := intAt_eq ((HRD.out _ _ _ hj4).1.cell)
        clear hb3 hj4 hj3
        gi_wp2
        go_roundw
        case rel => exact ⟨_, k + m, by omega, by omega, HNEXT.out, by have h := HJ4.out; rw [Int.natCast_add] at h; exact h⟩
        case measure =>
          have h := HI4.out
          rw [Int.natCast_add] at h
          rw [h, HM.out]
          omega
      · have hpm : down 20 k (hi - k) = 2 ^ p := by
          have : k = 0 := by omega
          subst this
          rw [Nat.sub_zero] at *
          rw [piece_zero hi hd (by omega), hp]; rfl
        have HPM := Lib.hid hpm
        have HP := Lib.hid hp
        clear hpm hp
        generalize hM : down 20 k (hi - k) = m at *
        have HMM := Lib.hid hM
        have hkm : wrap64 ((k : Int) + (m : Int)) = (k : Int) + (m : Int) := by unfold wrap64; omega
        clear hM hpd
        gi_wp2
        refine ⟨trivial, (Len_at (n - 1) (hi - k) _ p HSUB.out hd (by omega) HP.out wr).mono ?_⟩
        rintro e w1 ⟨rfl, rfl⟩
        have hmin : wrap64 (2 ^ p) = (m : Int) := by rw [pow_wrap p hp2, HPM.out]
        gi_wp2
        refine HR.out.mono ?_
        rintro e W3 ⟨rfl, hj3⟩
        have hb3 := HRD.out _ _ _ hj3
        have hbc3 := hb3.1.cell
        have hbf3 := hb3.1.frozen
        have HB3 := Lib.hid hb3
        have hj4 := HSET.out _ _ (.int .i64 ((k + m : Nat) : Int)) _ hj3
        have HJ4 := Lib.hid hj4
        have HI4 : Hid (intAt (W3.setCell ⟨c, 0, none⟩ (.int .i64 ((k + m : Nat) : Int))) c = ((k + m : Nat) : Int)) := intAt_eq ((HRD.out _ _ _ hj4).1.cell)
        clear hb3 hj4 hj3
        gi_wp2
        go_roundw
        case rel => exact ⟨_, k + m, by omega, by omega, HNEXT.out, by have h := HJ4.out; rw [Int.natCast_add] at h; exact h⟩
        case measure =>
          have h := HI4.out
          rw [Int.natCast_add] at h
          rw [h, HM.out]
          omega
    · have hkh : k = hi := by omega
      subst hkh
      gi_wp2
      go_end0
      exact ⟨⟨_, rfl⟩, _, by rw [HC.out, cover_none _ _ (Nat.le_refl _), List.append_nil]; exact hj⟩

end Go.Proofs.Ytdlnnkbigeiilaa

/- The program's cover, as a list of its own. No condition. -/
namespace Go.Proofs.Ytdlnnkbigeiilaa
open Go.RowKit

attribute [local go_sem] Oper.semAt_some

theorem Boxed_putObj {W : World} {B : Nat} {t : TypeId} {v : Value} (h : Boxed W B t v) {l : Nat} {o : Obj} (o' : Obj) (hl : W.heap[l]? = some o) (ho : o.isCells = false) : Boxed (W.putObj l o') B t v := by
  refine h.kept (grownBy_putObj' W l o') (fun e => ?_)
  cases e
  rw [show W.heap[B]? = _ from h] at hl
  cases hl
  cases ho
theorem Boxed_setOther {W : World} {B c : Nat} {t : TypeId} {v : Value} (h : Boxed W B t v) (hne : B ≠ c) (v' : Value) : Boxed (W.setCell ⟨c, 0, none⟩ v') B t v :=
  h.kept (grownBy_setCell' W c v') (fun e => hne (by cases e; rfl))

def Gathered (n0 B c h : Nat) (w : World) (hi : Nat) (s : List (Int × Int)) (v : Value) (W : World) : Prop :=
  (∃ u, Boxed W B 84 u ∧ W.ownsRow B 95 2 u s.length (flat s)) ∧ Boxed W c 3 v ∧ Boxed W h 3 (.int .i64 hi) ∧ Below n0 w W

theorem Gathered.alloc {n0 B c h : Nat} {w : World} {hi : Nat} {s : List (Int × Int)} {v : Value} {W : World} (g : Gathered n0 B c h w hi s v W) (hn : n0 ≤ w.heap.size) (o : Obj) : Gathered n0 B c h w hi s v (W.alloc o) := by
  obtain ⟨⟨u, b1, r⟩, b2, b3, b4⟩ := g
  exact ⟨⟨u, b1.alloc o, r.alloc o⟩, b2.alloc o, b3.alloc o, b4.alloc (Nat.le_trans hn b4.size) o⟩
theorem Gathered.put {n0 B c h : Nat} {w : World} {hi : Nat} {s : List (Int × Int)} {v : Value} {W : World} (g : Gathered n0 B c h w hi s v W) (hn : n0 ≤ w.heap.size) {l : Nat} {o : Obj} (o' : Obj) (hl : W.heap[l]? = some o) (ho : o.isCells = false) (hln : n0 ≤ l) : Gathered n0 B c h w hi s v (W.putObj l o') := by
  obtain ⟨⟨u, b1, r⟩, b2, b3, b4⟩ := g
  exact ⟨⟨u, Boxed_putObj b1 o' hl ho, ownsRow_putObj r o' hl ho⟩, Boxed_putObj b2 o' hl ho, Boxed_putObj b3 o' hl ho, b4.grown (grownBy_putObj' W l o') (Nat.le_trans hn b4.size) (fun k e => by cases e; exact hln)⟩
theorem Gathered.set {n0 B c h : Nat} {w : World} {hi : Nat} {s : List (Int × Int)} {v : Value} {W : World} (g : Gathered n0 B c h w hi s v W) (h0 : n0 ≤ c) (hcB : c < B) (hch : c ≠ h) (v' : Value) : Gathered n0 B c h w hi s v' (W.setCell ⟨c, 0, none⟩ v') := by
  obtain ⟨⟨u, b1, r⟩, b2, b3, b4⟩ := g
  refine ⟨⟨u, Boxed_setOther b1 (by omega) v', r.kept (grownBy_setCell' W c v') ?_⟩, b2.set v', Boxed_setOther b3 (Ne.symm hch) v', b4.setCell h0 v'⟩
  cases e : u.ownBlock with
  | none => exact Or.inl rfl
  | some q =>
    refine Or.inr (fun e' => ?_)
    have := (r.lt q e).1
    cases e'
    omega

theorem infoSpan : (Try.prog.info? 95).map (fun i => (i.zero, i.size, i.bytes)) = some (some (.agg #[.int .i64 0, .int .i64 0]), 2, 16) := by kernel_rfl

set_option maxRecDepth 100000 in
set_option maxHeartbeats 2000000 in
theorem appendSeq_in (n0 c h lo hi : Nat) (hle : lo ≤ hi) (hhi : hi ≤ 1048576) (w : World) (hb1 : Boxed w c 3 (.int .i64 lo)) (hb2 : Boxed w h 3 (.int .i64 hi)) (hch : c ≠ h) (h0 : n0 ≤ c) :
    CallsIn Fence.wide 6 Try.prog 132 #[.slice none 0 0, .func (.func 94) #[] #[.pointer (some ⟨c, 0, none⟩), .pointer (some ⟨h, 0, none⟩)]] w fun e w' =>
      ∃ v, e = .returned v ∧ w'.ownsRow w.heap.size 95 2 v (cover lo hi).length (flat (cover lo hi)) ∧ Below n0 w w' := by
  have hlen := cover_length lo hi
  obtain ⟨i0, hi0, hz0, hz1, hz2⟩ := info_parts infoSpan
  have hcl := hb1.lt
  refine callsIn_of_wp_marks Try.func132 rfl trivial ?_ rfl
  simp only [Try.ntmps132, List.size_toArray, List.length_cons, List.length_nil, Nat.reduceAdd, Nat.reduceSub, Array.replicate_succ, Array.replicate_zero, List.push_toArray, List.append_toArray, List.nil_append, List.cons_append]
  gi_wp2
  have hn0 : n0 ≤ w.heap.size := by omega
  have hlt2 := hb2.lt
  refine range_rounds rfl (by decide) (gf := 94) (lb := #[.pointer (some ⟨c, 0, none⟩), .pointer (some ⟨h, 0, none⟩)]) rfl trivial (enters_of Try.func94 (by kernel_rfl) rfl)
    (encs := fun x => #[spanV x]) (fun _ => rfl) c (cover lo hi) (.int .i64 lo) (Gathered n0 w.heap.size c h w hi) (fun v W => Boxed W c 3 v ∧ Boxed W h 3 (.int .i64 hi)) (fun s v W g => ⟨g.2.1, g.2.2.1⟩)
    (fun s v W l o o' hl ho hc g => g.put hn0 o' ho hc (by simp at hl; omega)) (fun s v W o g => g.alloc hn0 o) (fun s v v' W g => g.set h0 hcl hch v')
    ⟨⟨_, Boxed.new w _ _, World.ownsRow_nil _ _ _ _⟩, hb1.alloc _, hb2.alloc _, (Below.refl _ _).alloc hn0 _⟩ ?round ?iter ?done
  case iter =>
    intro l J W hRd hset hY hJ0
    exact blocks1_in _ (by decide) l c h lo hi hle hhi J hRd hset hY W hJ0
  case done =>
    intro D v W hD g hK
    obtain ⟨⟨u, b1, r⟩, b2, b3, b4⟩ := g
    have hcell := b1.cell
    gi_wp2
    refine ⟨by simp, .inl ⟨_, _, rfl, run_takeDeferred hK, ?_⟩⟩
    exact ⟨_, results_tmp rfl _ _ _, u, rfl, ownsRow_putObj r _ hK rfl, b4.grown (grownBy_putObj' W D _) (Nat.le_trans hn0 b4.size) (fun k e => by cases e; simp at hD; omega)⟩
  case round =>
    rintro l s ⟨x1, x2⟩ v W hl hpre g
    unfold spanV
    have hsl : s.length < (cover lo hi).length := by have := hpre.length_le; simp at this; omega
    gi_wp2
    refine ⟨KeepsOthers.alloc _ _, fun r o' hr => ?_⟩
    have hnl : W.heap.size ≠ l := by
      intro e
      subst e
      rw [World.alloc_heap_new] at hr
      cases hr
    have g2 := (g.alloc hn0 (.cells #[.int .i64 x1, .int .i64 x2] 95)).put hn0 o' hr rfl (by simp at hl; omega)
    have hx : ((W.alloc (.cells #[.int .i64 x1, .int .i64 x2] 95)).putObj l o').heap[W.heap.size]? = some (.cells #[.int .i64 x1, .int .i64 x2] 95 (0, 0)) :=
      (World.putObj_heap_other hnl).trans (World.alloc_heap_new W _)
    generalize (W.alloc (.cells #[.int .i64 x1, .int .i64 x2] 95)).putObj l o' = W2 at *
    have hx0 : W2.cell? ⟨W.heap.size, 0, none⟩ = some (.int .i64 x1) := by simp [World.cell?, hx]
    have hx1 : W2.cell? ⟨W.heap.size, 1, none⟩ = some (.int .i64 x2) := by simp [World.cell?, hx]
    obtain ⟨⟨u, b1, r1⟩, b2, b3, b4⟩ := g2
    have hcell := b1.cell
    have G := Lib.hid (And.intro b1 (And.intro r1 (And.intro b2 (And.intro b3 b4))))
    have hBW : w.heap.size ≤ W2.heap.size := b4.size
    clear hx hr g b1 r1 b2 b3 b4
    gi_wp2_with (gi_at_builtin; refine wpListIn_append_own _ rfl _ _ 84 rfl w.heap.size 95 i0 _ 2 16 Try.underlying84 hi0 hz0 hz1 hz2 rfl (by decide) u s.length (flat s) rfl (G.out.2.1.alloc _) ⟨W2.heap.size, 0, none⟩ 1 1 [.int .i64 x1, .int .i64 x2] rfl rfl (World.news_of_block (heap_alloc_new W2 _)) (by simp [Value.oneCell']) (by unfold maxLen; omega) (by omega) (by simp; omega) ?_; intro v' w1 hown' hgrow _; obtain ⟨g', cap', rfl⟩ := ownsRow_succ hown'; obtain ⟨hv1, hv2, hr2, hk2, hb2⟩ := G.out.1.appended (by decide) G.out.2.1 hBW (Nat.le_refl _) hown' hgrow; have hc1 := hv1.cell; have hf1 := hv1.frozen)
    have e1 : (s ++ [(x1, x2)]).length = s.length + 1 := by simp
    have e2 : flat (s ++ [(x1, x2)]) = flat s ++ [.int .i64 x1, .int .i64 x2] := by simp [flat]
    refine ⟨hk2, ⟨_, hv2, by rw [e1, e2]; exact hr2⟩, (hb2.block c hcl).trans G.out.2.2.1, (hb2.block h hlt2).trans G.out.2.2.2.1, G.out.2.2.2.2.trans (hb2.mono hn0)⟩

set_option maxRecDepth 100000 in
set_option maxHeartbeats 1000000 in
theorem collect_any (n0 c h lo hi : Nat) (hle : lo ≤ hi) (hhi : hi ≤ 1048576) (w : World) (hb1 : Boxed w c 3 (.int .i64 lo)) (hb2 : Boxed w h 3 (.int .i64 hi)) (hch : c ≠ h) (h0 : n0 ≤ c) :
    Calls Try.prog 91 #[.func (.func 94) #[] #[.pointer (some ⟨c, 0, none⟩), .pointer (some ⟨h, 0, none⟩)]] w fun e w' =>
      ∃ v, e = .returned v ∧ w'.ownsRow w.heap.size 95 2 v (cover lo hi).length (flat (cover lo hi)) ∧ Below n0 w w' := by
  have h := callsIn_wide.1 (appendSeq_in n0 c h lo hi hle hhi w hb1 hb2 hch h0)
  go_enter Try.func91, Try.ntmps91
  go_wp2_with fail
  refine h.mono ?_
  rintro e w1 ⟨v, rfl, hr, hb⟩
  go_wp2_with fail
  go_ret
  exact ⟨v, rfl, hr, hb⟩

/-- A cover that the call has made. -/
structure MadeS (w w' : World) (v : Value) (gs : List (Int × Int)) : Prop where
  own : w'.ownsRow 0 95 2 v gs.length (flat gs)
  new_ : ∀ q, v.ownBlock = some q → w.heap.size ≤ q
  below : Below w.heap.size w w'

def CoverPost (w : World) (lo hi : Int) (e : Ending) (w' : World) : Prop :=
  if 0 ≤ lo ∧ lo ≤ hi ∧ hi ≤ 1048576 then ∃ v, e = .returned (.tuple #[v, .int .i64 0]) ∧ MadeS w w' v (cover lo.toNat hi.toNat)
  else e = .returned (.tuple #[.slice none 0 0, .int .i64 4]) ∧ Below w.heap.size w w'

set_option maxHeartbeats 1000000 in
theorem boardGood_any (lo hi : Int) (w : World) : Calls Try.prog 43 #[.int .i64 lo, .int .i64 hi, .int .i64 1048576] w fun e w' => e = .returned (.bool (decide (0 ≤ lo ∧ lo ≤ hi ∧ hi ≤ 1048576))) ∧ w' = w := by
  by_cases h1 : 0 ≤ lo <;> by_cases h2 : lo ≤ hi <;> by_cases h3 : hi ≤ 1048576 <;>
    (go_enter Try.func43, Try.ntmps43
     go_wp2
     go_ret
     exact ⟨ret_bool (by simp [h1, h2, h3]), rfl⟩)

set_option maxHeartbeats 1000000 in
theorem blocks_any (lo hi : Int) (w : World) : Calls Try.prog 46 #[.int .i64 lo, .int .i64 hi] w fun e w' =>
    e = .returned (.func (.func 94) #[] #[.pointer (some ⟨w.heap.size, 0, none⟩), .pointer (some ⟨w.heap.size + 1, 0, none⟩)]) ∧ w' = (w.alloc (.cells #[.int .i64 lo] 3)).alloc (.cells #[.int .i64 hi] 3) := by
  go_enter Try.func46, Try.ntmps46
  go_wp2
  go_ret
  exact ⟨rfl, rfl⟩

theorem ownsRow_down {W : World} {base base' : Nat} {e : TypeId} {size : Nat} {v : Value} {k : Nat} {xs : List Value} (h : W.ownsRow base e size v k xs) (hb : base' ≤ base) : W.ownsRow base' e size v k xs := by
  refine ⟨h.1, ?_⟩
  rcases h.2 with h0 | ⟨g, cap, cur, hv, hg, rest⟩
  · exact Or.inl h0
  · exact Or.inr ⟨g, cap, cur, hv, Nat.le_trans hb hg, rest⟩

end Go.Proofs.Ytdlnnkbigeiilaa

/- A heap of digests takes one more: (*heap).put of the package board. Conditions: the blocks lie one behind the other, and the digests are no longer than memory can hold. -/
namespace Go.Proofs.Ytdlnnkbigeiilaa
open Go.RowKit

abbrev blockB : ByteArray := ⟨#[98, 108, 111, 99, 107]⟩
def bothS (a b : ByteArray) : ByteArray := tagS blockB [a, b]
theorem bothS_size (a b : ByteArray) : (bothS a b).size = 32 := tagS_size _ _
def pcC (p : Pc) : List Value := [.int .i64 (p.lo : Int), .int .i64 (p.hi : Int)]
theorem pcC_len (p : Pc) : (pcC p).length = 2 := rfl

theorem RowO.cut {N g c n m size : Nat} {w : World} {e : TypeId} {xs : List Value} (h : RowO N w e size (.slice (some ⟨g, 0, none⟩) n c) n xs) (hm : m ≤ n) : RowO N w e size (.slice (some ⟨g, 0, none⟩) m c) m (xs.take (m * size)) := by
  have hms : m * size ≤ n * size := Nat.mul_le_mul_right _ hm
  refine ⟨by rw [List.length_take, h.1]; omega, Or.inr ?_⟩
  rcases h.2 with ⟨hv, _⟩ | ⟨g', cap, cur, hv, hb, hg, h1, h2, h3, h4⟩
  · cases hv
  · simp only [Value.slice.injEq, Option.some.injEq, Addr.mk.injEq, and_true, true_and] at hv
    obtain ⟨rfl, rfl⟩ := hv
    refine ⟨g, c, cur, rfl, hb, hg, by omega, h2, h3, ?_⟩
    rw [← h4, List.take_take, Nat.min_eq_left hms]
theorem RowO.addr {N n size : Nat} {w : World} {e : TypeId} {v : Value} {xs : List Value} (h : RowO N w e size v n xs) (h0 : 0 < n) : ∃ g c, v = .slice (some ⟨g, 0, none⟩) n c := by
  rcases h.2 with ⟨_, h1⟩ | ⟨g, cap, cur, hv, _⟩
  · omega
  · exact ⟨g, cap, hv⟩

theorem RowO.cap {N n m c size : Nat} {a : Option Addr} {w : World} {e : TypeId} {xs : List Value} (h : RowO N w e size (.slice a m c) n xs) : m ≤ c := by
  rcases h.2 with ⟨h1, _⟩ | ⟨g, cap, cur, hv, _, _, h1, _⟩
  · cases h1; exact Nat.le_refl _
  · cases hv; exact h1

/-- A heap of digests, in two cells of a block; its rows lie from N on. -/
structure HeapAt (W : World) (N hb off : Nat) (t : TypeId) (cs : List Value) (vs vd : Value) (l : List Pc) : Prop where
  bx : Bx W hb t cs
  c0 : cs[off]? = some vs
  c1 : cs[off + 1]? = some vd
  rs : RowO N W 95 2 vs l.length (l.flatMap pcC)
  rd : RowO N W 9 1 vd l.length (l.map fun p => Value.string p.d)
  ap : ∀ q, vs.ownBlock = some q → vd.ownBlock ≠ some q
  hs : vs.ownBlock ≠ some hb
  hd : vd.ownBlock ≠ some hb

theorem HeapAt.up {W W' : World} {N hb off : Nat} {t : TypeId} {cs : List Value} {vs vd : Value} {l : List Pc} (h : HeapAt W N hb off t cs vs vd l) (hb9 : Below W.heap.size W W') : HeapAt W' N hb off t cs vs vd l :=
  ⟨h.bx.up hb9, h.c0, h.c1, h.rs.up hb9, h.rd.up hb9, h.ap, h.hs, h.hd⟩

/-- What put leaves. -/
structure PutR (w w' : World) (N hb off : Nat) (t : TypeId) (cs : List Value) (vs vd : Value) (l : List Pc) : Prop where
  ex : ∃ us ud, HeapAt w' N hb off t ((cs.set off us).set (off + 1) ud) us ud l ∧ (∀ q, us.ownBlock = some q → vs.ownBlock = some q ∨ w.heap.size ≤ q) ∧ (∀ q, ud.ownBlock = some q → vd.ownBlock = some q ∨ w.heap.size ≤ q)
  kept : Kept (fun q => q = hb ∨ vs.ownBlock = some q ∨ vd.ownBlock = some q) w w'

theorem set_here {α : Type} {cs : List α} {i : Nat} {v : α} (h : cs[i]? = some v) : cs.set i v = cs := by
  obtain ⟨hi, rfl⟩ := List.getElem?_eq_some_iff.1 h
  exact List.set_getElem_self hi
theorem HeapAt.fill {W : World} {N hb off : Nat} {t : TypeId} {cs : List Value} {vs vd : Value} {l : List Pc} (h : HeapAt W N hb off t cs vs vd l) : HeapAt W N hb off t ((cs.set off vs).set (off + 1) vd) vs vd l := by
  rw [set_here h.c0, set_here h.c1]; exact h
theorem HeapAt.cells {W : World} {N hb off g q n n' c c' : Nat} {t : TypeId} {cs : List Value} {l : List Pc} (h : HeapAt W N hb off t cs (.slice (some ⟨g, 0, none⟩) n c) (.slice (some ⟨q, 0, none⟩) n' c') l) (j : Nat) (hj : j < l.length) :
    W.cell? ⟨g, j * 2, none⟩ = some (.int .i64 (l[j].lo : Int)) ∧ W.cell? ⟨g, j * 2 + 1, none⟩ = some (.int .i64 (l[j].hi : Int)) ∧ W.cell? ⟨q, j, none⟩ = some (.string l[j].d) ∧ g < W.heap.size ∧ q < W.heap.size := by
  have hn := h.rs.form
  obtain ⟨_, _, e⟩ := hn
  cases e
  have hn := h.rd.form
  obtain ⟨_, _, e⟩ := hn
  cases e
  obtain ⟨b, o, e, hlt, hc⟩ := h.rs.sl.elem pcC_len (by omega) j hj
  cases e
  obtain ⟨b, o, e, hlt', hc'⟩ := h.rd.sl.at j (by rw [List.length_map]; exact hj)
  cases e
  have h0 := hc 0 _ rfl
  have h1 := hc 1 _ rfl
  rw [Nat.zero_add] at h0 h1 hc'
  rw [Nat.add_zero] at h0
  rw [List.getElem_map] at hc'
  exact ⟨h0, h1, hc', hlt, hlt'⟩
theorem set_twice {α : Type} (cs : List α) (a : Nat) (x y x' y' : α) : (((cs.set a x).set (a + 1) y).set a x').set (a + 1) y' = (cs.set a x').set (a + 1) y' := by
  rw [List.set_comm x' y' (by omega), List.set_set, List.set_comm x y' (by omega), List.set_set]
  rw [List.set_comm x' y' (by omega)]
theorem flat_take (l : List Pc) (j : Nat) (hj : j < l.length) : ((l.take (j + 1)).flatMap pcC).take (j * 2) = (l.take j).flatMap pcC := by
  rw [flat_snoc pcC l j hj, List.take_append_of_le_length (by rw [flat_len pcC 2 pcC_len, List.length_take]; omega), List.take_of_length_le (by rw [flat_len pcC 2 pcC_len, List.length_take]; omega)]
theorem kept_gr {b : Nat} {W w : World} (h : Kept (fun q => q = b) W w) : W.grownBy w (some b) :=
  ⟨h.os, h.tape, h.output, h.size, fun q hq hne => h.block q hq (fun e => hne (by rw [e]))⟩
/-- The last one is taken off. -/
theorem HeapAt.pop {W' : World} {N hb off g q n c n' c' j : Nat} {t : TypeId} {cs : List Value} {l : List Pc} {W : World} (hj : j < l.length) (hn : n = j + 1) (hn' : n' = j + 1)
    (h : HeapAt W N hb off t ((cs.set off (.slice (some ⟨g, 0, none⟩) n c)).set (off + 1) (.slice (some ⟨q, 0, none⟩) n' c')) (.slice (some ⟨g, 0, none⟩) n c) (.slice (some ⟨q, 0, none⟩) n' c') (l.take (j + 1)))
    (hx : Bx W' hb t ((((cs.set off (.slice (some ⟨g, 0, none⟩) n c)).set (off + 1) (.slice (some ⟨q, 0, none⟩) n' c')).set off (.slice (some ⟨g, 0, none⟩) j c)).set (off + 1) (.slice (some ⟨q, 0, none⟩) j c')))
    (hrs : RowO N W' 95 2 (.slice (some ⟨g, 0, none⟩) n c) (l.take (j + 1)).length ((l.take (j + 1)).flatMap pcC)) (hrd : RowO N W' 9 1 (.slice (some ⟨q, 0, none⟩) n' c') (l.take (j + 1)).length ((l.take (j + 1)).map fun p => Value.string p.d)) :
    HeapAt W' N hb off t ((cs.set off (.slice (some ⟨g, 0, none⟩) j c)).set (off + 1) (.slice (some ⟨q, 0, none⟩) j c')) (.slice (some ⟨g, 0, none⟩) j c) (.slice (some ⟨q, 0, none⟩) j c') (l.take j) := by
  subst hn
  subst hn'
  have hl1 : (l.take (j + 1)).length = j + 1 := by rw [List.length_take]; omega
  have hl0 : (l.take j).length = j := by rw [List.length_take]; omega
  have e0 := (List.getElem?_eq_some_iff.1 h.c0).1
  have e1 := (List.getElem?_eq_some_iff.1 h.c1).1
  simp only [List.length_set] at e0 e1
  rw [set_twice] at hx
  refine ⟨hx, ?_, ?_, ?_, ?_, h.ap, h.hs, h.hd⟩
  · rw [List.getElem?_set_ne (by omega), List.getElem?_set_self (by omega)]
  · rw [List.getElem?_set_self (by simp; omega)]
  · rw [hl1] at hrs
    exact (hrs.cut (Nat.le_succ j)).eq (flat_take l j hj) hl0.symm
  · rw [hl1] at hrd
    refine (hrd.cut (Nat.le_succ j)).eq ?_ hl0.symm
    rw [← List.map_take, List.take_take]
    congr 2
    omega
theorem take_rev (l : List Pc) (j : Nat) (h : j < l.length) : (l.take (j + 1)).reverse = l[j] :: (l.take j).reverse := by
  rw [List.take_succ_eq_append_getElem h]; simp

/-! Two rows that grow in a region that draws its order. -/
theorem Kept.mono {P P' : Nat → Prop} {W w : World} (h : Kept P W w) (hp : ∀ q, P q → P' q) : Kept P' W w := ⟨h.os, h.tape, h.output, h.size, fun q hq hn => h.block q hq (fun e => hn (hp q e))⟩
structure Keeps (P : Nat → Prop) (W : World) where
  w : World
  h : Kept P W w
theorem Keeps.cell {P : Nat → Prop} {W : World} (E : Keeps P W) {b : Nat} (o : Nat) (hb : b < W.heap.size) (hn : ¬ P b) : E.w.cell? ⟨b, o, none⟩ = W.cell? ⟨b, o, none⟩ := cell_of_block (E.h.block b hb hn) o
instance (P : Nat → Prop) (W : World) : Nonempty (Keeps P W) := ⟨⟨W, Kept.refl P W⟩⟩
structure TwoAt (U V : Nat → Prop) (W w : World) (N : Nat) (us ud : Value) (n m : Nat) (xs ys : List Value) : Prop where
  k : Kept (fun q => U q ∨ V q) W w
  rs : RowO N w 95 2 us n xs
  rd : RowO N w 9 1 ud m ys
  ap : ∀ q, us.ownBlock = some q → ud.ownBlock ≠ some q
  hu : ∀ q, us.ownBlock = some q → U q ∨ W.heap.size ≤ q
  hv : ∀ q, ud.ownBlock = some q → V q ∨ W.heap.size ≤ q
section
variable {U V : Nat → Prop} {W w w' : World} {N n m g c : Nat} {us ud : Value} {xs ys zs : List Value}
theorem TwoAt.up (h : TwoAt U V W w N us ud n m xs ys) (hb : Below w.heap.size w w') : TwoAt U V W w' N us ud n m xs ys :=
  ⟨h.k.up hb, h.rs.up hb, h.rd.up hb, h.ap, h.hu, h.hv⟩
theorem TwoAt.pushS (h : TwoAt U V W w N us ud n m xs ys) (hr : RowO N w' 95 2 (.slice (some ⟨g, 0, none⟩) (n + 1) c) (n + 1) zs) (hg : w.grownBy w' us.ownBlock) (ha : us.ownBlock = some g ∨ g = w.heap.size) : TwoAt U V W w' N (.slice (some ⟨g, 0, none⟩) (n + 1) c) ud (n + 1) m zs ys := by
  have hs := h.k.size
  refine ⟨h.k.grown hg (fun q e => ?_), hr, h.rd.grown hg (fun q e e2 => h.ap q e2 e), ?_, ?_, h.hv⟩
  · rcases h.hu q e with h1 | h1
    · exact Or.inr (Or.inl h1)
    · exact Or.inl h1
  · intro q e e2
    have e' : some g = some q := e
    cases e'
    rcases ha with h1 | h1
    · exact h.ap g h1 e2
    · have := (h.rd.lt g e2).2; omega
  · intro q e
    have e' : some g = some q := e
    cases e'
    rcases ha with h1 | h1
    · exact h.hu g h1
    · exact Or.inr (by omega)
theorem TwoAt.pushD (h : TwoAt U V W w N us ud n m xs ys) (hr : RowO N w' 9 1 (.slice (some ⟨g, 0, none⟩) (m + 1) c) (m + 1) zs) (hg : w.grownBy w' ud.ownBlock) (ha : ud.ownBlock = some g ∨ g = w.heap.size) : TwoAt U V W w' N us (.slice (some ⟨g, 0, none⟩) (m + 1) c) n (m + 1) xs zs := by
  have hs := h.k.size
  refine ⟨h.k.grown hg (fun q e => ?_), h.rs.grown hg (fun q e e2 => h.ap q e e2), hr, ?_, h.hu, ?_⟩
  · rcases h.hv q e with h1 | h1
    · exact Or.inr (Or.inr h1)
    · exact Or.inl h1
  · intro q e e2
    have e' : some g = some q := e2
    cases e'
    rcases ha with h1 | h1
    · exact h.ap g e h1
    · have := (h.rs.lt g e).2; omega
  · intro q e
    have e' : some g = some q := e
    cases e'
    rcases ha with h1 | h1
    · exact h.hv g h1
    · exact Or.inr (by omega)
end
theorem put_close {w wc wz wy : World} {N hb off n m : Nat} {t : TypeId} {cs : List Value} {vs vd us ud xs ys : Value} {l l2 : List Pc} {c : Pc} {H : ByteArray → ByteArray → ByteArray} {s : Pc}
    (hL : mergeH H l.reverse s = c :: l2.reverse) (hH : HeapAt wc N hb off t ((cs.set off us).set (off + 1) ud) us ud l2) (hO : us.ownBlock = vs.ownBlock ∧ ud.ownBlock = vd.ownBlock) (hK : Kept (fun q => q = hb) w wc) (_ : hb < w.heap.size)
    (hT : TwoAt (fun q => us.ownBlock = some q) (fun q => ud.ownBlock = some q) wc wz N xs ys n m (l2.flatMap pcC ++ pcC c) ((l2.map fun p => Value.string p.d) ++ [Value.string c.d])) (hn : n = l2.length + 1) (hm : m = l2.length + 1)
    (hx : Bx wy hb t ((((cs.set off us).set (off + 1) ud).set off xs).set (off + 1) ys)) (hg : wz.grownBy wy (some hb)) : PutR w wy N hb off t cs vs vd (mergeH H l.reverse s).reverse := by
  have e0 := (List.getElem?_eq_some_iff.1 hH.c0).1
  have e1 := (List.getElem?_eq_some_iff.1 hH.c1).1
  simp only [List.length_set] at e0 e1
  have hlt := hH.bx.lt
  have hsz := hK.size
  rw [set_twice] at hx
  rw [hL, List.reverse_cons, List.reverse_reverse]
  have hxb : xs.ownBlock ≠ some hb := fun e => by
    rcases hT.hu hb e with h1 | h1
    · exact hH.hs h1
    · omega
  have hyb : ys.ownBlock ≠ some hb := fun e => by
    rcases hT.hv hb e with h1 | h1
    · exact hH.hd h1
    · omega
  refine ⟨⟨xs, ys, ⟨hx, ?_, ?_, ?_, ?_, hT.ap, hxb, hyb⟩, ?_, ?_⟩, ?_⟩
  · rw [List.getElem?_set_ne (by omega), List.getElem?_set_self (by omega)]
  · rw [List.getElem?_set_self (by simp; omega)]
  · exact (hT.rs.grown hg (fun q e e2 => hxb (e.trans e2.symm))).eq (by rw [List.flatMap_append]; simp) (by rw [hn]; simp)
  · exact (hT.rd.grown hg (fun q e e2 => hyb (e.trans e2.symm))).eq (by rw [List.map_append]; rfl) (by rw [hm]; simp)
  · intro q e
    rcases hT.hu q e with h1 | h1
    · exact Or.inl (hO.1 ▸ h1)
    · exact Or.inr (by omega)
  · intro q e
    rcases hT.hv q e with h1 | h1
    · exact Or.inl (hO.2 ▸ h1)
    · exact Or.inr (by omega)
  · refine ((hK.mono (fun q e => Or.inl e)).trans (hT.k.mono (fun q e => ?_))).grown hg (fun q e => Or.inr (Or.inl (Option.some.inj e).symm))
    rcases e with e | e
    · exact Or.inr (Or.inl (hO.1 ▸ e))
    · exact Or.inr (Or.inr (hO.2 ▸ e))
theorem infoStrP : (Try.prog.info? 9).map (fun i => (i.zero, i.size, i.bytes)) = some (some (.string ⟨#[]⟩), 1, 16) := by kernel_rfl
theorem put_step {H : ByteArray → ByteArray → ByteArray} (hH : ∀ a b, (H a b).size = 32) {a0 : Nat} {m : List Pc} {s c p : Pc} {r t : List Pc} (e : t = p :: r) (h : mergeH H t c = mergeH H m s ∧ RunR a0 t c.lo ∧ c.lo < c.hi ∧ c.hi ≤ 1048576 ∧ c.d.size < 140737488355328) (hh : halves p c = true) :
    mergeH H r ⟨p.lo, c.hi, H p.d c.d⟩ = mergeH H m s ∧ RunR a0 r p.lo ∧ p.lo < c.hi ∧ c.hi ≤ 1048576 ∧ (H p.d c.d).size < 140737488355328 := by
  subst e
  obtain ⟨h1, ⟨h2, h3, h4⟩, h5, h6, _⟩ := h
  rw [mergeH, if_pos hh] at h1
  exact ⟨h1, h4, by omega, h6, by rw [hH]; decide⟩
theorem put_less {j : Nat} (h : wrap64 (j : Int) = (j : Int)) : (intOf (.int .i64 (wrap64 (j : Int)))).toNat < (intOf (.int .i64 ((j + 1 : Nat) : Int))).toNat := by
  rw [h]; simp [intOf]
theorem put_stop {H : ByteArray → ByteArray → ByteArray} {a0 : Nat} {m : List Pc} {s c p : Pc} {r t : List Pc} (e : t = p :: r) (h : mergeH H t c = mergeH H m s ∧ RunR a0 t c.lo ∧ c.lo < c.hi ∧ c.hi ≤ 1048576 ∧ c.d.size < 140737488355328) (hh : halves p c = false) : mergeH H m s = c :: t := by
  subst e
  rw [← h.1, mergeH, if_neg (by rw [hh]; decide)]
/-- What the digest of two halves is asked for. -/
def TagCalls (f : FuncId) (label : ByteArray) (T : List ByteArray → ByteArray) : Prop := ∀ (ps : List ByteArray), ps.length ≤ 3 → (∀ x ∈ ps, x.size < 140737488355328) → ∀ (a : Option Addr) (c : Nat) (w : World), Sl w w.heap.size a (ps.map Value.string) → Calls Try.prog f #[.string label, .slice a ps.length c] w fun e w' => e = .returned (.string (T ps)) ∧ Below w.heap.size w w'
set_option maxRecDepth 100000 in
set_option maxHeartbeats 4000000 in
theorem put_gen (H : ByteArray → ByteArray → ByteArray) (h32 : ∀ a b, (H a b).size = 32) (T : List ByteArray → ByteArray) (hT : ∀ a b, T [a, b] = H a b) (hTC : TagCalls 96 blockB T) (N hb off : Nat) (t : TypeId) (cs : List Value) (vs vd : Value) (l : List Pc) (s : Pc) (a0 : Nat) (hr : RunR a0 l.reverse s.lo) (hs : s.lo < s.hi) (hh : s.hi ≤ 1048576) (hd : ∀ p ∈ l, p.d.size < 140737488355328) (hsd : s.d.size < 140737488355328) (hl : l.length ≤ 1048576) (w : World) (hN : N ≤ w.heap.size) (hH : HeapAt w N hb off t cs vs vd l) :
    Calls Try.prog 47 #[.pointer (some ⟨hb, off, none⟩), .agg #[.int .i64 (s.lo : Int), .int .i64 (s.hi : Int)], .string s.d] w fun e w' => e = .returned (.tuple #[]) ∧ PutR w w' N hb off t cs vs vd ((mergeH H l.reverse s).reverse) := by
  have HHZ := Lib.hid h32
  have HTC := Lib.hid (fun x y hx hy a c w hX => hT x y ▸ hTC [x, y] (by simp) (by intro z hz; rcases List.mem_cons.1 hz with rfl | hz; exact hx; rcases List.mem_cons.1 hz with rfl | hz; exact hy; cases hz) a c w hX)
  clear h32 hTC hT
  have HL := Lib.hid hl
  have HDS := Lib.hid hd
  have HHB := Lib.hid hH.bx.lt
  have hc0 := hH.bx.cell hH.c0
  have hc1 := hH.bx.cell hH.c1
  have HH := Lib.hid hH
  have HN := Lib.hid hN
  clear hH hN hd hl
  obtain ⟨ga, gc, rfl⟩ := HH.out.rs.form
  obtain ⟨da, dc, rfl⟩ := HH.out.rd.form
  have HOL := Lib.hid (show (∀ q, (Value.slice ga l.length gc).ownBlock = some q → q < w.heap.size) ∧ (∀ q, (Value.slice da l.length dc).ownBlock = some q → q < w.heap.size) from ⟨fun q e => (HH.out.rs.lt q e).2, fun q e => (HH.out.rd.lt q e).2⟩)
  go_enter Try.func47, Try.ntmps47
  go_upto_region 1 with (fail)
  obtain ⟨w1, hq1, hb9, hz9, Hsb⟩ := new1 w 95 [.int .i64 (s.lo : Int), .int .i64 (s.hi : Int)]
  rw [hq1]
  clear hq1
  have HB := Lib.hid hb9
  have HZS := hz9
  clear hb9 hz9
  have sb_ := Hsb.out.c2
  have hcu0 := (HB.out.cell (p := ⟨hb, off, none⟩) HHB.out).trans hc0
  have hcu1 := (HB.out.cell (p := ⟨hb, off + 1, none⟩) HHB.out).trans hc1
  go_upto_block 0 with fail
  go_cut [2] from 6 (fun d wq => ∃ (m : Nat) (c : Pc) (us ud : Value), m ≤ l.length ∧ d = .string c.d ∧ Hid (mergeH H l.reverse s = c :: (l.take m).reverse) ∧ Hid (Bx wq w.heap.size 95 [.int .i64 (c.lo : Int), .int .i64 (c.hi : Int)]) ∧ Hid (HeapAt wq N hb off t ((cs.set off us).set (off + 1) ud) us ud (l.take m)) ∧ Hid (us.ownBlock = (Value.slice ga l.length gc).ownBlock ∧ ud.ownBlock = (Value.slice da l.length dc).ownBlock) ∧ Hid (Kept (fun q => q = hb) w wq))
  case first =>
    go_wp2_with fail
    go_loopw [6, 2] (fun n d wr => ∃ (m : Nat) (c : Pc) (us ud : Value), m ≤ l.length ∧ n = .int .i64 (m : Int) ∧ d = .string c.d ∧ Hid (mergeH H (l.take m).reverse c = mergeH H l.reverse s ∧ RunR a0 (l.take m).reverse c.lo ∧ c.lo < c.hi ∧ c.hi ≤ 1048576 ∧ c.d.size < 140737488355328) ∧ Hid (Bx wr w.heap.size 95 [.int .i64 (c.lo : Int), .int .i64 (c.hi : Int)]) ∧ Hid (HeapAt wr N hb off t ((cs.set off us).set (off + 1) ud) us ud (l.take m)) ∧ Hid (us.ownBlock = (Value.slice ga l.length gc).ownBlock ∧ ud.ownBlock = (Value.slice da l.length dc).ownBlock) ∧ Hid (Kept (fun q => q = hb) w wr)) (fun n _ _ => (intOf n).toNat)
    case atStart => exact ⟨l.length, s, _, _, Nat.le_refl _, rfl, rfl, by rw [List.take_length]; exact ⟨rfl, hr, hs, hh, hsd⟩, Hsb, by rw [List.take_length]; exact (HH.out.up HB.out).fill, ⟨rfl, rfl⟩, (Kept.refl _ _).up HB.out⟩
    case round =>
      clear Hsb HB sb_ hcu0 hcu1 HH hs hh hsd hr hc0 hc1
      obtain ⟨m, c, us, ud, hm, rfl, rfl, HC, Hsb, HH, HO, HK⟩ := hrel
      have HBB := Lib.hid (HH.out.bx.lt)
      have HSZ := Lib.hid (HK.out.size)
      have hcu0 := HH.out.bx.cell HH.out.c0
      have hcu1 := HH.out.bx.cell HH.out.c1
      rcases m with _ | j
      · go_wp2_with fail
        go_meet
        case rel => exact ⟨0, c, us, ud, Nat.zero_le _, rfl, HC.out.1.symm, Hsb, HH, HO, HK⟩
      · have hj : j < l.length := hm
        have HTR := Lib.hid (take_rev l j hj)
        obtain ⟨g, gc', rfl⟩ := HH.out.rs.addr (by rw [List.length_take]; omega)
        obtain ⟨q, qc', rfl⟩ := HH.out.rd.addr (by rw [List.length_take]; omega)
        have hln : (l.take (j + 1)).length = j + 1 := by rw [List.length_take]; omega
        obtain ⟨hp0, hp1, hp2, hgl, hql⟩ := HH.out.cells j (by omega)
        rw [List.getElem_take] at hp0 hp1 hp2
        rw [hln] at *
        obtain ⟨p, hp⟩ : ∃ p, l[j] = p := ⟨_, rfl⟩
        have HPD := Lib.hid (HDS.out _ (List.getElem_mem hj))
        rw [hp] at hp0 hp1 hp2 HTR HPD
        have hr2 := HC.out.2.1
        rw [HTR.out] at hr2
        have HRP := Lib.hid hr2
        have hr0 := hr2.1
        have hr1 := hr2.2.1
        obtain ⟨_, _, hcl, hch, _⟩ := HC.out
        obtain ⟨y, hy⟩ : ∃ y, p.hi - p.lo = y := ⟨_, rfl⟩
        obtain ⟨z, hz⟩ : ∃ z, c.hi - c.lo = z := ⟨_, rfl⟩
        have hwj : wrap64 (j : Int) = (j : Int) := by have := HL.out; unfold wrap64; omega
        have HWJ := Lib.hid hwj
        have hwy : wrap64 ((p.hi : Int) - (p.lo : Int)) = (y : Int) := by unfold wrap64; omega
        have hwz : wrap64 ((c.hi : Int) - (c.lo : Int)) = (z : Int) := by unfold wrap64; omega
        have hw2 : wrap64 (2 * (z : Int)) = ((2 * z : Nat) : Int) := by unfold wrap64; omega
        have hz0 : ¬ (((2 * z : Nat) : Int) = 0) := by omega
        have HYZ := Lib.hid (show halves p c = (decide (z = y) && decide (p.lo % (2 * z) = 0)) by unfold halves; rw [hy, hz])
        have Hh := Lib.hid HH.out.bx
        have Hrs := Lib.hid HH.out.rs
        have Hrd := Lib.hid HH.out.rd
        have HS1 := Lib.hid (show w.heap.size < wr.heap.size from Hsb.out.lt)
        have HS2 := Lib.hid (show g < w.heap.size ∧ q < w.heap.size from ⟨HOL.out.1 g HO.out.1.symm, HOL.out.2 q HO.out.2.symm⟩)
        have HJ := Lib.hid hj
        generalize 2 * z = zz at *
        clear hp hm hr2 hr0 hr1 hcl hch hy hz hj hln
        by_cases hyz : z = y
        · subst hyz
          by_cases hrm : p.lo % zz = 0
          · have hb2 : (((p.lo : Int) % (zz : Int)) != 0) = false := by
              have : ((p.lo : Int) % (zz : Int)) = ((p.lo % zz : Nat) : Int) := rfl
              rw [this, hrm]; rfl
            have hb1 : ((z : Int) != (z : Int)) = false := by simp
            have HHV := Lib.hid (show halves p c = true by rw [HYZ.out, decide_eq_true hrm]; simp)
            clear hrm HYZ
            replace HZS := sz HZS HBB.out
            replace HZS := sz HZS HSZ.out
            replace HZS := sz HZS HS1.out
            replace HZS := sz HZS HS2.out
            replace HZS := sz HZS HHB.out
            replace HZS := sz HZS HN.out
            have sb_ := Hsb.out.c2
            have BW := Lib.hid (Below.refl wr.heap.size wr)
            have HKS := Lib.hid (Kept.refl (fun q9 => q9 = w.heap.size) wr)
            have o2_sb_ := sb_; clear sb_
            obtain ⟨w2, hq2, hb9, hz9, Hlast⟩ := new1 wr 95 [.int .i64 (p.lo : Int), .int .i64 (p.hi : Int)]
            replace Hsb := Lib.hid (Hsb.out.up hb9)
            replace Hh := Lib.hid (Hh.out.up hb9)
            replace BW := hbu BW hb9
            replace HK := Lib.hid (Kept.up HK.out hb9)
            replace HKS := Lib.hid (Kept.up HKS.out hb9)
            replace HZS := sz HZS hz9.out
            clear hb9 hz9
            have sb_ := Hsb.out.c2
            have last_ := Hlast.out.c2
            go_wp2_with fail
            clear hq2 o2_sb_
            have HTG := Lib.hid (fun a c' w hX => HTC.out p.d c.d HPD.out HC.out.2.2.2.2 a c' w hX)
            have hql2 : q < w2.heap.size := by have := HZS.out; omega
            have hbl2 : hb < w2.heap.size := by have := HZS.out; omega
            have hcv1 := Hh.out.cell HH.out.c1
            replace hp2 := (BW.out.cell (p := ⟨q, j, none⟩) hql).trans hp2
            clear BW
            have HT := Lib.hid (show Below w2.heap.size w2 w2.drew from (Below.refl _ _).drew)
            have hl_sb := Hsb.out.lt
            have hl_last := Hlast.out.lt
            refine wp_region_treek (fun wq9 => ∃ E : Over w2, wq9 = E.w) 16 ((.qs [0] (.e 1 [] (.qs [2] (.e 3 [] (.qs [4, 5, 6, 7] (.e 8 [11, 12, 14, 15] (.qs [9, 10, 11] (.e 12 [14, 15] (.qs [13] (.a 14 (.a 15 (.a 16 (.qs [17] .done)))))))))))))) (by kernel_rfl) (by kernel_rfl) (fun _ _ d _ _ h => by cases d <;> exact h) ⟨⟨_, HT.out⟩, rfl⟩ ?_
            have hov_sb := fun (E : Over w2) o => E.cell (b := w.heap.size) o hl_sb
            have hov_last := fun (E : Over w2) o => E.cell (b := wr.heap.size) o hl_last
            have hov_q := fun (E : Over w2) o => E.cell (b := q) o hql2
            have hov_hb := fun (E : Over w2) o => E.cell (b := hb) o hbl2
            simp only [TreeK.qs]
            repeat (first | (refine treek_q rfl rfl ?_; go_big_quiet_step (fail); refine wpQuiet_nil ?_) | (refine treek_e rfl rfl ?_; go_big_quiet_step (fail); refine wpQuiet_nil ?_))
            refine treek_a rfl (fun K hK => ?_)
            go_simp
            obtain ⟨w3, hq9, hb9, hz9, Hr⟩ := new1D w2 9 [.string p.d, .string c.d]
            rw [hq9]
            clear hq9
            have HAr := Lib.hid HT.out.size
            replace HT := Lib.hid hb9
            replace HZS := sz HZS (show w2.heap.size ≤ w3.heap.size from HT.out.size)
            clear hb9 hz9
            refine hK _ _ ⟨fun _ => ⟨⟨w3, HT.out⟩, rfl⟩, ?_⟩
            clear hK K
            repeat (first | (refine treek_q rfl rfl ?_; go_big_quiet_step (fail); refine wpQuiet_nil ?_) | (refine treek_e rfl rfl ?_; go_big_quiet_step (fail); refine wpQuiet_nil ?_))
            refine treek_a rfl (fun K hK => ?_)
            go_simp
            refine (HTG.out _ _ _ (Sl.ofB Hr.out)).mono ?_
            rintro e w4 ⟨rfl, hb9⟩
            replace Hr := Lib.hid (Hr.out.up hb9)
            replace HT := Lib.hid (below_up HT.out hb9)
            replace HZS := sz HZS (show w2.heap.size ≤ w4.heap.size from HT.out.size)
            clear hb9
            refine hK _ _ ⟨fun _ => ⟨⟨w4, HT.out⟩, rfl⟩, ?_⟩
            clear hK K
            repeat (first | (refine treek_q rfl rfl ?_; go_big_quiet_step (fail); refine wpQuiet_nil ?_) | (refine treek_e rfl rfl ?_; go_big_quiet_step (fail); refine wpQuiet_nil ?_))
            clear hov_sb hl_sb hov_last hl_last hov_q hov_hb
            refine treek_a rfl (fun K hK => ?_)
            clear sb_
            replace Hsb := Lib.hid (Hsb.out.up HT.out)
            replace Hh := Lib.hid (Hh.out.up HT.out)
            clear last_
            replace Hlast := Lib.hid (Hlast.out.up HT.out)
            replace HK := Lib.hid (Kept.up HK.out HT.out)
            replace HKS := Lib.hid (Kept.up HKS.out HT.out)
            replace HZS := sz HZS HT.out.size
            clear HT
            clear Hr
            have sb_ := Hsb.out.c2
            have last_ := Hlast.out.c2
            have f5_sb := Hsb.out.frozen
            have o5_sb_ := sb_; clear sb_
            have o5_last_ := last_; clear last_
            obtain ⟨w5, hq5, hg9, hz9, hx9⟩ := put2 Hsb 0 (.int .i64 (p.lo : Int)) 1 (.int .i64 (c.hi : Int)) [.int .i64 (p.lo : Int), .int .i64 (c.hi : Int)] rfl
            replace Hh := Lib.hid (Hh.out.grown hg9.out (sne (by have g0 := HZS.out; omega)))
            replace Hlast := Lib.hid (Hlast.out.grown hg9.out (sne (by have g0 := HZS.out; omega)))
            replace HK := Lib.hid (Kept.grown HK.out hg9.out (fun q9 e9 => by obtain rfl := Option.some.inj e9; exact Or.inl (show w.heap.size ≤ w.heap.size by have g0 := HZS.out; omega)))
            replace HKS := Lib.hid (Kept.grown HKS.out hg9.out (fun q9 e9 => by obtain rfl := Option.some.inj e9; exact Or.inr (rfl)))
            replace HZS := sz HZS hz9.out
            replace Hsb := hx9
            clear hx9 hg9 hz9
            have sb_ := Hsb.out.c2
            have last_ := Hlast.out.c2
            go_simp
            try rw [hq5]
            refine hK _ _ ⟨fun h9 => absurd rfl h9, ?_⟩
            clear hK K
            clear hq5 o5_last_ o5_sb_ f5_sb
            repeat (first | (refine treek_q rfl rfl ?_; go_big_quiet_step (fail); refine wpQuiet_nil ?_) | (refine treek_e rfl rfl ?_; go_big_quiet_step (fail); refine wpQuiet_nil ?_))
            refine treek_end ?_
            go_wp2_with fail
            have HCAP := Lib.hid (show j + 1 ≤ gc' ∧ j + 1 ≤ qc' from by have h1 := Hrs.out.cap; have h2 := Hrd.out.cap; have h3 := HJ.out; rw [List.length_take] at h1 h2; omega)
            have HRS8 := Lib.hid (Hrs.out.grown (kept_gr HKS.out) (fun q9 e8 e9 => by have a1 : some g = some q9 := e8; have a2 := Option.some.inj a1; have a3 := Option.some.inj e9; have a4 := HS2.out; omega))
            have HRD8 := Lib.hid (Hrd.out.grown (kept_gr HKS.out) (fun q9 e8 e9 => by have a1 : some q = some q9 := e8; have a2 := Option.some.inj a1; have a3 := Option.some.inj e9; have a4 := HS2.out; omega))
            clear HKS
            have HKH := Lib.hid (Kept.refl (fun q9 => q9 = hb) w5)
            have hbl3 : hb < w5.heap.size := by have := HZS.out; omega
            have hcv0 := Hh.out.cell HH.out.c0
            have hcv2 := Hh.out.cell HH.out.c1
            have hf0 := Hh.out.frozen off
            have hf1 := Hh.out.frozen (off + 1)
            have hcp0 := HCAP.out.1
            have hcp1 := HCAP.out.2
            have HT := Lib.hid (show Below w5.heap.size w5 w5.drew from (Below.refl _ _).drew)
            have hl_sb := Hsb.out.lt
            have hl_last := Hlast.out.lt
            refine wp_region_treek (fun wq9 => ∃ E : Over w5, wq9 = E.w) 18 ((.qs [0, 1, 2, 3, 4] (.e 5 [] (.qs [6, 7, 8, 9, 10, 11] (.e 12 [] (.qs [13, 14, 15, 16, 17] (.a 18 (.qs [19, 20] (.z 21 .done))))))))) (by kernel_rfl) (by kernel_rfl) (fun _ _ d _ _ h => by cases d <;> exact h) ⟨⟨_, HT.out⟩, rfl⟩ ?_
            have hov_sb := fun (E : Over w5) o => E.cell (b := w.heap.size) o hl_sb
            have hov_last := fun (E : Over w5) o => E.cell (b := wr.heap.size) o hl_last
            have hov_hb := fun (E : Over w5) o => E.cell (b := hb) o hbl3
            simp only [TreeK.qs]
            repeat (first | (refine treek_q rfl rfl ?_; go_big_quiet_step (fail); refine wpQuiet_nil ?_) | (refine treek_e rfl rfl ?_; go_big_quiet_step (fail); refine wpQuiet_nil ?_))
            clear hov_sb hl_sb hov_last hl_last hov_hb
            refine treek_a rfl (fun K hK => ?_)
            clear sb_
            replace Hsb := Lib.hid (Hsb.out.up HT.out)
            replace Hh := Lib.hid (Hh.out.up HT.out)
            clear last_
            replace Hlast := Lib.hid (Hlast.out.up HT.out)
            replace HK := Lib.hid (Kept.up HK.out HT.out)
            replace HKH := Lib.hid (Kept.up HKH.out HT.out)
            replace HZS := sz HZS HT.out.size
            clear HT
            have sb_ := Hsb.out.c2
            have last_ := Hlast.out.c2
            have f6_h := Hh.out.frozen
            have o6_sb_ := sb_; clear sb_
            have o6_last_ := last_; clear last_
            obtain ⟨w6, hq6, hg9, hz9, hx9⟩ := put1 Hh off (.slice (some ⟨g, 0, none⟩) j gc') _ rfl
            replace Hsb := Lib.hid (Hsb.out.grown hg9.out (sne (by have g0 := HZS.out; omega)))
            replace Hlast := Lib.hid (Hlast.out.grown hg9.out (sne (by have g0 := HZS.out; omega)))
            replace HK := Lib.hid (Kept.grown HK.out hg9.out (fun q9 e9 => by obtain rfl := Option.some.inj e9; exact Or.inr (rfl)))
            replace HKH := Lib.hid (Kept.grown HKH.out hg9.out (fun q9 e9 => by obtain rfl := Option.some.inj e9; exact Or.inr (rfl)))
            replace HZS := sz HZS hz9.out
            replace Hh := hx9
            clear hx9 hg9 hz9
            have sb_ := Hsb.out.c2
            have last_ := Hlast.out.c2
            go_simp
            try rw [hq6]
            refine hK _ _ ⟨fun h9 => absurd rfl h9, ?_⟩
            clear hK K
            clear hq6 o6_last_ o6_sb_ f6_h
            repeat (first | (refine treek_q rfl rfl ?_; go_big_quiet_step (fail); refine wpQuiet_nil ?_) | (refine treek_e rfl rfl ?_; go_big_quiet_step (fail); refine wpQuiet_nil ?_))
            have hcv3 := Hh.out.cell (i := off + 1) ((List.getElem?_set_ne (by omega)).trans HH.out.c1)
            have hf3 := Hh.out.frozen (off + 1)
            refine treek_z rfl (fun K hK => ?_)
            have f7_h := Hh.out.frozen
            have o7_sb_ := sb_; clear sb_
            have o7_last_ := last_; clear last_
            obtain ⟨w7, hq7, hg9, hz9, hx9⟩ := put1 Hh (off + 1) (.slice (some ⟨q, 0, none⟩) j qc') _ rfl
            replace Hsb := Lib.hid (Hsb.out.grown hg9.out (sne (by have g0 := HZS.out; omega)))
            replace Hlast := Lib.hid (Hlast.out.grown hg9.out (sne (by have g0 := HZS.out; omega)))
            replace HK := Lib.hid (Kept.grown HK.out hg9.out (fun q9 e9 => by obtain rfl := Option.some.inj e9; exact Or.inr (rfl)))
            replace HKH := Lib.hid (Kept.grown HKH.out hg9.out (fun q9 e9 => by obtain rfl := Option.some.inj e9; exact Or.inr (rfl)))
            replace HZS := sz HZS hz9.out
            replace Hh := hx9
            clear hx9 hg9 hz9
            have sb_ := Hsb.out.c2
            have last_ := Hlast.out.c2
            go_simp
            try rw [hq7]
            refine hK _ _ ?_
            clear hK K
            clear hq7 o7_last_ o7_sb_ f7_h
            repeat (first | (refine treek_q rfl rfl ?_; go_big_quiet_step (fail); refine wpQuiet_nil ?_) | (refine treek_e rfl rfl ?_; go_big_quiet_step (fail); refine wpQuiet_nil ?_))
            refine treek_end ?_
            go_wp2_with fail
            have HRS9 := Lib.hid (HRS8.out.grown (kept_gr HKH.out) (fun q9 e8 e9 => HH.out.hs (e8.trans e9.symm)))
            have HRD9 := Lib.hid (HRD8.out.grown (kept_gr HKH.out) (fun q9 e8 e9 => HH.out.hd (e8.trans e9.symm)))
            have HTL := Lib.hid (show (l.take (j + 1)).length = j + 1 by have := HJ.out; rw [List.length_take]; omega)
            go_roundw
            case rel => exact ⟨j, ⟨p.lo, c.hi, H p.d c.d⟩, _, _, Nat.le_of_lt HJ.out, by rw [HWJ.out], rfl, put_step HHZ.out HTR.out HC.out HHV.out, Hsb, HeapAt.pop HJ.out HTL.out HTL.out HH.out Hh.out HRS9.out HRD9.out, ⟨HO.out.1, HO.out.2⟩, HK⟩
            case measure => exact put_less HWJ.out
          · have hb2 : (((p.lo : Int) % (zz : Int)) != 0) = true := by
              have : ((p.lo : Int) % (zz : Int)) = ((p.lo % zz : Nat) : Int) := rfl
              rw [this]; simp; omega
            have hb1 : ((z : Int) != (z : Int)) = false := by simp
            have HHV := Lib.hid (show halves p c = false by rw [HYZ.out, decide_eq_false hrm]; simp)
            clear hrm HYZ
            replace HZS := sz HZS HBB.out
            replace HZS := sz HZS HSZ.out
            replace HZS := sz HZS HS1.out
            replace HZS := sz HZS HS2.out
            replace HZS := sz HZS HHB.out
            replace HZS := sz HZS HN.out
            have sb_ := Hsb.out.c2
            have BW := Lib.hid (Below.refl wr.heap.size wr)
            have o2_sb_ := sb_; clear sb_
            obtain ⟨w2, hq2, hb9, hz9, Hlast⟩ := new1 wr 95 [.int .i64 (p.lo : Int), .int .i64 (p.hi : Int)]
            replace Hsb := Lib.hid (Hsb.out.up hb9)
            replace Hh := Lib.hid (Hh.out.up hb9)
            replace BW := hbu BW hb9
            replace HK := Lib.hid (Kept.up HK.out hb9)
            replace HZS := sz HZS hz9.out
            clear hb9 hz9
            have sb_ := Hsb.out.c2
            have last_ := Hlast.out.c2
            go_wp2_with fail
            clear hq2 o2_sb_
            go_meet
            case rel => exact ⟨j + 1, c, _, _, HJ.out, rfl, put_stop HTR.out HC.out HHV.out, Hsb, HH.out.up BW.out, HO, HK⟩
        · have hb1 : ((z : Int) != (y : Int)) = true := by simp; omega
          have HHV := Lib.hid (show halves p c = false by rw [HYZ.out, decide_eq_false hyz]; rfl)
          clear hyz HYZ
          replace HZS := sz HZS HBB.out
          replace HZS := sz HZS HSZ.out
          replace HZS := sz HZS HS1.out
          replace HZS := sz HZS HS2.out
          replace HZS := sz HZS HHB.out
          replace HZS := sz HZS HN.out
          have sb_ := Hsb.out.c2
          have BW := Lib.hid (Below.refl wr.heap.size wr)
          have o2_sb_ := sb_; clear sb_
          obtain ⟨w2, hq2, hb9, hz9, Hlast⟩ := new1 wr 95 [.int .i64 (p.lo : Int), .int .i64 (p.hi : Int)]
          replace Hsb := Lib.hid (Hsb.out.up hb9)
          replace Hh := Lib.hid (Hh.out.up hb9)
          replace BW := hbu BW hb9
          replace HK := Lib.hid (Kept.up HK.out hb9)
          replace HZS := sz HZS hz9.out
          clear hb9 hz9
          have sb_ := Hsb.out.c2
          have last_ := Hlast.out.c2
          go_wp2_with fail
          clear hq2 o2_sb_
          go_meet
          case rel => exact ⟨j + 1, c, _, _, HJ.out, rfl, put_stop HTR.out HC.out HHV.out, Hsb, HH.out.up BW.out, HO, HK⟩
  case rest =>
    clear Hsb HB sb_ hcu0 hcu1 HH hs hh hsd hr hc0 hc1
    obtain ⟨m, c, us, ud, hm, rfl, HC, Hsb, HH, HO, HK⟩ := hcut
    have HLT := Lib.hid (show (l.take m).length ≤ 1048576 from Nat.le_trans (by rw [List.length_take]; omega) HL.out)
    clear hm
    generalize l.take m = l2 at *
    have HTW := Lib.hid (show TwoAt (fun q => us.ownBlock = some q) (fun q => ud.ownBlock = some q) wc wc N us ud l2.length l2.length _ _ from ⟨Kept.refl _ _, HH.out.rs, HH.out.rd, HH.out.ap, fun q e => Or.inl e, fun q e => Or.inl e⟩)
    have HHC := Lib.hid HH.out.bx
    have hcu0 := HHC.out.cell HH.out.c0
    have hcu1 := HHC.out.cell HH.out.c1
    have sb_ := Hsb.out.c2
    have HNC := Lib.hid (Nat.le_trans HN.out HK.out.size)
    have hlb := HHC.out.lt
    have hls := Hsb.out.lt
    have HNH := Lib.hid (show ¬ (us.ownBlock = some hb ∨ ud.ownBlock = some hb) from fun h => h.elim HH.out.hs HH.out.hd)
    have HNS := Lib.hid (show ¬ (us.ownBlock = some w.heap.size ∨ ud.ownBlock = some w.heap.size) from fun h => h.elim (fun e => Nat.lt_irrefl _ (HOL.out.1 _ (HO.out.1 ▸ e))) (fun e => Nat.lt_irrefl _ (HOL.out.2 _ (HO.out.2 ▸ e))))
    obtain ⟨ua, uc, rfl⟩ := HH.out.rs.form
    obtain ⟨va, vc, rfl⟩ := HH.out.rd.form
    obtain ⟨i9, hi9, hz90, hz91, hz92⟩ := info_parts infoSpan
    obtain ⟨i8, hi8, hz80, hz81, hz82⟩ := info_parts infoStrP
    go_wp2_with fail
    refine wp_region_treek (fun wq9 => ∃ E : Keeps (fun q => (Value.slice ua l2.length uc).ownBlock = some q ∨ (Value.slice va l2.length vc).ownBlock = some q) wc, wq9 = E.w) 18 (.qs [0, 1, 2, 3, 4] (.e 5 [] (.e 6 [] (.qs [9, 10, 11] (.e 12 [] (.qs [13] (.two 7 (.two 8 (.a 14 (.a 15 (.qs [16, 17] (.a 18 (.qs [19, 20] (.z 21 .done)))))) 14 (.a 8 (.a 15 (.qs [16, 17] (.a 18 (.qs [19, 20] (.z 21 .done))))))) 14 (.a 7 (.a 8 (.a 15 (.qs [16, 17] (.a 18 (.qs [19, 20] (.z 21 .done)))))))))))))) (by kernel_rfl) (by kernel_rfl) (fun _ _ d _ _ h => by cases d <;> exact h) ⟨⟨_, (Kept.refl _ _).up (Below.refl _ _).drew⟩, rfl⟩ ?_
    have hov_h := fun (E : Keeps (fun q => (Value.slice ua l2.length uc).ownBlock = some q ∨ (Value.slice va l2.length vc).ownBlock = some q) wc) o => E.cell (b := hb) o hlb HNH.out
    have hov_s := fun (E : Keeps (fun q => (Value.slice ua l2.length uc).ownBlock = some q ∨ (Value.slice va l2.length vc).ownBlock = some q) wc) o => E.cell (b := w.heap.size) o hls HNS.out
    simp only [TreeK.qs]
    repeat (first | (refine treek_q rfl rfl ?_; go_big_quiet_step (fail); refine wpQuiet_nil ?_) | (refine treek_e rfl rfl ?_; go_big_quiet_step (fail); refine wpQuiet_nil ?_))
    clear hov_h hov_s
    have HTwc := HTW
    refine treek_two rfl rfl (fun K hK => ?_) (fun K hK => ?_)
    · go_simp
      obtain ⟨wa, hq9, hb9, hz9, Hb1⟩ := new1D wc 95 [.int .i64 (c.lo : Int), .int .i64 (c.hi : Int)]
      rw [hq9]
      clear hq9
      have HTwa := Lib.hid (HTwc.out.up hb9)
      refine hK _ _ ⟨fun _ => ⟨⟨wa, HTwa.out.k⟩, rfl⟩, ?_⟩
      clear hK K hz9
      repeat (first | (refine treek_q rfl rfl ?_; go_big_quiet_step (fail); refine wpQuiet_nil ?_) | (refine treek_e rfl rfl ?_; go_big_quiet_step (fail); refine wpQuiet_nil ?_))
      clear hb9
      refine treek_two rfl rfl (fun K hK => ?_) (fun K hK => ?_)
      · refine step_append_lies _ rfl _ _ 84 rfl N 95 i9 _ 2 16 Try.underlying84 hi9 hz90 hz91 hz92 rfl (by omega) (.slice ua l2.length uc) l2.length (l2.flatMap pcC) rfl HTwa.out.rs ⟨wc.heap.size, 0, none⟩ 1 1 (pcC c) rfl rfl (World.news_of_block Hb1.out) (by simp [pcC, Value.oneCell']) (by omega) (by have h9 := HLT.out; unfold maxLen; omega) (by have h9 := HLT.out; omega) (Nat.le_trans HNC.out HTwa.out.k.size) _ rfl ?_
        intro g1 c1 wb hown hg9 hat hlt
        have HTwb := Lib.hid (HTwa.out.pushS hown hg9 hat)
        refine hK _ _ ⟨fun _ => ⟨⟨wb, HTwb.out.k⟩, rfl⟩, ?_⟩
        clear hK K hown hg9 hat hlt
        try simp only [Act.put, List.setIfInBounds_toArray, List.set_cons_succ, List.set_cons_zero]
        repeat (first | (refine treek_q rfl rfl ?_; go_big_quiet_step (fail); refine wpQuiet_nil ?_) | (refine treek_e rfl rfl ?_; go_big_quiet_step (fail); refine wpQuiet_nil ?_))
        refine treek_a rfl (fun K hK => ?_)
        go_simp
        obtain ⟨wd, hq9, hb9, hz9, Hb2⟩ := new1 wb 9 [.string c.d]
        rw [hq9]
        clear hq9
        have HTwd := Lib.hid (HTwb.out.up hb9)
        refine hK _ _ ⟨fun _ => ⟨⟨wd, HTwd.out.k⟩, rfl⟩, ?_⟩
        clear hK K hz9
        repeat (first | (refine treek_q rfl rfl ?_; go_big_quiet_step (fail); refine wpQuiet_nil ?_) | (refine treek_e rfl rfl ?_; go_big_quiet_step (fail); refine wpQuiet_nil ?_))
        clear hb9
        refine treek_a rfl (fun K hK => ?_)
        refine step_append_lies _ rfl _ _ 22 rfl N 9 i8 _ 1 16 Try.underlying22 hi8 hz80 hz81 hz82 rfl (by omega) (.slice va l2.length vc) l2.length (l2.map fun p : Pc => Value.string p.d) rfl HTwd.out.rd ⟨wb.heap.size, 0, none⟩ 1 1 [Value.string c.d] rfl rfl (World.news_of_block Hb2.out) (by simp [Value.oneCell']) (by omega) (by have h9 := HLT.out; unfold maxLen; omega) (by have h9 := HLT.out; omega) (Nat.le_trans HNC.out HTwd.out.k.size) _ rfl ?_
        intro g2 c2 we hown hg9 hat hlt
        have HTwe := Lib.hid (HTwd.out.pushD hown hg9 hat)
        refine hK _ _ ⟨fun _ => ⟨⟨we, HTwe.out.k⟩, rfl⟩, ?_⟩
        clear hK K hown hg9 hat hlt
        try simp only [Act.put, List.setIfInBounds_toArray, List.set_cons_succ, List.set_cons_zero]
        repeat (first | (refine treek_q rfl rfl ?_; go_big_quiet_step (fail); refine wpQuiet_nil ?_) | (refine treek_e rfl rfl ?_; go_big_quiet_step (fail); refine wpQuiet_nil ?_))
        have HXwe := Lib.hid (HHC.out.keptP HTwe.out.k HNH.out)
        have hcx := HXwe.out.cell HH.out.c0
        have hcy := HXwe.out.cell HH.out.c1
        have hfx := HXwe.out.frozen off
        refine treek_a rfl (fun K hK => ?_)
        obtain ⟨wy, hqy, hgy, hzy, hxy⟩ := put1 HXwe off (.slice (some ⟨g1, 0, none⟩) (l2.length + 1) c1) _ rfl
        go_simp
        try rw [hqy]
        refine hK _ _ ⟨fun h9 => absurd rfl h9, ?_⟩
        clear hK K hcx hcy hfx hqy
        repeat (first | (refine treek_q rfl rfl ?_; go_big_quiet_step (fail); refine wpQuiet_nil ?_) | (refine treek_e rfl rfl ?_; go_big_quiet_step (fail); refine wpQuiet_nil ?_))
        have hcz := hxy.out.cell (i := off + 1) ((List.getElem?_set_ne (by omega)).trans HH.out.c1)
        have hfz := hxy.out.frozen (off + 1)
        refine treek_z rfl (fun K hK => ?_)
        obtain ⟨wz, hqz, hgz, hzz, hxz⟩ := put1 hxy (off + 1) (.slice (some ⟨g2, 0, none⟩) (l2.length + 1) c2) _ rfl
        go_simp
        try rw [hqz]
        refine hK _ _ ?_
        clear hK K hcz hfz hqz
        repeat (first | (refine treek_q rfl rfl ?_; go_big_quiet_step (fail); refine wpQuiet_nil ?_) | (refine treek_e rfl rfl ?_; go_big_quiet_step (fail); refine wpQuiet_nil ?_))
        refine treek_end ?_
        go_wp2_with fail
        go_end0
        exact ⟨rfl, put_close HC.out HH.out HO.out HK.out HHB.out HTwe.out rfl rfl hxz.out (hgy.out.trans hgz.out)⟩
      · go_simp
        obtain ⟨wb, hq9, hb9, hz9, Hb2⟩ := new1 wa 9 [.string c.d]
        rw [hq9]
        clear hq9
        have HTwb := Lib.hid (HTwa.out.up hb9)
        refine hK _ _ ⟨fun _ => ⟨⟨wb, HTwb.out.k⟩, rfl⟩, ?_⟩
        clear hK K hz9
        repeat (first | (refine treek_q rfl rfl ?_; go_big_quiet_step (fail); refine wpQuiet_nil ?_) | (refine treek_e rfl rfl ?_; go_big_quiet_step (fail); refine wpQuiet_nil ?_))
        replace Hb1 := Lib.hid (Hb1.out.up hb9)
        clear hb9
        have HNB := Lib.hid (fun e => Nat.lt_irrefl _ (HTwa.out.rs.lt wa.heap.size e).2)
        refine treek_a rfl (fun K hK => ?_)
        refine step_append_lies _ rfl _ _ 84 rfl N 95 i9 _ 2 16 Try.underlying84 hi9 hz90 hz91 hz92 rfl (by omega) (.slice ua l2.length uc) l2.length (l2.flatMap pcC) rfl HTwb.out.rs ⟨wc.heap.size, 0, none⟩ 1 1 (pcC c) rfl rfl (World.news_of_block Hb1.out) (by simp [pcC, Value.oneCell']) (by omega) (by have h9 := HLT.out; unfold maxLen; omega) (by have h9 := HLT.out; omega) (Nat.le_trans HNC.out HTwb.out.k.size) _ rfl ?_
        intro g1 c1 wd hown hg9 hat hlt
        have HTwd := Lib.hid (HTwb.out.pushS hown hg9 hat)
        replace Hb2 := Lib.hid (Hb2.out.grown hg9 HNB.out)
        refine hK _ _ ⟨fun _ => ⟨⟨wd, HTwd.out.k⟩, rfl⟩, ?_⟩
        clear hK K hown hg9 hat hlt
        try simp only [Act.put, List.setIfInBounds_toArray, List.set_cons_succ, List.set_cons_zero]
        repeat (first | (refine treek_q rfl rfl ?_; go_big_quiet_step (fail); refine wpQuiet_nil ?_) | (refine treek_e rfl rfl ?_; go_big_quiet_step (fail); refine wpQuiet_nil ?_))
        refine treek_a rfl (fun K hK => ?_)
        refine step_append_lies _ rfl _ _ 22 rfl N 9 i8 _ 1 16 Try.underlying22 hi8 hz80 hz81 hz82 rfl (by omega) (.slice va l2.length vc) l2.length (l2.map fun p : Pc => Value.string p.d) rfl HTwd.out.rd ⟨wa.heap.size, 0, none⟩ 1 1 [Value.string c.d] rfl rfl (World.news_of_block Hb2.out) (by simp [Value.oneCell']) (by omega) (by have h9 := HLT.out; unfold maxLen; omega) (by have h9 := HLT.out; omega) (Nat.le_trans HNC.out HTwd.out.k.size) _ rfl ?_
        intro g2 c2 we hown hg9 hat hlt
        have HTwe := Lib.hid (HTwd.out.pushD hown hg9 hat)
        refine hK _ _ ⟨fun _ => ⟨⟨we, HTwe.out.k⟩, rfl⟩, ?_⟩
        clear hK K hown hg9 hat hlt
        try simp only [Act.put, List.setIfInBounds_toArray, List.set_cons_succ, List.set_cons_zero]
        repeat (first | (refine treek_q rfl rfl ?_; go_big_quiet_step (fail); refine wpQuiet_nil ?_) | (refine treek_e rfl rfl ?_; go_big_quiet_step (fail); refine wpQuiet_nil ?_))
        have HXwe := Lib.hid (HHC.out.keptP HTwe.out.k HNH.out)
        have hcx := HXwe.out.cell HH.out.c0
        have hcy := HXwe.out.cell HH.out.c1
        have hfx := HXwe.out.frozen off
        refine treek_a rfl (fun K hK => ?_)
        obtain ⟨wy, hqy, hgy, hzy, hxy⟩ := put1 HXwe off (.slice (some ⟨g1, 0, none⟩) (l2.length + 1) c1) _ rfl
        go_simp
        try rw [hqy]
        refine hK _ _ ⟨fun h9 => absurd rfl h9, ?_⟩
        clear hK K hcx hcy hfx hqy
        repeat (first | (refine treek_q rfl rfl ?_; go_big_quiet_step (fail); refine wpQuiet_nil ?_) | (refine treek_e rfl rfl ?_; go_big_quiet_step (fail); refine wpQuiet_nil ?_))
        have hcz := hxy.out.cell (i := off + 1) ((List.getElem?_set_ne (by omega)).trans HH.out.c1)
        have hfz := hxy.out.frozen (off + 1)
        refine treek_z rfl (fun K hK => ?_)
        obtain ⟨wz, hqz, hgz, hzz, hxz⟩ := put1 hxy (off + 1) (.slice (some ⟨g2, 0, none⟩) (l2.length + 1) c2) _ rfl
        go_simp
        try rw [hqz]
        refine hK _ _ ?_
        clear hK K hcz hfz hqz
        repeat (first | (refine treek_q rfl rfl ?_; go_big_quiet_step (fail); refine wpQuiet_nil ?_) | (refine treek_e rfl rfl ?_; go_big_quiet_step (fail); refine wpQuiet_nil ?_))
        refine treek_end ?_
        go_wp2_with fail
        go_end0
        exact ⟨rfl, put_close HC.out HH.out HO.out HK.out HHB.out HTwe.out rfl rfl hxz.out (hgy.out.trans hgz.out)⟩
    · go_simp
      obtain ⟨wa, hq9, hb9, hz9, Hb2⟩ := new1D wc 9 [.string c.d]
      rw [hq9]
      clear hq9
      have HTwa := Lib.hid (HTwc.out.up hb9)
      refine hK _ _ ⟨fun _ => ⟨⟨wa, HTwa.out.k⟩, rfl⟩, ?_⟩
      clear hK K hz9
      repeat (first | (refine treek_q rfl rfl ?_; go_big_quiet_step (fail); refine wpQuiet_nil ?_) | (refine treek_e rfl rfl ?_; go_big_quiet_step (fail); refine wpQuiet_nil ?_))
      clear hb9
      have HNB := Lib.hid (fun e => Nat.lt_irrefl _ (HTwc.out.rs.lt wc.heap.size e).2)
      refine treek_a rfl (fun K hK => ?_)
      go_simp
      obtain ⟨wb, hq9, hb9, hz9, Hb1⟩ := new1 wa 95 [.int .i64 (c.lo : Int), .int .i64 (c.hi : Int)]
      rw [hq9]
      clear hq9
      have HTwb := Lib.hid (HTwa.out.up hb9)
      refine hK _ _ ⟨fun _ => ⟨⟨wb, HTwb.out.k⟩, rfl⟩, ?_⟩
      clear hK K hz9
      repeat (first | (refine treek_q rfl rfl ?_; go_big_quiet_step (fail); refine wpQuiet_nil ?_) | (refine treek_e rfl rfl ?_; go_big_quiet_step (fail); refine wpQuiet_nil ?_))
      replace Hb2 := Lib.hid (Hb2.out.up hb9)
      clear hb9
      refine treek_a rfl (fun K hK => ?_)
      refine step_append_lies _ rfl _ _ 84 rfl N 95 i9 _ 2 16 Try.underlying84 hi9 hz90 hz91 hz92 rfl (by omega) (.slice ua l2.length uc) l2.length (l2.flatMap pcC) rfl HTwb.out.rs ⟨wa.heap.size, 0, none⟩ 1 1 (pcC c) rfl rfl (World.news_of_block Hb1.out) (by simp [pcC, Value.oneCell']) (by omega) (by have h9 := HLT.out; unfold maxLen; omega) (by have h9 := HLT.out; omega) (Nat.le_trans HNC.out HTwb.out.k.size) _ rfl ?_
      intro g1 c1 wd hown hg9 hat hlt
      have HTwd := Lib.hid (HTwb.out.pushS hown hg9 hat)
      replace Hb2 := Lib.hid (Hb2.out.grown hg9 HNB.out)
      refine hK _ _ ⟨fun _ => ⟨⟨wd, HTwd.out.k⟩, rfl⟩, ?_⟩
      clear hK K hown hg9 hat hlt
      try simp only [Act.put, List.setIfInBounds_toArray, List.set_cons_succ, List.set_cons_zero]
      repeat (first | (refine treek_q rfl rfl ?_; go_big_quiet_step (fail); refine wpQuiet_nil ?_) | (refine treek_e rfl rfl ?_; go_big_quiet_step (fail); refine wpQuiet_nil ?_))
      refine treek_a rfl (fun K hK => ?_)
      refine step_append_lies _ rfl _ _ 22 rfl N 9 i8 _ 1 16 Try.underlying22 hi8 hz80 hz81 hz82 rfl (by omega) (.slice va l2.length vc) l2.length (l2.map fun p : Pc => Value.string p.d) rfl HTwd.out.rd ⟨wc.heap.size, 0, none⟩ 1 1 [Value.string c.d] rfl rfl (World.news_of_block Hb2.out) (by simp [Value.oneCell']) (by omega) (by have h9 := HLT.out; unfold maxLen; omega) (by have h9 := HLT.out; omega) (Nat.le_trans HNC.out HTwd.out.k.size) _ rfl ?_
      intro g2 c2 we hown hg9 hat hlt
      have HTwe := Lib.hid (HTwd.out.pushD hown hg9 hat)
      refine hK _ _ ⟨fun _ => ⟨⟨we, HTwe.out.k⟩, rfl⟩, ?_⟩
      clear hK K hown hg9 hat hlt
      try simp only [Act.put, List.setIfInBounds_toArray, List.set_cons_succ, List.set_cons_zero]
      repeat (first | (refine treek_q rfl rfl ?_; go_big_quiet_step (fail); refine wpQuiet_nil ?_) | (refine treek_e rfl rfl ?_; go_big_quiet_step (fail); refine wpQuiet_nil ?_))
      have HXwe := Lib.hid (HHC.out.keptP HTwe.out.k HNH.out)
      have hcx := HXwe.out.cell HH.out.c0
      have hcy := HXwe.out.cell HH.out.c1
      have hfx := HXwe.out.frozen off
      refine treek_a rfl (fun K hK => ?_)
      obtain ⟨wy, hqy, hgy, hzy, hxy⟩ := put1 HXwe off (.slice (some ⟨g1, 0, none⟩) (l2.length + 1) c1) _ rfl
      go_simp
      try rw [hqy]
      refine hK _ _ ⟨fun h9 => absurd rfl h9, ?_⟩
      clear hK K hcx hcy hfx hqy
      repeat (first | (refine treek_q rfl rfl ?_; go_big_quiet_step (fail); refine wpQuiet_nil ?_) | (refine treek_e rfl rfl ?_; go_big_quiet_step (fail); refine wpQuiet_nil ?_))
      have hcz := hxy.out.cell (i := off + 1) ((List.getElem?_set_ne (by omega)).trans HH.out.c1)
      have hfz := hxy.out.frozen (off + 1)
      refine treek_z rfl (fun K hK => ?_)
      obtain ⟨wz, hqz, hgz, hzz, hxz⟩ := put1 hxy (off + 1) (.slice (some ⟨g2, 0, none⟩) (l2.length + 1) c2) _ rfl
      go_simp
      try rw [hqz]
      refine hK _ _ ?_
      clear hK K hcz hfz hqz
      repeat (first | (refine treek_q rfl rfl ?_; go_big_quiet_step (fail); refine wpQuiet_nil ?_) | (refine treek_e rfl rfl ?_; go_big_quiet_step (fail); refine wpQuiet_nil ?_))
      refine treek_end ?_
      go_wp2_with fail
      go_end0
      exact ⟨rfl, put_close HC.out HH.out HO.out HK.out HHB.out HTwe.out rfl rfl hxz.out (hgy.out.trans hgz.out)⟩
theorem tag_calls (label : ByteArray) (hl : label.size < 140737488355328) : TagCalls 96 label (tagS label) := fun ps h3 hz a c w hX => Tag_any label ps ps.length rfl (join_small label ps 0 h3 hz hl) a c w hX
theorem put_any (N hb off : Nat) (t : TypeId) (cs : List Value) (vs vd : Value) (l : List Pc) (s : Pc) (a0 : Nat) (hr : RunR a0 l.reverse s.lo) (hs : s.lo < s.hi) (hh : s.hi ≤ 1048576) (hd : ∀ p ∈ l, p.d.size < 140737488355328) (hsd : s.d.size < 140737488355328) (hl : l.length ≤ 1048576) (w : World) (hN : N ≤ w.heap.size) (hH : HeapAt w N hb off t cs vs vd l) :
    Calls Try.prog 47 #[.pointer (some ⟨hb, off, none⟩), .agg #[.int .i64 (s.lo : Int), .int .i64 (s.hi : Int)], .string s.d] w fun e w' => e = .returned (.tuple #[]) ∧ PutR w w' N hb off t cs vs vd ((mergeH bothS l.reverse s).reverse) :=
  put_gen bothS bothS_size (tagS blockB) (fun _ _ => rfl) (tag_calls blockB (by decide)) N hb off t cs vs vd l s a0 hr hs hh hd hsd hl w hN hH
end Go.Proofs.Ytdlnnkbigeiilaa

/- The digest of a block of entries: leaf, block of the package board. Conditions: as many entries as a power of two says, and no more than a list may have. -/
namespace Go.Proofs.Ytdlnnkbigeiilaa
open Go.RowKit

abbrev entryB : ByteArray := ⟨#[101, 110, 116, 114, 121]⟩
def leafS (e : ByteArray) : ByteArray := tagS entryB [e]
theorem leafS_size (e : ByteArray) : (leafS e).size = 32 := tagS_size _ _

theorem leaf_gen (T : List ByteArray → ByteArray) (hT : TagCalls 96 entryB T) (e : ByteArray) (he : e.size < 140737488355328) (w : World) :
    Calls Try.prog 136 #[.string e] w fun r w' => r = .returned (.string (T [e])) ∧ Below w.heap.size w w' := by
  have HT := Lib.hid (hT [e] (by simp) (by simpa using he))
  obtain ⟨v, hv⟩ : ∃ v, T [e] = v := ⟨_, rfl⟩
  rw [hv] at HT ⊢
  clear hT he hv
  go_enter Try.func136, Try.ntmps136
  go_upto_region 1 with fail
  obtain ⟨w1, hq1, hb9, hz9, Hr⟩ := new1 w 9 [.string e]
  have HB := Lib.hid hb9
  have HZS := hz9
  clear hb9 hz9
  have r_ := Hr.out.c1
  go_wp2_with fail
  clear hq1
  refine (HT.out _ _ _ (Sl.ofB Hr.out)).mono ?_
  rintro e w2 ⟨rfl, hb9⟩
  clear r_
  replace Hr := Lib.hid (Hr.out.up hb9)
  replace HB := hbu HB hb9
  replace HZS := sz HZS hb9.size
  clear hb9
  have r_ := Hr.out.c1
  go_wp2_with fail
  go_ret
  exact ⟨rfl, HB.out⟩
theorem leaf_any (e : ByteArray) (he : e.size < 140737488355328) (w : World) :
    Calls Try.prog 136 #[.string e] w fun r w' => r = .returned (.string (leafS e)) ∧ Below w.heap.size w w' :=
  leaf_gen (tagS entryB) (tag_calls entryB (by decide)) e he w

theorem mergeH_sizes {H : ByteArray → ByteArray → ByteArray} (h32 : ∀ a b, (H a b).size = 32) : ∀ (st : List Pc) (s : Pc), (∀ p ∈ st, p.d.size = 32) → s.d.size = 32 → ∀ p ∈ mergeH H st s, p.d.size = 32
  | [], s, _, hs => by intro p hp; simp only [mergeH, List.mem_singleton] at hp; rw [hp]; exact hs
  | t :: r, s, h, hs => by
    rw [mergeH]
    split
    · exact mergeH_sizes h32 r _ (fun p hp => h p (List.mem_cons_of_mem _ hp)) (h32 _ _)
    · intro p hp
      rcases List.mem_cons.1 hp with rfl | hp
      · exact hs
      · exact h p hp
theorem heapH_sizes {H : ByteArray → ByteArray → ByteArray} (h32 : ∀ a b, (H a b).size = 32) : ∀ (l st : List Pc), (∀ p ∈ st, p.d.size = 32) → (∀ p ∈ l, p.d.size = 32) → ∀ p ∈ heapH H st l, p.d.size = 32
  | [], _, h, _ => h
  | x :: l, st, h, h1 => heapH_sizes h32 l _ (mergeH_sizes h32 st x h (h1 x (by simp))) (fun p hp => h1 p (List.mem_cons_of_mem _ hp))
theorem leavesH_sizes {F : ByteArray → ByteArray} (hF : ∀ e, (F e).size = 32) : ∀ (l : List ByteArray) (i : Nat), ∀ p ∈ leavesH F i l, p.d.size = 32
  | [], _, _, h => by cases h
  | e :: l, i, p, h => by
    rcases List.mem_cons.1 h with rfl | h
    · exact hF e
    · exact leavesH_sizes hF l _ p h
theorem leavesH_len (F : ByteArray → ByteArray) : ∀ (l : List ByteArray) (i : Nat), (leavesH F i l).length = l.length
  | [], _ => rfl
  | _ :: l, i => by simp only [leavesH, List.length_cons, leavesH_len F l]

/-- What the heap is behind the first i entries. -/
def heapI (H : ByteArray → ByteArray → ByteArray) (F : ByteArray → ByteArray) (xs : List ByteArray) (i : Nat) : List Pc := leftH H (leavesH F 0 (xs.take i))
theorem heapI_zero (H : ByteArray → ByteArray → ByteArray) (F : ByteArray → ByteArray) (xs : List ByteArray) : heapI H F xs 0 = [] := rfl
theorem heapI_succ (H : ByteArray → ByteArray → ByteArray) (F : ByteArray → ByteArray) (xs : List ByteArray) (i : Nat) (hi : i < xs.length) : heapI H F xs (i + 1) = (mergeH H (heapI H F xs i).reverse ⟨i, i + 1, F xs[i]⟩).reverse := by
  unfold heapI leftH
  rw [List.take_succ_eq_append_getElem hi, leavesH_append, heapH_append, List.length_take, Nat.min_eq_left (Nat.le_of_lt hi), Nat.zero_add, List.reverse_reverse]
  rfl
theorem heapI_ok {H : ByteArray → ByteArray → ByteArray} {F : ByteArray → ByteArray} (h32 : ∀ a b, (H a b).size = 32) (hF : ∀ e, (F e).size = 32) (xs : List ByteArray) (i : Nat) (hi : i ≤ xs.length) :
    RunR 0 (heapI H F xs i).reverse i ∧ (∀ p ∈ heapI H F xs i, p.d.size = 32) ∧ (heapI H F xs i).length ≤ xs.length := by
  have hl : (xs.take i).length = i := by rw [List.length_take]; omega
  refine ⟨?_, ?_, ?_⟩
  · have h := RunR.heap H (st := []) (a := 0) (b := 0) rfl (leavesH_run F (xs.take i) 0)
    rw [hl, Nat.zero_add] at h
    unfold heapI leftH
    rw [List.reverse_reverse]; exact h
  · intro p hp
    unfold heapI leftH at hp
    exact heapH_sizes h32 _ [] (by simp) (leavesH_sizes hF _ _) p (List.mem_reverse.1 hp)
  · have h := leftH_len H (leavesH F 0 (xs.take i))
    rw [leavesH_len, hl] at h
    unfold heapI; omega

set_option maxRecDepth 100000 in
set_option maxHeartbeats 2000000 in
theorem block_any (xs : List ByteArray) (n k : Nat) (hn : xs.length = n) (hk : n = 2 ^ k) (h20 : n ≤ 1048576) (hz : ∀ x ∈ xs, x.size < 140737488355328) (a : Option Addr) (c : Nat) (w : World) (hX : Sl w w.heap.size a (xs.map Value.string)) :
    Calls Try.prog 99 #[.slice a n c] w fun e w' => e = .returned (.string (blockH bothS leafS n xs)) ∧ Below w.heap.size w w' := by
  have HE := Lib.hid (show heapI bothS leafS xs n = [⟨0, 2 ^ k, blockH bothS leafS n xs⟩] by
    unfold heapI leftH
    rw [← hn, List.take_length, heapH_one bothS leafS k xs (hn.trans hk)]; rfl)
  have HP := Lib.hid (fun N hb off t cs vs vd l s a0 hr hs hh hd hsd hl w hN hH => put_any N hb off t cs vs vd l s a0 hr hs hh hd hsd hl w hN hH)
  have HL := Lib.hid leaf_any
  have HS := Lib.hid (fun i hi => heapI_succ bothS leafS xs i hi)
  have HO := Lib.hid (fun i hi => heapI_ok bothS_size leafS_size xs i hi)
  have HZ0 := Lib.hid (heapI_zero bothS leafS xs)
  have HF32 := Lib.hid leafS_size
  obtain ⟨bb, hbb⟩ : ∃ bb, blockH bothS leafS n xs = bb := ⟨_, rfl⟩
  rw [hbb] at HE ⊢
  generalize heapI bothS leafS xs = HI at *
  generalize bothS = H at *
  generalize leafS = F at *
  have HN := Lib.hid hn
  have HK := Lib.hid hk
  have H20 := Lib.hid h20
  have HZ := Lib.hid hz
  have HX := Lib.hid hX
  clear hn hk hz hX hbb
  go_enter Try.func99, Try.ntmps99
  go_upto_region 2 with fail
  obtain ⟨w1, hq1, hb9, hz9, Hh⟩ := new1 w 86 [.slice none 0 0, .slice none 0 0]
  rw [hq1]
  clear hq1
  have HB := Lib.hid hb9
  have HZS := hz9
  clear hb9 hz9
  have h_ := Hh.out.c2
  have HH := Lib.hid (show HeapAt w1 w.heap.size w.heap.size 0 86 [.slice none 0 0, .slice none 0 0] (.slice none 0 0) (.slice none 0 0) (HI 0) from by rw [HZ0.out]; exact ⟨Hh.out, rfl, rfl, RowO.nil, RowO.nil, (fun q e => by cases e), (fun e => by cases e), (fun e => by cases e)⟩)
  go_wp2_with fail
  go_loopw [8] (fun c wr => ∃ (i : Nat) (us ud : Value), i ≤ n ∧ c = .int .i64 (i : Int) ∧ Hid (HeapAt wr w.heap.size w.heap.size 0 86 [us, ud] us ud (HI i)) ∧ Hid (Below w.heap.size w wr)) (fun c _ => n - (intOf c).toNat)
  case atStart => exact ⟨0, _, _, Nat.zero_le _, rfl, HH, HB⟩
  case round =>
    clear Hh HH HB h_
    obtain ⟨i, us, ud, hi, rfl, HH, HB⟩ := hrel
    by_cases hin : i < n
    · have hil : i < xs.length := by rw [HN.out]; exact hin
      obtain ⟨xb, xo, rfl, hxl, hxc⟩ := (HX.out.up HB.out).at i (by rw [List.length_map]; exact hil)
      rw [List.getElem_map] at hxc
      have HXZ := Lib.hid (HZ.out _ (List.getElem_mem hil))
      have HSI := Lib.hid (HS.out i hil)
      generalize xs[i] = x at *
      obtain ⟨hr9, hd9, hl9⟩ := HO.out i (by rw [HN.out]; exact hi)
      have hwi : wrap64 ((i : Int) + 1) = ((i + 1 : Nat) : Int) := by unfold wrap64; omega
      go_wp2_with fail
      refine (HL.out x HXZ.out wr).mono ?_
      rintro e wz ⟨rfl, hb9⟩
      have HB9 := Lib.hid (below_up HB.out hb9)
      have HH9 := Lib.hid (HH.out.up hb9)
      go_wp2_with fail
      refine (HP.out w.heap.size w.heap.size 0 _ [us, ud] us ud (HI i) ⟨i, i + 1, F x⟩ 0 hr9 (Nat.lt_succ_self i) (by show i + 1 ≤ 1048576; omega) (fun p hp => by rw [hd9 p hp]; decide) (by rw [HF32.out]; decide) (by rw [HN.out] at hl9; omega) wz HB9.out.size HH9.out).mono ?_
      rintro e wy ⟨rfl, ⟨⟨us', ud', hh, _, _⟩, hkp⟩⟩
      rw [← HSI.out] at hh
      have HB8 := Lib.hid (Below.keptP HB9.out hkp HB9.out.size (fun q hq => by
        rcases hq with rfl | hq | hq
        · exact Nat.le_refl _
        · exact (HH9.out.rs.lt q hq).1
        · exact (HH9.out.rd.lt q hq).1))
      have HH8 := Lib.hid hh
      clear hh hkp
      go_wp2_with fail
      exact ⟨⟨i + 1, us', ud', hin, by go_num, HH8, HB8⟩, by simp [intOf]; omega⟩
    · have hin' : i = n := by omega
      subst hin'
      have HH1 := HH.out
      rw [HE.out] at HH1
      obtain ⟨g, c1, rfl⟩ := HH1.rs.addr (by simp)
      obtain ⟨q, c2, rfl⟩ := HH1.rd.addr (by simp)
      have hcu := HH1.bx.cell (i := 1) rfl
      obtain ⟨_, _, hc2, _, _⟩ := HH1.cells 0 (by simp)
      clear HH1
      go_wp2_with fail
      go_ret
      exact ⟨rfl, HB.out⟩
end Go.Proofs.Ytdlnnkbigeiilaa

/- A region that draws its order in the body of a range over a function: walked along a tree as anywhere else. No condition beyond those that each law names. -/
namespace Go.Proofs.Ytdlnnkbigeiilaa
open Go.RowKit

def noDefer (o : Oper) : Bool := match o.op with | .defer _ => false | _ => true
theorem noDefer_ne {o : Oper} (h : noDefer o = true) : ∀ c, o.op ≠ .defer c := by
  intro c e
  unfold noDefer at h
  rw [e] at h
  cases h

section
variable {P : Program} {ops : Array Oper} {Q : Exit → Act → World → Prop} {n l : Nat}
theorem rowsIn_wide {row : String} {args : Array Value} {w : World} {R : Value → World → Prop} (h : Rows P row args w R) : RowsIn (Fence.wide.inRound l) n P row args w R :=
  fun c cs _ => let ⟨v, w', r, s⟩ := h c cs; ⟨v, w', r, stepsIn_wide.2 s⟩

theorem opIn_of_wp {o : Oper} {a : Act} {w : World} {K K' : Act → World → Prop} (hd : noDefer o = true) (hK : ∀ a w, K a w → K' a w) (h : o.wp P a w K Q) : o.wpIn (Fence.wide.inRound l) n P a w K' Q := by
  unfold Oper.wp at h
  refine ⟨fun _ _ => trivial, ?_⟩
  rw [Oper.semAt_plain _ _ _ (noDefer_ne hd)]
  generalize (execOp a.eval o).run P w = r at h
  cases r with
  | halt x w' =>
    cases x
    all_goals first
      | exact h
      | exact h.elim
  | ok x w' =>
    cases x with
    | value v => exact hK _ _ h
    | skip => exact hK _ _ h
    | defer d => exact hK _ _ h
    | enter f args =>
      refine ⟨fun h9 => by simp [Fence.wide] at h9, CallsIn.inRound l (callsIn_wide.2 (Calls.mono h ?_))⟩
      intro e w'' he
      cases e with
      | returned v => exact hK _ _ he
      | panicked c => exact he
      | outgrown => exact he
    | row r args => exact ⟨fun h9 => by simp [Fence.wide] at h9, rowsIn_wide (Rows.mono h fun _ _ he => hK _ _ he)⟩
    | _ => exact h.elim

theorem anyIn_of_wpAny (hd : ∀ (i : Nat) (o : Oper), ops[i]? = some o → noDefer o = true) (hL : ¬ LetsOut Q) : ∀ (fuel : Nat) (listed : Array Bool) (a : Act) (w : World), wpAny P .any ops Q fuel listed a w → wpAnyIn (Fence.wide.inRound l) n P .any ops Q fuel listed a w
  | 0, _, _, _, h => h
  | fuel + 1, listed, a, w, h => by
    refine ⟨h.1, fun i hi => ?_⟩
    have h1 := h.2 i hi
    unfold wpOp at h1
    unfold wpOpIn
    cases ho : ops[i]? with
    | none => rw [ho] at h1; exact anyIn_of_wpAny hd hL fuel _ a w h1
    | some o =>
      rw [ho] at h1
      simp only at h1 ⊢
      by_cases hw : Region.wanted o (yielded ops a.tmps) = true
      · rw [if_pos hw] at h1 ⊢
        rcases h1 with h1 | h1
        · exact opIn_of_wp (hd i o ho) (anyIn_of_wpAny hd hL fuel _) h1
        · exact absurd h1.2 hL
      · rw [if_neg hw] at h1 ⊢
        exact ⟨fun _ _ => trivial, anyIn_of_wpAny hd hL fuel _ _ w h1⟩

theorem wpIn_region_treek {id : Nat} {a : Act} {w : World} {lo : List Oper} (S : World → Prop) (k : Nat) (t : TreeK) (hm : P.follows .mixedOrders = true)
    (hB : (Region.noSelect lo.toArray && decide (t.size = lo.toArray.size) && treeKB .any lo.toArray k t (Array.replicate lo.toArray.size false)) = true) (hd : lo.all noDefer = true) (hL : ¬ LetsOut Q)
    (hQ : ∀ c a d v w, Q (.panic c) (a.put d v) w → Q (.panic c) a w) (hS : S w.drew) (h : wpTreeK P lo.toArray S Q k t a w.drew) : (Code.region id lo.toArray true).wpIn (Fence.wide.inRound l) n P Q a w := by
  simp only [Bool.and_eq_true, decide_eq_true_eq] at hB
  refine wpIn_region_any hm (anyIn_of_wpAny (fun i o ho => ?_) hL _ _ _ _ (any_of_K (S := S) (k := k) _ _ _ _ ?_))
  · rw [List.getElem?_toArray] at ho
    exact List.all_eq_true.1 hd o (List.mem_of_getElem? ho)
  · have := K_of_tree hB.1.1 hQ t _ a _ (fun _ => hS) hB.2 h
    rw [hB.1.2] at this
    exact this
end

/-- A round's end asks for no way out. -/
theorem goesOn_lets {R : World → Prop} : ¬ LetsOut (goesOn R) := fun ⟨_, _, h⟩ => h
theorem goesOn_panic {R : World → Prop} : ∀ c (a : Act) d v w, goesOn R (.panic c) (a.put d v) w → goesOn R (.panic c) a w := fun _ _ _ _ _ h => h

end Go.Proofs.Ytdlnnkbigeiilaa

/- The digests of the blocks of which entries are made: digests of the package board. Conditions: no more entries than a list may have; the part lies within them. -/
namespace Go.Proofs.Ytdlnnkbigeiilaa
open Go.RowKit

attribute [local go_sem] Oper.semAt_some

theorem Sl.cut {w : World} {B b off : Nat} {xs : List Value} (h : Sl w B (some ⟨b, off, none⟩) xs) (lo m : Nat) : Sl w B (some ⟨b, off + lo, none⟩) ((xs.drop lo).take m) := by
  rcases h with rfl | ⟨b', off', e, hb, hc⟩
  · left; simp
  · cases e
    refine Or.inr ⟨b, off + lo, rfl, hb, fun i v hv => ?_⟩
    have h1 : (xs.drop lo)[i]? = some v := by
      rw [List.getElem?_take] at hv
      split at hv
      · exact hv
      · cases hv
    rw [List.getElem?_drop] at h1
    rw [Nat.add_assoc]
    exact hc _ _ h1

theorem RowO.ne_bx {N n size b : Nat} {w : World} {e t : TypeId} {v : Value} {xs cs : List Value} (h : RowO N w e size v n xs) (hb : Bx w b t cs) (hte : t ≠ e) : v.ownBlock ≠ some b := by
  intro e9
  rcases h.2 with ⟨rfl, _⟩ | ⟨g, cap, cur, rfl, _, hg, _⟩
  · cases e9
  · have e8 : some g = some b := e9
    cases e8
    rw [show w.heap[b]? = _ from hb] at hg
    simp only [Option.some.injEq, Obj.cells.injEq] at hg
    exact hte hg.2.1
/-- What has been gathered while the iterator went on. -/
def Digd (n0 N ob eb c h : Nat) (w : World) (ev : Value) (hi : Nat) (D : Int × Int → Value) (s : List (Int × Int)) (v : Value) (W : World) : Prop :=
  (∃ u, Boxed W ob 22 u ∧ RowO N W 9 1 u s.length (s.map D)) ∧ Boxed W eb 22 ev ∧ Boxed W c 3 v ∧ Boxed W h 3 (.int .i64 hi) ∧ Below n0 w W

section
variable {n0 N ob eb c h : Nat} {w : World} {ev : Value} {hi : Nat} {D : Int × Int → Value} {s : List (Int × Int)} {v : Value} {W : World}
theorem Digd.alloc (g : Digd n0 N ob eb c h w ev hi D s v W) (hn : n0 ≤ w.heap.size) (o : Obj) : Digd n0 N ob eb c h w ev hi D s v (W.alloc o) := by
  obtain ⟨⟨u, b1, r⟩, b2, b3, b4, b5⟩ := g
  exact ⟨⟨u, b1.alloc o, World.ownsRow.alloc r o⟩, b2.alloc o, b3.alloc o, b4.alloc o, b5.alloc (Nat.le_trans hn b5.size) o⟩
theorem Digd.put (g : Digd n0 N ob eb c h w ev hi D s v W) (hn : n0 ≤ w.heap.size) {l : Nat} {o : Obj} (o' : Obj) (hl : W.heap[l]? = some o) (ho : o.isCells = false) (hln : n0 ≤ l) : Digd n0 N ob eb c h w ev hi D s v (W.putObj l o') := by
  obtain ⟨⟨u, b1, r⟩, b2, b3, b4, b5⟩ := g
  exact ⟨⟨u, Boxed_putObj b1 o' hl ho, ownsRow_putObj r o' hl ho⟩, Boxed_putObj b2 o' hl ho, Boxed_putObj b3 o' hl ho, Boxed_putObj b4 o' hl ho, b5.grown (grownBy_putObj' W l o') (Nat.le_trans hn b5.size) (fun k e => by cases e; exact hln)⟩
theorem Digd.set (g : Digd n0 N ob eb c h w ev hi D s v W) (h0 : n0 ≤ c) (h1 : ob ≠ c) (h2 : eb ≠ c) (h3 : h ≠ c) (h4 : c < N) (v' : Value) : Digd n0 N ob eb c h w ev hi D s v' (W.setCell ⟨c, 0, none⟩ v') := by
  obtain ⟨⟨u, b1, r⟩, b2, b3, b4, b5⟩ := g
  refine ⟨⟨u, Boxed_setOther b1 h1 v', RowO.other r (fun e => ?_) 0 v'⟩, Boxed_setOther b2 h2 v', b3.set v', Boxed_setOther b4 h3 v', b5.setCell h0 v'⟩
  have := (RowO.lt r c e).1
  omega
end
/-- The digest of a part of the cover. -/
def digD (B : Nat → List ByteArray → ByteArray) (xs : List ByteArray) (x : Int × Int) : Value := .string (B (x.2 - x.1).toNat ((xs.drop x.1.toNat).take (x.2 - x.1).toNat))

set_option maxRecDepth 100000 in
set_option maxHeartbeats 2000000 in
theorem digests_any (xs : List ByteArray) (n : Nat) (hn : xs.length = n) (h20 : n ≤ 1048576) (hz : ∀ x ∈ xs, x.size < 140737488355328) (a : Option Addr) (c0 : Nat) (hc0 : n ≤ c0) (lo hi : Nat) (hlo : lo ≤ hi) (hhi : hi ≤ n) (w : World) (hX : Sl w w.heap.size a (xs.map Value.string)) :
    Calls Try.prog 50 #[.slice a n c0, .int .i64 (lo : Int), .int .i64 (hi : Int)] w fun e w' => ∃ v, e = .returned v ∧ RowO w.heap.size w' 9 1 v (cover lo hi).length ((cover lo hi).map (digD (blockH bothS leafS) xs)) ∧ Below w.heap.size w w' := by
  have HBK := Lib.hid block_any
  generalize blockH bothS leafS = BH at *
  have HN := Lib.hid hn
  have HZ := Lib.hid hz
  have HX := Lib.hid hX
  clear hn hz hX
  refine (callsIn_wide (n := 6)).1 (callsIn_of_wp_marks Try.func50 rfl trivial ((wpIn_wide (n := 6)).2 ?_) rfl)
  simp only [Try.ntmps50, List.size_toArray, List.length_cons, List.length_nil, Nat.reduceAdd, Nat.reduceSub, Array.replicate_succ, Array.replicate_zero, List.push_toArray, List.append_toArray, List.nil_append, List.cons_append]
  go_wp2_with fail
  obtain ⟨w1, hq1, hb1, hz1, HE, HU⟩ := new2 w 22 [.slice a n c0] 22 [.slice none 0 0]
  rw [hq1]
  clear hq1
  refine (blocks_any lo hi _).mono ?_
  rintro e w2 ⟨rfl, hw2⟩
  obtain ⟨w3, hq3, hb3, hz3, HC, HI⟩ := new2 w1 3 [.int .i64 (lo : Int)] 3 [.int .i64 (hi : Int)]
  obtain rfl : w2 = w3 := hw2.trans hq3
  clear hw2 hq3
  replace HE := Lib.hid (HE.out.up hb3)
  replace HU := Lib.hid (HU.out.up hb3)
  have HB := Lib.hid (below_up hb1 hb3)
  have hs1 := hz1.out
  have hs2 := hz3.out
  rw [hs1] at HC HI hs2 ⊢
  go_wp2_with fail
  refine (wpIn_wide (n := 6)).1 ?_
  refine range_rounds rfl (by decide) (gf := 94) (lb := #[.pointer (some ⟨w.heap.size + 2, 0, none⟩), .pointer (some ⟨w.heap.size + 2 + 1, 0, none⟩)]) rfl trivial (enters_of Try.func94 (by kernel_rfl) rfl)
    (encs := fun x => #[spanV x]) (fun _ => rfl) (w.heap.size + 2) (cover lo hi) (.int .i64 lo) (Digd w.heap.size (w.heap.size + 4) (w.heap.size + 1) w.heap.size (w.heap.size + 2) (w.heap.size + 2 + 1) w (.slice a n c0) hi (digD BH xs)) (fun v W => Boxed W (w.heap.size + 2) 3 v ∧ Boxed W (w.heap.size + 2 + 1) 3 (.int .i64 hi)) (fun s v W g => ⟨g.2.2.1, g.2.2.2.1⟩)
    (fun s v W l o o' hl ho hc g => g.put (Nat.le_refl _) o' ho hc (by omega)) (fun s v W o g => g.alloc (Nat.le_refl _) o) (fun s v v' W g => g.set (by omega) (by omega) (by omega) (by omega) (by omega) v')
    ⟨⟨_, HU.out, RowO.nil⟩, HE.out, HC.out, HI.out, HB.out⟩ ?round ?iter ?done
  case iter =>
    intro l J W hRd hset hY hJ0
    exact blocks1_in _ (by decide) l _ _ lo hi hlo (by omega) J hRd hset hY W hJ0
  case done =>
    intro D v W hD g hK
    obtain ⟨⟨u, b1, r⟩, b2, b3, b4, b5⟩ := g
    have hcell := b1.cell
    go_wp2_with fail
    refine ⟨by simp, .inl ⟨_, _, rfl, run_takeDeferred hK, ?_⟩⟩
    exact ⟨_, results_tmp rfl _ _ _, u, rfl, ownsRow_putObj (ownsRow_down r (by omega)) _ hK rfl, b5.grown (grownBy_putObj' W D _) b5.size (fun k e => by cases e; omega)⟩
  case round =>
    rintro l s ⟨x1, x2⟩ v W hl hpre g
    have hsl : s.length + 1 ≤ (cover lo hi).length := by have := hpre.length_le; simpa using this
    have hcl := cover_length lo hi
    obtain ⟨⟨y1, y2⟩, hy, e9⟩ : ∃ y ∈ coverN lo hi, ((y.1 : Int), (y.2 : Int)) = (x1, x2) := by
      have h1 : (x1, x2) ∈ cover lo hi := hpre.subset (by simp)
      rw [cover_coverN] at h1
      obtain ⟨y, hy, e⟩ := List.mem_map.1 h1
      exact ⟨y, hy, e⟩
    simp only [Prod.mk.injEq] at e9
    obtain ⟨rfl, rfl⟩ := e9
    obtain ⟨hy1, hy2, kk, hk1, _⟩ := coverN_ok hy
    simp only at hy1 hy2 hk1
    have hp1 : 1 ≤ 2 ^ kk := Nat.one_le_two_pow
    have hyy : y1 < y2 := by omega
    have HK1 := Lib.hid hk1
    clear hp1 hk1
    obtain ⟨ab, ao, rfl, hab, _⟩ := HX.out.at y1 (by rw [List.length_map, HN.out]; omega)
    unfold spanV
    gi_wp2
    refine ⟨KeepsOthers.alloc _ _, fun r o' hr => ?_⟩
    have hnl : W.heap.size ≠ l := by
      intro e
      subst e
      rw [World.alloc_heap_new] at hr
      cases hr
    have g2 := (g.alloc (Nat.le_refl _) (.cells #[.int .i64 (y1 : Int), .int .i64 (y2 : Int)] 95)).put (Nat.le_refl _) (o := Obj.loop r) o' hr rfl (show w.heap.size ≤ l by omega)
    have hx : Bx ((W.alloc (.cells #[.int .i64 (y1 : Int), .int .i64 (y2 : Int)] 95)).putObj l o') W.heap.size 95 [.int .i64 (y1 : Int), .int .i64 (y2 : Int)] :=
      (World.putObj_heap_other hnl).trans (World.alloc_heap_new W _)
    generalize (W.alloc (.cells #[.int .i64 (y1 : Int), .int .i64 (y2 : Int)] 95)).putObj l o' = W2 at *
    obtain ⟨⟨u, b1, r1⟩, b2, b3, b4, b5⟩ := g2
    have hx_ := hx.c2
    have hcell := b1.cell
    have hcell2 := b2.cell
    have hs4 := b5.size
    have hl1 : w.heap.size + 1 < W2.heap.size := b1.lt
    have hl0 : w.heap.size < W2.heap.size := b2.lt
    have hlx : W.heap.size < W2.heap.size := hx.lt
    have hsi : ((y2 : Int) - (y1 : Int)) = ((y2 - y1 : Nat) : Int) := by omega
    have HR1 := Lib.hid r1
    have HX2 := Lib.hid hx
    have hl3 : w.heap.size + 2 + 1 < W2.heap.size := b4.lt
    have HB1 := Lib.hid b1
    have HB5 := Lib.hid b5
    have HG2 := Lib.hid (And.intro b2 (And.intro b3 b4))
    clear b1 r1 b2 b3 b4 b5 hx g hr
    refine wpIn_block ?_
    have hnb : ∀ b, b < w.heap.size + 4 → u.ownBlock ≠ some b := fun b h e => by have := (RowO.lt HR1.out _ e).1; omega
    have hn1 := hnb (w.heap.size + 1) (by omega)
    have hn2 := hnb w.heap.size (by omega)
    have hn3 : u.ownBlock ≠ some W.heap.size := RowO.ne_bx HR1.out HX2.out (by decide)
    refine wpIn_region_treek (fun wq9 => ∃ E : But W2 u.ownBlock, wq9 = E.w) 10 (.e 0 [] (.e 1 [] (.qs [2] (.e 3 [] (.qs [4] (.e 5 [] (.qs [6] (.a 7 (.a 8 (.a 9 (.a 10 .done))))))))))) (by kernel_rfl) (by kernel_rfl) (by kernel_rfl) (fun ⟨_, _, h⟩ => h) (fun _ _ _ _ _ h => h) ⟨⟨_, (below_grown (Below.refl _ _).drew).but _⟩, rfl⟩ ?_
    have hov_o := fun (E : But W2 u.ownBlock) o => E.cell (b := w.heap.size + 1) o hl1 hn1
    have hov_e := fun (E : But W2 u.ownBlock) o => E.cell (b := w.heap.size) o hl0 hn2
    have hov_x := fun (E : But W2 u.ownBlock) o => E.cell (b := W.heap.size) o hlx hn3
    simp only [TreeK.qs]
    repeat (first | (refine treek_q rfl rfl ?_; go_big_quiet_step (fail); refine wpQuiet_nil ?_) | (refine treek_e rfl rfl ?_; go_big_quiet_step (fail); refine wpQuiet_nil ?_))
    clear hov_o hov_e hov_x
    refine treek_a rfl (fun K hK => ?_)
    go_simp
    refine (HBK.out ((xs.drop y1).take (y2 - y1)) (y2 - y1) kk (by rw [List.length_take, List.length_drop, HN.out]; omega) (by rw [HK1.out]; omega) (by omega) (fun x hx => HZ.out x (List.mem_of_mem_drop (List.mem_of_mem_take hx))) (some ⟨ab, ao + y1, none⟩) (c0 - y1) _ (by have h9 := ((HX.out.up HB5.out).up (Below.refl _ _).drew).cut y1 (y2 - y1); rw [← List.map_drop, ← List.map_take] at h9; exact h9)).mono ?_
    rintro e w5 ⟨rfl, hb9⟩
    have HW5 := Lib.hid (show Below W2.heap.size W2 w5 from below_up (Below.refl _ _).drew hb9)
    have HD := Lib.hid (show digD BH xs ((y1 : Int), (y2 : Int)) = .string (BH (y2 - y1) ((xs.drop y1).take (y2 - y1))) by unfold digD; rw [hsi, Int.toNat_natCast, Int.toNat_natCast])
    generalize BH (y2 - y1) ((xs.drop y1).take (y2 - y1)) = d at *
    clear hb9
    refine hK _ _ ⟨fun _ => ⟨⟨w5, (below_grown HW5.out).but _⟩, rfl⟩, ?_⟩
    clear hK K
    refine treek_a rfl (fun K hK => ?_)
    go_simp
    refine hK _ _ ⟨fun _ => ⟨⟨_, (below_grown (HW5.out.alloc HW5.out.size _)).but _⟩, rfl⟩, ?_⟩
    clear hK K
    obtain ⟨i8, hi8, hz80, hz81, hz82⟩ := info_parts infoStrP
    have HR5 := Lib.hid (RowO.up HR1.out HW5.out)
    have HB5b := Lib.hid (show Boxed w5 (w.heap.size + 1) 22 u from Bx.up HB1.out HW5.out)
    refine treek_a rfl (fun K hK => ?_)
    refine step_append_lies _ rfl _ _ 22 rfl (w.heap.size + 4) 9 i8 _ 1 16 Try.underlying22 hi8 hz80 hz81 hz82 rfl (by omega) u s.length (s.map (digD BH xs)) rfl (World.ownsRow.alloc HR5.out _) ⟨w5.heap.size, 0, none⟩ 1 1 [Value.string d] rfl rfl (World.news_of_block (heap_alloc_new w5 _)) (by simp [Value.oneCell']) (by omega) (by unfold maxLen; omega) (by omega) (by have := HW5.out.size; simp; omega) _ rfl ?_
    intro g cap w7 hown hg hat hlt
    have HGB := Lib.hid (show W2.grownBy w7 u.ownBlock from ((below_grown (HW5.out.alloc HW5.out.size (.cells #[Value.string d] 9))).but _).trans hg)
    refine hK _ _ ⟨fun _ => ⟨⟨w7, HGB.out⟩, rfl⟩, ?_⟩
    clear hK K
    try simp only [Act.put, List.setIfInBounds_toArray, List.set_cons_succ, List.set_cons_zero]
    obtain ⟨hv1, hv2, _, hk2, hb2⟩ := HB5b.out.appended (by decide) (ownsRow_down HR5.out (show w.heap.size ≤ w.heap.size + 4 by omega)) (n₀ := w.heap.size) (by have := HW5.out.size; omega) (by omega) (ownsRow_down hown (show w.heap.size ≤ w.heap.size + 4 by omega)) hg
    have hc7 := hv1.cell
    have hf7 := hv1.frozen
    have hn7 : (Value.slice (some ⟨g, 0, none⟩) (s.length + 1) cap).ownBlock ≠ some (w.heap.size + 1) := fun e => by have := (RowO.lt hown _ e).1; omega
    refine treek_a rfl (fun K hK => ?_)
    go_simp
    refine hK _ _ ⟨fun h9 => absurd rfl h9, ?_⟩
    clear hK K
    refine treek_end ?_
    simp only [Exit.inBlock, goesOn]
    have e1 : (s ++ [((y1 : Int), (y2 : Int))]).length = s.length + 1 := by simp
    have e2 : (s ++ [((y1 : Int), (y2 : Int))]).map (digD BH xs) = s.map (digD BH xs) ++ [.string d] := by rw [List.map_append, List.map_cons, HD.out]; rfl
    refine ⟨(KeepsOthers.of_grownBy (below_grown HW5.out) (fun _ _ e => by cases e)).trans hk2, ⟨_, hv2, by rw [e1, e2]; exact RowO.other hown hn7 0 _⟩, ?_, ?_, ?_, (HB5.out.trans (HW5.out.mono HB5.out.size)).trans hb2⟩
    · exact Boxed_setOther (Boxed.kept HG2.out.1 HGB.out (hnb _ (by omega)).symm) (by omega) _
    · exact Boxed_setOther (Boxed.kept HG2.out.2.1 HGB.out (hnb _ (by omega)).symm) (by omega) _
    · exact Boxed_setOther (Boxed.kept HG2.out.2.2 HGB.out (hnb _ (by omega)).symm) (by omega) _
end Go.Proofs.Ytdlnnkbigeiilaa
