/- GroupAsks: what a talk is asked for, by the program and by the document. No condition. -/
import Derived.Test.YtdlnnkbigeiilaaZGroupAsks4
import Derived.Deep.OwnRows
import Derived.Outline
import Derived.Test.YtdlnnkbigeiilaaRows
import Derived.ProofKit
import Derived.SizedLaws
import Derived.Lib.SmallJoins
import Derived.Deep.Slices
import Derived.Deep.Fields

/- The document's digest: power, Keyed without a key. Condition: the bytes that a count of 61 bits can count. -/
namespace Go.Proofs.Ytdlnnkbigeiilaa
open Go.RowKit Go.Lib

theorem power_any (r : Nat) (hr : r < 4) (w : World) : Calls Try.prog 138 #[.int .i64 (r : Int)] w fun e w' => e = .returned (.int .u32 ((256 ^ r : Nat) : Int)) ∧ Below w.heap.size w w' := by
  go_enter Try.func138, Try.ntmps138
  go_wp2_with fail
  go_loop [3, 4] (fun v c => ∃ j : Nat, j ≤ r ∧ c = .int .i64 j ∧ v = .int .u32 ((256 ^ j : Nat) : Int)) (fun _ c => r - (RowKit.intOf c).toNat)
  case atStart => exact ⟨0, by omega, rfl, rfl⟩
  case round =>
    obtain ⟨j, hj, rfl, rfl⟩ := hrel
    by_cases hjr : j < r
    · have HS := Lib.hid (show ((256 ^ (j + 1) : Nat) : Int) = ((256 ^ j : Nat) : Int) * 256 by rw [Nat.pow_succ]; omega)
      have hb : ((256 ^ j : Nat) : Int) ≤ 65536 := by
        have := Nat.pow_le_pow_right (show 0 < 256 by decide) (show j ≤ 2 by omega)
        have e : (256 : Nat) ^ 2 = 65536 := rfl
        omega
      have hb0 : (0 : Int) ≤ ((256 ^ j : Nat) : Int) := Int.natCast_nonneg _
      generalize ((256 ^ j : Nat) : Int) = p at *
      go_wp2_with fail
      exact ⟨⟨j + 1, by omega, by go_num, by rw [HS.out]⟩, by simp [RowKit.intOf]; omega⟩
    · have hjr' : j = r := by omega
      subst hjr'
      go_wp2_with fail
      go_ret
      exact ⟨rfl, Below.refl _ _⟩
theorem wordsB_full (l : List UInt8) (h : l.length ≤ 64) : wordsB l l.length = wordsB l 64 := by
  apply wordsB_congr
  intro j hj
  unfold byteW
  rw [if_pos hj]
  by_cases e : j < l.length
  · rw [if_pos e]
  · rw [if_neg e]
    simp [List.getD, List.getElem?_eq_none (show l.length ≤ j by omega)]
def keyW (s : List UInt8) (k : Nat) : WL := if k ≤ lastB s then allB s k else digW s
theorem keyW_len (s : List UInt8) (k : Nat) : (keyW s k).length = 8 := by unfold keyW; split; exact allB_len s k; exact digW_len s
theorem piece_get (s : List UInt8) (k i : Nat) (h : i < 64) : (pieceB s k).getD i 0 = s.getD (64 * k + i) 0 := by
  unfold pieceB List.getD
  rw [List.getElem?_take_of_lt h, List.getElem?_drop]
theorem piece_len (s : List UInt8) (k : Nat) : (pieceB s k).length = min 64 (s.length - 64 * k) := by unfold pieceB; rw [List.length_take, List.length_drop]
theorem h0_set : (wlV startV).set 0 (.int .u32 1795745351) = wlV h0B := rfl
theorem word_mul (l : List UInt8) (i : Nat) : (((l.getD i 0).toNat : Int) * ((256 ^ (i % 4) : Nat) : Int)) % 4294967296 = ((BitVec.ofNat 32 ((l.getD i 0).toNat * 256 ^ (i % 4))).toNat : Int) := by
  rw [BitVec.toNat_ofNat]
  omega
def outP (s : List UInt8) (i : Nat) : List UInt8 := (digB s).take i ++ List.replicate (32 - i) 0
theorem outP_len (s : List UInt8) (i : Nat) (h : i ≤ 32) : (outP s i).length = 32 := by unfold outP; simp [digB_len]; omega
theorem outB_at : ∀ (w : WL) (i : Nat), i / 4 < w.length → (outB w)[i]? = some (UInt8.ofNat ((w.getD (i / 4) 0).toNat / 256 ^ (i % 4) % 256))
  | [], i, h => by simp at h
  | x :: w, i, h => by
      show ([_, _, _, _] ++ outB w)[i]? = _
      by_cases h4 : i < 4
      · rcases (show i = 0 ∨ i = 1 ∨ i = 2 ∨ i = 3 by omega) with rfl | rfl | rfl | rfl <;> simp [List.getD]
      · rw [List.getElem?_append_right (by simp; omega)]
        have e1 : i / 4 = (i - 4) / 4 + 1 := by omega
        have e2 : i % 4 = (i - 4) % 4 := by omega
        rw [e1, e2]
        exact outB_at w (i - 4) (by rw [List.length_cons] at h; omega)
theorem dig_get (s : List UInt8) (i : Nat) (h : i < 32) : (digB s).getD i 0 = UInt8.ofNat (((digW s).getD (i / 4) 0).toNat / 256 ^ (i % 4) % 256) := by
  unfold digB List.getD
  rw [outB_at _ _ (by rw [digW_len]; omega)]
  rfl
theorem digB_div (s : List UInt8) (i : Nat) (h : i < 32) : (((digW s).getD (i / 4) 0).toNat : Int) / ((256 ^ (i % 4) : Nat) : Int) % 256 = (((digB s).getD i 0).toNat : Int) := by
  rw [dig_get s i h, byte_int]
  omega
theorem outP_succ (s : List UInt8) (i : Nat) (h : i < 32) : outP s (i + 1) = (outP s i).set i ((digB s).getD i 0) := by
  have hl := digB_len s
  have e : (digB s).getD i 0 = (digB s)[i]'(by omega) := by simp [List.getD, hl, h]
  unfold outP
  rw [List.set_append_right _ _ (by rw [List.length_take]; omega), List.length_take, Nat.min_eq_left (by omega), Nat.sub_self, show 32 - i = (32 - (i + 1)) + 1 by omega, List.replicate_succ, List.set_cons_zero, List.take_succ_eq_append_getElem (by omega), List.append_assoc, e]
  rfl
theorem outP_all (s : List UInt8) : outP s 32 = digB s := by unfold outP; rw [List.take_of_length_le (by rw [digB_len]; exact Nat.le_refl _)]; simp
theorem make32 (s : List UInt8) (W : World) : (Instr.makeSlice 82 (.int .i64 32) (.int .i64 32)).run Try.prog W = .ok (.slice (some ⟨W.heap.size, 0, none⟩) 32 32) (W.alloc (.cells (byteCells (outP s 0)).toArray 5)) := by
  have e : madeCells #[Value.int .u8 0] 32 = (byteCells (outP s 0)).toArray := by
    unfold outP
    rw [List.take_zero, List.nil_append]
    kernel_rfl
  have h := Go.run_make_row' (P := Try.prog) 82 5 (.int .u8 0) 1 Try.underlying82 infoByte rfl .i64 .i64 32 (by decide) (by decide) W
  rw [e] at h
  exact h
theorem byteCells_set (l : List UInt8) (i : Nat) (y : UInt8) : (byteCells l).set i (.int .u8 (y.toNat : Int)) = byteCells (l.set i y) := by unfold byteCells; rw [List.map_set]
set_option maxRecDepth 100000 in
set_option maxHeartbeats 8000000 in
theorem Keyed_any (b : ByteArray) (hsz : b.size < 2305843009213693952) (w : World) :
    Calls Try.prog 101 #[.string ⟨#[]⟩, .string b] w fun e w' => e = .returned (.tuple #[.string (digS (bytesOf b)), .bool true]) ∧ Below w.heap.size w w' := by
  have hb0 : (0 : Int) ≤ (b.size : Int) := by omega
  by_cases hb : b.size = 0
  · have hP : (((b.size : Int) + 63) / 64 == 0) = true := by rw [hb]; rfl
    have HPL := Lib.hid (show 1 = lastB (bytesOf b) + 1 by unfold lastB; rw [bytesOf_len, hb])
    clear hb
    go_enter Try.func101, Try.ntmps101
    go_wp2_with fail
    refine (rstart_any w).mono ?_
    rintro e w1 ⟨rfl, hb9⟩
    have HB := Lib.hid hb9
    have HZS := Lib.hid hb9.size
    clear hb9
    have HI8 := Lib.hid (show (Try.prog.info? 135).map (·.size) = some (wlV startV).length from info8)
    have HZ8 := Lib.hid (show (wlV (zw 8)).length = (wlV startV).length from rfl)
    have hz8 : (#[.int .u32 0, .int .u32 0, .int .u32 0, .int .u32 0, .int .u32 0, .int .u32 0, .int .u32 0, .int .u32 0] : Array Value) = (wlV (zw 8)).toArray := rfl
    go_upto_region 14 with (refine wpList_store_new rfl 135 135 (.tmp 10) (.tmp 40) rfl (wlV (zw 8)) (wlV startV) rfl rfl HI8.out HZ8.out (wl_one startV) ?_)
    clear hz8 HZ8 HI8
    have HBW := Lib.hid HB.out.size
    obtain ⟨w2, hq2, hb9, hz9, Hh⟩ := new1 w1 135 (wlV startV)
    rw [hq2]
    clear hq2
    replace HB := hbu HB hb9
    replace HZS := sz HZS hz9.out
    clear hb9 hz9
    have c0 : w2.cell? ⟨w1.heap.size, 0, none⟩ = some (.int .u32 1779033703) := Hh.out.cell rfl
    have hx0 : bits BinOp.xor IntKind.u32 1779033703 16842784 = 1795745351 := by decide
    have f3_h := Hh.out.frozen
    obtain ⟨w3, hq3, hg9, hz9, hx9⟩ := put1 Hh 0 (.int .u32 1795745351) _ rfl
    replace HB := hbg HB hg9 (by have g0 := HZS.out; omega)
    replace HZS := sz HZS hz9.out
    replace Hh := hx9
    clear hx9 hg9 hz9
    replace Hh := Lib.hid (show Bx w3 w1.heap.size 135 (wlV h0B) from Hh.out)
    go_wp2_with fail
    clear hq3 f3_h
    clear c0 hx0
    have HZ0 := Lib.hid (show w.heap.size ≤ w1.heap.size from HBW.out)
    have HP9 := Lib.hid hP
    clear hP HBW
    generalize w1.heap.size = hB at *
    have HQ0 := Lib.hid (show Bx w3 hB 135 (wlV (keyW (bytesOf b) 0)) from Hh.out)
    clear Hh
    go_loopw [11] (fun c wr => ∃ k : Nat, k ≤ 1 ∧ c = .int .i64 k ∧ Hid (Bx wr hB 135 (wlV (keyW (bytesOf b) k))) ∧ Hid (Below w.heap.size w wr)) (fun c _ => 1 - (RowKit.intOf c).toNat)
    case atStart => exact ⟨0, by omega, rfl, HQ0, HB⟩
    case round =>
      obtain ⟨k, hk, rfl, HQ, HB9⟩ := hrel
      clear HQ0 HB
      have HB := HB9
      have Hh := HQ
      clear HB9 HQ
      have HSB := Lib.hid HB.out.size
      have HSH := Lib.hid Hh.out.lt
      replace HZS := sz HZS HZ0.out
      replace HZS := sz HZS HSB.out
      replace HZS := sz HZS HSH.out
      by_cases hkP : k < 1
      · have HKE := Lib.hid (show keyW (bytesOf b) k = allB (bytesOf b) k from by unfold keyW; rw [if_pos (by have := HPL.out; omega)])
        rw [HKE.out] at Hh
        have hz16 : (#[.int .u32 0, .int .u32 0, .int .u32 0, .int .u32 0, .int .u32 0, .int .u32 0, .int .u32 0, .int .u32 0, .int .u32 0, .int .u32 0, .int .u32 0, .int .u32 0, .int .u32 0, .int .u32 0, .int .u32 0, .int .u32 0] : Array Value) = (wlV (wordsB (pieceB (bytesOf b) k) 0)).toArray := by rw [wordsB_zero]; rfl
        have hkd : decide ((k : Int) < (1 : Int)) = true := by simp; omega
        have HCL := Lib.hid (show (pieceB (bytesOf b) k).length = min 64 (b.size - 64 * k) from by rw [piece_len, bytesOf_len])
        have hk64 : 64 * k ≤ b.size := by have := HPL.out; unfold lastB at this; rw [bytesOf_len] at this; omega
        go_upto_region 19 with (fail)
        obtain ⟨wo, rfl⟩ : ∃ wo : World, wo = wr := ⟨_, rfl⟩
        obtain ⟨w4, hq4, hb9, hz9, Hm⟩ := new1 wo 195 (wlV (wordsB (pieceB (bytesOf b) k) 0))
        rw [hq4]
        clear hq4
        replace Hh := Lib.hid (Hh.out.up hb9)
        replace HB := hbu HB hb9
        replace HZS := sz HZS hz9.out
        clear hb9 hz9
        clear hz16
        have HK := Lib.hid (Kept.refl (fun q9 => q9 = wo.heap.size) w4)
        go_wp2_with fail
        go_loopw [13] (fun c wr => ∃ i : Nat, i ≤ (pieceB (bytesOf b) k).length ∧ c = .int .i64 i ∧ Hid (Bx wr wo.heap.size 195 (wlV (wordsB (pieceB (bytesOf b) k) i))) ∧ Hid (Kept (fun q9 => q9 = wo.heap.size) w4 wr)) (fun c _ => 64 - (RowKit.intOf c).toNat)
        case atStart => exact ⟨0, by omega, rfl, Hm, HK⟩
        case round =>
          obtain ⟨i, hi, rfl, HQ, HK1⟩ := hrel
          clear HK
          have hg9 := HK1.out
          clear Hm
          replace Hh := Lib.hid (Hh.out.keptP hg9 (show ¬ (_ = wo.heap.size) by have g0 := HZS.out; omega))
          replace HB := Lib.hid (Below.keptP HB.out hg9 (by have g0 := HZS.out; omega) (fun q9 h9 => (show w.heap.size ≤ _ by subst h9; have g0 := HZS.out; omega)))
          replace HZS := sz HZS (show w4.heap.size ≤ wr.heap.size from hg9.size)
          clear hg9
          have Hm := HQ
          clear HQ
          have HWL := Lib.hid (wordsB_len (pieceB (bytesOf b) k) i)
          have hi64 : i ≤ 64 := by have := HCL.out; omega
          by_cases hic : i < (pieceB (bytesOf b) k).length
          · have hi6 : i < 64 := by have := HCL.out; omega
            have hin : 64 * k + i < b.size := by have := HCL.out; omega
            have hbb : (bytesOf b).getD (64 * k + i) 0 = b[64 * k + i] := by unfold bytesOf List.getD; rw [List.getElem?_eq_getElem (by rw [Array.length_toList]; exact hin)]; rfl
            have hix := fun W => run_index_str (P := Try.prog) W 9 b (64 * k + i) (64 * (k : Int) + (i : Int)) (by omega) hin (((pieceB (bytesOf b) k).getD i 0).toNat : Int) (by rw [piece_get _ _ _ hi6, hbb]) Try.underlying9
            have HWS := Lib.hid (wordsB_succ (pieceB (bytesOf b) k) i hi6)
            have HPW := fun w => power_any (i % 4) (by omega) w
            rw [show ((i % 4 : Nat) : Int) = (i : Int) % 4 from by omega] at HPW
            have HPW := Lib.hid HPW
            have hmul := word_mul (pieceB (bytesOf b) k) i
            have c1 := wl_cell Hm.out (i / 4) (by rw [HWL.out]; omega)
            generalize (wordsB (pieceB (bytesOf b) k) i).getD (i / 4) 0 = X at *
            generalize BitVec.ofNat 32 (((pieceB (bytesOf b) k).getD i 0).toNat * 256 ^ (i % 4)) = z at *
            clear hbb
            have hcb := ((pieceB (bytesOf b) k).getD i 0).toNat_lt
            generalize ((pieceB (bytesOf b) k).getD i 0).toNat = cb at *
            generalize ((256 ^ (i % 4) : Nat) : Int) = p at *
            have hadd := add32 X z
            obtain ⟨Z, hZ⟩ : ∃ Z, X + z = Z := ⟨_, rfl⟩
            rw [hZ] at hadd HWS
            clear hZ
            have a1 : (0 : Int) ≤ ((i / 4 : Nat) : Int) := by omega
            have a2 : ((i / 4 : Nat) : Int) < 16 := by omega
            have hdi : decide ((i : Int) < 64) = true := by simp; omega
            have hdn : decide (64 * (k : Int) + (i : Int) < (b.size : Int)) = true := by simp; omega
            go_wp2_with fail
            refine wp_region_otail 19 (by kernel_rfl) (by kernel_rfl) ?_
            simp only [List.take_succ_cons, List.take_zero, List.drop_succ_cons, List.drop_zero]
            have hov_wo_heap_size := fun (E : Over wr) o => E.cell (b := wo.heap.size) o Hm.out.lt
            repeat (go_big_quiet_step (first | (go_at_call 138; exact calls_over (HPW.out _))))
            all_goals (try unfold elV limbV)
            repeat (go_big_quiet_step (first | (go_at_call 138; exact calls_over (HPW.out _))))
            all_goals (try unfold elV limbV)
            repeat (go_big_quiet_step (first | (go_at_call 138; exact calls_over (HPW.out _))))
            all_goals (try unfold ciphV)
            refine wpQuiet_nil ?_
            rintro _ ⟨E, rfl⟩
            clear hov_wo_heap_size
            replace Hh := Lib.hid (Hh.out.up E.h)
            replace Hm := Lib.hid (Hm.out.up E.h)
            replace HK1 := Lib.hid (Kept.up HK1.out E.h)
            replace HB := hbu HB E.h
            replace HZS := sz HZS E.h.size
            obtain ⟨w5, hq9⟩ : ∃ W9 : World, E.w = W9 := ⟨_, rfl⟩
            rw [hq9] at Hh Hm HK1 HB HZS ⊢
            clear hq9 E
            clear c1 hix HPW
            have c1 := Hm.out.cell (wlV_get (wordsB (pieceB (bytesOf b) k) i) (i / 4) (by rw [HWL.out]; omega))
            have f6_m := Hm.out.frozen
            obtain ⟨w6, hq6, hg9, hz9, hx9⟩ := put1 Hm (i / 4) (.int .u32 (Z.toNat : Int)) _ rfl
            replace Hh := Lib.hid (Hh.out.grown hg9.out (sne (by have g0 := HZS.out; omega)))
            replace HK1 := Lib.hid (Kept.grown HK1.out hg9.out (fun q9 e9 => by obtain rfl := Option.some.inj e9; exact Or.inr (rfl)))
            replace HB := hbg HB hg9 (by have g0 := HZS.out; omega)
            replace HZS := sz HZS hz9.out
            replace Hm := hx9
            clear hx9 hg9 hz9
            replace Hm := Lib.hid Hm.out.wset
            rw [← HWS.out] at Hm
            go_wp2_with fail
            clear hq6 f6_m
            exact ⟨⟨i + 1, hic, by go_num, Hm, HK1⟩, by simp [RowKit.intOf]; omega⟩
          · have hie : i = (pieceB (bytesOf b) k).length := by omega
            have hpl : (pieceB (bytesOf b) k).length ≤ 64 := by rw [← hie]; exact hi64
            rw [hie, wordsB_full _ hpl] at Hm
            have hcl := HCL.out
            rw [← hie] at hcl
            have hpl9 := HPL.out
            unfold lastB at hpl9
            rw [bytesOf_len] at hpl9
            have HHL := Lib.hid (allB_len (bytesOf b) k)
            have HHI := Lib.hid (show (Try.prog.info? 135).map (·.size) = some (wlV (allB (bytesOf b) k)).length by rw [wlV_len, HHL.out]; exact info8)
            have HMI := Lib.hid (show (Try.prog.info? 195).map (·.size) = some (wlV (wordsB (pieceB (bytesOf b) k) 64)).length by rw [wlV_len, wordsB_len]; exact info16)
            clear hie hpl
            by_cases hi6 : i < 64
            · have hdi : decide ((i : Int) < 64) = true := by simp; omega
              have hdn : decide (64 * (k : Int) + (i : Int) < (b.size : Int)) = false := by simp; omega
              have hgt : (b.size : Int) < 64 * (k : Int) + 64 := by omega
              have hke : ((k : Int) == 0) = true := by rw [beq_iff_eq]; omega
              have HKN := Lib.hid (show keyW (bytesOf b) (k + 1) = pressB (allB (bytesOf b) k) (wordsB (pieceB (bytesOf b) k) 64) b.size true from by
                have e : k = lastB (bytesOf b) := by have := HPL.out; omega
                unfold keyW
                rw [if_neg (by omega), e]
                unfold digW
                rw [bytesOf_len])
              have HPR := Lib.hid (fun w => rPress_any (allB (bytesOf b) k) (wordsB (pieceB (bytesOf b) k) 64) HHL.out (wordsB_len _ _) b.size (by omega) true w)
              clear hcl hpl9
              go_wp2_with (first | refine wpList_load_mid rfl 135 (.tmp 10) rfl hB 0 rfl (wlV (allB (bytesOf b) k)) _ Hh.out.range Try.underlying135 rfl HHI.out ?_ | refine wpList_load_mid rfl 195 (.tmp 12) rfl wo.heap.size 0 rfl (wlV (wordsB (pieceB (bytesOf b) k) 64)) _ Hm.out.range Try.underlying195 rfl HMI.out ?_)
              refine (HPR.out wr).mono ?_
              rintro e w5 ⟨rfl, hb9⟩
              replace Hh := Lib.hid (Hh.out.up hb9)
              replace Hm := Lib.hid (Hm.out.up hb9)
              replace HK1 := Lib.hid (Kept.up HK1.out hb9)
              replace HB := hbu HB hb9
              replace HZS := sz HZS hb9.size
              clear hb9
              rw [← HKN.out]
              have HRL := Lib.hid (keyW_len (bytesOf b) (k + 1))
              obtain ⟨R, hR⟩ : ∃ R, keyW (bytesOf b) (k + 1) = R := ⟨_, rfl⟩
              rw [hR] at HRL ⊢
              have HRE := Lib.hid hR
              clear hR
              have HRI := Lib.hid (show (Try.prog.info? 135).map (·.size) = some (wlV R).length by rw [wlV_len, HRL.out]; exact info8)
              have HRZ := Lib.hid (show (wlV R).length = (wlV (allB (bytesOf b) k)).length by rw [wlV_len, wlV_len, HRL.out, HHL.out])
              obtain ⟨wz, hqz, hgz, hzz, hrz⟩ := puts Hh 0 (wlV R) (wlV R) (putL_all _ _ HRZ.out)
              have HBZ := hbg HB hgz (by have g0 := HZS.out; omega)
              go_wp2_with (refine wpList_store_mid rfl 135 (.tmp 10) (.tmp 101) rfl hB 0 (wlV R).toArray rfl rfl (Hh.out.there (by simp [HRZ.out])) (by simpa using HRI.out) (all_oneCell_toArray (wl_one R)) ?_)
              exact ⟨⟨k + 1, by omega, by go_num, by rw [HRE.out]; exact hrz, HBZ⟩, by simp [RowKit.intOf]; omega⟩
            · have hdi : decide ((i : Int) < 64) = false := by simp; omega
              have hgt : 64 * (k : Int) + 64 ≤ (b.size : Int) := by omega
              by_cases hkl : k + 1 < 1
              · omega
              · have hke : ((k : Int) == 0) = true := by rw [beq_iff_eq]; omega
                have HKN := Lib.hid (show keyW (bytesOf b) (k + 1) = pressB (allB (bytesOf b) k) (wordsB (pieceB (bytesOf b) k) 64) (64 * k + 64) true from by
                  have e : k = lastB (bytesOf b) := by have := HPL.out; omega
                  have e2 : b.size = 64 * k + 64 := by omega
                  unfold keyW
                  rw [if_neg (by omega), ← e2, e]
                  unfold digW
                  rw [bytesOf_len])
                have hpr := fun w => rPress_any (allB (bytesOf b) k) (wordsB (pieceB (bytesOf b) k) 64) HHL.out (wordsB_len _ _) (64 * k + 64) (by omega) true w
                rw [show ((64 * k + 64 : Nat) : Int) = 64 * (k : Int) + 64 from by omega] at hpr
                have HPR := Lib.hid hpr
                clear hpr
                clear hcl hpl9
                go_wp2_with (first | refine wpList_load_mid rfl 135 (.tmp 10) rfl hB 0 rfl (wlV (allB (bytesOf b) k)) _ Hh.out.range Try.underlying135 rfl HHI.out ?_ | refine wpList_load_mid rfl 195 (.tmp 12) rfl wo.heap.size 0 rfl (wlV (wordsB (pieceB (bytesOf b) k) 64)) _ Hm.out.range Try.underlying195 rfl HMI.out ?_)
                refine (HPR.out wr).mono ?_
                rintro e w5 ⟨rfl, hb9⟩
                replace Hh := Lib.hid (Hh.out.up hb9)
                replace Hm := Lib.hid (Hm.out.up hb9)
                replace HK1 := Lib.hid (Kept.up HK1.out hb9)
                replace HB := hbu HB hb9
                replace HZS := sz HZS hb9.size
                clear hb9
                rw [← HKN.out]
                have HRL := Lib.hid (keyW_len (bytesOf b) (k + 1))
                obtain ⟨R, hR⟩ : ∃ R, keyW (bytesOf b) (k + 1) = R := ⟨_, rfl⟩
                rw [hR] at HRL ⊢
                have HRE := Lib.hid hR
                clear hR
                have HRI := Lib.hid (show (Try.prog.info? 135).map (·.size) = some (wlV R).length by rw [wlV_len, HRL.out]; exact info8)
                have HRZ := Lib.hid (show (wlV R).length = (wlV (allB (bytesOf b) k)).length by rw [wlV_len, wlV_len, HRL.out, HHL.out])
                obtain ⟨wz, hqz, hgz, hzz, hrz⟩ := puts Hh 0 (wlV R) (wlV R) (putL_all _ _ HRZ.out)
                have HBZ := hbg HB hgz (by have g0 := HZS.out; omega)
                go_wp2_with (refine wpList_store_mid rfl 135 (.tmp 10) (.tmp 101) rfl hB 0 (wlV R).toArray rfl rfl (Hh.out.there (by simp [HRZ.out])) (by simpa using HRI.out) (all_oneCell_toArray (wl_one R)) ?_)
                exact ⟨⟨k + 1, by omega, by go_num, by rw [HRE.out]; exact hrz, HBZ⟩, by simp [RowKit.intOf]; omega⟩
      · have hkP' : k = 1 := by omega
        have HKD := Lib.hid (show keyW (bytesOf b) k = digW (bytesOf b) from by unfold keyW; rw [if_neg (by have := HPL.out; omega)])
        rw [HKD.out] at Hh
        have hkd : decide ((k : Int) < (1 : Int)) = false := by simp; omega
        clear HKD
        have hmk := make32 (bytesOf b)
        go_upto_region 28 with (fail)
        clear hmk
        obtain ⟨wo, rfl⟩ : ∃ wo : World, wo = wr := ⟨_, rfl⟩
        obtain ⟨w4, hq4, hb9, hz9, Ho⟩ := new1 wo 5 (byteCells (outP (bytesOf b) 0))
        rw [hq4]
        clear hq4
        replace Hh := Lib.hid (Hh.out.up hb9)
        replace HB := hbu HB hb9
        replace HZS := sz HZS hz9.out
        clear hb9 hz9
        have HK := Lib.hid (Kept.refl (fun q9 => q9 = wo.heap.size) w4)
        have HRL := Lib.hid (digW_len (bytesOf b))
        go_wp2_with fail
        go_loopw [16] (fun c wr => ∃ i : Nat, i ≤ 32 ∧ c = .int .i64 i ∧ Hid (Bx wr wo.heap.size 5 (byteCells (outP (bytesOf b) i))) ∧ Hid (Kept (fun q9 => q9 = wo.heap.size) w4 wr)) (fun c _ => 32 - (RowKit.intOf c).toNat)
        case atStart => exact ⟨0, by omega, rfl, Ho, HK⟩
        case round =>
          obtain ⟨i, hi, rfl, HQ, HK1⟩ := hrel
          clear HK
          have hg9 := HK1.out
          clear Ho
          replace Hh := Lib.hid (Hh.out.keptP hg9 (show ¬ (_ = wo.heap.size) by have g0 := HZS.out; omega))
          replace HB := Lib.hid (Below.keptP HB.out hg9 (by have g0 := HZS.out; omega) (fun q9 h9 => (show w.heap.size ≤ _ by subst h9; have g0 := HZS.out; omega)))
          replace HZS := sz HZS (show w4.heap.size ≤ wr.heap.size from hg9.size)
          clear hg9
          have Ho := HQ
          clear HQ
          by_cases hi3 : i < 32
          · have HPW := fun w => power_any (i % 4) (by omega) w
            rw [show ((i % 4 : Nat) : Int) = (i : Int) % 4 from by omega] at HPW
            have HPW := Lib.hid HPW
            have c1 := wl_cell Hh.out (i / 4) (by rw [HRL.out]; omega)
            have hdv := digB_div (bytesOf b) i hi3
            have HON := Lib.hid (outP_succ (bytesOf b) i hi3)
            have hp1 : (1 : Int) ≤ ((256 ^ (i % 4) : Nat) : Int) := by have := Nat.pow_pos (n := i % 4) (show 0 < 256 by decide); omega
            generalize (digW (bytesOf b)).getD (i / 4) 0 = X at *
            generalize ((256 ^ (i % 4) : Nat) : Int) = p at *
            obtain ⟨y, hy⟩ : ∃ y, (digB (bytesOf b)).getD i 0 = y := ⟨_, rfl⟩
            rw [hy] at hdv HON
            clear hy
            have hyl := y.toNat_lt
            have HOL := Lib.hid (outP_len (bytesOf b) i hi)
            have a1 : (0 : Int) ≤ ((i / 4 : Nat) : Int) := by omega
            have a2 : ((i / 4 : Nat) : Int) < 8 := by omega
            go_wp2_with fail
            refine wp_region_otail 13 (by kernel_rfl) (by kernel_rfl) ?_
            simp only [List.take_succ_cons, List.take_zero, List.drop_succ_cons, List.drop_zero]
            have hov_hB := fun (E : Over wr) o => E.cell (b := hB) o Hh.out.lt
            repeat (go_big_quiet_step (first | (go_at_call 138; exact calls_over (HPW.out _))))
            all_goals (try unfold elV limbV)
            repeat (go_big_quiet_step (first | (go_at_call 138; exact calls_over (HPW.out _))))
            all_goals (try unfold elV limbV)
            repeat (go_big_quiet_step (first | (go_at_call 138; exact calls_over (HPW.out _))))
            all_goals (try unfold ciphV)
            refine wpQuiet_nil ?_
            rintro _ ⟨E, rfl⟩
            clear hov_hB
            replace Hh := Lib.hid (Hh.out.up E.h)
            replace Ho := Lib.hid (Ho.out.up E.h)
            replace HK1 := Lib.hid (Kept.up HK1.out E.h)
            replace HB := hbu HB E.h
            replace HZS := sz HZS E.h.size
            obtain ⟨w5, hq9⟩ : ∃ W9 : World, E.w = W9 := ⟨_, rfl⟩
            rw [hq9] at Hh Ho HK1 HB HZS ⊢
            clear hq9 E
            clear c1 HPW
            have c1 := Ho.out.cell (byte_cell (outP (bytesOf b) i) i (by rw [HOL.out]; exact hi3))
            have f6_o := Ho.out.frozen
            obtain ⟨w6, hq6, hg9, hz9, hx9⟩ := put1 Ho i (.int .u8 (y.toNat : Int)) _ rfl
            replace Hh := Lib.hid (Hh.out.grown hg9.out (sne (by have g0 := HZS.out; omega)))
            replace HK1 := Lib.hid (Kept.grown HK1.out hg9.out (fun q9 e9 => by obtain rfl := Option.some.inj e9; exact Or.inr (rfl)))
            replace HB := hbg HB hg9 (by have g0 := HZS.out; omega)
            replace HZS := sz HZS hz9.out
            replace Ho := hx9
            clear hx9 hg9 hz9
            replace Ho := Lib.hid (show Bx w6 wo.heap.size 5 (byteCells (outP (bytesOf b) (i + 1))) from by rw [HON.out, ← byteCells_set]; exact Ho.out)
            go_wp2_with fail
            clear hq6 f6_o
            exact ⟨⟨i + 1, by omega, by go_num, Ho, HK1⟩, by simp [RowKit.intOf]; omega⟩
          · have hi3' : i = 32 := by omega
            subst hi3'
            rw [outP_all] at Ho
            have hcv := run_convert_bytes_arg (P := Try.prog) wr 82 5 Try.underlying82 Try.underlying5 wo.heap.size 0 32 32 ((digB (bytesOf b)).map fun b => (b.toNat : Int)) (by rw [List.length_map, digB_len]) (fun j hj => by rw [Nat.zero_add, Ho.out.cell (byte_cell _ j (by rw [digB_len]; exact hj))]; simp [List.getD, digB_len, hj]) 9 Try.underlying9
            rw [out_str] at hcv
            go_wp2_with fail
            go_ret2
            exact ⟨rfl, HB.out⟩
  · have hP : (((b.size : Int) + 63) / 64 == 0) = false := by rw [beq_eq_false_iff_ne]; omega
    obtain ⟨P, hp⟩ : ∃ P : Nat, lastB (bytesOf b) + 1 = P := ⟨_, rfl⟩
    have HPL := Lib.hid hp.symm
    have hPP : ((b.size : Int) + 63) / 64 = (P : Int) := by rw [← hp]; unfold lastB; rw [bytesOf_len]; omega
    rw [hPP] at hP
    clear hb hp
    go_enter Try.func101, Try.ntmps101
    go_wp2_with fail
    refine (rstart_any w).mono ?_
    rintro e w1 ⟨rfl, hb9⟩
    have HB := Lib.hid hb9
    have HZS := Lib.hid hb9.size
    clear hb9
    have HI8 := Lib.hid (show (Try.prog.info? 135).map (·.size) = some (wlV startV).length from info8)
    have HZ8 := Lib.hid (show (wlV (zw 8)).length = (wlV startV).length from rfl)
    have hz8 : (#[.int .u32 0, .int .u32 0, .int .u32 0, .int .u32 0, .int .u32 0, .int .u32 0, .int .u32 0, .int .u32 0] : Array Value) = (wlV (zw 8)).toArray := rfl
    go_upto_region 14 with (refine wpList_store_new rfl 135 135 (.tmp 10) (.tmp 40) rfl (wlV (zw 8)) (wlV startV) rfl rfl HI8.out HZ8.out (wl_one startV) ?_)
    clear hz8 HZ8 HI8
    have HBW := Lib.hid HB.out.size
    obtain ⟨w2, hq2, hb9, hz9, Hh⟩ := new1 w1 135 (wlV startV)
    rw [hq2]
    clear hq2
    replace HB := hbu HB hb9
    replace HZS := sz HZS hz9.out
    clear hb9 hz9
    have c0 : w2.cell? ⟨w1.heap.size, 0, none⟩ = some (.int .u32 1779033703) := Hh.out.cell rfl
    have hx0 : bits BinOp.xor IntKind.u32 1779033703 16842784 = 1795745351 := by decide
    have f3_h := Hh.out.frozen
    obtain ⟨w3, hq3, hg9, hz9, hx9⟩ := put1 Hh 0 (.int .u32 1795745351) _ rfl
    replace HB := hbg HB hg9 (by have g0 := HZS.out; omega)
    replace HZS := sz HZS hz9.out
    replace Hh := hx9
    clear hx9 hg9 hz9
    replace Hh := Lib.hid (show Bx w3 w1.heap.size 135 (wlV h0B) from Hh.out)
    go_wp2_with fail
    clear hq3 f3_h
    clear c0 hx0
    have HZ0 := Lib.hid (show w.heap.size ≤ w1.heap.size from HBW.out)
    have HP9 := Lib.hid hP
    clear hP HBW
    generalize w1.heap.size = hB at *
    have HQ0 := Lib.hid (show Bx w3 hB 135 (wlV (keyW (bytesOf b) 0)) from Hh.out)
    clear Hh
    go_loopw [11] (fun c wr => ∃ k : Nat, k ≤ P ∧ c = .int .i64 k ∧ Hid (Bx wr hB 135 (wlV (keyW (bytesOf b) k))) ∧ Hid (Below w.heap.size w wr)) (fun c _ => P - (RowKit.intOf c).toNat)
    case atStart => exact ⟨0, by omega, rfl, HQ0, HB⟩
    case round =>
      obtain ⟨k, hk, rfl, HQ, HB9⟩ := hrel
      clear HQ0 HB
      have HB := HB9
      have Hh := HQ
      clear HB9 HQ
      have HSB := Lib.hid HB.out.size
      have HSH := Lib.hid Hh.out.lt
      replace HZS := sz HZS HZ0.out
      replace HZS := sz HZS HSB.out
      replace HZS := sz HZS HSH.out
      by_cases hkP : k < P
      · have HKE := Lib.hid (show keyW (bytesOf b) k = allB (bytesOf b) k from by unfold keyW; rw [if_pos (by have := HPL.out; omega)])
        rw [HKE.out] at Hh
        have hz16 : (#[.int .u32 0, .int .u32 0, .int .u32 0, .int .u32 0, .int .u32 0, .int .u32 0, .int .u32 0, .int .u32 0, .int .u32 0, .int .u32 0, .int .u32 0, .int .u32 0, .int .u32 0, .int .u32 0, .int .u32 0, .int .u32 0] : Array Value) = (wlV (wordsB (pieceB (bytesOf b) k) 0)).toArray := by rw [wordsB_zero]; rfl
        have hkd : decide ((k : Int) < (P : Int)) = true := by simp; omega
        have HCL := Lib.hid (show (pieceB (bytesOf b) k).length = min 64 (b.size - 64 * k) from by rw [piece_len, bytesOf_len])
        have hk64 : 64 * k ≤ b.size := by have := HPL.out; unfold lastB at this; rw [bytesOf_len] at this; omega
        go_upto_region 19 with (fail)
        obtain ⟨wo, rfl⟩ : ∃ wo : World, wo = wr := ⟨_, rfl⟩
        obtain ⟨w4, hq4, hb9, hz9, Hm⟩ := new1 wo 195 (wlV (wordsB (pieceB (bytesOf b) k) 0))
        rw [hq4]
        clear hq4
        replace Hh := Lib.hid (Hh.out.up hb9)
        replace HB := hbu HB hb9
        replace HZS := sz HZS hz9.out
        clear hb9 hz9
        clear hz16
        have HK := Lib.hid (Kept.refl (fun q9 => q9 = wo.heap.size) w4)
        go_wp2_with fail
        go_loopw [13] (fun c wr => ∃ i : Nat, i ≤ (pieceB (bytesOf b) k).length ∧ c = .int .i64 i ∧ Hid (Bx wr wo.heap.size 195 (wlV (wordsB (pieceB (bytesOf b) k) i))) ∧ Hid (Kept (fun q9 => q9 = wo.heap.size) w4 wr)) (fun c _ => 64 - (RowKit.intOf c).toNat)
        case atStart => exact ⟨0, by omega, rfl, Hm, HK⟩
        case round =>
          obtain ⟨i, hi, rfl, HQ, HK1⟩ := hrel
          clear HK
          have hg9 := HK1.out
          clear Hm
          replace Hh := Lib.hid (Hh.out.keptP hg9 (show ¬ (_ = wo.heap.size) by have g0 := HZS.out; omega))
          replace HB := Lib.hid (Below.keptP HB.out hg9 (by have g0 := HZS.out; omega) (fun q9 h9 => (show w.heap.size ≤ _ by subst h9; have g0 := HZS.out; omega)))
          replace HZS := sz HZS (show w4.heap.size ≤ wr.heap.size from hg9.size)
          clear hg9
          have Hm := HQ
          clear HQ
          have HWL := Lib.hid (wordsB_len (pieceB (bytesOf b) k) i)
          have hi64 : i ≤ 64 := by have := HCL.out; omega
          by_cases hic : i < (pieceB (bytesOf b) k).length
          · have hi6 : i < 64 := by have := HCL.out; omega
            have hin : 64 * k + i < b.size := by have := HCL.out; omega
            have hbb : (bytesOf b).getD (64 * k + i) 0 = b[64 * k + i] := by unfold bytesOf List.getD; rw [List.getElem?_eq_getElem (by rw [Array.length_toList]; exact hin)]; rfl
            have hix := fun W => run_index_str (P := Try.prog) W 9 b (64 * k + i) (64 * (k : Int) + (i : Int)) (by omega) hin (((pieceB (bytesOf b) k).getD i 0).toNat : Int) (by rw [piece_get _ _ _ hi6, hbb]) Try.underlying9
            have HWS := Lib.hid (wordsB_succ (pieceB (bytesOf b) k) i hi6)
            have HPW := fun w => power_any (i % 4) (by omega) w
            rw [show ((i % 4 : Nat) : Int) = (i : Int) % 4 from by omega] at HPW
            have HPW := Lib.hid HPW
            have hmul := word_mul (pieceB (bytesOf b) k) i
            have c1 := wl_cell Hm.out (i / 4) (by rw [HWL.out]; omega)
            generalize (wordsB (pieceB (bytesOf b) k) i).getD (i / 4) 0 = X at *
            generalize BitVec.ofNat 32 (((pieceB (bytesOf b) k).getD i 0).toNat * 256 ^ (i % 4)) = z at *
            clear hbb
            have hcb := ((pieceB (bytesOf b) k).getD i 0).toNat_lt
            generalize ((pieceB (bytesOf b) k).getD i 0).toNat = cb at *
            generalize ((256 ^ (i % 4) : Nat) : Int) = p at *
            have hadd := add32 X z
            obtain ⟨Z, hZ⟩ : ∃ Z, X + z = Z := ⟨_, rfl⟩
            rw [hZ] at hadd HWS
            clear hZ
            have a1 : (0 : Int) ≤ ((i / 4 : Nat) : Int) := by omega
            have a2 : ((i / 4 : Nat) : Int) < 16 := by omega
            have hdi : decide ((i : Int) < 64) = true := by simp; omega
            have hdn : decide (64 * (k : Int) + (i : Int) < (b.size : Int)) = true := by simp; omega
            go_wp2_with fail
            refine wp_region_otail 19 (by kernel_rfl) (by kernel_rfl) ?_
            simp only [List.take_succ_cons, List.take_zero, List.drop_succ_cons, List.drop_zero]
            have hov_wo_heap_size := fun (E : Over wr) o => E.cell (b := wo.heap.size) o Hm.out.lt
            repeat (go_big_quiet_step (first | (go_at_call 138; exact calls_over (HPW.out _))))
            all_goals (try unfold elV limbV)
            repeat (go_big_quiet_step (first | (go_at_call 138; exact calls_over (HPW.out _))))
            all_goals (try unfold elV limbV)
            repeat (go_big_quiet_step (first | (go_at_call 138; exact calls_over (HPW.out _))))
            all_goals (try unfold ciphV)
            refine wpQuiet_nil ?_
            rintro _ ⟨E, rfl⟩
            clear hov_wo_heap_size
            replace Hh := Lib.hid (Hh.out.up E.h)
            replace Hm := Lib.hid (Hm.out.up E.h)
            replace HK1 := Lib.hid (Kept.up HK1.out E.h)
            replace HB := hbu HB E.h
            replace HZS := sz HZS E.h.size
            obtain ⟨w5, hq9⟩ : ∃ W9 : World, E.w = W9 := ⟨_, rfl⟩
            rw [hq9] at Hh Hm HK1 HB HZS ⊢
            clear hq9 E
            clear c1 hix HPW
            have c1 := Hm.out.cell (wlV_get (wordsB (pieceB (bytesOf b) k) i) (i / 4) (by rw [HWL.out]; omega))
            have f6_m := Hm.out.frozen
            obtain ⟨w6, hq6, hg9, hz9, hx9⟩ := put1 Hm (i / 4) (.int .u32 (Z.toNat : Int)) _ rfl
            replace Hh := Lib.hid (Hh.out.grown hg9.out (sne (by have g0 := HZS.out; omega)))
            replace HK1 := Lib.hid (Kept.grown HK1.out hg9.out (fun q9 e9 => by obtain rfl := Option.some.inj e9; exact Or.inr (rfl)))
            replace HB := hbg HB hg9 (by have g0 := HZS.out; omega)
            replace HZS := sz HZS hz9.out
            replace Hm := hx9
            clear hx9 hg9 hz9
            replace Hm := Lib.hid Hm.out.wset
            rw [← HWS.out] at Hm
            go_wp2_with fail
            clear hq6 f6_m
            exact ⟨⟨i + 1, hic, by go_num, Hm, HK1⟩, by simp [RowKit.intOf]; omega⟩
          · have hie : i = (pieceB (bytesOf b) k).length := by omega
            have hpl : (pieceB (bytesOf b) k).length ≤ 64 := by rw [← hie]; exact hi64
            rw [hie, wordsB_full _ hpl] at Hm
            have hcl := HCL.out
            rw [← hie] at hcl
            have hpl9 := HPL.out
            unfold lastB at hpl9
            rw [bytesOf_len] at hpl9
            have HHL := Lib.hid (allB_len (bytesOf b) k)
            have HHI := Lib.hid (show (Try.prog.info? 135).map (·.size) = some (wlV (allB (bytesOf b) k)).length by rw [wlV_len, HHL.out]; exact info8)
            have HMI := Lib.hid (show (Try.prog.info? 195).map (·.size) = some (wlV (wordsB (pieceB (bytesOf b) k) 64)).length by rw [wlV_len, wordsB_len]; exact info16)
            clear hie hpl
            by_cases hi6 : i < 64
            · have hdi : decide ((i : Int) < 64) = true := by simp; omega
              have hdn : decide (64 * (k : Int) + (i : Int) < (b.size : Int)) = false := by simp; omega
              have hgt : (b.size : Int) < 64 * (k : Int) + 64 := by omega
              have hke : ((k : Int) == ((P : Int) - 1)) = true := by rw [beq_iff_eq]; omega
              have HKN := Lib.hid (show keyW (bytesOf b) (k + 1) = pressB (allB (bytesOf b) k) (wordsB (pieceB (bytesOf b) k) 64) b.size true from by
                have e : k = lastB (bytesOf b) := by have := HPL.out; omega
                unfold keyW
                rw [if_neg (by omega), e]
                unfold digW
                rw [bytesOf_len])
              have HPR := Lib.hid (fun w => rPress_any (allB (bytesOf b) k) (wordsB (pieceB (bytesOf b) k) 64) HHL.out (wordsB_len _ _) b.size (by omega) true w)
              clear hcl hpl9
              go_wp2_with (first | refine wpList_load_mid rfl 135 (.tmp 10) rfl hB 0 rfl (wlV (allB (bytesOf b) k)) _ Hh.out.range Try.underlying135 rfl HHI.out ?_ | refine wpList_load_mid rfl 195 (.tmp 12) rfl wo.heap.size 0 rfl (wlV (wordsB (pieceB (bytesOf b) k) 64)) _ Hm.out.range Try.underlying195 rfl HMI.out ?_)
              refine (HPR.out wr).mono ?_
              rintro e w5 ⟨rfl, hb9⟩
              replace Hh := Lib.hid (Hh.out.up hb9)
              replace Hm := Lib.hid (Hm.out.up hb9)
              replace HK1 := Lib.hid (Kept.up HK1.out hb9)
              replace HB := hbu HB hb9
              replace HZS := sz HZS hb9.size
              clear hb9
              rw [← HKN.out]
              have HRL := Lib.hid (keyW_len (bytesOf b) (k + 1))
              obtain ⟨R, hR⟩ : ∃ R, keyW (bytesOf b) (k + 1) = R := ⟨_, rfl⟩
              rw [hR] at HRL ⊢
              have HRE := Lib.hid hR
              clear hR
              have HRI := Lib.hid (show (Try.prog.info? 135).map (·.size) = some (wlV R).length by rw [wlV_len, HRL.out]; exact info8)
              have HRZ := Lib.hid (show (wlV R).length = (wlV (allB (bytesOf b) k)).length by rw [wlV_len, wlV_len, HRL.out, HHL.out])
              obtain ⟨wz, hqz, hgz, hzz, hrz⟩ := puts Hh 0 (wlV R) (wlV R) (putL_all _ _ HRZ.out)
              have HBZ := hbg HB hgz (by have g0 := HZS.out; omega)
              go_wp2_with (refine wpList_store_mid rfl 135 (.tmp 10) (.tmp 101) rfl hB 0 (wlV R).toArray rfl rfl (Hh.out.there (by simp [HRZ.out])) (by simpa using HRI.out) (all_oneCell_toArray (wl_one R)) ?_)
              exact ⟨⟨k + 1, by omega, by go_num, by rw [HRE.out]; exact hrz, HBZ⟩, by simp [RowKit.intOf]; omega⟩
            · have hdi : decide ((i : Int) < 64) = false := by simp; omega
              have hgt : 64 * (k : Int) + 64 ≤ (b.size : Int) := by omega
              by_cases hkl : k + 1 < P
              · have hke : ((k : Int) == ((P : Int) - 1)) = false := by rw [beq_eq_false_iff_ne]; omega
                have HKN := Lib.hid (show keyW (bytesOf b) (k + 1) = pressB (allB (bytesOf b) k) (wordsB (pieceB (bytesOf b) k) 64) (64 * k + 64) false from by
                  unfold keyW
                  rw [if_pos (by have := HPL.out; omega), show 64 * k + 64 = 64 * (k + 1) by omega]
                  rfl)
                have hpr := fun w => rPress_any (allB (bytesOf b) k) (wordsB (pieceB (bytesOf b) k) 64) HHL.out (wordsB_len _ _) (64 * k + 64) (by omega) false w
                rw [show ((64 * k + 64 : Nat) : Int) = 64 * (k : Int) + 64 from by omega] at hpr
                have HPR := Lib.hid hpr
                clear hpr
                clear hcl hpl9
                go_wp2_with (first | refine wpList_load_mid rfl 135 (.tmp 10) rfl hB 0 rfl (wlV (allB (bytesOf b) k)) _ Hh.out.range Try.underlying135 rfl HHI.out ?_ | refine wpList_load_mid rfl 195 (.tmp 12) rfl wo.heap.size 0 rfl (wlV (wordsB (pieceB (bytesOf b) k) 64)) _ Hm.out.range Try.underlying195 rfl HMI.out ?_)
                refine (HPR.out wr).mono ?_
                rintro e w5 ⟨rfl, hb9⟩
                replace Hh := Lib.hid (Hh.out.up hb9)
                replace Hm := Lib.hid (Hm.out.up hb9)
                replace HK1 := Lib.hid (Kept.up HK1.out hb9)
                replace HB := hbu HB hb9
                replace HZS := sz HZS hb9.size
                clear hb9
                rw [← HKN.out]
                have HRL := Lib.hid (keyW_len (bytesOf b) (k + 1))
                obtain ⟨R, hR⟩ : ∃ R, keyW (bytesOf b) (k + 1) = R := ⟨_, rfl⟩
                rw [hR] at HRL ⊢
                have HRE := Lib.hid hR
                clear hR
                have HRI := Lib.hid (show (Try.prog.info? 135).map (·.size) = some (wlV R).length by rw [wlV_len, HRL.out]; exact info8)
                have HRZ := Lib.hid (show (wlV R).length = (wlV (allB (bytesOf b) k)).length by rw [wlV_len, wlV_len, HRL.out, HHL.out])
                obtain ⟨wz, hqz, hgz, hzz, hrz⟩ := puts Hh 0 (wlV R) (wlV R) (putL_all _ _ HRZ.out)
                have HBZ := hbg HB hgz (by have g0 := HZS.out; omega)
                go_wp2_with (refine wpList_store_mid rfl 135 (.tmp 10) (.tmp 101) rfl hB 0 (wlV R).toArray rfl rfl (Hh.out.there (by simp [HRZ.out])) (by simpa using HRI.out) (all_oneCell_toArray (wl_one R)) ?_)
                exact ⟨⟨k + 1, by omega, by go_num, by rw [HRE.out]; exact hrz, HBZ⟩, by simp [RowKit.intOf]; omega⟩
              · have hke : ((k : Int) == ((P : Int) - 1)) = true := by rw [beq_iff_eq]; omega
                have HKN := Lib.hid (show keyW (bytesOf b) (k + 1) = pressB (allB (bytesOf b) k) (wordsB (pieceB (bytesOf b) k) 64) (64 * k + 64) true from by
                  have e : k = lastB (bytesOf b) := by have := HPL.out; omega
                  have e2 : b.size = 64 * k + 64 := by omega
                  unfold keyW
                  rw [if_neg (by omega), ← e2, e]
                  unfold digW
                  rw [bytesOf_len])
                have hpr := fun w => rPress_any (allB (bytesOf b) k) (wordsB (pieceB (bytesOf b) k) 64) HHL.out (wordsB_len _ _) (64 * k + 64) (by omega) true w
                rw [show ((64 * k + 64 : Nat) : Int) = 64 * (k : Int) + 64 from by omega] at hpr
                have HPR := Lib.hid hpr
                clear hpr
                clear hcl hpl9
                go_wp2_with (first | refine wpList_load_mid rfl 135 (.tmp 10) rfl hB 0 rfl (wlV (allB (bytesOf b) k)) _ Hh.out.range Try.underlying135 rfl HHI.out ?_ | refine wpList_load_mid rfl 195 (.tmp 12) rfl wo.heap.size 0 rfl (wlV (wordsB (pieceB (bytesOf b) k) 64)) _ Hm.out.range Try.underlying195 rfl HMI.out ?_)
                refine (HPR.out wr).mono ?_
                rintro e w5 ⟨rfl, hb9⟩
                replace Hh := Lib.hid (Hh.out.up hb9)
                replace Hm := Lib.hid (Hm.out.up hb9)
                replace HK1 := Lib.hid (Kept.up HK1.out hb9)
                replace HB := hbu HB hb9
                replace HZS := sz HZS hb9.size
                clear hb9
                rw [← HKN.out]
                have HRL := Lib.hid (keyW_len (bytesOf b) (k + 1))
                obtain ⟨R, hR⟩ : ∃ R, keyW (bytesOf b) (k + 1) = R := ⟨_, rfl⟩
                rw [hR] at HRL ⊢
                have HRE := Lib.hid hR
                clear hR
                have HRI := Lib.hid (show (Try.prog.info? 135).map (·.size) = some (wlV R).length by rw [wlV_len, HRL.out]; exact info8)
                have HRZ := Lib.hid (show (wlV R).length = (wlV (allB (bytesOf b) k)).length by rw [wlV_len, wlV_len, HRL.out, HHL.out])
                obtain ⟨wz, hqz, hgz, hzz, hrz⟩ := puts Hh 0 (wlV R) (wlV R) (putL_all _ _ HRZ.out)
                have HBZ := hbg HB hgz (by have g0 := HZS.out; omega)
                go_wp2_with (refine wpList_store_mid rfl 135 (.tmp 10) (.tmp 101) rfl hB 0 (wlV R).toArray rfl rfl (Hh.out.there (by simp [HRZ.out])) (by simpa using HRI.out) (all_oneCell_toArray (wl_one R)) ?_)
                exact ⟨⟨k + 1, by omega, by go_num, by rw [HRE.out]; exact hrz, HBZ⟩, by simp [RowKit.intOf]; omega⟩
      · have hkP' : k = P := by omega
        have HKD := Lib.hid (show keyW (bytesOf b) k = digW (bytesOf b) from by unfold keyW; rw [if_neg (by have := HPL.out; omega)])
        rw [HKD.out] at Hh
        have hkd : decide ((k : Int) < (P : Int)) = false := by simp; omega
        clear HKD
        have hmk := make32 (bytesOf b)
        go_upto_region 28 with (fail)
        clear hmk
        obtain ⟨wo, rfl⟩ : ∃ wo : World, wo = wr := ⟨_, rfl⟩
        obtain ⟨w4, hq4, hb9, hz9, Ho⟩ := new1 wo 5 (byteCells (outP (bytesOf b) 0))
        rw [hq4]
        clear hq4
        replace Hh := Lib.hid (Hh.out.up hb9)
        replace HB := hbu HB hb9
        replace HZS := sz HZS hz9.out
        clear hb9 hz9
        have HK := Lib.hid (Kept.refl (fun q9 => q9 = wo.heap.size) w4)
        have HRL := Lib.hid (digW_len (bytesOf b))
        go_wp2_with fail
        go_loopw [16] (fun c wr => ∃ i : Nat, i ≤ 32 ∧ c = .int .i64 i ∧ Hid (Bx wr wo.heap.size 5 (byteCells (outP (bytesOf b) i))) ∧ Hid (Kept (fun q9 => q9 = wo.heap.size) w4 wr)) (fun c _ => 32 - (RowKit.intOf c).toNat)
        case atStart => exact ⟨0, by omega, rfl, Ho, HK⟩
        case round =>
          obtain ⟨i, hi, rfl, HQ, HK1⟩ := hrel
          clear HK
          have hg9 := HK1.out
          clear Ho
          replace Hh := Lib.hid (Hh.out.keptP hg9 (show ¬ (_ = wo.heap.size) by have g0 := HZS.out; omega))
          replace HB := Lib.hid (Below.keptP HB.out hg9 (by have g0 := HZS.out; omega) (fun q9 h9 => (show w.heap.size ≤ _ by subst h9; have g0 := HZS.out; omega)))
          replace HZS := sz HZS (show w4.heap.size ≤ wr.heap.size from hg9.size)
          clear hg9
          have Ho := HQ
          clear HQ
          by_cases hi3 : i < 32
          · have HPW := fun w => power_any (i % 4) (by omega) w
            rw [show ((i % 4 : Nat) : Int) = (i : Int) % 4 from by omega] at HPW
            have HPW := Lib.hid HPW
            have c1 := wl_cell Hh.out (i / 4) (by rw [HRL.out]; omega)
            have hdv := digB_div (bytesOf b) i hi3
            have HON := Lib.hid (outP_succ (bytesOf b) i hi3)
            have hp1 : (1 : Int) ≤ ((256 ^ (i % 4) : Nat) : Int) := by have := Nat.pow_pos (n := i % 4) (show 0 < 256 by decide); omega
            generalize (digW (bytesOf b)).getD (i / 4) 0 = X at *
            generalize ((256 ^ (i % 4) : Nat) : Int) = p at *
            obtain ⟨y, hy⟩ : ∃ y, (digB (bytesOf b)).getD i 0 = y := ⟨_, rfl⟩
            rw [hy] at hdv HON
            clear hy
            have hyl := y.toNat_lt
            have HOL := Lib.hid (outP_len (bytesOf b) i hi)
            have a1 : (0 : Int) ≤ ((i / 4 : Nat) : Int) := by omega
            have a2 : ((i / 4 : Nat) : Int) < 8 := by omega
            go_wp2_with fail
            refine wp_region_otail 13 (by kernel_rfl) (by kernel_rfl) ?_
            simp only [List.take_succ_cons, List.take_zero, List.drop_succ_cons, List.drop_zero]
            have hov_hB := fun (E : Over wr) o => E.cell (b := hB) o Hh.out.lt
            repeat (go_big_quiet_step (first | (go_at_call 138; exact calls_over (HPW.out _))))
            all_goals (try unfold elV limbV)
            repeat (go_big_quiet_step (first | (go_at_call 138; exact calls_over (HPW.out _))))
            all_goals (try unfold elV limbV)
            repeat (go_big_quiet_step (first | (go_at_call 138; exact calls_over (HPW.out _))))
            all_goals (try unfold ciphV)
            refine wpQuiet_nil ?_
            rintro _ ⟨E, rfl⟩
            clear hov_hB
            replace Hh := Lib.hid (Hh.out.up E.h)
            replace Ho := Lib.hid (Ho.out.up E.h)
            replace HK1 := Lib.hid (Kept.up HK1.out E.h)
            replace HB := hbu HB E.h
            replace HZS := sz HZS E.h.size
            obtain ⟨w5, hq9⟩ : ∃ W9 : World, E.w = W9 := ⟨_, rfl⟩
            rw [hq9] at Hh Ho HK1 HB HZS ⊢
            clear hq9 E
            clear c1 HPW
            have c1 := Ho.out.cell (byte_cell (outP (bytesOf b) i) i (by rw [HOL.out]; exact hi3))
            have f6_o := Ho.out.frozen
            obtain ⟨w6, hq6, hg9, hz9, hx9⟩ := put1 Ho i (.int .u8 (y.toNat : Int)) _ rfl
            replace Hh := Lib.hid (Hh.out.grown hg9.out (sne (by have g0 := HZS.out; omega)))
            replace HK1 := Lib.hid (Kept.grown HK1.out hg9.out (fun q9 e9 => by obtain rfl := Option.some.inj e9; exact Or.inr (rfl)))
            replace HB := hbg HB hg9 (by have g0 := HZS.out; omega)
            replace HZS := sz HZS hz9.out
            replace Ho := hx9
            clear hx9 hg9 hz9
            replace Ho := Lib.hid (show Bx w6 wo.heap.size 5 (byteCells (outP (bytesOf b) (i + 1))) from by rw [HON.out, ← byteCells_set]; exact Ho.out)
            go_wp2_with fail
            clear hq6 f6_o
            exact ⟨⟨i + 1, by omega, by go_num, Ho, HK1⟩, by simp [RowKit.intOf]; omega⟩
          · have hi3' : i = 32 := by omega
            subst hi3'
            rw [outP_all] at Ho
            have hcv := run_convert_bytes_arg (P := Try.prog) wr 82 5 Try.underlying82 Try.underlying5 wo.heap.size 0 32 32 ((digB (bytesOf b)).map fun b => (b.toNat : Int)) (by rw [List.length_map, digB_len]) (fun j hj => by rw [Nat.zero_add, Ho.out.cell (byte_cell _ j (by rw [digB_len]; exact hj))]; simp [List.getD, digB_len, hj]) 9 Try.underlying9
            rw [out_str] at hcv
            go_wp2_with fail
            go_ret2
            exact ⟨rfl, HB.out⟩
end Go.Proofs.Ytdlnnkbigeiilaa

/- The package fold: tag, Tag. Condition: the bytes that a count of 61 bits can count. -/
namespace Go.Proofs.Ytdlnnkbigeiilaa
open Go.RowKit Go.Lib

theorem FoldAt.up {W W' : World} {b : Nat} {s : List UInt8} (h : FoldAt W b s) (hb : Below W.heap.size W W') : FoldAt W' b s :=
  let ⟨h1, n, hb1, k, hx, h2⟩ := h
  ⟨h1, n, hb1, k, hx.up hb, h2⟩
theorem FoldAt.lt {W : World} {b : Nat} {s : List UInt8} (h : FoldAt W b s) : b < W.heap.size := let ⟨_, _, _, _, hx, _⟩ := h; hx.lt
theorem joinL_eq (label : ByteArray) (ps : List ByteArray) : joinL label ps = (label :: ps).flatMap pfxL := by unfold joinL; rw [List.flatMap_cons]
theorem join_snoc (l : List ByteArray) (j : Nat) (h : j < l.length) : (l.take (j + 1)).flatMap pfxL = (l.take j).flatMap pfxL ++ (fourL l[j].size ++ bytesOf l[j]) := by
  rw [List.take_succ_eq_append_getElem h, List.flatMap_append]
  simp [pfxL]
theorem join_len (l : List ByteArray) (j : Nat) (h : j < l.length) : ((l.take j).flatMap pfxL).length + 4 + l[j].size ≤ (l.flatMap pfxL).length := by
  have e : l.flatMap pfxL = (l.take (j + 1)).flatMap pfxL ++ (l.drop (j + 1)).flatMap pfxL := by rw [← List.flatMap_append, List.take_append_drop]
  rw [e, join_snoc l j h, List.length_append, List.length_append, List.length_append, bytesOf_len, show (fourL l[j].size).length = 4 from rfl]
  omega
theorem fourS_bytes (n : Nat) : bytesOf (fourS n) = fourL n := rfl
theorem fold0 {W : World} {b : Nat} (h : Bx W b 138 (foldC h0B 0 z64 0)) : FoldAt W b [] := ⟨h0B, 0, z64, 0, h, rfl, Fold.nil z64 rfl, Or.inl rfl⟩
theorem join_ge (l : List ByteArray) : 4 * l.length ≤ (l.flatMap pfxL).length := by
  induction l with
  | nil => exact Nat.le_refl _
  | cons x l ih => rw [List.flatMap_cons, List.length_append, List.length_cons]; have : 4 ≤ (pfxL x).length := by unfold pfxL; rw [List.length_append]; exact Nat.le_add_right 4 _
                   omega
set_option maxRecDepth 100000 in
set_option maxHeartbeats 4000000 in
theorem tag_any (label : ByteArray) (ps : List ByteArray) (n : Nat) (hpn : ps.length = n) (hsz : (joinL label ps).length < 2305843009213693952) (a : Option Addr) (c : Nat) (w : World) (hX : Sl w w.heap.size a (ps.map Value.string)) :
    Calls Try.prog 31 #[.string label, .slice a n c] w fun e w' => e = .returned (.string (tagS label ps)) ∧ Below w.heap.size w w' := by
  have HPN := Lib.hid hpn
  have HSZ := Lib.hid (show ((label :: ps).flatMap pfxL).length < 2305843009213693952 from joinL_eq label ps ▸ hsz)
  have HX := Lib.hid hX
  have hn6 : n < 1152921504606846976 := by
    have := join_ge (label :: ps)
    rw [← joinL_eq, List.length_cons, hpn] at this
    omega
  clear hpn hsz hX
  have hz0 : Try.zeroCells138 = (begC (zw 8)).toArray := by kernel_rfl
  have HI := Lib.hid (show (Try.prog.info? 138).map (·.size) = some (foldC h0B 0 z64 0).length from infoF)
  have HZ := Lib.hid (show (begC (zw 8)).length = (foldC h0B 0 z64 0).length from rfl)
  go_enter Try.func31, Try.ntmps31
  go_wp2_with fail
  refine (begin_any w).mono ?_
  rintro e w1 ⟨rfl, hb9⟩
  have HB := Lib.hid hb9
  have HZS := Lib.hid hb9.size
  clear hb9
  have HFB := Lib.hid HB.out.size
  go_upto_region 2 with (refine wpList_store_new rfl 138 138 (.tmp 5) (.tmp 8) rfl (begC (zw 8)) (foldC h0B 0 z64 0) rfl rfl HI.out HZ.out (foldC_one _ _ _ _) ?_)
  obtain ⟨w2, hq2, hb9, hz9, Hf⟩ := new1 w1 138 (foldC h0B 0 z64 0)
  rw [hq2]
  clear hq2
  replace HB := hbu HB hb9
  replace HZS := sz HZS hz9.out
  clear hb9 hz9
  clear hz0 HI HZ
  have HF := Lib.hid (fold0 Hf.out)
  clear Hf HZS
  generalize w1.heap.size = fb at *
  go_wp2_with fail
  go_loopw [6] (fun c wr => ∃ j : Nat, j ≤ n + 1 ∧ c = .int .i64 ((j : Int) - 1) ∧ Hid (FoldAt wr fb (((label :: ps).take j).flatMap pfxL)) ∧ Hid (Below w.heap.size w wr)) (fun c _ => (n - RowKit.intOf c).toNat)
  case atStart => exact ⟨0, by omega, rfl, HF, HB⟩
  case round =>
    clear HF HB
    obtain ⟨j, hj, rfl, HF, HB⟩ := hrel
    by_cases hj0 : j = 0
    · subst hj0
      have hn0 : (0 : Int) ≤ (n : Int) := by omega
      have hl9 := join_len (label :: ps) 0 (by rw [List.length_cons, HPN.out]; omega)
      have hs9 := join_snoc (label :: ps) 0 (by rw [List.length_cons, HPN.out]; omega)
      rw [List.getElem_cons_zero] at hl9 hs9
      have HS9 := Lib.hid hs9
      have hl8 : (((label :: ps).take 0).flatMap pfxL).length + 4 + label.size < 2305843009213693952 := by have := HSZ.out; omega
      clear hs9 hl9
      generalize ((label :: ps).take 0).flatMap pfxL = s at *
      go_wp2_with fail
      refine (four_any label.size (by omega) _).mono ?_
      rintro e w5 ⟨rfl, hb5⟩
      have HF5 := Lib.hid (HF.out.up hb5)
      have HB5 := hbu HB hb5
      clear HF HB hb5
      go_wp2_with fail
      refine (take_any fb s (fourS label.size) (by rw [fourS_size]; omega) _ HF5.out).mono ?_
      rintro e w6 ⟨rfl, hf6, hk6⟩
      have HF6 := Lib.hid hf6
      have HB6 := Lib.hid (Below.keptP HB5.out hk6 HB5.out.size (fun q hq => hq ▸ HFB.out))
      clear HF5 HB5 hf6 hk6
      go_wp2_with fail
      refine (take_any fb _ label (by rw [List.length_append, fourS_bytes]; show s.length + 4 + label.size < _; omega) _ HF6.out).mono ?_
      rintro e w7 ⟨rfl, hf7, hk7⟩
      have HF7 := Lib.hid hf7
      have HB7 := Lib.hid (Below.keptP HB6.out hk7 HB6.out.size (fun q hq => hq ▸ HFB.out))
      clear HF6 HB6 hf7 hk7
      have HQ := Lib.hid (show FoldAt w7 fb (((label :: ps).take (0 + 1)).flatMap pfxL) from by rw [HS9.out, ← List.append_assoc]; exact HF7.out)
      clear HF7 HS9
      go_wp2_with fail
      exact ⟨⟨1, by omega, rfl, HQ, HB7⟩, by simp [RowKit.intOf]⟩
    · by_cases hjn : j < n + 1
      · obtain ⟨m, rfl⟩ : ∃ m, j = m + 1 := ⟨j - 1, by omega⟩
        have hmn : m < n := by omega
        have hmp : m < ps.length := by rw [HPN.out]; exact hmn
        have e1 : ((m + 1 : Nat) : Int) - 1 = (m : Int) := by omega
        rw [e1]
        clear e1
        obtain ⟨xb, xo, rfl, hxl, hxc⟩ := (HX.out.up HB.out).at m (by rw [List.length_map]; exact hmp)
        rw [List.getElem_map] at hxc
        obtain ⟨x, hx⟩ : ∃ x, ps[m] = x := ⟨_, rfl⟩
        rw [hx] at hxc
        have hl9 := join_len (label :: ps) (m + 1) (by rw [List.length_cons, HPN.out]; omega)
        have hs9 := join_snoc (label :: ps) (m + 1) (by rw [List.length_cons, HPN.out]; omega)
        rw [List.getElem_cons_succ, hx] at hl9 hs9
        have HS9 := Lib.hid hs9
        have hl8 : (((label :: ps).take (m + 1)).flatMap pfxL).length + 4 + x.size < 2305843009213693952 := by have := HSZ.out; omega
        clear hs9 hl9
        generalize ((label :: ps).take (m + 1)).flatMap pfxL = s at *
        go_wp2_with fail
        refine (four_any x.size (by omega) _).mono ?_
        rintro e w5 ⟨rfl, hb5⟩
        have HF5 := Lib.hid (HF.out.up hb5)
        have HB5 := hbu HB hb5
        clear HF HB hb5
        go_wp2_with fail
        refine (take_any fb s (fourS x.size) (by rw [fourS_size]; omega) _ HF5.out).mono ?_
        rintro e w6 ⟨rfl, hf6, hk6⟩
        have HF6 := Lib.hid hf6
        have HB6 := Lib.hid (Below.keptP HB5.out hk6 HB5.out.size (fun q hq => hq ▸ HFB.out))
        clear HF5 HB5 hf6 hk6
        go_wp2_with fail
        refine (take_any fb _ x (by rw [List.length_append, fourS_bytes]; show s.length + 4 + x.size < _; omega) _ HF6.out).mono ?_
        rintro e w7 ⟨rfl, hf7, hk7⟩
        have HF7 := Lib.hid hf7
        have HB7 := Lib.hid (Below.keptP HB6.out hk7 HB6.out.size (fun q hq => hq ▸ HFB.out))
        clear HF6 HB6 hf7 hk7
        have HQ := Lib.hid (show FoldAt w7 fb (((label :: ps).take ((m + 1) + 1)).flatMap pfxL) from by rw [HS9.out, ← List.append_assoc]; exact HF7.out)
        clear HF7 HS9
        go_wp2_with fail
        exact ⟨⟨m + 1 + 1, by omega, by go_num, HQ, HB7⟩, by simp [RowKit.intOf]; omega⟩
      · have hjn' : j = n + 1 := by omega
        subst hjn'
        rw [List.take_of_length_le (by rw [List.length_cons, HPN.out]; exact Nat.le_refl _)] at HF
        have HEN := Lib.hid (fun w h => end_any fb ((label :: ps).flatMap pfxL) (by have := HSZ.out; omega) w h)
        have e1 : ((n + 1 : Nat) : Int) - 1 = (n : Int) := by omega
        rw [e1]
        clear e1
        go_wp2_with fail
        refine (HEN.out _ HF.out).mono ?_
        rintro e w5 ⟨rfl, hk5⟩
        have HB5 := Lib.hid (Below.keptP HB.out hk5 HB.out.size (fun q hq => hq ▸ HFB.out))
        clear hk5
        go_wp2_with fail
        go_ret
        exact ⟨rfl, HB5.out⟩
theorem Tag_any (label : ByteArray) (ps : List ByteArray) (n : Nat) (hpn : ps.length = n) (hsz : (joinL label ps).length < 2305843009213693952) (a : Option Addr) (c : Nat) (w : World) (hX : Sl w w.heap.size a (ps.map Value.string)) :
    Calls Try.prog 96 #[.string label, .slice a n c] w fun e w' => e = .returned (.string (tagS label ps)) ∧ Below w.heap.size w w' := by
  have HT := Lib.hid (tag_any label ps n hpn hsz a c w hX)
  clear hpn hsz hX
  go_enter Try.func96, Try.ntmps96
  go_wp2_with fail
  refine (HT.out).mono ?_
  rintro e w1 ⟨rfl, hb9⟩
  have HB := Lib.hid hb9
  have HZS := Lib.hid hb9.size
  clear hb9
  go_wp2_with fail
  go_ret
  exact ⟨rfl, HB.out⟩
end Go.Proofs.Ytdlnnkbigeiilaa

/- The document's digest: Digest, Four, Joined, Tag. Condition: the bytes that a count of 61 bits can count. -/
namespace Go.Proofs.Ytdlnnkbigeiilaa
open Go.RowKit Go.Lib

set_option maxHeartbeats 1000000 in
theorem Digest_any (b : ByteArray) (hsz : b.size < 2305843009213693952) (w : World) : Calls Try.prog 58 #[.string b] w fun e w' => e = .returned (.string (digS (bytesOf b))) ∧ Below w.heap.size w w' := by
  have HK := Lib.hid (fun w => Keyed_any b hsz w)
  go_enter Try.func58, Try.ntmps58
  go_wp2_with fail
  refine (HK.out w).mono ?_
  rintro e w1 ⟨rfl, hb9⟩
  have HB := Lib.hid hb9
  have HZS := Lib.hid hb9.size
  clear hb9
  go_wp2_with fail
  go_ret
  exact ⟨rfl, HB.out⟩
set_option maxRecDepth 100000 in
set_option maxHeartbeats 1000000 in
theorem Four_any (n : Nat) (hn : n < 9223372036854775808) (w : World) : Calls Try.prog 55 #[.int .i64 (n : Int)] w fun e w' => e = .returned (.string (fourS n)) ∧ Below w.heap.size w w' := by
  have hn0 : (0 : Int) ≤ (n : Int) := by omega
  go_enter Try.func55, Try.ntmps55
  obtain ⟨w1, hq1, hb9, hz9, Hr⟩ := new1 w 5 [.int .u8 ((n : Int) / 16777216 % 256), .int .u8 ((n : Int) / 65536 % 256), .int .u8 ((n : Int) / 256 % 256), .int .u8 ((n : Int) % 256)]
  have HB := Lib.hid hb9
  have HZS := hz9
  clear hb9 hz9
  have r_ := Hr.out.c4
  have hcv := run_convert_bytes_arg (P := Try.prog) w1 82 5 Try.underlying82 Try.underlying5 w.heap.size 0 4 4 [(n : Int) / 16777216 % 256, (n : Int) / 65536 % 256, (n : Int) / 256 % 256, (n : Int) % 256] rfl (fun i hi => by
    rcases (show i = 0 ∨ i = 1 ∨ i = 2 ∨ i = 3 by omega) with rfl | rfl | rfl | rfl
    · exact Hr.out.cell (i := 0) rfl
    · exact Hr.out.cell (i := 1) rfl
    · exact Hr.out.cell (i := 2) rfl
    · exact Hr.out.cell (i := 3) rfl) 9 Try.underlying9
  go_wp2_with fail
  clear hq1
  go_ret
  exact ⟨rfl, HB.out⟩
theorem bytesOf_app (a b : ByteArray) : bytesOf (a ++ b) = bytesOf a ++ bytesOf b := by
  unfold bytesOf
  simp
set_option maxRecDepth 100000 in
set_option maxHeartbeats 4000000 in
theorem Joined_any (label : ByteArray) (ps : List ByteArray) (n : Nat) (hpn : ps.length = n) (hsz : (joinL label ps).length < 2305843009213693952) (a : Option Addr) (c : Nat) (w : World) (hX : Sl w w.heap.size a (ps.map Value.string)) :
    Calls Try.prog 57 #[.string label, .slice a n c] w fun e w' => ∃ y, e = .returned (.string y) ∧ bytesOf y = joinL label ps ∧ Below w.heap.size w w' := by
  have HPN := Lib.hid hpn
  have HSZ := Lib.hid (show ((label :: ps).flatMap pfxL).length < 2305843009213693952 from joinL_eq label ps ▸ hsz)
  have HX := Lib.hid hX
  have hn6 : n < 1152921504606846976 := by
    have := join_ge (label :: ps)
    rw [← joinL_eq, List.length_cons, hpn] at this
    omega
  have hl0 := join_len (label :: ps) 0 (by simp)
  rw [List.getElem_cons_zero, ← joinL_eq] at hl0
  have hl1 : label.size < 2305843009213693952 := by omega
  clear hpn hsz hX hl0
  go_enter Try.func57, Try.ntmps57
  go_wp2_with fail
  refine (Four_any label.size (by omega) w).mono ?_
  rintro e w1 ⟨rfl, hb9⟩
  have HB := Lib.hid hb9
  have HZS := Lib.hid hb9.size
  clear hb9
  have hfs : (fourS label.size).size = 4 := rfl
  have HY0 := Lib.hid (show bytesOf (fourS label.size ++ label) = ((label :: ps).take (0 + 1)).flatMap pfxL from by rw [bytesOf_app, fourS_bytes]; simp [pfxL])
  generalize fourS label.size = f0 at *
  have hfc : ¬ (9223372036854775807 < f0.size + label.size) := by omega
  go_wp2_with fail
  go_loopw [15, 5] (fun c v wr => ∃ (j : Nat) (y : ByteArray), j ≤ n ∧ c = .int .i64 j ∧ v = .string y ∧ Hid (bytesOf y = ((label :: ps).take (j + 1)).flatMap pfxL) ∧ Hid (Below w.heap.size w wr)) (fun c _ _ => n - (RowKit.intOf c).toNat)
  case atStart => exact ⟨0, _, by omega, rfl, rfl, HY0, HB⟩
  case round =>
    clear HY0 HB hfs hfc
    obtain ⟨j, y, hj, rfl, rfl, HY, HB⟩ := hrel
    by_cases hjn : j < n
    · have hjp : j < ps.length := by rw [HPN.out]; exact hjn
      have hl9 := join_len (label :: ps) (j + 1) (by rw [List.length_cons]; omega)
      have hs9 := join_snoc (label :: ps) (j + 1) (by rw [List.length_cons]; omega)
      rw [List.getElem_cons_succ] at hl9 hs9
      rw [← HY.out] at hl9 hs9
      rw [bytesOf_len] at hl9
      have hT := HSZ.out
      obtain ⟨xb, xo, rfl, hxl, hxc⟩ := (HX.out.up HB.out).at j (by rw [List.length_map]; exact hjp)
      rw [List.getElem_map] at hxc
      generalize ps[j] = x at *
      have hl8 : y.size + 4 + x.size < 2305843009213693952 := by omega
      have HYN := Lib.hid (show bytesOf (y ++ fourS x.size ++ x) = ((label :: ps).take (j + 1 + 1)).flatMap pfxL from by rw [bytesOf_app, bytesOf_app, fourS_bytes, hs9, List.append_assoc])
      have HF4 := Lib.hid (fun w => Four_any x.size (by omega) w)
      have hfs : (fourS x.size).size = 4 := rfl
      clear hl9 hs9 hT
      generalize fourS x.size = f at *
      have hc1 : ¬ (9223372036854775807 < y.size + f.size) := by omega
      have hc2 : ¬ (9223372036854775807 < (y ++ f).size + x.size) := by rw [ByteArray.size_append]; omega
      have hc3 : ¬ (9223372036854775807 < y.size + f.size + x.size) := by omega
      go_wp2_with fail
      refine (HF4.out wr).mono ?_
      rintro e w2 ⟨rfl, hb9⟩
      replace HB := hbu HB hb9
      replace HZS := sz HZS hb9.size
      clear hb9
      go_wp2_with fail
      go_roundw
      case rel => exact ⟨j + 1, _, by omega, by go_num, rfl, HYN, HB⟩
      case measure => simp [RowKit.intOf]; omega
    · have hjn' : j = n := by omega
      subst hjn'
      rw [List.take_of_length_le (by rw [List.length_cons, HPN.out]; exact Nat.le_refl _), ← joinL_eq] at HY
      go_wp2_with fail
      go_ret
      exact ⟨y, rfl, HY.out, HB.out⟩
theorem bytesOf_digS {y : ByteArray} {s : List UInt8} (h : bytesOf y = s) : digS (bytesOf y) = digS s := by rw [h]
set_option maxHeartbeats 1000000 in
theorem rTag_any (label : ByteArray) (ps : List ByteArray) (n : Nat) (hpn : ps.length = n) (hsz : (joinL label ps).length < 2305843009213693952) (a : Option Addr) (c : Nat) (w : World) (hX : Sl w w.heap.size a (ps.map Value.string)) :
    Calls Try.prog 32 #[.string label, .slice a n c] w fun e w' => e = .returned (.string (tagS label ps)) ∧ Below w.heap.size w w' := by
  have HJ := Lib.hid (Joined_any label ps n hpn hsz a c w hX)
  have HSZ := Lib.hid hsz
  clear hpn hsz hX
  go_enter Try.func32, Try.ntmps32
  go_wp2_with fail
  refine (HJ.out).mono ?_
  rintro e w1 ⟨y, rfl, hy, hb9⟩
  have HB := Lib.hid hb9
  have HZS := Lib.hid hb9.size
  have HY := Lib.hid hy
  clear hy
  clear hb9
  go_wp2_with fail
  refine (Digest_any y (by rw [← bytesOf_len, HY.out]; exact HSZ.out) w1).mono ?_
  rintro e w2 ⟨rfl, hb9⟩
  replace HB := hbu HB hb9
  replace HZS := sz HZS hb9.size
  clear hb9
  have HE := Lib.hid (show digS (bytesOf y) = tagS label ps from by rw [HY.out]; rfl)
  rw [HE.out]
  go_wp2_with fail
  go_ret
  exact ⟨rfl, HB.out⟩
end Go.Proofs.Ytdlnnkbigeiilaa

/- The package fold: a talk. Conditions: the bytes that a count of 60 bits can count. -/
namespace Go.Proofs.Ytdlnnkbigeiilaa
open Go.RowKit Go.Lib

abbrev talkB : ByteArray := ⟨#[116, 97, 108, 107]⟩
abbrev sayB : ByteArray := ⟨#[115, 97, 121]⟩
abbrev askB : ByteArray := ⟨#[97, 115, 107]⟩
abbrev askedB : ByteArray := ⟨#[97, 115, 107, 101, 100]⟩
def TalkAt (W : World) (b : Nat) (s : ByteArray) : Prop := Bx W b 67 [.string s]
theorem Sl.ofB {W : World} {b : Nat} {t : TypeId} {cs : List Value} (h : Bx W b t cs) : Sl W W.heap.size (some ⟨b, 0, none⟩) cs := Or.inr ⟨b, 0, rfl, h.lt, fun i v hv => by rw [Nat.zero_add]; exact h.cell hv⟩
theorem join_small (l : ByteArray) (ps : List ByteArray) (m : Nat) (h : ps.length ≤ 3) (hp : ∀ p ∈ ps, p.size < 140737488355328) (hl : l.size < 140737488355328) : (joinL l ps).length < 2305843009213693952 := by
  have key : ∀ x : ByteArray, (pfxL x).length = 4 + x.size := fun x => by unfold pfxL; rw [List.length_append, bytesOf_len]; rfl
  have gen : ∀ qs : List ByteArray, (∀ p ∈ qs, p.size < 140737488355328) → (qs.flatMap pfxL).length ≤ qs.length * 140737488355332 := by
    intro qs
    induction qs with
    | nil => intro _; simp
    | cons x qs ih =>
      intro hq
      have h1 := ih fun p hp => hq p (List.mem_cons_of_mem _ hp)
      have h2 := hq x (List.mem_cons_self ..)
      rw [List.flatMap_cons, List.length_append, List.length_cons, key]
      omega
  have := gen ps hp
  unfold joinL
  rw [List.length_append, key]
  have h3 : ps.length * 140737488355332 ≤ 3 * 140737488355332 := Nat.mul_le_mul_right _ h
  omega
set_option maxRecDepth 100000 in
set_option maxHeartbeats 1000000 in
theorem NewTalk_any (label : ByteArray) (hl : label.size < 140737488355328) (w : World) :
    Calls Try.prog 8 #[.string label] w fun e w' => ∃ tb, e = .returned (.pointer (some ⟨tb, 0, none⟩)) ∧ w.heap.size ≤ tb ∧ TalkAt w' tb (tagS talkB [label]) ∧ Below w.heap.size w w' := by
  have HJ := Lib.hid (join_small talkB [label] 0 (by simp) (by simpa using hl) (by decide))
  have HT := Lib.hid (fun a c w hX => tag_any talkB [label] 1 rfl HJ.out a c w hX)
  clear hl
  go_enter Try.func8, Try.ntmps8
  obtain ⟨w1, hq1, hb9, hz9, Hr⟩ := new1 w 9 [.string label]
  have HB := Lib.hid hb9
  have HZS := hz9
  clear hb9 hz9
  have r_ := Hr.out.c1
  go_wp2_with fail
  clear hq1
  refine (HT.out _ _ _ (Sl.ofB Hr.out)).mono ?_
  rintro e w2 ⟨rfl, hb9⟩
  clear r_
  replace Hr := Lib.hid (Hr.out.up hb9)
  replace HB := hbu HB hb9
  replace HZS := sz HZS hb9.size
  clear hb9
  have r_ := Hr.out.c1
  have hsz := Lib.hid HB.out.size
  have o3_r_ := r_; clear r_
  obtain ⟨w3, hq3, hb9, hz9, Ht⟩ := new1 w2 67 [.string (tagS talkB [label])]
  replace Hr := Lib.hid (Hr.out.up hb9)
  replace HB := hbu HB hb9
  replace HZS := sz HZS hz9.out
  clear hb9 hz9
  have r_ := Hr.out.c1
  have t_ := Ht.out.c1
  go_wp2_with fail
  clear hq3 o3_r_
  go_ret
  exact ⟨_, rfl, hsz.out, Ht.out, HB.out⟩
set_option maxRecDepth 100000 in
set_option maxHeartbeats 1000000 in
theorem Say_any (tb : Nat) (s label b : ByteArray) (hs : s.size < 140737488355328) (hl : label.size < 140737488355328) (hb : b.size < 140737488355328) (w : World) (hT : TalkAt w tb s) :
    Calls Try.prog 10 #[.pointer (some ⟨tb, 0, none⟩), .string label, .string b] w fun e w' => e = .returned (.tuple #[]) ∧ TalkAt w' tb (tagS sayB [s, label, b]) ∧ Kept (fun q => q = tb) w w' := by
  have HJ := Lib.hid (join_small sayB [s, label, b] 0 (by simp) (by simp [hs, hl, hb]) (by decide))
  have HT := Lib.hid (fun a c w hX => tag_any sayB [s, label, b] 3 rfl HJ.out a c w hX)
  have Ht := Lib.hid (show Bx w tb 67 [.string s] from hT)
  have HLB := Lib.hid hT.lt
  generalize tagS sayB [s, label, b] = S at *
  clear hs hl hb hT
  go_enter Try.func10, Try.ntmps10
  have t_ := Ht.out.c1
  have HZS := HLB
  have HK := Lib.hid (Kept.refl (fun q9 => q9 = tb) w)
  have o1_t_ := t_; clear t_
  obtain ⟨w1, hq1, hb9, hz9, Hr⟩ := new1 w 9 [.string s, .string label, .string b]
  replace Ht := Lib.hid (Ht.out.up hb9)
  replace HK := Lib.hid (Kept.up HK.out hb9)
  replace HZS := sz HZS hz9.out
  clear hb9 hz9
  have t_ := Ht.out.c1
  have r_ := Hr.out.c3
  go_wp2_with fail
  clear hq1 o1_t_
  refine (HT.out _ _ _ (Sl.ofB Hr.out)).mono ?_
  rintro e w2 ⟨rfl, hb9⟩
  clear t_
  replace Ht := Lib.hid (Ht.out.up hb9)
  clear r_
  replace Hr := Lib.hid (Hr.out.up hb9)
  replace HK := Lib.hid (Kept.up HK.out hb9)
  replace HZS := sz HZS hb9.size
  clear hb9
  have t_ := Ht.out.c1
  have r_ := Hr.out.c3
  have f3_t := Ht.out.frozen
  have o3_t_ := t_; clear t_
  have o3_r_ := r_; clear r_
  obtain ⟨w3, hq3, hg9, hz9, hx9⟩ := put1 Ht 0 (.string S) [.string S] rfl
  replace Hr := Lib.hid (Hr.out.grown hg9.out (sne (by have g0 := HZS.out; omega)))
  replace HK := Lib.hid (Kept.grown HK.out hg9.out (fun q9 e9 => by obtain rfl := Option.some.inj e9; exact Or.inr (rfl)))
  replace HZS := sz HZS hz9.out
  replace Ht := hx9
  clear hx9 hg9 hz9
  have t_ := Ht.out.c1
  have r_ := Hr.out.c3
  go_wp2_with fail
  clear hq3 o3_r_ o3_t_ f3_t
  go_end0
  exact ⟨rfl, Ht.out, HK.out⟩
set_option maxRecDepth 100000 in
set_option maxHeartbeats 1000000 in
theorem Ask_any (tb : Nat) (s label : ByteArray) (hs : s.size < 140737488355328) (hl : label.size < 140737488355328) (w : World) (hT : TalkAt w tb s) :
    Calls Try.prog 16 #[.pointer (some ⟨tb, 0, none⟩), .string label] w fun e w' => e = .returned (.string (tagS askB [s, label])) ∧ TalkAt w' tb (tagS askedB [s, label]) ∧ Kept (fun q => q = tb) w w' := by
  have HJ := Lib.hid (join_small askB [s, label] 0 (by simp) (by simp [hs, hl]) (by decide))
  have HJ2 := Lib.hid (join_small askedB [s, label] 0 (by simp) (by simp [hs, hl]) (by decide))
  have HT := Lib.hid (fun a c w hX => tag_any askB [s, label] 2 rfl HJ.out a c w hX)
  have HT2 := Lib.hid (fun a c w hX => tag_any askedB [s, label] 2 rfl HJ2.out a c w hX)
  have Ht := Lib.hid (show Bx w tb 67 [.string s] from hT)
  have HLB := Lib.hid hT.lt
  obtain ⟨A, hA⟩ : ∃ A, tagS askB [s, label] = A := ⟨_, rfl⟩
  obtain ⟨D, hD⟩ : ∃ D, tagS askedB [s, label] = D := ⟨_, rfl⟩
  rw [hA] at HT ⊢
  rw [hD] at HT2 ⊢
  clear hs hl hT hA hD HJ HJ2
  go_enter Try.func16, Try.ntmps16
  have t_ := Ht.out.c1
  have HZS := HLB
  have HK := Lib.hid (Kept.refl (fun q9 => q9 = tb) w)
  have o1_t_ := t_; clear t_
  obtain ⟨w1, hq1, hb9, hz9, Hr⟩ := new1 w 9 [.string s, .string label]
  replace Ht := Lib.hid (Ht.out.up hb9)
  replace HK := Lib.hid (Kept.up HK.out hb9)
  replace HZS := sz HZS hz9.out
  clear hb9 hz9
  have t_ := Ht.out.c1
  have r_ := Hr.out.c2
  go_wp2_with fail
  clear hq1 o1_t_
  refine (HT.out _ _ _ (Sl.ofB Hr.out)).mono ?_
  rintro e w2 ⟨rfl, hb9⟩
  clear t_
  replace Ht := Lib.hid (Ht.out.up hb9)
  clear r_
  replace Hr := Lib.hid (Hr.out.up hb9)
  replace HK := Lib.hid (Kept.up HK.out hb9)
  replace HZS := sz HZS hb9.size
  clear hb9
  have t_ := Ht.out.c1
  have r_ := Hr.out.c2
  clear r_
  clear Hr
  have o3_t_ := t_; clear t_
  obtain ⟨w3, hq3, hb9, hz9, Hr⟩ := new1 w2 9 [.string s, .string label]
  replace Ht := Lib.hid (Ht.out.up hb9)
  replace HK := Lib.hid (Kept.up HK.out hb9)
  replace HZS := sz HZS hz9.out
  clear hb9 hz9
  have t_ := Ht.out.c1
  have r_ := Hr.out.c2
  go_wp2_with fail
  clear hq3 o3_t_
  refine (HT2.out _ _ _ (Sl.ofB Hr.out)).mono ?_
  rintro e w4 ⟨rfl, hb9⟩
  clear t_
  replace Ht := Lib.hid (Ht.out.up hb9)
  clear r_
  replace Hr := Lib.hid (Hr.out.up hb9)
  replace HK := Lib.hid (Kept.up HK.out hb9)
  replace HZS := sz HZS hb9.size
  clear hb9
  have t_ := Ht.out.c1
  have r_ := Hr.out.c2
  have f5_t := Ht.out.frozen
  have o5_t_ := t_; clear t_
  have o5_r_ := r_; clear r_
  obtain ⟨w5, hq5, hg9, hz9, hx9⟩ := put1 Ht 0 (.string D) [.string D] rfl
  replace Hr := Lib.hid (Hr.out.grown hg9.out (sne (by have g0 := HZS.out; omega)))
  replace HK := Lib.hid (Kept.grown HK.out hg9.out (fun q9 e9 => by obtain rfl := Option.some.inj e9; exact Or.inr (rfl)))
  replace HZS := sz HZS hz9.out
  replace Ht := hx9
  clear hx9 hg9 hz9
  have t_ := Ht.out.c1
  have r_ := Hr.out.c2
  go_wp2_with fail
  clear hq5 o5_r_ o5_t_ f5_t
  go_ret
  exact ⟨rfl, Ht.out, HK.out⟩
set_option maxHeartbeats 1000000 in
theorem Fork_any (tb : Nat) (s : ByteArray) (w : World) (hT : TalkAt w tb s) :
    Calls Try.prog 113 #[.pointer (some ⟨tb, 0, none⟩)] w fun e w' => ∃ fb, e = .returned (.pointer (some ⟨fb, 0, none⟩)) ∧ w.heap.size ≤ fb ∧ TalkAt w' fb s ∧ Below w.heap.size w w' := by
  have Ht := Lib.hid (show Bx w tb 67 [.string s] from hT)
  clear hT
  go_enter Try.func113, Try.ntmps113
  have t_ := Ht.out.c1
  have o1_t_ := t_; clear t_
  obtain ⟨w1, hq1, hb9, hz9, Hf⟩ := new1 w 67 [.string s]
  replace Ht := Lib.hid (Ht.out.up hb9)
  have HB := Lib.hid hb9
  have HZS := hz9
  clear hb9 hz9
  have t_ := Ht.out.c1
  have f_ := Hf.out.c1
  go_wp2_with fail
  clear hq1 o1_t_
  go_ret
  exact ⟨_, rfl, Nat.le_refl _, Hf.out, HB.out⟩
end Go.Proofs.Ytdlnnkbigeiilaa

/- The document's talk. Conditions: the bytes that memory can hold. -/
namespace Go.Proofs.Ytdlnnkbigeiilaa
open Go.RowKit Go.Lib

set_option maxRecDepth 100000 in
set_option maxHeartbeats 1000000 in
theorem rNewTalk_any (label : ByteArray) (hl : label.size < 140737488355328) (w : World) :
    Calls Try.prog 9 #[.string label] w fun e w' => e = .returned (.agg #[.string (tagS talkB [label])]) ∧ Below w.heap.size w w' := by
  have HJ := Lib.hid (join_small talkB [label] 0 (by simp) (by simpa using hl) (by decide))
  have HT := Lib.hid (fun a c w hX => rTag_any talkB [label] 1 rfl HJ.out a c w hX)
  obtain ⟨T, hT⟩ : ∃ T, tagS talkB [label] = T := ⟨_, rfl⟩
  rw [hT] at HT ⊢
  clear hl hT HJ
  go_enter Try.func9, Try.ntmps9
  go_upto_region 1 with (fail)
  obtain ⟨w1, hq1, hb9, hz9, Ho⟩ := new1 w 26 [.string ⟨#[]⟩]
  rw [hq1]
  clear hq1
  have HB := Lib.hid hb9
  have HZS := hz9
  clear hb9 hz9
  have o_ := Ho.out.c1
  have o2_o_ := o_; clear o_
  obtain ⟨w2, hq2, hb9, hz9, Hr⟩ := new1 w1 9 [.string label]
  replace Ho := Lib.hid (Ho.out.up hb9)
  replace HB := hbu HB hb9
  replace HZS := sz HZS hz9.out
  clear hb9 hz9
  have o_ := Ho.out.c1
  have r_ := Hr.out.c1
  go_wp2_with fail
  clear hq2 o2_o_
  refine (HT.out _ _ _ (Sl.ofB Hr.out)).mono ?_
  rintro e w3 ⟨rfl, hb9⟩
  clear o_
  replace Ho := Lib.hid (Ho.out.up hb9)
  clear r_
  replace Hr := Lib.hid (Hr.out.up hb9)
  replace HB := hbu HB hb9
  replace HZS := sz HZS hb9.size
  clear hb9
  have o_ := Ho.out.c1
  have r_ := Hr.out.c1
  have f4_o := Ho.out.frozen
  have o4_o_ := o_; clear o_
  have o4_r_ := r_; clear r_
  obtain ⟨w4, hq4, hg9, hz9, hx9⟩ := put1 Ho 0 (.string T) [.string T] rfl
  replace Hr := Lib.hid (Hr.out.grown hg9.out (sne (by have g0 := HZS.out; omega)))
  replace HB := hbg HB hg9 (by have g0 := HZS.out; omega)
  replace HZS := sz HZS hz9.out
  replace Ho := hx9
  clear hx9 hg9 hz9
  have o_ := Ho.out.c1
  have r_ := Hr.out.c1
  go_wp2_with fail
  clear hq4 o4_r_ o4_o_ f4_o
  simp [bodyPost, results, Try.results9, go_sem, o_]
  exact HB.out
set_option maxRecDepth 100000 in
set_option maxHeartbeats 1000000 in
theorem rSay_any (s label b : ByteArray) (hs : s.size < 140737488355328) (hl : label.size < 140737488355328) (hb : b.size < 140737488355328) (w : World) :
    Calls Try.prog 11 #[.agg #[.string s], .string label, .string b] w fun e w' => e = .returned (.agg #[.string (tagS sayB [s, label, b])]) ∧ Below w.heap.size w w' := by
  have HJ := Lib.hid (join_small sayB [s, label, b] 0 (by simp) (by simp [hs, hl, hb]) (by decide))
  have HT := Lib.hid (fun a c w hX => rTag_any sayB [s, label, b] 3 rfl HJ.out a c w hX)
  obtain ⟨T, hT⟩ : ∃ T, tagS sayB [s, label, b] = T := ⟨_, rfl⟩
  rw [hT] at HT ⊢
  clear hs hl hb hT HJ
  go_enter Try.func11, Try.ntmps11
  go_upto_region 1 with (fail)
  obtain ⟨w1, hq1, hb9, hz9, Ht, Ho⟩ := new2 w 26 [.string s] 26 [.string ⟨#[]⟩]
  rw [hq1]
  clear hq1
  have HB := Lib.hid hb9
  have HZS := hz9
  clear hb9 hz9
  have t_ := Ht.out.c1
  have o_ := Ho.out.c1
  have o2_t_ := t_; clear t_
  have o2_o_ := o_; clear o_
  obtain ⟨w2, hq2, hb9, hz9, Hr⟩ := new1 w1 9 [.string s, .string label, .string b]
  replace Ht := Lib.hid (Ht.out.up hb9)
  replace Ho := Lib.hid (Ho.out.up hb9)
  replace HB := hbu HB hb9
  replace HZS := sz HZS hz9.out
  clear hb9 hz9
  have t_ := Ht.out.c1
  have o_ := Ho.out.c1
  have r_ := Hr.out.c3
  go_wp2_with fail
  clear hq2 o2_o_ o2_t_
  refine (HT.out _ _ _ (Sl.ofB Hr.out)).mono ?_
  rintro e w3 ⟨rfl, hb9⟩
  clear t_
  replace Ht := Lib.hid (Ht.out.up hb9)
  clear o_
  replace Ho := Lib.hid (Ho.out.up hb9)
  clear r_
  replace Hr := Lib.hid (Hr.out.up hb9)
  replace HB := hbu HB hb9
  replace HZS := sz HZS hb9.size
  clear hb9
  have t_ := Ht.out.c1
  have o_ := Ho.out.c1
  have r_ := Hr.out.c3
  have f4_o := Ho.out.frozen
  have o4_t_ := t_; clear t_
  have o4_o_ := o_; clear o_
  have o4_r_ := r_; clear r_
  obtain ⟨w4, hq4, hg9, hz9, hx9⟩ := put1 Ho 0 (.string T) [.string T] rfl
  replace Ht := Lib.hid (Ht.out.grown hg9.out (sne (by have g0 := HZS.out; omega)))
  replace Hr := Lib.hid (Hr.out.grown hg9.out (sne (by have g0 := HZS.out; omega)))
  replace HB := hbg HB hg9 (by have g0 := HZS.out; omega)
  replace HZS := sz HZS hz9.out
  replace Ho := hx9
  clear hx9 hg9 hz9
  have t_ := Ht.out.c1
  have o_ := Ho.out.c1
  have r_ := Hr.out.c3
  go_wp2_with fail
  clear hq4 o4_r_ o4_o_ o4_t_ f4_o
  simp [bodyPost, results, Try.results11, go_sem, o_]
  exact HB.out
theorem new1D (w : World) (t0 : TypeId) (c0 : List Value) : ∃ W, (w.alloc (Obj.cells c0.toArray t0)).drew = W ∧ Below w.heap.size w W ∧ Hid (W.heap.size = w.heap.size + 1) ∧ Hid (Bx W w.heap.size t0 c0) := by
  obtain ⟨W, hq, hb, hz, hx⟩ := new1 w t0 c0
  subst hq
  exact ⟨_, rfl, hb.drew, hz, hx⟩
set_option maxRecDepth 100000 in
set_option maxHeartbeats 2000000 in
theorem rAsk_any (s label : ByteArray) (hs : s.size < 140737488355328) (hl : label.size < 140737488355328) (w : World) :
    Calls Try.prog 14 #[.agg #[.string s], .string label] w fun e w' => e = .returned (.tuple #[.string (tagS askB [s, label]), .agg #[.string (tagS askedB [s, label])]]) ∧ Below w.heap.size w w' := by
  have HJ := Lib.hid (join_small askB [s, label] 0 (by simp) (by simp [hs, hl]) (by decide))
  have HJ2 := Lib.hid (join_small askedB [s, label] 0 (by simp) (by simp [hs, hl]) (by decide))
  have H1 := Lib.hid (fun a c w hX => rTag_any askB [s, label] 2 rfl HJ.out a c w hX)
  have H2 := Lib.hid (fun a c w hX => rTag_any askedB [s, label] 2 rfl HJ2.out a c w hX)
  obtain ⟨A, hA⟩ : ∃ A, tagS askB [s, label] = A := ⟨_, rfl⟩
  obtain ⟨D, hD⟩ : ∃ D, tagS askedB [s, label] = D := ⟨_, rfl⟩
  rw [hA] at H1 ⊢
  rw [hD] at H2 ⊢
  clear hs hl hA hD HJ HJ2
  go_enter Try.func14, Try.ntmps14
  go_wp2_with fail
  obtain ⟨w1, hq1, hb9, hz9, Ht, Ho⟩ := new2 w 26 [.string s] 26 [.string ⟨#[]⟩]
  rw [hq1]
  clear hq1
  have HB := Lib.hid hb9
  have HZS := hz9
  clear hb9 hz9
  have t_ := Ht.out.c1
  have o_ := Ho.out.c1
  have HT := Lib.hid (show Below w1.heap.size w1 w1.drew from (Below.refl _ _).drew)
  have hl_t := Ht.out.lt
  refine wp_region_tree (fun wq9 => ∃ E : But w1 (some (w.heap.size + 1)), wq9 = E.w) ((.qs [0, 1, 2, 5, 6, 7] (.two 3 (.two 4 (.a 8 (.a 9 (.qs [10, 11] (.a 12 .done)))) 8 (.a 4 (.a 9 (.qs [10, 11] (.a 12 .done))))) 8 (.a 3 (.a 4 (.a 9 (.qs [10, 11] (.a 12 .done)))))))) (by kernel_rfl) (by kernel_rfl) (fun _ _ d _ _ h => by cases d <;> exact h) ⟨⟨_, ((below_grown HT.out).but _)⟩, rfl⟩ ?_
  have hov_t := fun (E : But w1 (some (w.heap.size + 1))) o => E.cell (b := w.heap.size) o hl_t (by intro e9; have a0 := Option.some.inj e9; have g0 := HZS.out; omega)
  simp only [Tree.qs]
  repeat (refine tree_q rfl rfl ?_; go_big_quiet_step (fail); refine wpQuiet_nil ?_)
  refine tree_two rfl rfl (fun K hK => ?_) (fun K hK => ?_)
  · go_simp
    obtain ⟨w2, hq9, hb9, hz9, Hr⟩ := new1D w1 9 [.string s, .string label]
    rw [hq9]
    clear hq9
    replace HT := Lib.hid hb9
    replace HZS := sz HZS (show w1.heap.size ≤ w2.heap.size from HT.out.size)
    clear hb9 hz9
    refine hK _ _ ⟨⟨⟨w2, ((below_grown HT.out).but _)⟩, rfl⟩, ?_⟩
    clear hK K
    repeat (refine tree_q rfl rfl ?_; go_big_quiet_step (fail); refine wpQuiet_nil ?_)
    refine tree_two rfl rfl (fun K hK => ?_) (fun K hK => ?_)
    · go_simp
      refine (H1.out _ _ _ (Sl.ofB Hr.out)).mono ?_
      rintro e w3 ⟨rfl, hb9⟩
      replace Hr := Lib.hid (Hr.out.up hb9)
      replace HT := Lib.hid (below_up HT.out hb9)
      replace HZS := sz HZS (show w1.heap.size ≤ w3.heap.size from HT.out.size)
      clear hb9
      refine hK _ _ ⟨⟨⟨w3, ((below_grown HT.out).but _)⟩, rfl⟩, ?_⟩
      clear hK K
      repeat (refine tree_q rfl rfl ?_; go_big_quiet_step (fail); refine wpQuiet_nil ?_)
      refine tree_a rfl (fun K hK => ?_)
      go_simp
      obtain ⟨w4, hq9, hb9, hz9, Hq⟩ := new1 w3 9 [.string s, .string label]
      rw [hq9]
      clear hq9
      replace Hr := Lib.hid (Hr.out.up hb9)
      replace HT := Lib.hid (below_up HT.out hb9)
      replace HZS := sz HZS (show w1.heap.size ≤ w4.heap.size from HT.out.size)
      clear hb9 hz9
      refine hK _ _ ⟨⟨⟨w4, ((below_grown HT.out).but _)⟩, rfl⟩, ?_⟩
      clear hK K
      repeat (refine tree_q rfl rfl ?_; go_big_quiet_step (fail); refine wpQuiet_nil ?_)
      refine tree_a rfl (fun K hK => ?_)
      go_simp
      refine (H2.out _ _ _ (Sl.ofB Hq.out)).mono ?_
      rintro e w5 ⟨rfl, hb9⟩
      replace Hr := Lib.hid (Hr.out.up hb9)
      replace Hq := Lib.hid (Hq.out.up hb9)
      replace HT := Lib.hid (below_up HT.out hb9)
      replace HZS := sz HZS (show w1.heap.size ≤ w5.heap.size from HT.out.size)
      clear hb9
      refine hK _ _ ⟨⟨⟨w5, ((below_grown HT.out).but _)⟩, rfl⟩, ?_⟩
      clear hK K
      repeat (refine tree_q rfl rfl ?_; go_big_quiet_step (fail); refine wpQuiet_nil ?_)
      clear hov_t hl_t
      refine tree_a rfl (fun K hK => ?_)
      clear t_
      replace Ht := Lib.hid (Ht.out.up HT.out)
      clear o_
      replace Ho := Lib.hid (Ho.out.up HT.out)
      replace HB := hbu HB HT.out
      replace HZS := sz HZS HT.out.size
      have t_ := Ht.out.c1
      have o_ := Ho.out.c1
      clear Hr Hq
      have f6_o := Ho.out.frozen
      have o6_t_ := t_; clear t_
      have o6_o_ := o_; clear o_
      obtain ⟨w6, hq6, hg9, hz9, hx9⟩ := put1 Ho 0 (.string D) [.string D] rfl
      replace Ht := Lib.hid (Ht.out.grown hg9.out (sne (by have g0 := HZS.out; omega)))
      replace HB := hbg HB hg9 (by have g0 := HZS.out; omega)
      replace HZS := sz HZS hz9.out
      replace Ho := hx9
      have HGR := Lib.hid (((below_grown HT.out).but _).trans hg9.out)
      clear hx9 hg9 hz9
      have t_ := Ht.out.c1
      have o_ := Ho.out.c1
      clear HT
      go_simp
      try rw [hq6]
      refine hK _ _ ⟨⟨⟨w6, HGR.out⟩, rfl⟩, ?_⟩
      clear hK K HGR
      clear hq6 o6_o_ o6_t_ f6_o
      repeat (refine tree_q rfl rfl ?_; go_big_quiet_step (fail); refine wpQuiet_nil ?_)
      refine tree_end ?_
      go_wp2_with fail
      simp [bodyPost, results, Try.results14, go_sem, o_]
      exact HB.out
    · go_simp
      obtain ⟨w3, hq9, hb9, hz9, Hq⟩ := new1 w2 9 [.string s, .string label]
      rw [hq9]
      clear hq9
      replace Hr := Lib.hid (Hr.out.up hb9)
      replace HT := Lib.hid (below_up HT.out hb9)
      replace HZS := sz HZS (show w1.heap.size ≤ w3.heap.size from HT.out.size)
      clear hb9 hz9
      refine hK _ _ ⟨⟨⟨w3, ((below_grown HT.out).but _)⟩, rfl⟩, ?_⟩
      clear hK K
      repeat (refine tree_q rfl rfl ?_; go_big_quiet_step (fail); refine wpQuiet_nil ?_)
      refine tree_a rfl (fun K hK => ?_)
      go_simp
      refine (H1.out _ _ _ (Sl.ofB Hr.out)).mono ?_
      rintro e w4 ⟨rfl, hb9⟩
      replace Hr := Lib.hid (Hr.out.up hb9)
      replace Hq := Lib.hid (Hq.out.up hb9)
      replace HT := Lib.hid (below_up HT.out hb9)
      replace HZS := sz HZS (show w1.heap.size ≤ w4.heap.size from HT.out.size)
      clear hb9
      refine hK _ _ ⟨⟨⟨w4, ((below_grown HT.out).but _)⟩, rfl⟩, ?_⟩
      clear hK K
      repeat (refine tree_q rfl rfl ?_; go_big_quiet_step (fail); refine wpQuiet_nil ?_)
      refine tree_a rfl (fun K hK => ?_)
      go_simp
      refine (H2.out _ _ _ (Sl.ofB Hq.out)).mono ?_
      rintro e w5 ⟨rfl, hb9⟩
      replace Hr := Lib.hid (Hr.out.up hb9)
      replace Hq := Lib.hid (Hq.out.up hb9)
      replace HT := Lib.hid (below_up HT.out hb9)
      replace HZS := sz HZS (show w1.heap.size ≤ w5.heap.size from HT.out.size)
      clear hb9
      refine hK _ _ ⟨⟨⟨w5, ((below_grown HT.out).but _)⟩, rfl⟩, ?_⟩
      clear hK K
      repeat (refine tree_q rfl rfl ?_; go_big_quiet_step (fail); refine wpQuiet_nil ?_)
      clear hov_t hl_t
      refine tree_a rfl (fun K hK => ?_)
      clear t_
      replace Ht := Lib.hid (Ht.out.up HT.out)
      clear o_
      replace Ho := Lib.hid (Ho.out.up HT.out)
      replace HB := hbu HB HT.out
      replace HZS := sz HZS HT.out.size
      have t_ := Ht.out.c1
      have o_ := Ho.out.c1
      clear Hr Hq
      have f6_o := Ho.out.frozen
      have o6_t_ := t_; clear t_
      have o6_o_ := o_; clear o_
      obtain ⟨w6, hq6, hg9, hz9, hx9⟩ := put1 Ho 0 (.string D) [.string D] rfl
      replace Ht := Lib.hid (Ht.out.grown hg9.out (sne (by have g0 := HZS.out; omega)))
      replace HB := hbg HB hg9 (by have g0 := HZS.out; omega)
      replace HZS := sz HZS hz9.out
      replace Ho := hx9
      have HGR := Lib.hid (((below_grown HT.out).but _).trans hg9.out)
      clear hx9 hg9 hz9
      have t_ := Ht.out.c1
      have o_ := Ho.out.c1
      clear HT
      go_simp
      try rw [hq6]
      refine hK _ _ ⟨⟨⟨w6, HGR.out⟩, rfl⟩, ?_⟩
      clear hK K HGR
      clear hq6 o6_o_ o6_t_ f6_o
      repeat (refine tree_q rfl rfl ?_; go_big_quiet_step (fail); refine wpQuiet_nil ?_)
      refine tree_end ?_
      go_wp2_with fail
      simp [bodyPost, results, Try.results14, go_sem, o_]
      exact HB.out
  · go_simp
    obtain ⟨w2, hq9, hb9, hz9, Hq⟩ := new1D w1 9 [.string s, .string label]
    rw [hq9]
    clear hq9
    replace HT := Lib.hid hb9
    replace HZS := sz HZS (show w1.heap.size ≤ w2.heap.size from HT.out.size)
    clear hb9 hz9
    refine hK _ _ ⟨⟨⟨w2, ((below_grown HT.out).but _)⟩, rfl⟩, ?_⟩
    clear hK K
    repeat (refine tree_q rfl rfl ?_; go_big_quiet_step (fail); refine wpQuiet_nil ?_)
    refine tree_a rfl (fun K hK => ?_)
    go_simp
    obtain ⟨w3, hq9, hb9, hz9, Hr⟩ := new1 w2 9 [.string s, .string label]
    rw [hq9]
    clear hq9
    replace Hq := Lib.hid (Hq.out.up hb9)
    replace HT := Lib.hid (below_up HT.out hb9)
    replace HZS := sz HZS (show w1.heap.size ≤ w3.heap.size from HT.out.size)
    clear hb9 hz9
    refine hK _ _ ⟨⟨⟨w3, ((below_grown HT.out).but _)⟩, rfl⟩, ?_⟩
    clear hK K
    repeat (refine tree_q rfl rfl ?_; go_big_quiet_step (fail); refine wpQuiet_nil ?_)
    refine tree_a rfl (fun K hK => ?_)
    go_simp
    refine (H1.out _ _ _ (Sl.ofB Hr.out)).mono ?_
    rintro e w4 ⟨rfl, hb9⟩
    replace Hq := Lib.hid (Hq.out.up hb9)
    replace Hr := Lib.hid (Hr.out.up hb9)
    replace HT := Lib.hid (below_up HT.out hb9)
    replace HZS := sz HZS (show w1.heap.size ≤ w4.heap.size from HT.out.size)
    clear hb9
    refine hK _ _ ⟨⟨⟨w4, ((below_grown HT.out).but _)⟩, rfl⟩, ?_⟩
    clear hK K
    repeat (refine tree_q rfl rfl ?_; go_big_quiet_step (fail); refine wpQuiet_nil ?_)
    refine tree_a rfl (fun K hK => ?_)
    go_simp
    refine (H2.out _ _ _ (Sl.ofB Hq.out)).mono ?_
    rintro e w5 ⟨rfl, hb9⟩
    replace Hq := Lib.hid (Hq.out.up hb9)
    replace Hr := Lib.hid (Hr.out.up hb9)
    replace HT := Lib.hid (below_up HT.out hb9)
    replace HZS := sz HZS (show w1.heap.size ≤ w5.heap.size from HT.out.size)
    clear hb9
    refine hK _ _ ⟨⟨⟨w5, ((below_grown HT.out).but _)⟩, rfl⟩, ?_⟩
    clear hK K
    repeat (refine tree_q rfl rfl ?_; go_big_quiet_step (fail); refine wpQuiet_nil ?_)
    clear hov_t hl_t
    refine tree_a rfl (fun K hK => ?_)
    clear t_
    replace Ht := Lib.hid (Ht.out.up HT.out)
    clear o_
    replace Ho := Lib.hid (Ho.out.up HT.out)
    replace HB := hbu HB HT.out
    replace HZS := sz HZS HT.out.size
    have t_ := Ht.out.c1
    have o_ := Ho.out.c1
    clear Hq Hr
    have f6_o := Ho.out.frozen
    have o6_t_ := t_; clear t_
    have o6_o_ := o_; clear o_
    obtain ⟨w6, hq6, hg9, hz9, hx9⟩ := put1 Ho 0 (.string D) [.string D] rfl
    replace Ht := Lib.hid (Ht.out.grown hg9.out (sne (by have g0 := HZS.out; omega)))
    replace HB := hbg HB hg9 (by have g0 := HZS.out; omega)
    replace HZS := sz HZS hz9.out
    replace Ho := hx9
    have HGR := Lib.hid (((below_grown HT.out).but _).trans hg9.out)
    clear hx9 hg9 hz9
    have t_ := Ht.out.c1
    have o_ := Ho.out.c1
    clear HT
    go_simp
    try rw [hq6]
    refine hK _ _ ⟨⟨⟨w6, HGR.out⟩, rfl⟩, ?_⟩
    clear hK K HGR
    clear hq6 o6_o_ o6_t_ f6_o
    repeat (refine tree_q rfl rfl ?_; go_big_quiet_step (fail); refine wpQuiet_nil ?_)
    refine tree_end ?_
    go_wp2_with fail
    simp [bodyPost, results, Try.results14, go_sem, o_]
    exact HB.out
end Go.Proofs.Ytdlnnkbigeiilaa

/- The challenge that a talk is asked for: cyc's, the group's face, the document's. Condition: the bytes that memory can hold. -/
namespace Go.Proofs.Ytdlnnkbigeiilaa
open Go.RowKit Go.Lib

/-- What the talk is behind a challenge, and the challenge's number ahead of its remainder. -/
def chT (s label : ByteArray) : ByteArray := tagS askedB [tagS askedB [s, label], label]
def chN (s label : ByteArray) : Nat := numOf (tagS askB [s, label] ++ tagS askB [tagS askedB [s, label], label])
theorem chT_size (s label : ByteArray) : (chT s label).size = 32 := tagS_size _ _
theorem ask2_size (a b : List ByteArray) : (tagS askB a ++ tagS askB b).size = 64 := by rw [ByteArray.size_append, tagS_size, tagS_size]

theorem numSet {W : World} {b : Nat} {t : TypeId} {s : ByteArray} {a : Option Addr} {n : Nat} (h : NumAt W a n) (hb : Bx W b t [.string s]) (i : Nat) (v : Value) : NumAt (W.setCell ⟨b, i, none⟩ v) a n := by
  by_cases h0 : dl n = 0
  · exact Or.inl (by rw [List.map_eq_nil_iff]; exact List.eq_nil_of_length_eq_zero (by rw [digs_length]; exact h0))
  · refine Sl.kept h ((Kept.refl (fun q => q = b) W).set rfl i v) (fun x hx e => ?_)
    obtain ⟨b', off, rfl, hl, hc⟩ := NumAt.all h (by omega)
    have e1 : b' = b := by rw [← Option.some.inj hx] at e; exact e
    subst e1
    have h1 := hc 0 (by omega)
    rw [World.cell?, show W.heap[b']? = _ from hb] at h1
    rcases off with _ | off
    · simp at h1
    · simp at h1

set_option maxRecDepth 100000 in
set_option maxHeartbeats 2000000 in
theorem gChallenge_any (G : GP) (ok : G.Ok) (gb tb : Nat) (s label : ByteArray) (hs : s.size < 140737488355328) (hl : label.size < 140737488355328) (w : World) (hG : GroupAt w gb G) (hT : TalkAt w tb s) (hne : ¬ gb = tb) :
    Calls Try.prog 40 #[.pointer (some ⟨gb, 0, none⟩), .pointer (some ⟨tb, 0, none⟩), .string label] w fun e w' => e = .returned (scV G (chN s label)) ∧ TalkAt w' tb (chT s label) ∧ Kept (fun q => q = tb) w w' := by
  obtain ⟨s1, hs1⟩ : ∃ x, tagS askedB [s, label] = x := ⟨_, rfl⟩
  have hz1 : s1.size < 140737488355328 := by rw [← hs1, tagS_size]; decide
  have HA1 := Lib.hid (fun w h => Ask_any tb s label hs hl w h)
  have HA2 := Lib.hid (fun w h => Ask_any tb s1 label hz1 hl w h)
  unfold chN chT
  rw [hs1] at HA1 ⊢
  obtain ⟨s2, hs2⟩ : ∃ x, tagS askedB [s1, label] = x := ⟨_, rfl⟩
  rw [hs2] at HA2 ⊢
  obtain ⟨A, hA⟩ : ∃ x, tagS askB [s, label] = x := ⟨_, rfl⟩
  obtain ⟨D, hD⟩ : ∃ x, tagS askB [s1, label] = x := ⟨_, rfl⟩
  have hsz : (A ++ D).size ≤ maxLen := by rw [← hA, ← hD, ask2_size]; decide
  have hcc : ¬ (9223372036854775807 < A.size + D.size) := by rw [← hA, ← hD, tagS_size, tagS_size]; decide
  rw [hA] at HA1 ⊢
  rw [hD] at HA2 ⊢
  have HR := Lib.hid (fun w h => gReduce_any G ok gb (A ++ D) hsz w h)
  unfold scV limbV at HR ⊢
  generalize mont G.q.m (numOf (A ++ D)) = n at HR ⊢
  have HG := Lib.hid hG
  have HT := Lib.hid hT
  have HNE := Lib.hid hne
  have HLT := Lib.hid hT.lt
  clear hG hT hne ok hs hl hz1 hs1 hs2 hA hD hsz
  go_enter Try.func40, Try.ntmps40
  go_wp2_with fail
  obtain ⟨w1, hq1, hb9, hz9, Ho⟩ := new1 w 78 [.int .u64 0, .int .u64 0, .int .u64 0, .int .u64 0]
  rw [hq1]
  clear hq1
  have HB := Lib.hid hb9
  have HZS := hz9
  clear hb9 hz9
  have o_ := Ho.out.c4
  go_wp2_with fail
  refine (HA1.out _ (HT.out.up HB.out)).mono ?_
  rintro e wz ⟨rfl, ht, hk⟩
  have HG1 := Lib.hid ((HG.out.up HB.out).keptP hk HNE.out)
  have Ht := Lib.hid ht
  have HK := Lib.hid (((Kept.refl (fun q => q = tb) w).up HB.out).trans hk)
  have Ho1 := Lib.hid (Ho.out.keptP hk (show ¬ w.heap.size = tb by have := HLT.out; omega))
  clear HB HT HG Ho o_ ht hk HA1
  have Ho := Ho1
  clear Ho1
  go_wp2_with fail
  refine (HA2.out _ Ht.out).mono ?_
  rintro e wy ⟨rfl, ht, hk⟩
  have HG2 := Lib.hid (HG1.out.keptP hk HNE.out)
  have HK2 := Lib.hid (HK.out.trans hk)
  have Ho2 := Lib.hid (Ho.out.keptP hk (show ¬ w.heap.size = tb by have := HLT.out; omega))
  have HT2 := Lib.hid ht
  clear HG1 HK Ho Ht ht hk HA2
  go_wp2_with fail
  refine (HR.out _ HG2.out).mono ?_
  rintro e wx ⟨rfl, hb9⟩
  have Ht := Lib.hid (HT2.out.up hb9)
  have HK := Lib.hid (HK2.out.up hb9)
  have Ho := Lib.hid (Ho2.out.up hb9)
  have HZS : Hid (w.heap.size < wx.heap.size) := HK.out.size |> fun _ => Ho.out.lt
  clear HG2 HK2 Ho2 HT2 hb9 HR HNE
  have o_ := Ho.out.c4
  replace HZS := sz HZS HLT.out
  have f2_o := Ho.out.frozen
  have o2_o_ := o_; clear o_
  obtain ⟨w2, hq2, hg9, hz9, hx9⟩ := put4 Ho 0 (.int .u64 (dig n 0 : Int)) 1 (.int .u64 (dig n 1 : Int)) 2 (.int .u64 (dig n 2 : Int)) 3 (.int .u64 (dig n 3 : Int)) [.int .u64 (dig n 0 : Int), .int .u64 (dig n 1 : Int), .int .u64 (dig n 2 : Int), .int .u64 (dig n 3 : Int)] rfl
  replace Ht := Lib.hid (Ht.out.grown hg9.out (sne (by have g0 := HZS.out; omega)))
  replace HK := Lib.hid (Kept.grown HK.out hg9.out (fun q9 e9 => by obtain rfl := Option.some.inj e9; exact Or.inl (show w.heap.size ≤ w.heap.size by have g0 := HZS.out; omega)))
  replace HZS := sz HZS hz9.out
  replace Ho := hx9
  clear hx9 hg9 hz9
  have o_ := Ho.out.c4
  go_wp2_with fail
  clear hq2 o2_o_ f2_o
  simp [bodyPost, results, Try.results40, go_sem, o_]
  exact ⟨Ht.out, HK.out⟩

set_option maxRecDepth 100000 in
set_option maxHeartbeats 1000000 in
theorem challenge1_any (G : GP) (ok : G.Ok) (gb tb b1 b2 : Nat) (s label : ByteArray) (hs : s.size < 140737488355328) (hl : label.size < 140737488355328) (w : World) (hG : GroupAt w gb G) (hT : TalkAt w tb s) (hne : ¬ gb = tb)
    (hc1 : w.cell? ⟨b1, 0, none⟩ = some (.pointer (some ⟨tb, 0, none⟩))) (hc2 : w.cell? ⟨b2, 0, none⟩ = some (.string label)) :
    Calls Try.prog 38 #[.pointer (some ⟨gb, 0, none⟩), .pointer (some ⟨b1, 0, none⟩), .pointer (some ⟨b2, 0, none⟩)] w fun e w' => e = .returned (.string (textS (chN s label % G.q.m) G.size)) ∧ TalkAt w' tb (chT s label) ∧ Kept (fun q => q = tb) w w' := by
  have HCH := Lib.hid (gChallenge_any G ok gb tb s label hs hl w hG hT hne)
  have HPU := Lib.hid (fun w h => gPut_any G ok gb (chN s label) w h)
  have HG := Lib.hid hG
  have HNE := Lib.hid hne
  clear hG hT hne ok hs hl
  go_enter Try.func38, Try.ntmps38
  go_wp2_with fail
  refine HCH.out.mono ?_
  rintro e w2 ⟨rfl, ht, hk⟩
  have HT := Lib.hid ht
  have HK := Lib.hid hk
  clear ht hk hc1 hc2
  go_wp2_with fail
  refine (HPU.out w2 (HG.out.keptP HK.out HNE.out)).mono ?_
  rintro e w3 ⟨rfl, hb⟩
  have HB := Lib.hid hb
  clear hb
  go_wp2_with fail
  go_ret
  exact ⟨rfl, HT.out.up HB.out, HK.out.up HB.out⟩

set_option maxRecDepth 100000 in
set_option maxHeartbeats 1000000 in
theorem withS_then (k : Nat) (h1 : 1 ≤ k) (h3 : k ≤ 3) (f : FuncId) (caps : Array Value) (v : Value) (er : Int) (T : World → Prop) (hent : Enters Try.prog f) (w : World)
    (hcall : ∀ w1, Below w.heap.size w w1 → GroupAt w1 w.heap.size (grp k) → Calls Try.prog f (#[.pointer (some ⟨w.heap.size, 0, none⟩)] ++ caps) w1 fun e w' => e = .returned (.tuple #[v, .int .i64 er]) ∧ T w') :
    Calls Try.prog 84 #[.int .i64 (k : Int), .func (.func f) #[] caps] w fun e w' => e = .returned (.tuple #[v, .int .i64 er]) ∧ T w' := by
  have HC := Lib.hid hcall
  clear hcall
  have hcf : ∀ (args : Array Value) (w : World), (callFunc f args).run Try.prog w = .ok (.enter f args) w := hent
  clear hent
  go_enter Try.func84, Try.ntmps84
  go_wp2_with fail
  refine (of_some k h1 h3 w).mono ?_
  rintro e w1 ⟨rfl, hg, hb⟩
  have HG := Lib.hid hg
  have HB := Lib.hid hb
  clear hg hb
  go_wp2_with fail
  refine (HC.out w1 HB.out HG.out).mono ?_
  rintro e w2 ⟨rfl, hb2⟩
  have HB2 := Lib.hid hb2
  clear hb2
  go_wp2_with fail
  go_ret2
  exact ⟨rfl, HB2.out⟩

theorem fixed1_then (gb b : Nat) (f : FuncId) (caps : Array Value) (s : ByteArray) (T : World → Prop) (hent : Enters Try.prog f) (w : World) (hc : w.cell? ⟨b, 0, none⟩ = some (.func (.func f) #[] caps))
    (hcall : Calls Try.prog f (#[.pointer (some ⟨gb, 0, none⟩)] ++ caps) w fun e w' => e = .returned (.string s) ∧ T w') :
    Calls Try.prog 85 #[.pointer (some ⟨gb, 0, none⟩), .pointer (some ⟨b, 0, none⟩)] w fun e w' => e = .returned (.tuple #[.string s, .int .i64 0]) ∧ T w' := by
  have HC := Lib.hid hcall
  clear hcall
  have hcf : ∀ (args : Array Value) (w : World), (callFunc f args).run Try.prog w = .ok (.enter f args) w := hent
  clear hent
  go_enter Try.func85, Try.ntmps85
  go_wp2_with fail
  refine HC.out.mono ?_
  rintro e w2 ⟨rfl, hb2⟩
  have HB2 := Lib.hid hb2
  clear hb2 hc
  go_wp2_with fail
  go_ret2
  exact ⟨rfl, HB2.out⟩

set_option maxRecDepth 100000 in
set_option maxHeartbeats 1000000 in
theorem fixed_then (k : Nat) (h1 : 1 ≤ k) (h3 : k ≤ 3) (f : FuncId) (caps : Array Value) (s : ByteArray) (T : World → Prop) (hent : Enters Try.prog f) (w : World)
    (hcall : ∀ w1 gb, Below w.heap.size w w1 → w.heap.size ≤ gb → GroupAt w1 gb (grp k) → Calls Try.prog f (#[.pointer (some ⟨gb, 0, none⟩)] ++ caps) w1 fun e w' => e = .returned (.string s) ∧ T w') :
    Calls Try.prog 37 #[.int .i64 (k : Int), .func (.func f) #[] caps] w fun e w' => e = .returned (.tuple #[.string s, .int .i64 0]) ∧ T w' := by
  have HC := Lib.hid hcall
  have HE := Lib.hid hent
  clear hcall hent
  go_enter Try.func37, Try.ntmps37
  go_wp2_with fail
  obtain ⟨W0, hW0, hb0, hs0, hz0⟩ := new1 w 80 [.func (.func f) #[] caps]
  rw [hW0]
  clear hW0
  have HB0 := Lib.hid hb0
  clear hb0
  refine (withS_then k h1 h3 85 #[.pointer (some ⟨w.heap.size, 0, none⟩)] (.string s) 0 T (enters_of Try.func85 (by kernel_rfl) rfl) W0 (fun w1 hb hg => ?_)).mono ?_
  · exact fixed1_then _ _ f caps s T HE.out w1 ((hz0.out.up hb).cell (i := 0) rfl) (HC.out w1 _ (below_up HB0.out hb) (by have := hs0.out; omega) hg)
  · rintro e w2 ⟨rfl, hb2⟩
    have HB2 := Lib.hid hb2
    clear hb2
    go_wp2_with fail
    go_ret2
    exact ⟨rfl, HB2.out⟩

set_option maxRecDepth 100000 in
set_option maxHeartbeats 1000000 in
theorem Challenge_some (k : Nat) (h1 : 1 ≤ k) (h3 : k ≤ 3) (tb : Nat) (s label : ByteArray) (hs : s.size < 140737488355328) (hl : label.size < 140737488355328) (w : World) (hT : TalkAt w tb s) :
    Calls Try.prog 13 #[.int .i64 (k : Int), .pointer (some ⟨tb, 0, none⟩), .string label] w fun e w' => e = .returned (.tuple #[.string (textS (chN s label % (grp k).q.m) (grp k).size), .int .i64 0]) ∧ TalkAt w' tb (chT s label) ∧ Kept (fun q => q = tb) w w' := by
  have OK := Lib.hid (grp_ok k h1 h3)
  have HT := Lib.hid hT
  have HLT := Lib.hid hT.lt
  have HC := Lib.hid (fun gb b1 b2 w hG hT hne => challenge1_any (grp k) OK.out gb tb b1 b2 s label hs hl w hG hT hne)
  clear hT hs hl
  go_enter Try.func13, Try.ntmps13
  go_wp2_with fail
  obtain ⟨w1, hq1, hb9, hz9, Hbt, Hbl⟩ := new2 w 23 [.pointer (some ⟨tb, 0, none⟩)] 9 [.string label]
  rw [hq1]
  clear hq1
  have HB := Lib.hid hb9
  have HZS := hz9
  clear hb9 hz9
  have bt_ := Hbt.out.c1
  have bl_ := Hbl.out.c1
  go_wp2_with fail
  refine (fixed_then k h1 h3 38 #[.pointer (some ⟨w.heap.size, 0, none⟩), .pointer (some ⟨w.heap.size + 1, 0, none⟩)] (textS (chN s label % (grp k).q.m) (grp k).size) (fun w' => TalkAt w' tb (chT s label) ∧ Kept (fun q => q = tb) w w') (enters_of Try.func38 (by kernel_rfl) rfl) w1 (fun w1 gb hb hge hg => ?_)).mono ?_
  · refine (HC.out gb _ _ w1 hg ((HT.out.up HB.out).up hb) (by have := HLT.out; have := HB.out.size; omega) ((Hbt.out.up hb).cell (i := 0) rfl) ((Hbl.out.up hb).cell (i := 0) rfl)).mono ?_
    rintro e w' ⟨rfl, ht, hk⟩
    exact ⟨rfl, ht, (((Kept.refl (fun q => q = tb) w).up HB.out).up hb).trans hk⟩
  · rintro e w9 ⟨rfl, hb2⟩
    have HB2 := Lib.hid hb2
    clear hb2
    go_wp2_with fail
    go_ret2
    exact ⟨rfl, HB2.out⟩

set_option maxRecDepth 100000 in
set_option maxHeartbeats 1000000 in
theorem Challenge_none (k : Int) (hk : ¬ (1 ≤ k ∧ k ≤ 3)) (tb : Nat) (label : ByteArray) (w : World) :
    Calls Try.prog 13 #[.int .i64 k, .pointer (some ⟨tb, 0, none⟩), .string label] w (Ans (.string ⟨#[]⟩) 1 w) := by
  go_enter Try.func13, Try.ntmps13
  go_wp2_with fail
  refine (fixed_none k hk _ _ _).mono ?_
  rintro e w1 ⟨rfl, hb⟩
  have HB := Lib.hid ((((Below.refl w.heap.size w).alloc (Nat.le_refl _) _).alloc (by simp) _).trans (hb.mono (by simp; omega)))
  clear hb
  go_wp2_with fail
  go_ret2
  exact ⟨rfl, HB.out⟩

set_option maxRecDepth 100000 in
set_option maxHeartbeats 2000000 in
theorem rChallenge_any (gz q : Nat) (pv : Value) (hq : 0 < q) (aq : Option Addr) (cq : Nat) (s label : ByteArray) (hs : s.size < 140737488355328) (hl : label.size < 140737488355328) (w : World) (hQ : NumAt w aq q) :
    Calls Try.prog 17 #[.agg #[.int .i64 (gz : Int), .slice aq (dl q) cq, pv], .agg #[.string s], .string label] w fun e w' => ∃ a c, e = .returned (.tuple #[.slice a (dl (chN s label % q)) c, .agg #[.string (chT s label)]]) ∧ NumAt w' a (chN s label % q) ∧ Below w.heap.size w w' := by
  obtain ⟨s1, hs1⟩ : ∃ x, tagS askedB [s, label] = x := ⟨_, rfl⟩
  have hz1 : s1.size < 140737488355328 := by rw [← hs1, tagS_size]; decide
  have HA1 := Lib.hid (fun w => rAsk_any s label hs hl w)
  have HA2 := Lib.hid (fun w => rAsk_any s1 label hz1 hl w)
  unfold chN chT
  rw [hs1] at HA1 ⊢
  obtain ⟨s2, hs2⟩ : ∃ x, tagS askedB [s1, label] = x := ⟨_, rfl⟩
  rw [hs2] at HA2 ⊢
  obtain ⟨A, hA⟩ : ∃ x, tagS askB [s, label] = x := ⟨_, rfl⟩
  obtain ⟨D, hD⟩ : ∃ x, tagS askB [s1, label] = x := ⟨_, rfl⟩
  have hsz : (A ++ D).size ≤ 1048576 := by rw [← hA, ← hD, ask2_size]; decide
  have hcc : ¬ (9223372036854775807 < A.size + D.size) := by rw [← hA, ← hD, tagS_size, tagS_size]; decide
  have hdl : dl (numOf (A ++ D)) ≤ 1048576 := by
    refine Nat.le_trans (dl_of_lt _ 32 ?_) (by decide)
    have h := numL_lt (A ++ D).data.toList
    have e : (A ++ D).data.toList.length = 64 := by show (A ++ D).size = 64; rw [← hA, ← hD, ask2_size]
    rw [e] at h
    exact h
  rw [hA] at HA1 ⊢
  rw [hD] at HA2 ⊢
  have HRD := Lib.hid (fun w => refRead_any (A ++ D) hsz w)
  obtain ⟨n, hn⟩ : ∃ x, numOf (A ++ D) = x := ⟨_, rfl⟩
  rw [hn] at HRD hdl ⊢
  have HMD := Lib.hid (fun aa am ca cm w h1 h2 => refMod_any n q aa am ca cm hdl hq w h1 h2)
  have HQ := Lib.hid hQ
  clear hQ hq hs hl hz1 hs1 hs2 hA hD hsz hdl hn
  go_enter Try.func17, Try.ntmps17
  go_wp2_with fail
  obtain ⟨w1, hq1, hb9, hz9, Hbg, Hbt, Ho⟩ := new3 w 33 [.int .i64 (gz : Int), .slice aq (dl q) cq, pv] 26 [.string s] 26 [.string ⟨#[]⟩]
  rw [hq1]
  clear hq1
  have HB := Lib.hid hb9
  have HZS := hz9
  clear hb9 hz9
  have bg_ := Hbg.out.c3
  have bt_ := Hbt.out.c1
  have o_ := Ho.out.c1
  go_wp2_with fail
  refine (HA1.out w1).mono ?_
  rintro e w2 ⟨rfl, hb9⟩
  clear bg_
  replace Hbg := Lib.hid (Hbg.out.up hb9)
  clear bt_
  replace Hbt := Lib.hid (Hbt.out.up hb9)
  clear o_
  replace Ho := Lib.hid (Ho.out.up hb9)
  replace HB := hbu HB hb9
  replace HZS := sz HZS hb9.size
  clear hb9
  have bg_ := Hbg.out.c3
  have bt_ := Hbt.out.c1
  have o_ := Ho.out.c1
  have f3_bt := Hbt.out.frozen
  have o3_bg_ := bg_; clear bg_
  have o3_bt_ := bt_; clear bt_
  have o3_o_ := o_; clear o_
  obtain ⟨w3, hq3, hg9, hz9, hx9⟩ := put1 Hbt 0 (.string s1) [.string s1] rfl
  replace Hbg := Lib.hid (Hbg.out.grown hg9.out (sne (by have g0 := HZS.out; omega)))
  replace Ho := Lib.hid (Ho.out.grown hg9.out (sne (by have g0 := HZS.out; omega)))
  replace HB := hbg HB hg9 (by have g0 := HZS.out; omega)
  replace HZS := sz HZS hz9.out
  replace Hbt := hx9
  clear hx9 hg9 hz9
  have bg_ := Hbg.out.c3
  have bt_ := Hbt.out.c1
  have o_ := Ho.out.c1
  go_wp2_with fail
  clear hq3 o3_o_ o3_bt_ o3_bg_ f3_bt
  refine (HA2.out w3).mono ?_
  rintro e w4 ⟨rfl, hb9⟩
  clear bg_
  replace Hbg := Lib.hid (Hbg.out.up hb9)
  clear bt_
  replace Hbt := Lib.hid (Hbt.out.up hb9)
  clear o_
  replace Ho := Lib.hid (Ho.out.up hb9)
  replace HB := hbu HB hb9
  replace HZS := sz HZS hb9.size
  clear hb9
  have bg_ := Hbg.out.c3
  have bt_ := Hbt.out.c1
  have o_ := Ho.out.c1
  have f5_bt := Hbt.out.frozen
  have o5_bg_ := bg_; clear bg_
  have o5_bt_ := bt_; clear bt_
  have o5_o_ := o_; clear o_
  obtain ⟨w5, hq5, hg9, hz9, hx9⟩ := put1 Hbt 0 (.string s2) [.string s2] rfl
  replace Hbg := Lib.hid (Hbg.out.grown hg9.out (sne (by have g0 := HZS.out; omega)))
  replace Ho := Lib.hid (Ho.out.grown hg9.out (sne (by have g0 := HZS.out; omega)))
  replace HB := hbg HB hg9 (by have g0 := HZS.out; omega)
  replace HZS := sz HZS hz9.out
  replace Hbt := hx9
  clear hx9 hg9 hz9
  have bg_ := Hbg.out.c3
  have bt_ := Hbt.out.c1
  have o_ := Ho.out.c1
  go_wp2_with fail
  clear hq5 o5_o_ o5_bt_ o5_bg_ f5_bt
  have HT := Lib.hid (show Below w5.heap.size w5 w5.drew from (Below.refl _ _).drew)
  have hl_bg := Hbg.out.lt
  have hl_bt := Hbt.out.lt
  refine wp_region_tree (fun wq9 => ∃ E : But w5 (some (w.heap.size + 2)), wq9 = E.w) ((.qs [0, 1, 2, 4, 5, 7] (.a 3 (.a 6 (.qs [8] (.a 9 .done)))))) (by kernel_rfl) (by kernel_rfl) (fun _ _ d _ _ h => by cases d <;> exact h) ⟨⟨_, ((below_grown HT.out).but _)⟩, rfl⟩ ?_
  have hov_bg := fun (E : But w5 (some (w.heap.size + 2))) o => E.cell (b := w.heap.size) o hl_bg (by intro e9; have a0 := Option.some.inj e9; have g0 := HZS.out; omega)
  have hov_bt := fun (E : But w5 (some (w.heap.size + 2))) o => E.cell (b := w.heap.size + 1) o hl_bt (by intro e9; have a0 := Option.some.inj e9; have g0 := HZS.out; omega)
  simp only [Tree.qs]
  repeat (refine tree_q rfl rfl ?_; go_big_quiet_step (fail); refine wpQuiet_nil ?_)
  refine tree_a rfl (fun K hK => ?_)
  go_simp
  refine (HRD.out _).mono ?_
  rintro e w6 ⟨a4, c4, rfl, hn9, hb9⟩
  replace HT := Lib.hid (below_up HT.out hb9)
  replace HZS := sz HZS (show w5.heap.size ≤ w6.heap.size from HT.out.size)
  clear hb9
  have HN4 := Lib.hid hn9
  clear hn9
  refine hK _ _ ⟨⟨⟨w6, ((below_grown HT.out).but _)⟩, rfl⟩, ?_⟩
  clear hK K
  repeat (refine tree_q rfl rfl ?_; go_big_quiet_step (fail); refine wpQuiet_nil ?_)
  refine tree_a rfl (fun K hK => ?_)
  go_simp
  refine (HMD.out _ _ _ _ _ HN4.out (HQ.out.up (below_up HB.out HT.out))).mono ?_
  rintro e w7 ⟨a5, c5, rfl, hn9, hb9⟩
  replace HN4 := Lib.hid (HN4.out.up hb9)
  replace HT := Lib.hid (below_up HT.out hb9)
  replace HZS := sz HZS (show w5.heap.size ≤ w7.heap.size from HT.out.size)
  clear hb9
  have HN5 := Lib.hid hn9
  clear hn9
  refine hK _ _ ⟨⟨⟨w7, ((below_grown HT.out).but _)⟩, rfl⟩, ?_⟩
  clear hK K
  repeat (refine tree_q rfl rfl ?_; go_big_quiet_step (fail); refine wpQuiet_nil ?_)
  clear hov_bg hl_bg hov_bt hl_bt
  refine tree_a rfl (fun K hK => ?_)
  clear bg_
  replace Hbg := Lib.hid (Hbg.out.up HT.out)
  clear bt_
  replace Hbt := Lib.hid (Hbt.out.up HT.out)
  clear o_
  replace Ho := Lib.hid (Ho.out.up HT.out)
  replace HB := hbu HB HT.out
  replace HZS := sz HZS HT.out.size
  have bg_ := Hbg.out.c3
  have bt_ := Hbt.out.c1
  have o_ := Ho.out.c1
  replace HN5 := Lib.hid (numSet HN5.out Ho.out 0 (.string s2))
  clear HN4
  have f8_o := Ho.out.frozen
  have o8_bg_ := bg_; clear bg_
  have o8_bt_ := bt_; clear bt_
  have o8_o_ := o_; clear o_
  obtain ⟨w8, hq8, hg9, hz9, hx9⟩ := put1 Ho 0 (.string s2) [.string s2] rfl
  replace Hbg := Lib.hid (Hbg.out.grown hg9.out (sne (by have g0 := HZS.out; omega)))
  replace Hbt := Lib.hid (Hbt.out.grown hg9.out (sne (by have g0 := HZS.out; omega)))
  replace HB := hbg HB hg9 (by have g0 := HZS.out; omega)
  replace HZS := sz HZS hz9.out
  replace Ho := hx9
  have HGR := Lib.hid (((below_grown HT.out).but _).trans hg9.out)
  clear hx9 hg9 hz9
  have bg_ := Hbg.out.c3
  have bt_ := Hbt.out.c1
  have o_ := Ho.out.c1
  rw [hq8] at HN5
  clear HT
  go_simp
  try rw [hq8]
  refine hK _ _ ⟨⟨⟨w8, HGR.out⟩, rfl⟩, ?_⟩
  clear hK K HGR
  clear hq8 o8_o_ o8_bt_ o8_bg_ f8_o
  repeat (refine tree_q rfl rfl ?_; go_big_quiet_step (fail); refine wpQuiet_nil ?_)
  refine tree_end ?_
  go_wp2_with fail
  simp [bodyPost, results, Try.results17, go_sem, o_]
  exact ⟨HN5.out, HB.out⟩
end Go.Proofs.Ytdlnnkbigeiilaa

/- What every law's row wants: two closed facts, and small words for opening arguments. -/
namespace Go.Proofs.Ytdlnnkbigeiilaa
open Go.ChangeShapes Go.WideShapes Go.ChangeAt Go.RowKit

theorem law_own : ownKnob Try.prog.godebug = none := by kernel_rfl
theorem law_laidOut : laidOutB Try.prog = true := by kernel_rfl

section
variable {H : Type} {enc : TypeId × Value → H} {P : Program} {w : World}

theorem add_plain (b off i : Nat) : (⟨b, off, none⟩ : Addr).add i = ⟨b, off + i, none⟩ := by unfold Addr.add; split <;> simp_all

/-- An argument that is a slice of integers: its numbers, and that it reads. -/
theorem open_Sl_ints {k : IntKind} {t e : TypeId} {a : Option Addr} {len cap : Nat} {d : DataW H} {p : List MemPlace} (ht : P.underlying t = some (.slice e)) (he : P.underlying e = some (.int k)) (hc : P.cellsOf e = 1)
    (h : DataW.Trod enc P w 0 (fun _ => true) true t (.slice a len cap) d p) (hlt : ∀ x ∈ p, x.block < w.heap.size) :
    ∃ xs : List Int, len = xs.length ∧ Sl w w.heap.size a (xs.map (Value.int k)) ∧ (∀ x ∈ xs, (Lit.int k x).wf = true) ∧ ((len = 0) ∨ ∃ zs : List Int, len ≤ zs.length ∧ d = .slice (lits k (zs.take len)) (lits k (zs.drop len))) := by
  obtain ⟨fuel, hf⟩ := h
  rcases open_ints ht he hc hf with ⟨hcs, _⟩ | ⟨x, l, c, zs, hcs, _, hl, hm, hz, hx, hcell, hwz⟩
  · simp [Value.cells] at hcs
    obtain ⟨rfl, rfl, rfl⟩ := hcs
    exact ⟨[], rfl, Or.inl rfl, by simp, Or.inl rfl⟩
  · simp [Value.cells] at hcs
    obtain ⟨rfl, rfl, rfl⟩ := hcs
    simp only [Prod.mk.injEq] at hx
    obtain ⟨hd, rfl⟩ := hx
    simp only [if_true] at hz
    by_cases h0 : len = 0
    · subst h0
      exact ⟨[], rfl, Or.inl rfl, by simp, Or.inl rfl⟩
    · obtain ⟨b, off, spot⟩ := x
      have hspot : spot = none := by simpa [Addr.add] using World.cell?_spot (hcell 0 (by omega))
      subst hspot
      have hbW : b < w.heap.size := hlt (.cell b off) (MemPlace.mem_row.2 ⟨0, by omega, by simp⟩)
      refine ⟨zs.take len, by rw [List.length_take]; omega, Or.inr ⟨b, off, rfl, hbW, ?_⟩, fun x hx => hwz x (List.mem_of_mem_take hx), Or.inr ⟨zs, by omega, hd⟩⟩
      intro i v hv
      have hi : i < len := by
        have := (List.getElem?_eq_some_iff.1 hv).1
        simp at this; omega
      have := hcell i (by omega)
      rw [add_plain] at this
      rw [this, ← hv]
      simp [List.getD, hi, List.getElem?_eq_getElem (show i < zs.length by omega)]

/-- An argument that is a slice of one-cell elements of any kind: its cells, each with its own reading. -/
theorem open_Sl_any {t e : TypeId} {a : Option Addr} {len cap : Nat} {d : DataW H} {p : List MemPlace} (ht : P.underlying t = some (.slice e)) (hc : P.cellsOf e = 1)
    (h : DataW.Trod enc P w 0 (fun _ => true) true t (.slice a len cap) d p) (hlt : ∀ x ∈ p, x.block < w.heap.size) :
    ∃ cs : List Value, len = cs.length ∧ Sl w w.heap.size a cs ∧
      ((len = 0) ∨ ∃ (n : Nat) (ys rest : List (DataW H × List MemPlace)), d = .slice (ys.map (·.1)) (rest.map (·.1)) ∧ ys.length = len ∧ (∀ y ∈ ys, ∀ q ∈ y.2, q ∈ p) ∧
        ∀ (i : Nat) (c : Value), cs[i]? = some c → ∃ y, ys[i]? = some y ∧ DataW.trod enc P w 0 (fun _ => true) true n e [c] = some y) := by
  obtain ⟨fuel, hf⟩ := h
  rcases DataW.trod_slice ht hf with ⟨hcs, _⟩ | ⟨x, l, c, elems, rest, n, _, hcs, hx, hb, hl, hm, hlen, hel, _, _⟩
  · simp [Value.cells] at hcs
    obtain ⟨rfl, rfl, rfl⟩ := hcs
    exact ⟨[], rfl, Or.inl rfl, Or.inl rfl⟩
  · simp [Value.cells] at hcs
    obtain ⟨rfl, rfl, rfl⟩ := hcs
    simp only [Prod.mk.injEq] at hx
    obtain ⟨hd, rfl⟩ := hx
    by_cases h0 : len = 0
    · subst h0
      exact ⟨[], rfl, Or.inl rfl, Or.inl rfl⟩
    have each : ∀ i, i < len → ∃ c y, w.cell? (x.add i) = some c ∧ elems[i]? = some y ∧ DataW.trod enc P w 0 (fun _ => true) true n e [c] = some y := by
      intro i hi
      have h1 := hel i hi
      rw [hc, Nat.mul_one] at h1
      have h2 : elems[i]? = some (elems[i]'(by omega)) := List.getElem?_eq_getElem (by omega)
      rw [h2, Option.bind_eq_some_iff] at h1
      obtain ⟨cs', hcs', hy⟩ := h1
      obtain ⟨h3, h4, h5⟩ := World.cells?_some hcs'
      obtain ⟨c, rfl⟩ : ∃ c, cs' = [c] := by
        match cs', h3 with
        | [c], _ => exact ⟨c, rfl⟩
      exact ⟨c, _, cell_of_cells?_one hcs', h2, hy⟩
    obtain ⟨b, off, spot⟩ := x
    obtain ⟨c0, y0, hc0, _⟩ := each 0 (by omega)
    have hspot : spot = none := by simpa [Addr.add] using World.cell?_spot hc0
    subst hspot
    have hbW : b < w.heap.size := hlt (.cell b off) (List.mem_append_left _ (MemPlace.mem_row.2 ⟨0, by rw [hc]; omega, by simp⟩))
    have hget : ∀ i c, ((List.range len).map (fun i => (w.cell? ⟨b, off + i, none⟩).getD (.bool false)))[i]? = some c → i < len ∧ w.cell? ⟨b, off + i, none⟩ = some c := by
      intro i c hi
      have hil : i < len := by
        have := (List.getElem?_eq_some_iff.1 hi).1
        simpa using this
      obtain ⟨c', y, h1, _⟩ := each i hil
      rw [add_plain] at h1
      simp [hil, h1] at hi
      exact ⟨hil, by rw [h1, hi]⟩
    refine ⟨(List.range len).map (fun i => (w.cell? ⟨b, off + i, none⟩).getD (.bool false)), by simp, Or.inr ⟨b, off, rfl, hbW, fun i v hv => (hget i v hv).2⟩, Or.inr ⟨n, elems, rest, hd, hlen, ?_, ?_⟩⟩
    · intro y hy q hq
      exact List.mem_append_right _ (List.mem_flatMap.2 ⟨y, List.mem_append_left _ hy, hq⟩)
    · intro i c hi
      obtain ⟨hil, hcell⟩ := hget i c hi
      obtain ⟨c', y, h1, h2, h3⟩ := each i hil
      rw [add_plain, hcell] at h1
      simp only [Option.some.injEq] at h1
      exact ⟨y, h2, by rw [h1]; exact h3⟩

/-- A list of values each of which is of one shape. -/
theorem list_shape {α : Type} (mk : α → Value) : ∀ cs : List Value, (∀ c ∈ cs, ∃ a, c = mk a) → ∃ xs : List α, cs = xs.map mk
  | [], _ => ⟨[], rfl⟩
  | c :: cs, h => by
    obtain ⟨a, rfl⟩ := h c (by simp)
    obtain ⟨xs, rfl⟩ := list_shape mk cs (fun c hc => h c (by simp [hc]))
    exact ⟨a :: xs, rfl⟩

/-- An argument that is a slice of booleans. -/
theorem open_Sl_bools {t e : TypeId} {a : Option Addr} {len cap : Nat} {d : DataW H} {p : List MemPlace} (ht : P.underlying t = some (.slice e)) (he : P.underlying e = some .bool) (hc : P.cellsOf e = 1)
    (h : DataW.Trod enc P w 0 (fun _ => true) true t (.slice a len cap) d p) (hlt : ∀ x ∈ p, x.block < w.heap.size) :
    ∃ bs : List Bool, len = bs.length ∧ Sl w w.heap.size a (bs.map Value.bool) := by
  obtain ⟨cs, hl, hs, hk⟩ := open_Sl_any ht hc h hlt
  obtain ⟨bs, rfl⟩ := list_shape Value.bool cs (by
    intro c hcm
    obtain ⟨i, hi⟩ := List.getElem?_of_mem hcm
    rcases hk with h0 | ⟨n, ys, rest, _, _, _, hy⟩
    · rw [h0] at hl
      have := List.eq_nil_of_length_eq_zero hl.symm
      subst this
      simp at hcm
    · obtain ⟨y, _, ht2⟩ := hy i c hi
      obtain ⟨b, hb, _⟩ := DataW.trod_bool he ht2
      exact ⟨b, by simpa using hb⟩)
  exact ⟨bs, by simpa using hl, hs⟩

/-- A struct of one-cell fields, by value: its cells, each with its own reading. -/
theorem open_fields {r : Reach} {b0 base : Nat} {spare : Nat → Bool} {held : Bool} {t : TypeId} {fs : Array Go.Field} {v : Value} {d : DataW H} {p : List MemPlace} (hs : P.underlying t = some (.struct fs)) (hone : Go.Deep.oneCellFields P fs = true) (hC : P.cellsOf t = fs.size)
    (hv : Value.okWide P w r b0 t v) (h : DataW.Trod enc P w base spare held t v d p) :
    ∃ (cs : Array Value) (ys : List (DataW H × List MemPlace)) (n : Nat), v = .agg cs ∧ cs.size = fs.size ∧ d = .agg (ys.map (·.1)) ∧ p = ys.flatMap (·.2) ∧ ys.length = fs.size ∧
      ∀ (j : Nat) (f : Go.Field), fs[j]? = some f → ∃ c y, cs[j]? = some c ∧ ys[j]? = some y ∧ DataW.trod enc P w base spare held n f.type [c] = some y := by
  obtain ⟨cs, rfl, hsz⟩ := okWide_struct hs hv
  obtain ⟨fuel, hf⟩ := h
  obtain ⟨ys, n, _, hx, hcl, hlen, hg⟩ := DataW.trod_struct hs hf
  simp only [Prod.mk.injEq] at hx
  refine ⟨cs, ys, n, rfl, by omega, hx.1, hx.2, hlen, fun j f hj => ?_⟩
  obtain ⟨ho, hk⟩ := Go.Deep.hone_of hone j f hj
  have hjf : j < fs.size := (Array.getElem?_eq_some_iff.1 hj).1
  have hjc : j < cs.size := by omega
  have h1 := hg j f hj
  have e : ((Value.agg cs).cells.toList.drop f.offset).take (P.cellsOf f.type) = [cs[j]] := by
    rw [ho, hk]
    show (cs.toList.drop j).take 1 = _
    rw [List.drop_eq_getElem_cons (by simpa using hjc)]
    simp
  rw [e] at h1
  have hys : ys[j]? = some (ys[j]'(by omega)) := List.getElem?_eq_getElem (by omega)
  exact ⟨cs[j], _, by simp [hjc], hys, h1.trans hys⟩

/-- A field that is a slice: its value's form. -/
theorem field_slice {base fuel : Nat} {spare : Nat → Bool} {held : Bool} {t e : TypeId} {c : Value} {y : DataW H × List MemPlace} (ht : P.underlying t = some (.slice e)) (h : DataW.trod enc P w base spare held fuel t [c] = some y) :
    ∃ a len cap, c = .slice a len cap := by
  rcases DataW.trod_slice ht h with ⟨hc, _⟩ | ⟨a, len, cap, _, _, _, _, hc, _⟩
  · simp at hc; exact ⟨_, _, _, hc⟩
  · simp at hc; exact ⟨_, _, _, hc⟩

theorem field_int {k : IntKind} {base fuel : Nat} {spare : Nat → Bool} {held : Bool} {t : TypeId} {c : Value} {y : DataW H × List MemPlace} (ht : P.underlying t = some (.int k)) (h : DataW.trod enc P w base spare held fuel t [c] = some y) :
    ∃ n, c = .int k n ∧ (Lit.int k n).wf = true := by
  obtain ⟨n, hc, _, hw⟩ := DataW.trod_int ht h
  simp at hc; exact ⟨n, hc, hw⟩

theorem array5 {cs : Array Value} (h : cs.size = 5) : ∃ a b c d e, cs = #[a, b, c, d, e] := by
  obtain ⟨l⟩ := cs
  match l, h with
  | [a, b, c, d, e], _ => exact ⟨a, b, c, d, e, rfl⟩

end
end Go.Proofs.Ytdlnnkbigeiilaa

/- Small words for opening arguments of deep types: slices of elements of any size, whatever each element is. No condition. -/
namespace Go.Proofs.Ytdlnnkbigeiilaa
open Go.ChangeShapes Go.WideShapes Go.ChangeAt Go.RowKit

/-! What the bound of the second form gives. -/
theorem bulk_one {H : Type} (d : DataW H) : 1 ≤ Rows.uptoBulk d := by
  cases d with
  | lit l => cases l <;> simp [Rows.uptoBulk]
  | nil => simp [Rows.uptoBulk]
  | ptr d => simp [Rows.uptoBulk]
  | slice elems spare => simp [Rows.uptoBulk]
  | agg parts => simp [Rows.uptoBulk]
  | iface t d => simp [Rows.uptoBulk]
  | map entries => simp [Rows.uptoBulk]
  | held h => simp [Rows.uptoBulk]
theorem bulk_part {H : Type} {d : DataW H} {l : List (DataW H)} (h : d ∈ l) : Rows.uptoBulk d ≤ Rows.uptoBulkAll l := by
  induction l with
  | nil => cases h
  | cons x r ih =>
    simp only [Rows.uptoBulkAll]
    rcases List.mem_cons.1 h with rfl | e
    · omega
    · have := ih e; omega
theorem bulk_length {H : Type} (l : List (DataW H)) : l.length ≤ Rows.uptoBulkAll l := by
  induction l with
  | nil => simp [Rows.uptoBulkAll]
  | cons x r ih => have := bulk_one x; simp only [Rows.uptoBulkAll, List.length_cons]; omega
theorem bulk_slice {H : Type} {elems spare : List (DataW H)} {B : Nat} (h : Rows.uptoBulk (.slice elems spare) ≤ B) : elems.length ≤ B ∧ ∀ d ∈ elems, Rows.uptoBulk d ≤ B := by
  simp only [Rows.uptoBulk] at h
  refine ⟨by have := bulk_length elems; omega, fun d hd => by have := bulk_part hd; omega⟩
theorem bulk_agg {H : Type} {parts : List (DataW H)} {B : Nat} (h : Rows.uptoBulk (.agg parts) ≤ B) : ∀ d ∈ parts, Rows.uptoBulk d ≤ B := by
  simp only [Rows.uptoBulk] at h
  exact fun d hd => by have := bulk_part hd; omega

theorem flat_range (g : Nat → Value) (k len : Nat) : ((List.range len).map fun i => (List.range k).map fun j => g (i * k + j)).flatten = (List.range (len * k)).map g := by
  induction len with
  | zero => simp
  | succ m ih =>
    rw [List.range_succ, List.map_append, List.flatten_append, ih, Nat.succ_mul, List.range_add, List.map_append]
    simp [List.map_map, Function.comp_def]

section
variable {H : Type} {enc : TypeId × Value → H} {P : Program} {w : World}

/-- A cell that is a slice of elements of k cells: all its elements' cells, each element with its own reading. -/
theorem open_flat {sp : Nat → Bool} {held : Bool} {t e : TypeId} {k fuel : Nat} {c : Value} {y : DataW H × List MemPlace} (ht : P.underlying t = some (.slice e)) (hk : P.cellsOf e = k) (hk0 : 0 < k) {B : Nat} (hB : Rows.uptoBulk y.1 ≤ B)
    (h : DataW.trod enc P w 0 sp held fuel t [c] = some y) :
    ∃ (a : Option Addr) (cap : Nat) (css : List (List Value)), c = .slice a css.length cap ∧ css.length ≤ B ∧ (∀ l ∈ css, l.length = k) ∧ Sl w w.heap.size a css.flatten ∧
      ∀ l ∈ css, ∃ n y', Rows.uptoBulk y'.1 ≤ B ∧ DataW.trod enc P w 0 sp held n e l = some y' := by
  have hlt := DataW.trod_lt _ _ _ _ h
  rcases DataW.trod_slice ht h with ⟨hcs, _⟩ | ⟨x, len, cap, elems, rest, n, _, hcs, hx, hb, hl, hm, hlen, hel, _, _⟩
  · simp only [List.cons.injEq, and_true] at hcs
    exact ⟨none, 0, [], hcs, by simp, by simp, Or.inl rfl, by simp⟩
  simp only [List.cons.injEq, and_true] at hcs
  subst hcs
  by_cases h0 : len = 0
  · subst h0
    exact ⟨some x, cap, [], rfl, by simp, by simp, Or.inl rfl, by simp⟩
  have hbk := bulk_slice (elems := elems.map (·.1)) (spare := rest.map (·.1)) (B := B) (by rw [hx] at hB; exact hB)
  have each : ∀ i, i < len → ∃ l y', w.cells? 0 (x.add (i * k)) k = some l ∧ Rows.uptoBulk y'.1 ≤ B ∧ DataW.trod enc P w 0 sp held n e l = some y' := by
    intro i hi
    have h1 := hel i hi
    rw [hk, show elems[i]? = some (elems[i]'(by omega)) from List.getElem?_eq_getElem (by omega), Option.bind_eq_some_iff] at h1
    obtain ⟨l, hl, hy⟩ := h1
    exact ⟨l, _, hl, hbk.2 _ (List.mem_map.2 ⟨_, List.getElem_mem _, rfl⟩), hy⟩
  obtain ⟨b, off, spot⟩ := x
  have hspot : spot = none := by
    obtain ⟨l, _, h1, _⟩ := each 0 (by omega)
    obtain ⟨_, h2, h3⟩ := World.cells?_some h1
    have h4 := h3 0 hk0
    obtain ⟨v, hv⟩ : ∃ v, l[0]? = some v := ⟨_, List.getElem?_eq_getElem (by omega)⟩
    rw [hv, Deep.add_add, Nat.zero_mul, Nat.zero_add] at h4
    simpa [Addr.add] using World.cell?_spot h4
  subst hspot
  have hbW : b < w.heap.size := hlt (.cell b off) (by
    rw [hx]
    exact List.mem_append_left _ (MemPlace.mem_row.2 ⟨0, by rw [hk]; have : 0 < (elems.length + rest.length) * k := Nat.mul_pos (by omega) hk0; omega, by simp⟩))
  have hL : ∀ i, i < len → ((List.range k).map fun j => (w.cell? ⟨b, off + (i * k + j), none⟩).getD (.bool false)).length = k ∧
      (∀ j, j < k → w.cell? ⟨b, off + (i * k + j), none⟩ = some ((w.cell? ⟨b, off + (i * k + j), none⟩).getD (.bool false))) ∧
      ∃ y', Rows.uptoBulk y'.1 ≤ B ∧ DataW.trod enc P w 0 sp held n e ((List.range k).map fun j => (w.cell? ⟨b, off + (i * k + j), none⟩).getD (.bool false)) = some y' := by
    intro i hi
    obtain ⟨l, y', h1, h2b, h2⟩ := each i hi
    obtain ⟨_, h3, h4⟩ := World.cells?_some h1
    have h5 : ∀ j, j < k → w.cell? ⟨b, off + (i * k + j), none⟩ = l[j]? := by
      intro j hj
      have := h4 j hj
      rwa [Deep.add_add, add_plain] at this
    have e1 : (List.range k).map (fun j => (w.cell? ⟨b, off + (i * k + j), none⟩).getD (.bool false)) = l := by
      apply List.ext_getElem?
      intro j
      by_cases hj : j < k
      · rw [List.getElem?_map, List.getElem?_range hj, Option.map_some, h5 j hj, List.getElem?_eq_getElem (show j < l.length by omega), Option.getD_some]
      · rw [List.getElem?_eq_none (by simp; omega), List.getElem?_eq_none (by omega)]
    refine ⟨by simp, ?_, ?_⟩
    · intro j hj
      rw [h5 j hj, List.getElem?_eq_getElem (show j < l.length by omega), Option.getD_some]
    · rw [e1]; exact ⟨y', h2b, h2⟩
  refine ⟨some ⟨b, off, none⟩, cap, (List.range len).map fun i => (List.range k).map fun j => (w.cell? ⟨b, off + (i * k + j), none⟩).getD (.bool false), by simp, ?_, ?_, Or.inr ⟨b, off, rfl, hbW, ?_⟩, ?_⟩
  · have := hbk.1; rw [List.length_map] at this; simp; omega
  · intro l hl
    obtain ⟨i, _, rfl⟩ := List.mem_map.1 hl
    simp
  · have hflat := flat_range (fun m => (w.cell? ⟨b, off + m, none⟩).getD (.bool false)) k len
    intro i v hv
    rw [hflat] at hv
    have hi : i < len * k := by have := (List.getElem?_eq_some_iff.1 hv).1; simpa using this
    have hq : i / k < len := Nat.div_lt_of_lt_mul (by rwa [Nat.mul_comm] at hi)
    have hc := (hL (i / k) hq).2.1 (i % k) (Nat.mod_lt _ hk0)
    rw [show i / k * k + i % k = i by rw [Nat.mul_comm]; exact Nat.div_add_mod i k] at hc
    rw [hc, ← hv, List.getElem?_map, List.getElem?_range hi, Option.map_some]
  · intro l hl
    obtain ⟨i, hi, rfl⟩ := List.mem_map.1 hl
    obtain ⟨y', hyb, hy⟩ := (hL i (List.mem_range.1 hi)).2.2
    exact ⟨n, y', hyb, hy⟩

/-- A list of lists of values each of which is of one shape. -/
theorem list_shapes {α : Type} (f : α → List Value) (R : α → Prop) : ∀ css : List (List Value), (∀ l ∈ css, ∃ x, l = f x ∧ R x) → ∃ xs : List α, xs.length = css.length ∧ css.flatten = xs.flatMap f ∧ ∀ x ∈ xs, R x
  | [], _ => ⟨[], rfl, rfl, by simp⟩
  | l :: css, h => by
    obtain ⟨x, rfl, hR⟩ := h l (by simp)
    obtain ⟨xs, h1, h2, h3⟩ := list_shapes f R css (fun c hc => h c (by simp [hc]))
    refine ⟨x :: xs, by simp [h1], by simp [h2], ?_⟩
    intro y hy
    rcases List.mem_cons.1 hy with rfl | hy
    · exact hR
    · exact h3 y hy

/-- The same, each element of a shape that is known. -/
theorem open_els {α : Type} (f : α → List Value) (R : α → Prop) {sp : Nat → Bool} {held : Bool} {t e : TypeId} {k fuel : Nat} {c : Value} {y : DataW H × List MemPlace} (ht : P.underlying t = some (.slice e)) (hk : P.cellsOf e = k) (hk0 : 0 < k) {B : Nat} (hB : Rows.uptoBulk y.1 ≤ B)
    (hel : ∀ n l y', l.length = k → Rows.uptoBulk y'.1 ≤ B → DataW.trod enc P w 0 sp held n e l = some y' → ∃ x, l = f x ∧ R x) (h : DataW.trod enc P w 0 sp held fuel t [c] = some y) :
    ∃ (a : Option Addr) (cap : Nat) (xs : List α), c = .slice a xs.length cap ∧ xs.length ≤ B ∧ Sl w w.heap.size a (xs.flatMap f) ∧ ∀ x ∈ xs, R x := by
  obtain ⟨a, cap, css, rfl, hlB, hl, hs, he⟩ := open_flat ht hk hk0 hB h
  obtain ⟨xs, h1, h2, h3⟩ := list_shapes f R css (fun l hm => by
    obtain ⟨n, y', hyb, hy⟩ := he l hm
    exact hel n l y' (hl l hm) hyb hy)
  exact ⟨a, cap, xs, by rw [h1], by omega, h2 ▸ hs, h3⟩

/-- A struct whose fields are of one cell each. -/
theorem open_cells {sp : Nat → Bool} {held : Bool} {t : TypeId} {fs : Array Go.Field} {fuel : Nat} {cs : List Value} {y : DataW H × List MemPlace} (hs : P.underlying t = some (.struct fs)) (hone : Go.Deep.oneCellFields P fs = true) (hC : P.cellsOf t = fs.size) {B : Nat} (hB : Rows.uptoBulk y.1 ≤ B)
    (h : DataW.trod enc P w 0 sp held fuel t cs = some y) :
    cs.length = fs.size ∧ ∀ (j : Nat) (f : Go.Field) (c : Value), fs[j]? = some f → cs[j]? = some c → ∃ n y', Rows.uptoBulk y'.1 ≤ B ∧ DataW.trod enc P w 0 sp held n f.type [c] = some y' := by
  obtain ⟨ys, n, _, hy, hcl, hlen, hg⟩ := DataW.trod_struct hs h
  have hbk := bulk_agg (parts := ys.map (·.1)) (B := B) (by rw [hy] at hB; exact hB)
  refine ⟨by omega, fun j f c hj hc => ?_⟩
  obtain ⟨ho, hk⟩ := Go.Deep.hone_of hone j f hj
  have hjf : j < fs.size := (Array.getElem?_eq_some_iff.1 hj).1
  have h1 := hg j f hj
  have hjc := (List.getElem?_eq_some_iff.1 hc).1
  rw [ho, hk, List.drop_eq_getElem_cons hjc, List.take_succ_cons, List.take_zero, (List.getElem?_eq_some_iff.1 hc).2, List.getElem?_eq_getElem (show j < ys.length by omega)] at h1
  exact ⟨n, _, hbk _ (List.mem_map.2 ⟨_, List.getElem_mem _, rfl⟩), h1⟩

theorem list2 {cs : List Value} (h : cs.length = 2) : ∃ a b, cs = [a, b] := by
  match cs, h with
  | [a, b], _ => exact ⟨a, b, rfl⟩
theorem list3 {cs : List Value} (h : cs.length = 3) : ∃ a b c, cs = [a, b, c] := by
  match cs, h with
  | [a, b, c], _ => exact ⟨a, b, c, rfl⟩

/-- A cell that is a string. -/
theorem open_str {sp : Nat → Bool} {held : Bool} {t : TypeId} {fuel : Nat} {c : Value} {y : DataW H × List MemPlace} (ht : P.underlying t = some .string) (h : DataW.trod enc P w 0 sp held fuel t [c] = some y) : ∃ s : ByteArray, c = .string s := by
  obtain ⟨s, hs, _⟩ := DataW.trod_string ht h
  simp only [List.cons.injEq, and_true] at hs
  exact ⟨s, hs⟩

/-- A cell that is a slice of strings. -/
theorem open_strs {sp : Nat → Bool} {held : Bool} {t e : TypeId} {fuel : Nat} {c : Value} {y : DataW H × List MemPlace} (ht : P.underlying t = some (.slice e)) (he : P.underlying e = some .string) (hk : P.cellsOf e = 1) {B : Nat} (hB : Rows.uptoBulk y.1 ≤ B) (h : DataW.trod enc P w 0 sp held fuel t [c] = some y) :
    ∃ (a : Option Addr) (cap : Nat) (bs : List ByteArray), c = .slice a bs.length cap ∧ bs.length ≤ B ∧ Sl w w.heap.size a (bs.map Value.string) := by
  obtain ⟨a, cap, xs, h1, hb, h2, _⟩ := open_els (fun s : ByteArray => [Value.string s]) (fun _ => True) ht hk (by omega) hB (fun n l y' hl _ hy => by
    match l, hl with
    | [c'], _ =>
      obtain ⟨s, rfl⟩ := open_str he hy
      exact ⟨s, rfl, trivial⟩) h
  refine ⟨a, cap, xs, h1, hb, ?_⟩
  rw [← List.flatMap_singleton' (xs.map Value.string), List.flatMap_map]
  exact h2

/-- The reading of a slice has as many parts as the slice has elements. -/
theorem trod_len {sp : Nat → Bool} {held : Bool} {t e : TypeId} {fuel : Nat} {a : Option Addr} {len cap : Nat} {y : DataW H × List MemPlace} (ht : P.underlying t = some (.slice e)) (h : DataW.trod enc P w 0 sp held fuel t [.slice a len cap] = some y) :
    len = 0 ∨ ∃ es rs, y.1 = .slice es rs ∧ es.length = len := by
  rcases DataW.trod_slice ht h with ⟨hcs, _⟩ | ⟨x, l, c, elems, rest, n, _, hcs, hx, _, _, _, hlen, _⟩
  · simp only [List.cons.injEq, Value.slice.injEq, and_true] at hcs
    exact Or.inl hcs.2.1
  · simp only [List.cons.injEq, Value.slice.injEq, and_true] at hcs
    exact Or.inr ⟨_, _, by rw [hx], by rw [List.length_map, hlen, hcs.2.1]⟩

end

end Go.Proofs.Ytdlnnkbigeiilaa

/- Arguments of deep types are opened, with what the form's own reach says of each part's size. No condition. -/
namespace Go.Proofs.Ytdlnnkbigeiilaa
open Go.ChangeShapes Go.WideShapes Go.ChangeAt Go.RowKit

/-- No part of a datum is above the form's reach. -/
def Wt {H : Type} (P : Program) (t : TypeId) (d : DataW H) : Prop := ∀ n ∈ DataW.weights P t d, n ≤ reachBytes
theorem weightsAll_mem {H : Type} {P : Program} {e : TypeId} : ∀ {l : List (DataW H)} {d : DataW H}, d ∈ l → ∀ n ∈ DataW.weights P e d, n ∈ DataW.weightsAll P e l
  | x :: l, d, hd, n, hn => by
    simp only [DataW.weightsAll, List.mem_append]
    rcases List.mem_cons.1 hd with rfl | h
    · exact Or.inl hn
    · exact Or.inr (weightsAll_mem h n hn)
theorem Wt.slice {H : Type} {P : Program} {t e : TypeId} {elems spare : List (DataW H)} (ht : P.underlying t = some (.slice e)) (h : Wt P t (.slice elems spare)) : elems.length * P.bytesOf e ≤ reachBytes ∧ ∀ d ∈ elems, Wt P e d := by
  unfold Wt at h
  simp only [DataW.weights, ht, List.mem_cons, List.mem_append] at h
  refine ⟨Nat.le_trans (Nat.mul_le_mul_right _ (Nat.le_add_right _ _)) (h _ (Or.inl rfl)), fun d hd n hn => h n (Or.inr (Or.inl (weightsAll_mem hd n hn)))⟩
theorem Wt.agg {H : Type} {P : Program} {t : TypeId} {fs : Array Go.Field} {parts : List (DataW H)} (ht : P.underlying t = some (.struct fs)) (h : Wt P t (.agg parts)) : ∀ (j : Nat) (f : Go.Field) (d : DataW H), fs[j]? = some f → parts[j]? = some d → Wt P f.type d := by
  intro j f d hj hd n hn
  unfold Wt at h
  simp only [DataW.weights, ht] at h
  exact h n (DataW.weights_mem_each (ts := fs.toList.map (·.type)) (by rw [List.getElem?_map, Array.getElem?_toList, hj]; rfl) hd n hn)
theorem Wt.arg {H : Type} {P : Program} {ts : List TypeId} {ds : List (DataW H)} (h : (DataW.weightsEach P ts ds).all (· ≤ reachBytes) = true) {j : Nat} {t : TypeId} {d : DataW H} (ht : ts[j]? = some t) (hd : ds[j]? = some d) : Wt P t d :=
  fun n hn => of_decide_eq_true (List.all_eq_true.1 h _ (DataW.weights_mem_each ht hd n hn))

section
variable {H : Type} {enc : TypeId × Value → H} {P : Program} {w : World}

/-- A cell that is a slice of elements of k cells: all its elements' cells, each element with its own reading. -/
theorem open_flatW {sp : Nat → Bool} {held : Bool} {t e : TypeId} {k fuel : Nat} {c : Value} {y : DataW H × List MemPlace} (ht : P.underlying t = some (.slice e)) (hk : P.cellsOf e = k) (hk0 : 0 < k) (hW : Wt P t y.1)
    (h : DataW.trod enc P w 0 sp held fuel t [c] = some y) :
    ∃ (a : Option Addr) (cap : Nat) (css : List (List Value)), c = .slice a css.length cap ∧ css.length * P.bytesOf e ≤ reachBytes ∧ (a = none → cap = 0) ∧ (∀ l ∈ css, l.length = k) ∧ Sl w w.heap.size a css.flatten ∧
      ∀ l ∈ css, ∃ n y', Wt P e y'.1 ∧ DataW.trod enc P w 0 sp held n e l = some y' := by
  have hlt := DataW.trod_lt _ _ _ _ h
  rcases DataW.trod_slice ht h with ⟨hcs, _⟩ | ⟨x, len, cap, elems, rest, n, _, hcs, hx, hb, hl, hm, hlen, hel, _, _⟩
  · simp only [List.cons.injEq, and_true] at hcs
    exact ⟨none, 0, [], hcs, by simp, fun _ => rfl, by simp, Or.inl rfl, by simp⟩
  simp only [List.cons.injEq, and_true] at hcs
  subst hcs
  by_cases h0 : len = 0
  · subst h0
    exact ⟨some x, cap, [], rfl, by simp, by simp, by simp, Or.inl rfl, by simp⟩
  have hbk := Wt.slice (elems := elems.map (·.1)) (spare := rest.map (·.1)) ht (by rw [hx] at hW; exact hW)
  have each : ∀ i, i < len → ∃ l y', w.cells? 0 (x.add (i * k)) k = some l ∧ Wt P e y'.1 ∧ DataW.trod enc P w 0 sp held n e l = some y' := by
    intro i hi
    have h1 := hel i hi
    rw [hk, show elems[i]? = some (elems[i]'(by omega)) from List.getElem?_eq_getElem (by omega), Option.bind_eq_some_iff] at h1
    obtain ⟨l, hl, hy⟩ := h1
    exact ⟨l, _, hl, hbk.2 _ (List.mem_map.2 ⟨_, List.getElem_mem _, rfl⟩), hy⟩
  obtain ⟨b, off, spot⟩ := x
  have hspot : spot = none := by
    obtain ⟨l, _, h1, _⟩ := each 0 (by omega)
    obtain ⟨_, h2, h3⟩ := World.cells?_some h1
    have h4 := h3 0 hk0
    obtain ⟨v, hv⟩ : ∃ v, l[0]? = some v := ⟨_, List.getElem?_eq_getElem (by omega)⟩
    rw [hv, Deep.add_add, Nat.zero_mul, Nat.zero_add] at h4
    simpa [Addr.add] using World.cell?_spot h4
  subst hspot
  have hbW : b < w.heap.size := hlt (.cell b off) (by
    rw [hx]
    exact List.mem_append_left _ (MemPlace.mem_row.2 ⟨0, by rw [hk]; have : 0 < (elems.length + rest.length) * k := Nat.mul_pos (by omega) hk0; omega, by simp⟩))
  have hL : ∀ i, i < len → ((List.range k).map fun j => (w.cell? ⟨b, off + (i * k + j), none⟩).getD (.bool false)).length = k ∧
      (∀ j, j < k → w.cell? ⟨b, off + (i * k + j), none⟩ = some ((w.cell? ⟨b, off + (i * k + j), none⟩).getD (.bool false))) ∧
      ∃ y', Wt P e y'.1 ∧ DataW.trod enc P w 0 sp held n e ((List.range k).map fun j => (w.cell? ⟨b, off + (i * k + j), none⟩).getD (.bool false)) = some y' := by
    intro i hi
    obtain ⟨l, y', h1, h2b, h2⟩ := each i hi
    obtain ⟨_, h3, h4⟩ := World.cells?_some h1
    have h5 : ∀ j, j < k → w.cell? ⟨b, off + (i * k + j), none⟩ = l[j]? := by
      intro j hj
      have := h4 j hj
      rwa [Deep.add_add, add_plain] at this
    have e1 : (List.range k).map (fun j => (w.cell? ⟨b, off + (i * k + j), none⟩).getD (.bool false)) = l := by
      apply List.ext_getElem?
      intro j
      by_cases hj : j < k
      · rw [List.getElem?_map, List.getElem?_range hj, Option.map_some, h5 j hj, List.getElem?_eq_getElem (show j < l.length by omega), Option.getD_some]
      · rw [List.getElem?_eq_none (by simp; omega), List.getElem?_eq_none (by omega)]
    refine ⟨by simp, ?_, ?_⟩
    · intro j hj
      rw [h5 j hj, List.getElem?_eq_getElem (show j < l.length by omega), Option.getD_some]
    · rw [e1]; exact ⟨y', h2b, h2⟩
  refine ⟨some ⟨b, off, none⟩, cap, (List.range len).map fun i => (List.range k).map fun j => (w.cell? ⟨b, off + (i * k + j), none⟩).getD (.bool false), by simp, ?_, by simp, ?_, Or.inr ⟨b, off, rfl, hbW, ?_⟩, ?_⟩
  · have := hbk.1; rw [List.length_map, hlen] at this; simpa using this
  · intro l hl
    obtain ⟨i, _, rfl⟩ := List.mem_map.1 hl
    simp
  · have hflat := flat_range (fun m => (w.cell? ⟨b, off + m, none⟩).getD (.bool false)) k len
    intro i v hv
    rw [hflat] at hv
    have hi : i < len * k := by have := (List.getElem?_eq_some_iff.1 hv).1; simpa using this
    have hq : i / k < len := Nat.div_lt_of_lt_mul (by rwa [Nat.mul_comm] at hi)
    have hc := (hL (i / k) hq).2.1 (i % k) (Nat.mod_lt _ hk0)
    rw [show i / k * k + i % k = i by rw [Nat.mul_comm]; exact Nat.div_add_mod i k] at hc
    rw [hc, ← hv, List.getElem?_map, List.getElem?_range hi, Option.map_some]
  · intro l hl
    obtain ⟨i, hi, rfl⟩ := List.mem_map.1 hl
    obtain ⟨y', hyb, hy⟩ := (hL i (List.mem_range.1 hi)).2.2
    exact ⟨n, y', hyb, hy⟩

/-- The same, each element of a shape that is known. -/
theorem open_elsW {α : Type} (f : α → List Value) (R : α → Prop) {sp : Nat → Bool} {held : Bool} {t e : TypeId} {k fuel : Nat} {c : Value} {y : DataW H × List MemPlace} (ht : P.underlying t = some (.slice e)) (hk : P.cellsOf e = k) (hk0 : 0 < k) (hW : Wt P t y.1)
    (hel : ∀ n l y', l.length = k → Wt P e y'.1 → DataW.trod enc P w 0 sp held n e l = some y' → ∃ x, l = f x ∧ R x) (h : DataW.trod enc P w 0 sp held fuel t [c] = some y) :
    ∃ (a : Option Addr) (cap : Nat) (xs : List α), c = .slice a xs.length cap ∧ xs.length * P.bytesOf e ≤ reachBytes ∧ (a = none → cap = 0) ∧ Sl w w.heap.size a (xs.flatMap f) ∧ ∀ x ∈ xs, R x := by
  obtain ⟨a, cap, css, rfl, hlB, hno, hl, hs, he⟩ := open_flatW ht hk hk0 hW h
  obtain ⟨xs, h1, h2, h3⟩ := list_shapes f R css (fun l hm => by
    obtain ⟨n, y', hyb, hy⟩ := he l hm
    exact hel n l y' (hl l hm) hyb hy)
  exact ⟨a, cap, xs, by rw [h1], by rw [h1]; exact hlB, hno, h2 ▸ hs, h3⟩

/-- A struct whose fields are of one cell each. -/
theorem open_cellsW {sp : Nat → Bool} {held : Bool} {t : TypeId} {fs : Array Go.Field} {fuel : Nat} {cs : List Value} {y : DataW H × List MemPlace} (hs : P.underlying t = some (.struct fs)) (hone : Go.Deep.oneCellFields P fs = true) (hC : P.cellsOf t = fs.size) (hW : Wt P t y.1)
    (h : DataW.trod enc P w 0 sp held fuel t cs = some y) :
    cs.length = fs.size ∧ ∀ (j : Nat) (f : Go.Field) (c : Value), fs[j]? = some f → cs[j]? = some c → ∃ n y', Wt P f.type y'.1 ∧ DataW.trod enc P w 0 sp held n f.type [c] = some y' := by
  obtain ⟨ys, n, _, hy, hcl, hlen, hg⟩ := DataW.trod_struct hs h
  have hbk := Wt.agg (parts := ys.map (·.1)) hs (by rw [hy] at hW; exact hW)
  refine ⟨by omega, fun j f c hj hc => ?_⟩
  obtain ⟨ho, hk⟩ := Go.Deep.hone_of hone j f hj
  have hjf : j < fs.size := (Array.getElem?_eq_some_iff.1 hj).1
  have h1 := hg j f hj
  have hjc := (List.getElem?_eq_some_iff.1 hc).1
  rw [ho, hk, List.drop_eq_getElem_cons hjc, List.take_succ_cons, List.take_zero, (List.getElem?_eq_some_iff.1 hc).2, List.getElem?_eq_getElem (show j < ys.length by omega)] at h1
  exact ⟨n, _, hbk j f _ hj (by rw [List.getElem?_map, List.getElem?_eq_getElem (show j < ys.length by omega)]; rfl), h1⟩

/-- A cell that is a slice of strings. -/
theorem open_strsW {sp : Nat → Bool} {held : Bool} {t e : TypeId} {fuel : Nat} {c : Value} {y : DataW H × List MemPlace} (ht : P.underlying t = some (.slice e)) (he : P.underlying e = some .string) (hk : P.cellsOf e = 1) (hW : Wt P t y.1) (h : DataW.trod enc P w 0 sp held fuel t [c] = some y) :
    ∃ (a : Option Addr) (cap : Nat) (bs : List ByteArray), c = .slice a bs.length cap ∧ bs.length * P.bytesOf e ≤ reachBytes ∧ (a = none → cap = 0) ∧ Sl w w.heap.size a (bs.map Value.string) := by
  obtain ⟨a, cap, xs, h1, hb, hno, h2, _⟩ := open_elsW (fun s : ByteArray => [Value.string s]) (fun _ => True) ht hk (by omega) hW (fun n l y' hl _ hy => by
    match l, hl with
    | [c'], _ =>
      obtain ⟨s, rfl⟩ := open_str he hy
      exact ⟨s, rfl, trivial⟩) h
  refine ⟨a, cap, xs, h1, hb, hno, ?_⟩
  rw [← List.flatMap_singleton' (xs.map Value.string), List.flatMap_map]
  exact h2

end

end Go.Proofs.Ytdlnnkbigeiilaa

namespace Go.Proofs.Ytdlnnkbigeiilaa
open Go.ChangeShapes Go.WideShapes Go.ChangeAt Go.RowKit

theorem numKept {W W' : World} {b : Nat} {t : TypeId} {s : ByteArray} {a : Option Addr} {n : Nat} (h : NumAt W a n) (hb : Bx W b t [.string s]) (hk : Kept (fun q => q = b) W W') : NumAt W' a n := by
  by_cases h0 : dl n = 0
  · exact Or.inl (by rw [List.map_eq_nil_iff]; exact List.eq_nil_of_length_eq_zero (by rw [digs_length]; exact h0))
  · refine Sl.kept h hk (fun x hx e => ?_)
    obtain ⟨b', off, rfl, hl, hc⟩ := NumAt.all h (by omega)
    have e1 : b' = b := by rw [← Option.some.inj hx] at e; exact e
    subst e1
    have h1 := hc 0 (by omega)
    rw [World.cell?, show W.heap[b']? = _ from hb] at h1
    rcases off with _ | off
    · simp at h1
    · simp at h1

set_option maxRecDepth 100000 in
set_option maxHeartbeats 2000000 in
theorem groupAsks_none (k : Int) (hk : ¬ (1 ≤ k ∧ k ≤ 3)) (label : ByteArray) (bs : List ByteArray) (n : Nat) (hn : bs.length = n) (hn6 : n < 1152921504606846976) (a : Option Addr) (c : Nat) (hl : label.size < 140737488355328) (hxs : ∀ x ∈ bs, x.size < 140737488355328) (w : World) (hX : Sl w w.heap.size a (bs.map Value.string)) :
    Calls Try.prog 3 #[.int .i64 k, .string label, .slice a n c] w fun e w' => e = .returned (.bool true) ∧ Below w.heap.size w w' := by
  have HF1 := Lib.hid (fun w => NewTalk_any label hl w)
  have HF2 := Lib.hid (fun w => rNewTalk_any label hl w)
  have HF3 := Lib.hid (fun tb s b hs hb w h => Say_any tb s label b hs hl hb w h)
  have HF4 := Lib.hid (fun s b hs hb w => rSay_any s label b hs hl hb w)
  have HF5 := Lib.hid (fun tb s hs w h => Ask_any tb s label hs hl w h)
  have HF6 := Lib.hid (fun s hs w => rAsk_any s label hs hl w)
  have HTZ := Lib.hid tagS_size
  generalize tagS = TS at HF1 HF2 HF3 HF4 HF5 HF6 HTZ
  have HX := Lib.hid hX
  have HXS := Lib.hid hxs
  have HN := Lib.hid hn
  clear hX hxs hl hn
  go_enter Try.func3, Try.ntmps3
  go_wp2_with fail
  refine (HF1.out w).mono ?_
  rintro e wa ⟨tb, rfl, hge, ht, hb⟩
  have HGE := Lib.hid hge
  have HT1 := Lib.hid ht
  have HB1 := Lib.hid hb
  clear hge ht hb
  go_wp2_with fail
  refine (HF2.out wa).mono ?_
  rintro e wb ⟨rfl, hb⟩
  have Ht := Lib.hid (show Bx wb tb 67 [.string (TS talkB [label])] from (Bx.up HT1.out hb))
  have HB := Lib.hid (below_up HB1.out hb)
  have HZ0 := Lib.hid (HTZ.out talkB [label])
  clear HT1 HB1 hb
  generalize TS talkB [label] = s0 at *
  have HLT := Lib.hid Ht.out.lt
  have HW2 := Lib.hid HB.out.size
  have HZS := HLT
  replace HZS := sz HZS HGE.out
  replace HZS := sz HZS HW2.out
  have t_ := Ht.out.c1
  have o1_t_ := t_; clear t_
  obtain ⟨w1, hq1, hb9, hz9, Ho⟩ := new1 wb 26 [.string s0]
  replace Ht := Lib.hid (Ht.out.up hb9)
  replace HB := hbu HB hb9
  replace HZS := sz HZS hz9.out
  clear hb9 hz9
  have t_ := Ht.out.c1
  have o_ := Ho.out.c1
  go_wp2_with fail
  clear hq1 o1_t_
  go_loopw [27] (fun c wr => ∃ (i : Nat) (s : ByteArray), i ≤ n ∧ c = .int .i64 (i : Int) ∧ Hid (s.size = 32) ∧ Hid (Bx wr tb 67 [.string s]) ∧ Hid (Bx wr wb.heap.size 26 [.string s]) ∧ Hid (Below w.heap.size w wr)) (fun c _ => n - (intOf c).toNat)
  case atStart => exact ⟨0, s0, by omega, rfl, HZ0, Ht, Ho, HB⟩
  case round =>
    clear Ht Ho HB HZ0 t_ o_
    obtain ⟨i, s, hi, rfl, HZ, Ht, Ho, HB⟩ := hrel
    by_cases hin : i < n
    · obtain ⟨xb, xo, rfl, hxl, hxc⟩ := (HX.out.up HB.out).at i (by rw [List.length_map, HN.out]; exact hin)
      rw [List.getElem_map] at hxc
      have hxz := HXS.out _ (List.getElem_mem (show i < bs.length by rw [HN.out]; exact hin))
      have hiL : i < bs.length := by rw [HN.out]; exact hin
      obtain ⟨x, hx9⟩ : ∃ x, bs[i]'hiL = x := ⟨_, rfl⟩
      rw [hx9] at hxc hxz
      clear hx9 hiL
      have HXZ := Lib.hid hxz
      clear hxz
      have t_ := Ht.out.c1
      have o_ := Ho.out.c1
      go_wp2_with fail
      refine (HF3.out tb s x (by have := HZ.out; omega) HXZ.out _ Ht.out).mono ?_
      rintro e wz ⟨rfl, ht, hk⟩
      have HB9 := Lib.hid (Below.keptP HB.out hk HB.out.size (fun q hq => hq ▸ HGE.out))
      have Ho9 := Lib.hid (Ho.out.keptP hk (show ¬ wb.heap.size = tb by have := HLT.out; omega))
      clear Ht Ho HB t_ o_ hk hxc hxl
      have Ht := Lib.hid (show Bx wz tb 67 [.string (TS sayB [s, label, x])] from ht)
      have Ho := Ho9
      have HB := HB9
      have HO9 := Lib.hid Ho.out.lt
      clear ht Ho9 HB9
      replace HZS := sz HZS HO9.out
      replace HZS := sz HZS HLT.out
      replace HZS := sz HZS HGE.out
      replace HZS := sz HZS HW2.out
      have t_ := Ht.out.c1
      have o_ := Ho.out.c1
      go_wp2_with fail
      refine (HF4.out s x (by have := HZ.out; omega) HXZ.out wz).mono ?_
      rintro e w2 ⟨rfl, hb9⟩
      clear t_
      replace Ht := Lib.hid (Ht.out.up hb9)
      clear o_
      replace Ho := Lib.hid (Ho.out.up hb9)
      replace HB := hbu HB hb9
      replace HZS := sz HZS hb9.size
      clear hb9
      have t_ := Ht.out.c1
      have o_ := Ho.out.c1
      have f3_o := Ho.out.frozen
      have o3_t_ := t_; clear t_
      have o3_o_ := o_; clear o_
      obtain ⟨w3, hq3, hg9, hz9, hx9⟩ := put1 Ho 0 (.string (TS sayB [s, label, x])) [.string (TS sayB [s, label, x])] rfl
      replace Ht := Lib.hid (Ht.out.grown hg9.out (sne (by have g0 := HZS.out; omega)))
      replace HB := hbg HB hg9 (by have g0 := HZS.out; omega)
      replace HZS := sz HZS hz9.out
      replace Ho := hx9
      clear hx9 hg9 hz9
      have t_ := Ht.out.c1
      have o_ := Ho.out.c1
      go_wp2_with fail
      clear hq3 o3_o_ o3_t_ f3_o
      exact ⟨⟨i + 1, _, by omega, by go_num, Lib.hid (HTZ.out _ _), Ht, Ho, HB⟩, by simp [intOf]; omega⟩
    · have hi' : i = n := by omega
      subst hi'
      clear HX HXS HN hi hin
      have HO9 := Lib.hid Ho.out.lt
      replace HZS := sz HZS HO9.out
      replace HZS := sz HZS HLT.out
      replace HZS := sz HZS HGE.out
      replace HZS := sz HZS HW2.out
      have t_ := Ht.out.c1
      have o_ := Ho.out.c1
      go_wp2_with fail
      refine (refKind_none k hk wr).mono ?_
      rintro e w2 ⟨rfl, hb9⟩
      clear t_
      replace Ht := Lib.hid (Ht.out.up hb9)
      clear o_
      replace Ho := Lib.hid (Ho.out.up hb9)
      replace HB := hbu HB hb9
      replace HZS := sz HZS hb9.size
      clear hb9
      have t_ := Ht.out.c1
      have o_ := Ho.out.c1
      have o3_t_ := t_; clear t_
      have o3_o_ := o_; clear o_
      obtain ⟨w3, hq3, hb9, hz9, Hg⟩ := new1 w2 33 [.int .i64 0, .slice none 0 0, .slice none 0 0]
      replace Ht := Lib.hid (Ht.out.up hb9)
      replace Ho := Lib.hid (Ho.out.up hb9)
      replace HB := hbu HB hb9
      replace HZS := sz HZS hz9.out
      clear hb9 hz9
      have t_ := Ht.out.c1
      have o_ := Ho.out.c1
      have g_ := Hg.out.c3
      have f4_g := Hg.out.frozen
      have o4_t_ := t_; clear t_
      have o4_o_ := o_; clear o_
      have o4_g_ := g_; clear g_
      obtain ⟨w4, hq4, hg9, hz9, hx9⟩ := put3 Hg 0 (.int .i64 0) 1 (.slice none 0 0) 2 (.slice none 0 0) [.int .i64 0, .slice none 0 0, .slice none 0 0] rfl
      replace Ht := Lib.hid (Ht.out.grown hg9.out (sne (by have g0 := HZS.out; omega)))
      replace Ho := Lib.hid (Ho.out.grown hg9.out (sne (by have g0 := HZS.out; omega)))
      replace HB := hbg HB hg9 (by have g0 := HZS.out; omega)
      replace HZS := sz HZS hz9.out
      replace Hg := hx9
      clear hx9 hg9 hz9
      have t_ := Ht.out.c1
      have o_ := Ho.out.c1
      have g_ := Hg.out.c3
      go_wp2_with fail
      clear hq4 o4_g_ o4_o_ o4_t_ f4_g hq3 o3_o_ o3_t_
      refine (Challenge_none k hk tb label w4).mono ?_
      rintro e w5 ⟨rfl, hb9⟩
      clear t_
      replace Ht := Lib.hid (Ht.out.up hb9)
      clear o_
      replace Ho := Lib.hid (Ho.out.up hb9)
      clear g_
      replace Hg := Lib.hid (Hg.out.up hb9)
      replace HB := hbu HB hb9
      replace HZS := sz HZS hb9.size
      clear hb9
      have t_ := Ht.out.c1
      have o_ := Ho.out.c1
      have g_ := Hg.out.c3
      go_wp2_with fail
      refine (HF6.out s (by have := HZ.out; omega) w5).mono ?_
      rintro e w6 ⟨rfl, hb9⟩
      clear t_
      replace Ht := Lib.hid (Ht.out.up hb9)
      clear o_
      replace Ho := Lib.hid (Ho.out.up hb9)
      clear g_
      replace Hg := Lib.hid (Hg.out.up hb9)
      replace HB := hbu HB hb9
      replace HZS := sz HZS hb9.size
      clear hb9
      have t_ := Ht.out.c1
      have o_ := Ho.out.c1
      have g_ := Hg.out.c3
      have o7_t_ := t_; clear t_
      have o7_o_ := o_; clear o_
      have o7_g_ := g_; clear g_
      obtain ⟨w7, hq7, hb9, hz9, Hd⟩ := new1 w6 26 [.string (TS askedB [s, label])]
      replace Ht := Lib.hid (Ht.out.up hb9)
      replace Ho := Lib.hid (Ho.out.up hb9)
      replace Hg := Lib.hid (Hg.out.up hb9)
      replace HB := hbu HB hb9
      replace HZS := sz HZS hz9.out
      clear hb9 hz9
      have t_ := Ht.out.c1
      have o_ := Ho.out.c1
      have g_ := Hg.out.c3
      have d_ := Hd.out.c1
      go_wp2_with fail
      clear hq7 o7_g_ o7_o_ o7_t_
      refine (lawText_err ⟨#[]⟩ 1 (by omega) w7).mono ?_
      rintro e w8 ⟨rfl, hb9⟩
      clear t_
      replace Ht := Lib.hid (Ht.out.up hb9)
      clear o_
      replace Ho := Lib.hid (Ho.out.up hb9)
      clear g_
      replace Hg := Lib.hid (Hg.out.up hb9)
      clear d_
      replace Hd := Lib.hid (Hd.out.up hb9)
      replace HB := hbu HB hb9
      replace HZS := sz HZS hb9.size
      clear hb9
      have t_ := Ht.out.c1
      have o_ := Ho.out.c1
      have g_ := Hg.out.c3
      have d_ := Hd.out.c1
      go_wp2_with fail
      refine (HF5.out tb s (by have := HZ.out; omega) _ Ht.out).mono ?_
      rintro e wz ⟨rfl, ht, hk⟩
      have HB9 := Lib.hid (Below.keptP HB.out hk HB.out.size (fun q hq => hq ▸ HGE.out))
      clear ht hk
      go_wp2_with fail
      go_ret
      exact ⟨rfl, HB9.out⟩

set_option maxRecDepth 100000 in
set_option maxHeartbeats 2000000 in
theorem groupAsks_some (k : Nat) (h1 : 1 ≤ k) (h3 : k ≤ 3) (label : ByteArray) (bs : List ByteArray) (n : Nat) (hn : bs.length = n) (hn6 : n < 1152921504606846976) (a : Option Addr) (c : Nat) (hl : label.size < 140737488355328) (hxs : ∀ x ∈ bs, x.size < 140737488355328) (w : World) (hX : Sl w w.heap.size a (bs.map Value.string)) :
    Calls Try.prog 3 #[.int .i64 (k : Int), .string label, .slice a n c] w fun e w' => e = .returned (.bool true) ∧ Below w.heap.size w w' := by
  have hs0 : (((grp k).size : Int) == 0) = false := by
    obtain rfl | rfl | rfl : k = 1 ∨ k = 2 ∨ k = 3 := by omega
    all_goals rfl
  have HQ0 := Lib.hid (show 0 < (grp k).q.m from (grp_ok k h1 h3).q.pos)
  have HD0 := Lib.hid (show ∀ x, dl (x % (grp k).q.m) ≤ 1048576 from fun x => small_dl _ (Nat.lt_of_lt_of_le (Nat.mod_lt _ HQ0.out) (Nat.le_of_lt (grp_ok k h1 h3).q.lt4)))
  have HSZ := Lib.hid (show (grp k).size ≤ 1024 from Nat.le_trans (grp_ok k h1 h3).size_le (by decide))
  have HF7 := Lib.hid (fun tb s hs w h => Challenge_some k h1 h3 tb s label hs hl w h)
  have HF8 := Lib.hid (fun pv aq cq s hs w h => rChallenge_any (grp k).size (grp k).q.m pv HQ0.out aq cq s label hs hl w h)
  have HCZ0 := Lib.hid (fun s => chT_size s label)
  generalize chT = CT at HF7 HF8 HCZ0
  generalize chN = CN at HF7 HF8
  have HF1 := Lib.hid (fun w => NewTalk_any label hl w)
  have HF2 := Lib.hid (fun w => rNewTalk_any label hl w)
  have HF3 := Lib.hid (fun tb s b hs hb w h => Say_any tb s label b hs hl hb w h)
  have HF4 := Lib.hid (fun s b hs hb w => rSay_any s label b hs hl hb w)
  have HF5 := Lib.hid (fun tb s hs w h => Ask_any tb s label hs hl w h)
  have HF6 := Lib.hid (fun s hs w => rAsk_any s label hs hl w)
  have HTZ := Lib.hid tagS_size
  generalize tagS = TS at HF1 HF2 HF3 HF4 HF5 HF6 HTZ
  have HX := Lib.hid hX
  have HXS := Lib.hid hxs
  have HN := Lib.hid hn
  clear hX hxs hl hn
  go_enter Try.func3, Try.ntmps3
  go_wp2_with fail
  refine (HF1.out w).mono ?_
  rintro e wa ⟨tb, rfl, hge, ht, hb⟩
  have HGE := Lib.hid hge
  have HT1 := Lib.hid ht
  have HB1 := Lib.hid hb
  clear hge ht hb
  go_wp2_with fail
  refine (HF2.out wa).mono ?_
  rintro e wb ⟨rfl, hb⟩
  have Ht := Lib.hid (show Bx wb tb 67 [.string (TS talkB [label])] from (Bx.up HT1.out hb))
  have HB := Lib.hid (below_up HB1.out hb)
  have HZ0 := Lib.hid (HTZ.out talkB [label])
  clear HT1 HB1 hb
  generalize TS talkB [label] = s0 at *
  have HLT := Lib.hid Ht.out.lt
  have HW2 := Lib.hid HB.out.size
  have HZS := HLT
  replace HZS := sz HZS HGE.out
  replace HZS := sz HZS HW2.out
  have t_ := Ht.out.c1
  have o1_t_ := t_; clear t_
  obtain ⟨w1, hq1, hb9, hz9, Ho⟩ := new1 wb 26 [.string s0]
  replace Ht := Lib.hid (Ht.out.up hb9)
  replace HB := hbu HB hb9
  replace HZS := sz HZS hz9.out
  clear hb9 hz9
  have t_ := Ht.out.c1
  have o_ := Ho.out.c1
  go_wp2_with fail
  clear hq1 o1_t_
  go_loopw [27] (fun c wr => ∃ (i : Nat) (s : ByteArray), i ≤ n ∧ c = .int .i64 (i : Int) ∧ Hid (s.size = 32) ∧ Hid (Bx wr tb 67 [.string s]) ∧ Hid (Bx wr wb.heap.size 26 [.string s]) ∧ Hid (Below w.heap.size w wr)) (fun c _ => n - (intOf c).toNat)
  case atStart => exact ⟨0, s0, by omega, rfl, HZ0, Ht, Ho, HB⟩
  case round =>
    clear Ht Ho HB HZ0 t_ o_
    obtain ⟨i, s, hi, rfl, HZ, Ht, Ho, HB⟩ := hrel
    by_cases hin : i < n
    · obtain ⟨xb, xo, rfl, hxl, hxc⟩ := (HX.out.up HB.out).at i (by rw [List.length_map, HN.out]; exact hin)
      rw [List.getElem_map] at hxc
      have hxz := HXS.out _ (List.getElem_mem (show i < bs.length by rw [HN.out]; exact hin))
      have hiL : i < bs.length := by rw [HN.out]; exact hin
      obtain ⟨x, hx9⟩ : ∃ x, bs[i]'hiL = x := ⟨_, rfl⟩
      rw [hx9] at hxc hxz
      clear hx9 hiL
      have HXZ := Lib.hid hxz
      clear hxz
      have t_ := Ht.out.c1
      have o_ := Ho.out.c1
      go_wp2_with fail
      refine (HF3.out tb s x (by have := HZ.out; omega) HXZ.out _ Ht.out).mono ?_
      rintro e wz ⟨rfl, ht, hk⟩
      have HB9 := Lib.hid (Below.keptP HB.out hk HB.out.size (fun q hq => hq ▸ HGE.out))
      have Ho9 := Lib.hid (Ho.out.keptP hk (show ¬ wb.heap.size = tb by have := HLT.out; omega))
      clear Ht Ho HB t_ o_ hk hxc hxl
      have Ht := Lib.hid (show Bx wz tb 67 [.string (TS sayB [s, label, x])] from ht)
      have Ho := Ho9
      have HB := HB9
      have HO9 := Lib.hid Ho.out.lt
      clear ht Ho9 HB9
      replace HZS := sz HZS HO9.out
      replace HZS := sz HZS HLT.out
      replace HZS := sz HZS HGE.out
      replace HZS := sz HZS HW2.out
      have t_ := Ht.out.c1
      have o_ := Ho.out.c1
      go_wp2_with fail
      refine (HF4.out s x (by have := HZ.out; omega) HXZ.out wz).mono ?_
      rintro e w2 ⟨rfl, hb9⟩
      clear t_
      replace Ht := Lib.hid (Ht.out.up hb9)
      clear o_
      replace Ho := Lib.hid (Ho.out.up hb9)
      replace HB := hbu HB hb9
      replace HZS := sz HZS hb9.size
      clear hb9
      have t_ := Ht.out.c1
      have o_ := Ho.out.c1
      have f3_o := Ho.out.frozen
      have o3_t_ := t_; clear t_
      have o3_o_ := o_; clear o_
      obtain ⟨w3, hq3, hg9, hz9, hx9⟩ := put1 Ho 0 (.string (TS sayB [s, label, x])) [.string (TS sayB [s, label, x])] rfl
      replace Ht := Lib.hid (Ht.out.grown hg9.out (sne (by have g0 := HZS.out; omega)))
      replace HB := hbg HB hg9 (by have g0 := HZS.out; omega)
      replace HZS := sz HZS hz9.out
      replace Ho := hx9
      clear hx9 hg9 hz9
      have t_ := Ht.out.c1
      have o_ := Ho.out.c1
      go_wp2_with fail
      clear hq3 o3_o_ o3_t_ f3_o
      exact ⟨⟨i + 1, _, by omega, by go_num, Lib.hid (HTZ.out _ _), Ht, Ho, HB⟩, by simp [intOf]; omega⟩
    · have hi' : i = n := by omega
      subst hi'
      clear HX HXS HN hi hin
      have HO9 := Lib.hid Ho.out.lt
      replace HZS := sz HZS HO9.out
      replace HZS := sz HZS HLT.out
      replace HZS := sz HZS HGE.out
      replace HZS := sz HZS HW2.out
      have t_ := Ht.out.c1
      have o_ := Ho.out.c1
      go_wp2_with fail
      refine (refKind_some k h1 h3 wr).mono ?_
      rintro e wk ⟨aq, cq, ap, cp, rfl, hq, hp, hb9⟩
      have HQ := Lib.hid hq
      clear hp hq
      clear t_
      replace Ht := Lib.hid (Ht.out.up hb9)
      clear o_
      replace Ho := Lib.hid (Ho.out.up hb9)
      replace HB := hbu HB hb9
      replace HZS := sz HZS hb9.size
      clear hb9
      have t_ := Ht.out.c1
      have o_ := Ho.out.c1
      have HO7 := Lib.hid Ho.out.lt
      have o2_t_ := t_; clear t_
      have o2_o_ := o_; clear o_
      obtain ⟨w2, hq2, hb9, hz9, Hg⟩ := new1 wk 33 [.int .i64 ((grp k).size : Int), .slice aq (dl (grp k).q.m) cq, .slice ap (dl (grp k).p.m) cp]
      replace Ht := Lib.hid (Ht.out.up hb9)
      replace Ho := Lib.hid (Ho.out.up hb9)
      replace HQ := Lib.hid (HQ.out.up hb9)
      replace HB := hbu HB hb9
      replace HZS := sz HZS hz9.out
      clear hb9 hz9
      have t_ := Ht.out.c1
      have o_ := Ho.out.c1
      have g_ := Hg.out.c3
      go_wp2_with fail
      clear hq2 o2_o_ o2_t_
      refine (HF7.out tb s (by have := HZ.out; omega) _ Ht.out).mono ?_
      rintro e wz ⟨rfl, ht, hk⟩
      have HQ9 := Lib.hid (numKept HQ.out Ht.out hk)
      have HB9 := Lib.hid (Below.keptP HB.out hk HB.out.size (fun q hq => hq ▸ HGE.out))
      have Ho9 := Lib.hid (Ho.out.keptP hk (show ¬ wb.heap.size = tb by have := HLT.out; omega))
      have Hg9 := Lib.hid (Hg.out.keptP hk (show ¬ wk.heap.size = tb by have := HLT.out; have := HO7.out; omega))
      have HO8 := Lib.hid Ho9.out.lt
      have HG8 := Lib.hid Hg9.out.lt
      clear Ht Ho HB t_ o_ g_ hk HQ Hg
      have Ht := Lib.hid (show Bx wz tb 67 [.string (CT s label)] from ht)
      have Ho := Ho9
      have HB := HB9
      have Hg := Hg9
      have HQ := HQ9
      have HCZ := Lib.hid (HCZ0.out s)
      clear ht Ho9 HB9 Hg9 HQ9
      replace HZS := sz HZS HO8.out
      replace HZS := sz HZS HG8.out
      replace HZS := sz HZS HO7.out
      replace HZS := sz HZS HO9.out
      replace HZS := sz HZS HLT.out
      replace HZS := sz HZS HGE.out
      replace HZS := sz HZS HW2.out
      have t_ := Ht.out.c1
      have o_ := Ho.out.c1
      have g_ := Hg.out.c3
      go_wp2_with fail
      refine (HF8.out _ aq cq s (by have := HZ.out; omega) wz HQ.out).mono ?_
      rintro e wx ⟨a5, c5, rfl, hn5, hb9⟩
      have HN5 := Lib.hid hn5
      clear hn5 HQ
      clear t_
      replace Ht := Lib.hid (Ht.out.up hb9)
      clear o_
      replace Ho := Lib.hid (Ho.out.up hb9)
      clear g_
      replace Hg := Lib.hid (Hg.out.up hb9)
      replace HB := hbu HB hb9
      replace HZS := sz HZS hb9.size
      clear hb9
      have t_ := Ht.out.c1
      have o_ := Ho.out.c1
      have g_ := Hg.out.c3
      have hn6 := numSet HN5.out Ho.out 0 (.string (CT s label))
      have f3_o := Ho.out.frozen
      have o3_t_ := t_; clear t_
      have o3_o_ := o_; clear o_
      have o3_g_ := g_; clear g_
      obtain ⟨w3, hq3, hg9, hz9, hx9⟩ := put1 Ho 0 (.string (CT s label)) [.string (CT s label)] rfl
      replace Ht := Lib.hid (Ht.out.grown hg9.out (sne (by have g0 := HZS.out; omega)))
      replace Hg := Lib.hid (Hg.out.grown hg9.out (sne (by have g0 := HZS.out; omega)))
      replace HB := hbg HB hg9 (by have g0 := HZS.out; omega)
      replace HZS := sz HZS hz9.out
      replace Ho := hx9
      clear hx9 hg9 hz9
      have t_ := Ht.out.c1
      have o_ := Ho.out.c1
      have g_ := Hg.out.c3
      rw [hq3] at hn6
      have HN6 := Lib.hid hn6
      clear hn6 HN5
      go_wp2_with fail
      clear hq3 o3_g_ o3_o_ o3_t_ f3_o
      refine (HF6.out (CT s label) (by have := HCZ.out; omega) w3).mono ?_
      rintro e w4 ⟨rfl, hb9⟩
      clear t_
      replace Ht := Lib.hid (Ht.out.up hb9)
      clear o_
      replace Ho := Lib.hid (Ho.out.up hb9)
      clear g_
      replace Hg := Lib.hid (Hg.out.up hb9)
      replace HN6 := Lib.hid (HN6.out.up hb9)
      replace HB := hbu HB hb9
      replace HZS := sz HZS hb9.size
      clear hb9
      have t_ := Ht.out.c1
      have o_ := Ho.out.c1
      have g_ := Hg.out.c3
      have o5_t_ := t_; clear t_
      have o5_o_ := o_; clear o_
      have o5_g_ := g_; clear g_
      obtain ⟨w5, hq5, hb9, hz9, Hd⟩ := new1 w4 26 [.string (TS askedB [CT s label, label])]
      replace Ht := Lib.hid (Ht.out.up hb9)
      replace Ho := Lib.hid (Ho.out.up hb9)
      replace Hg := Lib.hid (Hg.out.up hb9)
      replace HN6 := Lib.hid (HN6.out.up hb9)
      replace HB := hbu HB hb9
      replace HZS := sz HZS hz9.out
      clear hb9 hz9
      have t_ := Ht.out.c1
      have o_ := Ho.out.c1
      have g_ := Hg.out.c3
      have d_ := Hd.out.c1
      go_wp2_with fail
      clear hq5 o5_g_ o5_o_ o5_t_
      refine (refText_any _ _ a5 c5 (HD0.out _) HSZ.out w5 HN6.out).mono ?_
      rintro e w6 ⟨rfl, hb9⟩
      clear t_
      replace Ht := Lib.hid (Ht.out.up hb9)
      clear o_
      replace Ho := Lib.hid (Ho.out.up hb9)
      clear g_
      replace Hg := Lib.hid (Hg.out.up hb9)
      clear d_
      replace Hd := Lib.hid (Hd.out.up hb9)
      replace HN6 := Lib.hid (HN6.out.up hb9)
      replace HB := hbu HB hb9
      replace HZS := sz HZS hb9.size
      clear hb9
      have t_ := Ht.out.c1
      have o_ := Ho.out.c1
      have g_ := Hg.out.c3
      have d_ := Hd.out.c1
      go_wp2_with fail
      refine (lawText_ok _ w6).mono ?_
      rintro e w7 ⟨rfl, hb9⟩
      clear t_
      replace Ht := Lib.hid (Ht.out.up hb9)
      clear o_
      replace Ho := Lib.hid (Ho.out.up hb9)
      clear g_
      replace Hg := Lib.hid (Hg.out.up hb9)
      clear d_
      replace Hd := Lib.hid (Hd.out.up hb9)
      replace HN6 := Lib.hid (HN6.out.up hb9)
      replace HB := hbu HB hb9
      replace HZS := sz HZS hb9.size
      clear hb9
      have t_ := Ht.out.c1
      have o_ := Ho.out.c1
      have g_ := Hg.out.c3
      have d_ := Hd.out.c1
      go_wp2_with fail
      refine (HF5.out tb (CT s label) (by have := HCZ.out; omega) _ Ht.out).mono ?_
      rintro e wy ⟨rfl, ht, hk⟩
      have HB9 := Lib.hid (Below.keptP HB.out hk HB.out.size (fun q hq => hq ▸ HGE.out))
      clear ht hk
      go_wp2_with fail
      go_ret
      exact ⟨rfl, HB9.out⟩

theorem groupAsks_any (k : Int) (label : ByteArray) (bs : List ByteArray) (n : Nat) (hn : bs.length = n) (hn6 : n < 1152921504606846976) (a : Option Addr) (c : Nat) (hl : label.size < 140737488355328) (hxs : ∀ x ∈ bs, x.size < 140737488355328) (w : World) (hX : Sl w w.heap.size a (bs.map Value.string)) :
    Calls Try.prog 3 #[.int .i64 k, .string label, .slice a n c] w fun e w' => e = .returned (.bool true) ∧ Below w.heap.size w w' := by
  by_cases hk : 1 ≤ k ∧ k ≤ 3
  · obtain ⟨j, rfl⟩ : ∃ j : Nat, k = j := ⟨k.toNat, by omega⟩
    exact groupAsks_some j (by omega) (by omega) label bs n hn hn6 a c hl hxs w hX
  · exact groupAsks_none k hk label bs n hn hn6 a c hl hxs w hX
theorem Wt.str {H : Type} {enc : TypeId × Value → H} {P : Program} {w : World} {sp : Nat → Bool} {held : Bool} {t : TypeId} {fuel : Nat} {s : ByteArray} {y : DataW H × List MemPlace} (ht : P.underlying t = some .string) (hW : Wt P t y.1) (h : DataW.trod enc P w 0 sp held fuel t [.string s] = some y) : s.size ≤ reachBytes := by
  obtain ⟨s', hs, hy, _⟩ := DataW.trod_string ht h
  simp only [List.cons.injEq, and_true, Value.string.injEq] at hs
  subst hs
  rw [hy] at hW
  exact hW s.data.toList.length (by simp [DataW.weights])
/-- A cell that is a slice of strings, each string's size with it. -/
theorem open_strsZ {H : Type} {enc : TypeId × Value → H} {P : Program} {w : World} {sp : Nat → Bool} {held : Bool} {t e : TypeId} {fuel : Nat} {c : Value} {y : DataW H × List MemPlace} (ht : P.underlying t = some (.slice e)) (he : P.underlying e = some .string) (hk : P.cellsOf e = 1) (hW : Wt P t y.1) (h : DataW.trod enc P w 0 sp held fuel t [c] = some y) :
    ∃ (a : Option Addr) (cap : Nat) (bs : List ByteArray), c = .slice a bs.length cap ∧ bs.length * P.bytesOf e ≤ reachBytes ∧ Sl w w.heap.size a (bs.map Value.string) ∧ ∀ x ∈ bs, x.size ≤ reachBytes := by
  obtain ⟨a, cap, xs, h1, hb, hno, h2, h3⟩ := open_elsW (fun s : ByteArray => [Value.string s]) (fun s => s.size ≤ reachBytes) ht hk (by omega) hW (fun n l y' hl hw hy => by
    match l, hl with
    | [c'], _ =>
      obtain ⟨s, rfl⟩ := open_str he hy
      exact ⟨s, rfl, Wt.str he hw hy⟩) h
  refine ⟨a, cap, xs, h1, hb, ?_, h3⟩
  rw [← List.flatMap_singleton' (xs.map Value.string), List.flatMap_map]
  exact h2
theorem askStr_cells : Try.prog.cellsOf 9 = 1 := by kernel_rfl
theorem askStr_bytes : Try.prog.bytesOf 9 = 16 := by kernel_rfl
theorem reach_lt : reachBytes < 140737488355328 := by decide

set_option maxRecDepth 100000 in
theorem groupAsks_calls {H : Type} (enc : TypeId × Value → H) (W : World) (base : Nat) {v0 v1 v2 : Value} {d0 d1 d2 : DataW H} {p0 p1 p2 : List MemPlace}
    (h0 : DataW.Trod enc Try.prog W 0 (fun _ => true) true 3 v0 d0 p0) (h1 : DataW.Trod enc Try.prog W 0 (fun _ => true) true 9 v1 d1 p1) (h2 : DataW.Trod enc Try.prog W 0 (fun _ => true) true 22 v2 d2 p2)
    (k0 : Value.okWide Try.prog W .any base 3 v0) (k1 : Value.okWide Try.prog W .any base 9 v1) (k2 : Value.okWide Try.prog W .any base 22 v2)
    (_lt0 : ∀ x ∈ p0, x.block < W.heap.size) (_lt1 : ∀ x ∈ p1, x.block < W.heap.size) (_lt2 : ∀ x ∈ p2, x.block < W.heap.size)
    (hsz : (DataW.weightsEach Try.prog ([3, 9, 22] ++ Rows.groupAsksSpec.plain.varTypes Try.prog) ([d0, d1, d2] ++ [])).all (· ≤ reachBytes) = true) :
    Calls Try.prog 3 #[v0, v1, v2] W fun e w' => e = .returned (.bool true) ∧ Below W.heap.size W w' := by
  obtain ⟨k, rfl, _, _, _⟩ := open_int Try.underlying3 k0 h0
  obtain ⟨b2, n2, m2, rfl⟩ := okWide_slice Try.underlying22 k2
  obtain ⟨f1, h1⟩ := h1
  obtain ⟨f2, h2⟩ := h2
  obtain ⟨label, rfl, _⟩ := Go.ChangeMaps.open_string Try.underlying9 k1 ⟨f1, h1⟩
  obtain ⟨ax, cx, xs, e3, hx, hS, hz⟩ := open_strsZ Try.underlying22 Try.underlying9 askStr_cells (Wt.arg hsz (j := 2) rfl rfl) h2
  rw [askStr_bytes] at hx
  rw [e3]
  exact groupAsks_any k label xs xs.length rfl (by have := reach_lt; omega) ax cx (Nat.lt_of_le_of_lt (Wt.str Try.underlying9 (Wt.arg hsz (j := 1) rfl rfl) h1) reach_lt) (fun x hm => Nat.lt_of_le_of_lt (hz x hm) reach_lt) W hS

set_option maxRecDepth 100000 in
theorem groupAsks_lifted (os : Os) (started : os.Started) (H : Type) (enc : TypeId × Value → H) :
    ReturnsInHanded {} Try.checked os 3 .any (Rows.groupAsksSpec.pre6 enc Try.prog Try.f3 Rows.groupAsksRow.domain false) (Rows.groupAsksSpec.post enc Try.prog Try.f3 false true false false) := by
  refine returnsInHanded_of_change_sized (C := Try.checked) law_own started (by kernel_rfl) Try.func3
    (ChangeSpec.witness6 (enc := enc) (C := Try.checked) false ⟨#[], #[.int .i64 0, .string ⟨#[]⟩, .slice none 0 0], []⟩ 8 (by kernel_rfl) (by kernel_rfl) (by kernel_rfl) (by kernel_rfl)) ?_
  intro W base args ds gs before hval0 hW _ hsz0 _
  have hsz : (DataW.weightsEach Try.prog (Try.f3.params.toList ++ Rows.groupAsksSpec.plain.varTypes Try.prog) (ds ++ gs)).all (· ≤ reachBytes) = true := hsz0
  clear hsz0
  have hval : ∀ (j : Nat) t v, Try.f3.params[j]? = some t → args[j]? = some v → Value.okWide Try.prog W .any base t v := hval0
  have hW' := hW
  obtain ⟨p, q, hA0, hV, rfl, _, _⟩ := hW
  have hA : DataW.TrodAll enc Try.prog W 0 (fun _ => true) true Try.f3.params.toList args.toList ds p := hA0
  rw [Try.params3] at hA hval hsz
  obtain ⟨v0, vs0, d0, ds0, p0, q0, hargs, rfl, rfl, h0, r0⟩ := trodAll_cons hA
  obtain ⟨v1, vs1, d1, ds1, p1, q1, rfl, rfl, rfl, h1, r1⟩ := trodAll_cons r0
  obtain ⟨v2, vs2, d2, ds2, p2, q2, rfl, rfl, rfl, h2, r2⟩ := trodAll_cons r1
  obtain ⟨rfl, rfl, rfl⟩ := trodAll_nil r2
  obtain rfl : args = #[v0, v1, v2] := by cases args; simp_all
  obtain ⟨rfl, rfl⟩ := trodVars_none hV
  have lt0 : ∀ x ∈ p0, x.block < W.heap.size := by obtain ⟨m, hm⟩ := h0; exact DataW.trod_lt m _ _ _ hm
  have lt1 : ∀ x ∈ p1, x.block < W.heap.size := by obtain ⟨m, hm⟩ := h1; exact DataW.trod_lt m _ _ _ hm
  have lt2 : ∀ x ∈ p2, x.block < W.heap.size := by obtain ⟨m, hm⟩ := h2; exact DataW.trod_lt m _ _ _ hm
  clear hA0 hval0
  refine (groupAsks_calls enc W base h0 h1 h2 (hval 0 3 v0 rfl rfl) (hval 1 9 v1 rfl rfl) (hval 2 22 v2 rfl rfl) lt0 lt1 lt2 hsz).mono fun e W' ⟨he, bel⟩ => ?_
  subst he
  exact ⟨_, rfl, _, _, _, [], _, [], hW', trodAll_mk1 (shut_bool Try.underlying4 _), (trodAll_cons_mk (Below.trod law_laidOut (by kernel_rfl) (of_decide_eq_true (by kernel_rfl)) h0 bel lt0) (trodAll_cons_mk (Below.trod law_laidOut (by kernel_rfl) (of_decide_eq_true (by kernel_rfl)) h1 bel lt1) (trodAll_cons_mk (Below.trod law_laidOut (by kernel_rfl) (of_decide_eq_true (by kernel_rfl)) h2 bel lt2) trodAll_mk0))), rfl, bel.frame _, fun h => by cases h⟩

theorem groupAsks_holds : Rows.GroupAsksSaid :=
  OpenClaim.holds_of_wide 3 Try.f3 rfl rfl rfl rfl rfl rfl rfl ⟨rfl, rfl, rfl, rfl, rfl⟩ rfl rfl rfl rfl rfl (by kernel_rfl) Try.func3 (by kernel_rfl)
    (of_decide_eq_true (by kernel_rfl)) (by unfold Func.isWrapper; first | (rw [if_pos (by decide +kernel)]; kernel_rfl) | (rw [if_neg (by decide +kernel)]; exact ⟨rfl, rfl⟩))
    (fun os started H enc _ => groupAsks_lifted os started H enc)
#print axioms groupAsks_holds



end Go.Proofs.Ytdlnnkbigeiilaa
