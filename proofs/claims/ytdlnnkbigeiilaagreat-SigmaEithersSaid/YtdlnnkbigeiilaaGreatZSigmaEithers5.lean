/- Texts of this seat, one behind the other: what SigmaEithers leans on. No condition beyond those that each names. -/
import Derived.Test.YtdlnnkbigeiilaaGreatZSigmaEithers4
import Derived.Outline
import Derived.Deep.OwnRows
import Derived.Lib.Join

set_option maxRecDepth 100000
set_option maxHeartbeats 4000000
set_option linter.unusedVariables false
set_option linter.unusedSimpArgs false
namespace Go.Proofs.YtdlnnkbigeiilaaGreat
open Go.RowKit
def moreV (m : Option Nat) : Int := match m with | some k => (k : Int) | none => -1
def stpV (s : Stp) : List Value := [.int .i64 (s.a : Int), .int .i64 (s.o : Int), .int .i64 (moreV s.m), .int .i64 (s.t : Int)]
theorem stpV_len (s : Stp) : (stpV s).length = 4 := rfl
def halfL (r i : Nat) : List Stp := ((List.range r).flatMap rowL) ++ ((List.range i).flatMap fun i => quartL i (ordN r (2 * i)) (ordN r (2 * i + 1)))
theorem halfL_succ (r i : Nat) : halfL r (i + 1) = halfL r i ++ quartL i (ordN r (2 * i)) (ordN r (2 * i + 1)) := by
 unfold halfL
 rw [List.range_succ (n := i), List.flatMap_append, ← List.append_assoc]
 simp
theorem halfL_row (r : Nat) : halfL r 8 = halfL (r + 1) 0 := by
 unfold halfL
 rw [List.range_succ (n := r), List.flatMap_append]
 simp [rowL]
theorem halfL_all : halfL 10 0 = allL := by unfold halfL allL; simp
theorem infoStep : (Tryz.prog.info? 245).map (fun i => (i.zero, i.size, i.bytes)) = some (some (.agg #[.int .i64 0, .int .i64 0, .int .i64 0, .int .i64 0]), 4, 32) := by kernel_rfl
theorem rows_cell {W : World} {b : Nat} {t : TypeId} (h : Bx W b t rowsV) (r : Nat) (hr : r < 10) : W.cell? ⟨b, r, none⟩ = some (.string (rowB r)) := h.cell (by unfold rowsV; simp [hr])
theorem rowB_at (r i : Nat) (hi : i < 16) (hr : r < 10) (h : i < (rowB r).size) : ((rowB r)[i].toNat : Int) = (hexN (ordN r i) : Int) := by
 have gen : ∀ (l : List UInt8) (h : i < l.length), (⟨l.toArray⟩ : ByteArray)[i]'h = l[i] := fun l h => rfl
 have e : (rowB r)[i] = UInt8.ofNat (hexN (ordN r i)) := (gen _ (by simp; exact hi)).trans (by rw [List.getElem_map, List.getElem_range])
 have := ordN_lt hr hi
 rw [e, UInt8.toNat_ofNat_of_lt' (by show hexN _ < 256; unfold hexN; split <;> omega)]
theorem rowB_size (r : Nat) : (rowB r).size = 16 := by
 show (rowB r).data.size = 16
 unfold rowB
 simp
theorem run_index_str {P : Program} (w : World) (t : TypeId) (s : ByteArray) (i : Nat) (j : Int) (hj : j = (i : Int)) (hi : i < s.size) (x : Int) (hx : (s[i].toNat : Int) = x) (hu : P.underlying t = some .string) : (Instr.index t (.string s) (.int .i64 j)).run P w = .ok (.int .u8 x) w := by
 subst hj
 have e : s[i]? = some s[i] := getElem?_pos s i hi
 simp [Instr.index, asIntOf, run_underlying hu, e, hx]
theorem rowO_le {N : Nat} {w : World} {e : TypeId} {k : Nat} {g : Option Addr} {m n c : Nat} {xs : List Value} (h : RowO N w e k (.slice g m c) n xs) {x : Addr} (hx : g = some x) : N ≤ x.block := by
 subst hx
 exact (h.lt x.block rfl).1
def fourA (A B C D j : Nat) : List Value := [.int .i64 (A : Int), .int .i64 (B : Int), .int .i64 (j : Int), .int .i64 0, .int .i64 (D : Int), .int .i64 (A : Int), .int .i64 (-1), .int .i64 16, .int .i64 (C : Int), .int .i64 (D : Int), .int .i64 (-1), .int .i64 0, .int .i64 (B : Int), .int .i64 (C : Int), .int .i64 (-1), .int .i64 12]
def fourB (A B C D j : Nat) : List Value := [.int .i64 (A : Int), .int .i64 (B : Int), .int .i64 (j : Int), .int .i64 0, .int .i64 (D : Int), .int .i64 (A : Int), .int .i64 (-1), .int .i64 8, .int .i64 (C : Int), .int .i64 (D : Int), .int .i64 (-1), .int .i64 0, .int .i64 (B : Int), .int .i64 (C : Int), .int .i64 (-1), .int .i64 7]
theorem steps_snoc (r i : Nat) : (halfL r (i + 1)).flatMap stpV = (halfL r i).flatMap stpV ++ fourA (cA i) (cB i) (cC i) (cD i) (ordN r (2 * i)) ++ fourB (cA i) (cB i) (cC i) (cD i) (ordN r (2 * i + 1)) := by
 rw [halfL_succ, List.flatMap_append, List.append_assoc]
 rfl
theorem steps_any (w : World) : Calls Tryz.prog 186 #[] w fun e w' => ∃ a c, e = .returned (.slice a 640 c) ∧ Sl w' w'.heap.size a (allL.flatMap stpV) ∧ (∀ x, a = some x → w.heap.size ≤ x.block) ∧ Below w.heap.size w w' := by
 go_enter Tryz.func186, Tryz.ntmps186
 go_wp2_with fail
 refine (rows_any w).mono ?_
 rintro e w1 ⟨rb, rfl, hrb, _, hb9⟩
 have HB := Lib.hid hb9
 have HZS := Lib.hid hb9.size
 have Hb := Lib.hid hrb
 clear hrb hb9
 have HBS := Lib.hid HB.out.size
 have HB0 := HB
 have Hb0 := Hb
 have HRB := Lib.hid Hb.out.lt
 replace HZS := sz HZS HRB.out
 go_wp2_with fail
 go_loopw [10, 1] (fun c v wr => ∃ (r : Nat) (g : Option Addr) (cap : Nat), r ≤ 10 ∧ c = .int .i64 r ∧ v = .slice g (64 * r) cap ∧ Hid (Below w1.heap.size w1 wr) ∧ Hid (RowO w1.heap.size wr 245 4 (.slice g (64 * r) cap) (64 * r) ((halfL r 0).flatMap stpV))) (fun c _ _ => 10 - (intOf c).toNat)
 case atStart => exact ⟨0, none, 0, by omega, rfl, rfl, Lib.hid (Below.refl _ _), RowO.nil⟩
 case round =>
  obtain ⟨r, g, cap, hr, rfl, rfl, HL9, Hl⟩ := hrel
  clear HB Hb
  have HB := hbu HB0 HL9.out
  have Hb := Lib.hid (Hb0.out.up HL9.out)
  have HSW := Lib.hid HL9.out.size
  have BL := HL9
  clear HL9
  replace HZS := sz HZS HBS.out
  replace HZS := sz HZS HRB.out
  replace HZS := sz HZS HSW.out
  by_cases hr10 : r < 10
  ·have hdr : decide ((r : Int) < 10) = true := by simp; omega
   have c1 := rows_cell Hb.out r hr10
   have a1 : (0 : Int) ≤ (r : Int) := by omega
   have a2 : (r : Int) < 10 := by omega
   obtain ⟨wo, rfl⟩ : ∃ wo : World, wo = wr := ⟨_, rfl⟩
   go_wp2_with fail
   clear c1
   go_loopw [4, 1] (fun c v wr => ∃ (i : Nat) (g : Option Addr) (cap : Nat), i ≤ 8 ∧ c = .int .i64 i ∧ v = .slice g (64 * r + 8 * i) cap ∧ Hid (Below w1.heap.size w1 wr) ∧ Hid (RowO w1.heap.size wr 245 4 (.slice g (64 * r + 8 * i) cap) (64 * r + 8 * i) ((halfL r i).flatMap stpV))) (fun c _ _ => 8 - (intOf c).toNat)
   case atStart => exact ⟨0, _, _, by omega, rfl, rfl, BL, Hl⟩
   case round =>
    obtain ⟨i, g2, cap2, hi, rfl, rfl, HL9, Hl2⟩ := hrel
    clear HB Hb BL Hl
    have Hl := Hl2
    have HB := hbu HB0 HL9.out
    have Hb := Lib.hid (Hb0.out.up HL9.out)
    have HSV := Lib.hid HL9.out.size
    have BL := HL9
    clear HL9 Hl2
    replace HZS := sz HZS HBS.out
    replace HZS := sz HZS HRB.out
    replace HZS := sz HZS HSV.out
    by_cases hi8 : i < 8
    ·have HNP := Lib.hid Hl.out.lt
     have HST := Lib.hid (steps_snoc r i)
     have HF4 := Lib.hid (fun w => rfour_any i hi8 w)
     have hix1 := fun W => run_index_str (P := Tryz.prog) W 9 (rowB r) (2 * i) (2 * (i : Int)) (by omega) (by rw [rowB_size]; omega) _ (rowB_at r (2 * i) (by omega) hr10 (by rw [rowB_size]; omega)) Tryz.underlying9
     have hix2 := fun W => run_index_str (P := Tryz.prog) W 9 (rowB r) (2 * i + 1) (2 * (i : Int) + 1) (by omega) (by rw [rowB_size]; omega) _ (rowB_at r (2 * i + 1) (by omega) hr10 (by rw [rowB_size]; omega)) Tryz.underlying9
     have o1 : ordN r (2 * i) < 16 := ordN_lt hr10 (by omega)
     have o2 : ordN r (2 * i + 1) < 16 := ordN_lt hr10 (by omega)
     have HD1 := Lib.hid (fun w => digit_any (ordN r (2 * i)) o1 w)
     have HD2 := Lib.hid (fun w => digit_any (ordN r (2 * i + 1)) o2 w)
     generalize cA i = A at *
     generalize cB i = B at *
     generalize cC i = C at *
     generalize cD i = D at *
     generalize ordN r (2 * i) = j1 at *
     generalize ordN r (2 * i + 1) = j2 at *
     generalize hexN j1 = h1 at *
     generalize hexN j2 = h2 at *
     go_wp2_with fail
     refine (HF4.out wr).mono ?_
     rintro e w2 ⟨rfl, hb9⟩
     replace Hb := Lib.hid (Hb.out.up hb9)
     replace Hl := Lib.hid (Hl.out.up hb9)
     replace BL := hbu BL hb9
     replace HB := hbu HB hb9
     replace HZS := sz HZS hb9.size
     clear hb9
     obtain ⟨w3, hq3, hb9, hz9, Hp⟩ := new1 w2 252 [.int .i64 (A : Int), .int .i64 (B : Int), .int .i64 (C : Int), .int .i64 (D : Int)]
     replace Hb := Lib.hid (Hb.out.up hb9)
     replace Hl := Lib.hid (Hl.out.up hb9)
     replace BL := hbu BL hb9
     replace HB := hbu HB hb9
     replace HZS := sz HZS hz9.out
     clear hb9 hz9
     have p_ := Hp.out.c4
     go_wp2_with fail
     clear hq3
     have hl_p := Hp.out.lt
     refine wp_region_over (by kernel_rfl) (by kernel_rfl) ?_
     have hov_p := fun (E : Over w3) o => E.cell (b := w2.heap.size) o hl_p
     repeat (go_big_quiet_step (first | (go_at_call 192; exact calls_over ((by first | with_reducible exact HD1.out _ | with_reducible exact HD2.out _)))))
     all_goals (try unfold elV limbV)
     repeat (go_big_quiet_step (first | (go_at_call 192; exact calls_over ((by first | with_reducible exact HD1.out _ | with_reducible exact HD2.out _)))))
     all_goals (try unfold elV limbV)
     repeat (go_big_quiet_step (first | (go_at_call 192; exact calls_over ((by first | with_reducible exact HD1.out _ | with_reducible exact HD2.out _)))))
     all_goals (try unfold ciphV)
     refine wpQuiet_nil ?_
     rintro _ ⟨E, rfl⟩
     clear hov_p hl_p
     replace Hb := Lib.hid (Hb.out.up E.h)
     clear p_
     replace Hp := Lib.hid (Hp.out.up E.h)
     replace Hl := Lib.hid (Hl.out.up E.h)
     replace BL := hbu BL E.h
     replace HB := hbu HB E.h
     replace HZS := sz HZS E.h.size
     obtain ⟨w4, hq9⟩ : ∃ W9 : World, E.w = W9 := ⟨_, rfl⟩
     rw [hq9] at Hb Hp Hl BL HB HZS ⊢
     clear hq9 E
     have p_ := Hp.out.c4
     clear hix1 hix2
     obtain ⟨i9, hi9, hz90, hz91, hz92⟩ := info_parts infoStep
     go_wp2_with (at_builtin; refine wpList_pushM (w1.heap.size) w4 (by have g0 := HZS.out; omega) rfl _ _ 242 rfl 245 i9 _ 4 32 4 Tryz.underlying242 hi9 hz90 hz91 hz92 rfl (by omega) (by omega) ((.slice g2 (64 * r + 8 * i) cap2)) ((64 * r + 8 * i)) (((halfL r i).flatMap stpV)) rfl Hl.out _ _ _ rfl rfl rfl (by simp [Value.oneCell']) (by omega) (by unfold maxLen; omega) ?_)
     intro g5 c5 w5 hown9 hg9
     clear p_
     have hb9 := Below.grown HB.out hg9 (by have g0 := HZS.out; omega) (fun q hq => Nat.le_trans (show w.heap.size ≤ w1.heap.size by have g0 := HZS.out; omega) (Hl.out.lt q hq).1)
     replace Hb := Lib.hid (Hb.out.grown hg9 (fun e9 => by have a2 := HNP.out _ e9; have a1 := Hl.out.lt _ e9; have g0 := HZS.out; omega))
     replace Hp := Lib.hid (Hp.out.grown hg9 (fun e9 => by have a2 := HNP.out _ e9; have a1 := Hl.out.lt _ e9; have g0 := HZS.out; omega))
     replace BL := Lib.hid (Below.grown BL.out hg9 (by have g0 := HZS.out; omega) (fun q hq => Nat.le_trans (show w1.heap.size ≤ w1.heap.size by have g0 := HZS.out; omega) (Hl.out.lt q hq).1))
     replace HZS := sz HZS hg9.size
     clear Hl HB
     have Hl := Lib.hid hown9
     have HB := Lib.hid hb9
     clear hb9 hown9 hg9 hi9 hz90 hz91 hz92
     have p_ := Hp.out.c4
     have HQ := Lib.hid (Hl.out.eq (ys := (halfL r i).flatMap stpV ++ fourA A B C D j1) (m := 64 * r + 8 * i + 4) (by simp [fourA]) rfl)
     clear Hl HNP
     have Hl := HQ
     clear HQ
     go_upto_region 11 with (fail)
     obtain ⟨i9, hi9, hz90, hz91, hz92⟩ := info_parts infoStep
     go_wp2_with (at_builtin; refine wpList_pushM (w1.heap.size) w5 (by have g0 := HZS.out; omega) rfl _ _ 242 rfl 245 i9 _ 4 32 4 Tryz.underlying242 hi9 hz90 hz91 hz92 rfl (by omega) (by omega) ((.slice (some ⟨g5, 0, none⟩) ((64 * r + 8 * i) + 4) c5)) ((64 * r + 8 * i + 4)) (((halfL r i).flatMap stpV ++ fourA A B C D j1)) rfl Hl.out _ _ _ rfl rfl rfl (by simp [Value.oneCell']) (by omega) (by unfold maxLen; omega) ?_)
     intro g6 c6 w6 hown9 hg9
     clear p_ Hp
     have hb9 := Below.grown HB.out hg9 (by have g0 := HZS.out; omega) (fun q hq => Nat.le_trans (show w.heap.size ≤ w1.heap.size by have g0 := HZS.out; omega) (Hl.out.lt q hq).1)
     replace Hb := Lib.hid (Hb.out.grown hg9 (fun e9 => by have a1 := Hl.out.lt _ e9; have g0 := HZS.out; omega))
     replace BL := Lib.hid (Below.grown BL.out hg9 (by have g0 := HZS.out; omega) (fun q hq => Nat.le_trans (show w1.heap.size ≤ w1.heap.size by have g0 := HZS.out; omega) (Hl.out.lt q hq).1))
     replace HZS := sz HZS hg9.size
     clear Hl HB
     have Hl := Lib.hid hown9
     have HB := Lib.hid hb9
     clear hb9 hown9 hg9 hi9 hz90 hz91 hz92
     have HQ := Lib.hid (Hl.out.eq (ys := (halfL r (i + 1)).flatMap stpV) (m := 64 * r + 8 * (i + 1)) (by rw [HST.out]; simp [fourB]) rfl)
     go_wp2_with fail
     exact ⟨⟨i + 1, _, _, by omega, by go_num, rfl, BL, HQ⟩, by simp [intOf]; omega⟩
    ·have hi8' : i = 8 := by omega
     subst hi8'
     have HQ := Lib.hid (Hl.out.eq (ys := (halfL (r + 1) 0).flatMap stpV) (m := 64 * (r + 1)) (by rw [halfL_row]) rfl)
     go_wp2_with fail
     go_roundw
     case rel => exact ⟨r + 1, _, _, by omega, by go_num, rfl, BL, HQ⟩
     case measure => simp [intOf]; omega
  ·have hr10' : r = 10 := by omega
   subst hr10'
   rw [halfL_all] at Hl
   go_wp2_with fail
   go_ret
   exact ⟨_, _, rfl, Hl.out.sl, fun x hx => Nat.le_trans HBS.out (rowO_le Hl.out hx), HB.out⟩
end Go.Proofs.YtdlnnkbigeiilaaGreat
namespace Go.Proofs.YtdlnnkbigeiilaaGreat
open Go.RowKit
def okStp (s : Stp) : Bool := decide (s.a < 16) && decide (s.o < 16) && (match s.m with | some j => decide (j < 16) | none => true) && (decide (s.t = 0) || decide (s.t ≤ 16))
theorem allL_ok : allL.all okStp = true := by decide +kernel
theorem allL_len : allL.length = 640 := by decide +kernel
def partS (m v : WL) (k : Nat) : WL := (allL.take k).foldl (stepB m) v
theorem partS_len (m v : WL) (k : Nat) : (partS m v k).length = v.length := steps_len _ _ _
theorem partS_succ (m v : WL) (k : Nat) (h : k < allL.length) : partS m v (k + 1) = stepB m (partS m v k) allL[k] := by
 unfold partS
 rw [List.take_succ_eq_append_getElem h, List.foldl_append]
 rfl
theorem partS_all (m v : WL) : partS m v 640 = stirB v m := by
 unfold partS stirB
 rw [List.take_of_length_le (by rw [allL_len]; exact Nat.le_refl _)]
theorem rStir_any (v m : WL) (hv : v.length = 16) (hm : m.length = 16) (w : World) :
  Calls Tryz.prog 183 #[.agg (wlV v).toArray, .agg (wlV m).toArray] w fun e w' => e = .returned (.agg (wlV (stirB v m)).toArray) ∧ Below w.heap.size w w' := by
 have HV := Lib.hid hv
 have HM := Lib.hid hm
 clear hv hm
 have hz : (#[.int .u32 0, .int .u32 0, .int .u32 0, .int .u32 0, .int .u32 0, .int .u32 0, .int .u32 0, .int .u32 0, .int .u32 0, .int .u32 0, .int .u32 0, .int .u32 0, .int .u32 0, .int .u32 0, .int .u32 0, .int .u32 0] : Array Value) = (wlV (zw 16)).toArray := rfl
 go_enter Tryz.func183, Tryz.ntmps183
 go_upto_region 1 with (fail)
 obtain ⟨w1, hq1, hb9, hz9, Ha, Hb, Hr⟩ := new3 w 230 (wlV v) 230 (wlV m) 230 (wlV (zw 16))
 rw [hq1]
 clear hq1
 have HB := Lib.hid hb9
 have HZS := hz9
 clear hb9 hz9 hz
 go_wp2_with fail
 refine (steps_any w1).mono ?_
 rintro e w2 ⟨sa, sc, rfl, hsl, hsf, hb9⟩
 replace Ha := Lib.hid (Ha.out.up hb9)
 replace Hb := Lib.hid (Hb.out.up hb9)
 replace Hr := Lib.hid (Hr.out.up hb9)
 replace HB := hbu HB hb9
 replace HZS := sz HZS hb9.size
 have HSL := Lib.hid hsl
 clear hsl
 have HSF := Lib.hid hsf
 clear hsf hb9
 have HK := Lib.hid (Kept.refl (fun q9 => q9 = w.heap.size) w2)
 go_wp2_with fail
 go_loopw [9] (fun c wr => ∃ k : Nat, k ≤ 640 ∧ c = .int .i64 k ∧ Hid (Bx wr w.heap.size 230 (wlV (partS m v k))) ∧ Hid (Kept (fun q9 => q9 = w.heap.size) w2 wr)) (fun c _ => 640 - (intOf c).toNat)
 case atStart => exact ⟨0, by omega, rfl, Ha, HK⟩
 case round =>
  obtain ⟨k, hk, rfl, HQ, HK1⟩ := hrel
  clear HK
  have HSK := Lib.hid (HSL.out.kept HK1.out (fun x hx => by have h1 := HSF.out x hx; have g0 := HZS.out; omega))
  have hg9 := HK1.out
  clear Ha
  replace Hb := Lib.hid (Hb.out.keptP hg9 (show ¬ (w.heap.size + 1 = w.heap.size) by have g0 := HZS.out; omega))
  replace Hr := Lib.hid (Hr.out.keptP hg9 (show ¬ (w.heap.size + 2 = w.heap.size) by have g0 := HZS.out; omega))
  replace HB := Lib.hid (Below.keptP HB.out hg9 (by have g0 := HZS.out; omega) (fun q9 h9 => (show w.heap.size ≤ _ by subst h9; have g0 := HZS.out; omega)))
  replace HZS := sz HZS (show w2.heap.size ≤ wr.heap.size from hg9.size)
  clear hg9
  have Ha := HQ
  clear HQ
  have HAL := Lib.hid (show (partS m v k).length = 16 by rw [partS_len]; exact HV.out)
  by_cases hk6 : k < 640
  ·have hkl : k < allL.length := by rw [allL_len]; exact hk6
   have HS := Lib.hid (partS_succ m v k hkl)
   have HOK := Lib.hid (List.all_eq_true.1 allL_ok _ (List.getElem_mem hkl))
   obtain ⟨xb, xo, rfl, hxl, hxc⟩ := HSK.out.elem stpV_len (by decide) k hkl
   have HXC := Lib.hid hxc
   clear hxc
   generalize allL[k] = s at *
   generalize partS m v k = V at *
   obtain ⟨A, O, M, t⟩ := s
   have hA : A < 16 := by have := HOK.out; simp [okStp] at this; omega
   have hO : O < 16 := by have := HOK.out; simp [okStp] at this; omega
   have ht : t ≤ 16 := by have := HOK.out; simp [okStp] at this; omega
   have hc0 := HXC.out 0 _ rfl
   have hc1 := HXC.out 1 _ rfl
   have hc2 := HXC.out 2 _ rfl
   have hc3 := HXC.out 3 _ rfl
   rw [Nat.add_zero] at hc0
   have a1 : (0 : Int) ≤ (A : Int) := by omega
   have a2 : (A : Int) < 16 := by omega
   have a3 : (0 : Int) ≤ (O : Int) := by omega
   have a4 : (O : Int) < 16 := by omega
   have k1 : (0 : Int) ≤ (k : Int) := by omega
   have k2 : (k : Int) < 640 := by omega
   by_cases ht0 : t = 0
   ·subst ht0
    cases M
    case none =>
     have hst : stepB m V ⟨A, O, none, 0⟩ = V.set A (V.getD A 0 + V.getD O 0) := by unfold stepB; rw [if_pos rfl]; simp
     have HSB := Lib.hid (HS.out.trans hst)
     clear HS hst
     have hd2 : wr.cell? ⟨xb, xo + k * 4 + 2, none⟩ = some (.int .i64 (-1)) := hc2
     have hd3 : wr.cell? ⟨xb, xo + k * 4 + 3, none⟩ = some (.int .i64 (0)) := hc3
     clear hc2 hc3
     go_wp2_with fail
     obtain ⟨w3, hq3, hb9, hz9, Hs⟩ := new1 wr 245 [.int .i64 (A : Int), .int .i64 (O : Int), .int .i64 (-1), .int .i64 (0)]
     rw [hq3]
     clear hq3
     replace Hb := Lib.hid (Hb.out.up hb9)
     replace Hr := Lib.hid (Hr.out.up hb9)
     replace Ha := Lib.hid (Ha.out.up hb9)
     replace HK1 := Lib.hid (Kept.up HK1.out hb9)
     replace HB := hbu HB hb9
     replace HZS := sz HZS hz9.out
     clear hb9 hz9
     have s_ := Hs.out.c4
     clear hc0 hc1 hd2 hd3
     have cA1 := wl_cell Ha.out A (by rw [HAL.out]; exact hA)
     have cO1 := wl_cell Ha.out O (by rw [HAL.out]; exact hO)
     obtain ⟨x, hx⟩ : ∃ x, V.getD A 0 = x := ⟨_, rfl⟩
     obtain ⟨y, hy⟩ : ∃ y, V.getD O 0 = y := ⟨_, rfl⟩
     rw [hx] at cA1
     rw [hy] at cO1
     have g1 := add32 x y
     obtain ⟨u, e1⟩ : ∃ u, x + y = u := ⟨_, rfl⟩
     rw [e1] at g1
     have hl_s := Hs.out.lt
     refine wp_region_otail 12 (by kernel_rfl) (by kernel_rfl) ?_
     simp only [List.take_succ_cons, List.take_zero, List.drop_succ_cons, List.drop_zero]
     have hov_s := fun (E : Over w3) o => E.cell (b := wr.heap.size) o hl_s
     have hov_w_heap_size := fun (E : Over w3) o => E.cell (b := w.heap.size) o Ha.out.lt
     repeat (go_big_quiet_step (first | fail))
     all_goals (try unfold elV limbV)
     repeat (go_big_quiet_step (first | fail))
     all_goals (try unfold elV limbV)
     repeat (go_big_quiet_step (first | fail))
     all_goals (try unfold ciphV)
     refine wpQuiet_nil ?_
     rintro _ ⟨E, rfl⟩
     clear hov_s hl_s hov_w_heap_size
     replace Hb := Lib.hid (Hb.out.up E.h)
     replace Hr := Lib.hid (Hr.out.up E.h)
     replace Ha := Lib.hid (Ha.out.up E.h)
     clear s_
     replace Hs := Lib.hid (Hs.out.up E.h)
     replace HK1 := Lib.hid (Kept.up HK1.out E.h)
     replace HB := hbu HB E.h
     replace HZS := sz HZS E.h.size
     obtain ⟨w4, hq9⟩ : ∃ W9 : World, E.w = W9 := ⟨_, rfl⟩
     rw [hq9] at Hb Hr Ha Hs HK1 HB HZS ⊢
     clear hq9 E
     have s_ := Hs.out.c4
     clear cA1 cO1
     have cA1 := Ha.out.cell (wlV_get V A (by rw [HAL.out]; exact hA))
     have f5_a := Ha.out.frozen
     have o5_s_ := s_; clear s_
     obtain ⟨w5, hq5, hg9, hz9, hx9⟩ := put1 Ha A (.int .u32 (u.toNat : Int)) _ rfl
     replace Hb := Lib.hid (Hb.out.grown hg9.out (sne (by have g0 := HZS.out; omega)))
     replace Hr := Lib.hid (Hr.out.grown hg9.out (sne (by have g0 := HZS.out; omega)))
     replace Hs := Lib.hid (Hs.out.grown hg9.out (sne (by have g0 := HZS.out; omega)))
     replace HK1 := Lib.hid (Kept.grown HK1.out hg9.out (fun q9 e9 => by obtain rfl := Option.some.inj e9; exact Or.inr (rfl)))
     replace HB := hbg HB hg9 (by have g0 := HZS.out; omega)
     replace HZS := sz HZS hz9.out
     replace Ha := hx9
     clear hx9 hg9 hz9
     have s_ := Hs.out.c4
     replace Ha := Lib.hid Ha.out.wset
     rw [hx, hy, e1] at HSB
     have HQ := Lib.hid (show Bx w5 w.heap.size 230 (wlV (partS m v (k + 1))) from by rw [HSB.out]; exact Ha.out)
     clear hx hy e1
     go_wp2_with fail
     clear hq5 o5_s_ f5_a cA1 g1
     go_roundw
     case rel => exact ⟨k + 1, by omega, by go_num, HQ, HK1⟩
     case measure => simp [intOf]; omega
    case some j =>
     have hj : j < 16 := by have := HOK.out; simp [okStp] at this; omega
     have hst : stepB m V ⟨A, O, some j, 0⟩ = V.set A (V.getD A 0 + V.getD O 0 + m.getD j 0) := by unfold stepB; rw [if_pos rfl]
     have HSB := Lib.hid (HS.out.trans hst)
     clear HS hst
     have hd2 : wr.cell? ⟨xb, xo + k * 4 + 2, none⟩ = some (.int .i64 ((j : Int))) := hc2
     have hd3 : wr.cell? ⟨xb, xo + k * 4 + 3, none⟩ = some (.int .i64 (0)) := hc3
     clear hc2 hc3
     go_wp2_with fail
     obtain ⟨w3, hq3, hb9, hz9, Hs⟩ := new1 wr 245 [.int .i64 (A : Int), .int .i64 (O : Int), .int .i64 ((j : Int)), .int .i64 (0)]
     rw [hq3]
     clear hq3
     replace Hb := Lib.hid (Hb.out.up hb9)
     replace Hr := Lib.hid (Hr.out.up hb9)
     replace Ha := Lib.hid (Ha.out.up hb9)
     replace HK1 := Lib.hid (Kept.up HK1.out hb9)
     replace HB := hbu HB hb9
     replace HZS := sz HZS hz9.out
     clear hb9 hz9
     have s_ := Hs.out.c4
     clear hc0 hc1 hd2 hd3
     have cA1 := wl_cell Ha.out A (by rw [HAL.out]; exact hA)
     have cO1 := wl_cell Ha.out O (by rw [HAL.out]; exact hO)
     obtain ⟨x, hx⟩ : ∃ x, V.getD A 0 = x := ⟨_, rfl⟩
     obtain ⟨y, hy⟩ : ∃ y, V.getD O 0 = y := ⟨_, rfl⟩
     rw [hx] at cA1
     rw [hy] at cO1
     have g1 := add32 x y
     obtain ⟨u, e1⟩ : ∃ u, x + y = u := ⟨_, rfl⟩
     rw [e1] at g1
     have hl_s := Hs.out.lt
     refine wp_region_otail 12 (by kernel_rfl) (by kernel_rfl) ?_
     simp only [List.take_succ_cons, List.take_zero, List.drop_succ_cons, List.drop_zero]
     have hov_s := fun (E : Over w3) o => E.cell (b := wr.heap.size) o hl_s
     have hov_w_heap_size := fun (E : Over w3) o => E.cell (b := w.heap.size) o Ha.out.lt
     repeat (go_big_quiet_step (first | fail))
     all_goals (try unfold elV limbV)
     repeat (go_big_quiet_step (first | fail))
     all_goals (try unfold elV limbV)
     repeat (go_big_quiet_step (first | fail))
     all_goals (try unfold ciphV)
     refine wpQuiet_nil ?_
     rintro _ ⟨E, rfl⟩
     clear hov_s hl_s hov_w_heap_size
     replace Hb := Lib.hid (Hb.out.up E.h)
     replace Hr := Lib.hid (Hr.out.up E.h)
     replace Ha := Lib.hid (Ha.out.up E.h)
     clear s_
     replace Hs := Lib.hid (Hs.out.up E.h)
     replace HK1 := Lib.hid (Kept.up HK1.out E.h)
     replace HB := hbu HB E.h
     replace HZS := sz HZS E.h.size
     obtain ⟨w4, hq9⟩ : ∃ W9 : World, E.w = W9 := ⟨_, rfl⟩
     rw [hq9] at Hb Hr Ha Hs HK1 HB HZS ⊢
     clear hq9 E
     have s_ := Hs.out.c4
     clear cA1 cO1
     have cA1 := Ha.out.cell (wlV_get V A (by rw [HAL.out]; exact hA))
     have f5_a := Ha.out.frozen
     have o5_s_ := s_; clear s_
     obtain ⟨w5, hq5, hg9, hz9, hx9⟩ := put1 Ha A (.int .u32 (u.toNat : Int)) _ rfl
     replace Hb := Lib.hid (Hb.out.grown hg9.out (sne (by have g0 := HZS.out; omega)))
     replace Hr := Lib.hid (Hr.out.grown hg9.out (sne (by have g0 := HZS.out; omega)))
     replace Hs := Lib.hid (Hs.out.grown hg9.out (sne (by have g0 := HZS.out; omega)))
     replace HK1 := Lib.hid (Kept.grown HK1.out hg9.out (fun q9 e9 => by obtain rfl := Option.some.inj e9; exact Or.inr (rfl)))
     replace HB := hbg HB hg9 (by have g0 := HZS.out; omega)
     replace HZS := sz HZS hz9.out
     replace Ha := hx9
     clear hx9 hg9 hz9
     have s_ := Hs.out.c4
     replace Ha := Lib.hid Ha.out.wset
     have j1 : (0 : Int) ≤ (j : Int) := by omega
     have j2 : (j : Int) < 16 := by omega
     go_upto_region 8 with (fail)
     clear cA1 g1
     have hA2 : A < (V.set A u).length := by rw [List.length_set, HAL.out]; exact hA
     have cA1 := wl_cell Ha.out A hA2
     have cM1 := wl_cell Hb.out j (by rw [HM.out]; exact hj)
     rw [set_same V A u (by rw [HAL.out]; exact hA)] at cA1
     obtain ⟨z, hz⟩ : ∃ z, m.getD j 0 = z := ⟨_, rfl⟩
     rw [hz] at cM1
     have g1 := add32 u z
     obtain ⟨u2, e2⟩ : ∃ u2, u + z = u2 := ⟨_, rfl⟩
     rw [e2] at g1
     have hl_s := Hs.out.lt
     refine wp_region_otail 12 (by kernel_rfl) (by kernel_rfl) ?_
     simp only [List.take_succ_cons, List.take_zero, List.drop_succ_cons, List.drop_zero]
     have hov_s := fun (E : Over w5) o => E.cell (b := wr.heap.size) o hl_s
     have hov_w_heap_size := fun (E : Over w5) o => E.cell (b := w.heap.size) o Ha.out.lt
     have hov_w_heap_size___1 := fun (E : Over w5) o => E.cell (b := w.heap.size + 1) o Hb.out.lt
     repeat (go_big_quiet_step (first | fail))
     all_goals (try unfold elV limbV)
     repeat (go_big_quiet_step (first | fail))
     all_goals (try unfold elV limbV)
     repeat (go_big_quiet_step (first | fail))
     all_goals (try unfold ciphV)
     refine wpQuiet_nil ?_
     rintro _ ⟨E, rfl⟩
     clear hov_s hl_s hov_w_heap_size hov_w_heap_size___1
     replace Hb := Lib.hid (Hb.out.up E.h)
     replace Hr := Lib.hid (Hr.out.up E.h)
     replace Ha := Lib.hid (Ha.out.up E.h)
     clear s_
     replace Hs := Lib.hid (Hs.out.up E.h)
     replace HK1 := Lib.hid (Kept.up HK1.out E.h)
     replace HB := hbu HB E.h
     replace HZS := sz HZS E.h.size
     obtain ⟨w6, hq9⟩ : ∃ W9 : World, E.w = W9 := ⟨_, rfl⟩
     rw [hq9] at Hb Hr Ha Hs HK1 HB HZS ⊢
     clear hq9 E
     have s_ := Hs.out.c4
     clear cA1 cM1
     have cA1 := Ha.out.cell (wlV_get (V.set A u) A hA2)
     have f7_a := Ha.out.frozen
     have o7_s_ := s_; clear s_
     obtain ⟨w7, hq7, hg9, hz9, hx9⟩ := put1 Ha A (.int .u32 (u2.toNat : Int)) _ rfl
     replace Hb := Lib.hid (Hb.out.grown hg9.out (sne (by have g0 := HZS.out; omega)))
     replace Hr := Lib.hid (Hr.out.grown hg9.out (sne (by have g0 := HZS.out; omega)))
     replace Hs := Lib.hid (Hs.out.grown hg9.out (sne (by have g0 := HZS.out; omega)))
     replace HK1 := Lib.hid (Kept.grown HK1.out hg9.out (fun q9 e9 => by obtain rfl := Option.some.inj e9; exact Or.inr (rfl)))
     replace HB := hbg HB hg9 (by have g0 := HZS.out; omega)
     replace HZS := sz HZS hz9.out
     replace Ha := hx9
     clear hx9 hg9 hz9
     have s_ := Hs.out.c4
     replace Ha := Lib.hid Ha.out.wset
     rw [hx, hy, e1, hz, e2] at HSB
     have HQ := Lib.hid (show Bx w7 w.heap.size 230 (wlV (partS m v (k + 1))) from by rw [HSB.out]; have h9 := Ha.out; rwa [List.set_set] at h9)
     clear hx hy e1 hz e2
     go_wp2_with fail
     clear hq7 o7_s_ f7_a hq5 o5_s_ f5_a cA1 g1
     go_roundw
     case rel => exact ⟨k + 1, by omega, by go_num, HQ, HK1⟩
     case measure => simp [intOf]; omega
   ·have htd : 0 < t := by omega
    have hst : stepB m V ⟨A, O, M, t⟩ = V.set A (rotB (V.getD A 0 ^^^ V.getD O 0) t) := by unfold stepB; rw [if_neg ht0]
    have HSB := Lib.hid (HS.out.trans hst)
    clear HS hst HOK
    simp only [] at hc0 hc1 hc2 hc3
    generalize moreV M = mm at *
    have hd2 : wr.cell? ⟨xb, xo + k * 4 + 2, none⟩ = some (.int .i64 (mm)) := hc2
    have hd3 : wr.cell? ⟨xb, xo + k * 4 + 3, none⟩ = some (.int .i64 ((t : Int))) := hc3
    clear hc2 hc3
    go_wp2_with fail
    obtain ⟨w3, hq3, hb9, hz9, Hs⟩ := new1 wr 245 [.int .i64 (A : Int), .int .i64 (O : Int), .int .i64 (mm), .int .i64 ((t : Int))]
    rw [hq3]
    clear hq3
    replace Hb := Lib.hid (Hb.out.up hb9)
    replace Hr := Lib.hid (Hr.out.up hb9)
    replace Ha := Lib.hid (Ha.out.up hb9)
    replace HK1 := Lib.hid (Kept.up HK1.out hb9)
    replace HB := hbu HB hb9
    replace HZS := sz HZS hz9.out
    clear hb9 hz9
    have s_ := Hs.out.c4
    clear hc0 hc1 hd2 hd3
    have cA1 := wl_cell Ha.out A (by rw [HAL.out]; exact hA)
    have cO1 := wl_cell Ha.out O (by rw [HAL.out]; exact hO)
    obtain ⟨x, hx⟩ : ∃ x, V.getD A 0 = x := ⟨_, rfl⟩
    obtain ⟨y, hy⟩ : ∃ y, V.getD O 0 = y := ⟨_, rfl⟩
    rw [hx] at cA1
    rw [hy] at cO1
    have g1 := bits_xor x y
    obtain ⟨z, e1⟩ : ∃ z, x ^^^ y = z := ⟨_, rfl⟩
    rw [e1] at g1
    have HR := Lib.hid (fun w => right_any z t ht w)
    obtain ⟨u, e2⟩ : ∃ u, rotB z t = u := ⟨_, rfl⟩
    rw [e2] at HR
    rw [hx, hy, e1, e2] at HSB
    clear hx hy e1 e2
    have hl_s := Hs.out.lt
    refine wp_region_otail 15 (by kernel_rfl) (by kernel_rfl) ?_
    simp only [List.take_succ_cons, List.take_zero, List.drop_succ_cons, List.drop_zero]
    have hov_s := fun (E : Over w3) o => E.cell (b := wr.heap.size) o hl_s
    have hov_w_heap_size := fun (E : Over w3) o => E.cell (b := w.heap.size) o Ha.out.lt
    repeat (go_big_quiet_step (first | (go_at_call 187; exact calls_over (HR.out _))))
    all_goals (try unfold elV limbV)
    repeat (go_big_quiet_step (first | (go_at_call 187; exact calls_over (HR.out _))))
    all_goals (try unfold elV limbV)
    repeat (go_big_quiet_step (first | (go_at_call 187; exact calls_over (HR.out _))))
    all_goals (try unfold ciphV)
    refine wpQuiet_nil ?_
    rintro _ ⟨E, rfl⟩
    clear hov_s hl_s hov_w_heap_size
    replace Hb := Lib.hid (Hb.out.up E.h)
    replace Hr := Lib.hid (Hr.out.up E.h)
    replace Ha := Lib.hid (Ha.out.up E.h)
    clear s_
    replace Hs := Lib.hid (Hs.out.up E.h)
    replace HK1 := Lib.hid (Kept.up HK1.out E.h)
    replace HB := hbu HB E.h
    replace HZS := sz HZS E.h.size
    obtain ⟨w4, hq9⟩ : ∃ W9 : World, E.w = W9 := ⟨_, rfl⟩
    rw [hq9] at Hb Hr Ha Hs HK1 HB HZS ⊢
    clear hq9 E
    have s_ := Hs.out.c4
    clear cA1 cO1 HR
    have cA1 := Ha.out.cell (wlV_get V A (by rw [HAL.out]; exact hA))
    have f5_a := Ha.out.frozen
    have o5_s_ := s_; clear s_
    obtain ⟨w5, hq5, hg9, hz9, hx9⟩ := put1 Ha A (.int .u32 (u.toNat : Int)) _ rfl
    replace Hb := Lib.hid (Hb.out.grown hg9.out (sne (by have g0 := HZS.out; omega)))
    replace Hr := Lib.hid (Hr.out.grown hg9.out (sne (by have g0 := HZS.out; omega)))
    replace Hs := Lib.hid (Hs.out.grown hg9.out (sne (by have g0 := HZS.out; omega)))
    replace HK1 := Lib.hid (Kept.grown HK1.out hg9.out (fun q9 e9 => by obtain rfl := Option.some.inj e9; exact Or.inr (rfl)))
    replace HB := hbg HB hg9 (by have g0 := HZS.out; omega)
    replace HZS := sz HZS hz9.out
    replace Ha := hx9
    clear hx9 hg9 hz9
    have s_ := Hs.out.c4
    replace Ha := Lib.hid Ha.out.wset
    have HQ := Lib.hid (show Bx w5 w.heap.size 230 (wlV (partS m v (k + 1))) from by rw [HSB.out]; exact Ha.out)
    go_wp2_with fail
    clear hq5 o5_s_ f5_a cA1 g1
    go_roundw
    case rel => exact ⟨k + 1, by omega, by go_num, HQ, HK1⟩
    case measure => simp [intOf]; omega
  ·have hk' : k = 640 := by omega
   subst hk'
   rw [partS_all] at Ha
   have HSL2 := Lib.hid (stirB_len v m)
   obtain ⟨S, hS⟩ : ∃ S, stirB v m = S := ⟨_, rfl⟩
   rw [hS] at Ha HSL2
   have HSE := Lib.hid hS
   clear hS
   have HSI := Lib.hid (show (Tryz.prog.info? 230).map (·.size) = some (wlV S).length by rw [wlV_len, HSL2.out, HV.out]; exact info16)
   have HZ := Lib.hid (show (wlV S).length = (wlV (zw 16)).length by rw [wlV_len, wlV_len, HSL2.out, HV.out]; rfl)
   obtain ⟨wz, hqz, hgz, hzz, hrz⟩ := puts Hr 0 (wlV S) (wlV S) (putL_all _ _ HZ.out)
   have HBZ := hbg HB hgz (by omega)
   go_wp2_with (first | refine wpList_load_mid rfl 230 (.tmp 2) rfl w.heap.size 0 rfl (wlV S) _ Ha.out.range Tryz.underlying230 rfl HSI.out ?_ | refine wpList_store_mid rfl 230 (.tmp 4) (.tmp 59) rfl (w.heap.size + 2) 0 (wlV S).toArray rfl rfl (Hr.out.there (by simp [HZ.out])) (by simpa using HSI.out) (all_oneCell_toArray (wl_one S)) ?_)
   rw [hqz]
   exact ret_arr Tryz.results183 hrz.out _ rfl Tryz.underlying230 rfl HSI.out rfl ⟨by rw [HSE.out], HBZ.out⟩
end Go.Proofs.YtdlnnkbigeiilaaGreat
namespace Go.Proofs.YtdlnnkbigeiilaaGreat
open Go.RowKit
theorem rstart_any (w : World) : Calls Tryz.prog 176 #[] w fun e w' => e = .returned (.agg (wlV startV).toArray) ∧ Below w.heap.size w w' := by
 go_enter Tryz.func176, Tryz.ntmps176
 go_wp2_with fail
 obtain ⟨w1, hq1, hb9, hz9, Hr⟩ := new1 w 208 [.int .u32 1779033703, .int .u32 3144134277, .int .u32 1013904242, .int .u32 2773480762, .int .u32 1359893119, .int .u32 2600822924, .int .u32 528734635, .int .u32 1541459225]
 rw [hq1]
 clear hq1
 have HB := Lib.hid hb9
 have HZS := hz9
 clear hb9 hz9
 have r_ := Hr.out.c8
 simp [bodyPost, results, Tryz.results176, go_sem, r_]
 exact ⟨rfl, HB.out⟩
def cpB (h : WL) (k : Nat) : WL := (List.range 16).map fun j => if j < 8 then (if j < k then h.getD j 0 else 0) else if j - 8 < k then startV.getD (j - 8) 0 else 0
theorem cpB_len (h : WL) (k : Nat) : (cpB h k).length = 16 := by unfold cpB; simp
theorem cpB_at (h : WL) (k j : Nat) (hj : j < (cpB h k).length) : (cpB h k)[j] = if j < 8 then (if j < k then h.getD j 0 else 0) else if j - 8 < k then startV.getD (j - 8) 0 else 0 := by simp only [cpB, List.getElem_map, List.getElem_range]
theorem cpB_zero (h : WL) : cpB h 0 = zw 16 := by
 apply List.ext_getElem (by rw [cpB_len, zw_len])
 intro i h1 h2
 rw [cpB_at]
 simp only [Nat.not_lt_zero, if_false, ite_self, zw, List.getElem_replicate]
theorem cpB_succ (h : WL) (k : Nat) : cpB h (k + 1) = ((cpB h k).set k (h.getD k 0)).set (k + 8) (startV.getD k 0) ∨ 8 ≤ k := by
 by_cases hk : 8 ≤ k
 ·exact Or.inr hk
 ·left
  apply List.ext_getElem (by rw [List.length_set, List.length_set, cpB_len, cpB_len])
  intro i h1 h2
  rw [List.getElem_set, List.getElem_set, cpB_at, cpB_at]
  have h16 : i < 16 := by rwa [cpB_len] at h1
  by_cases e : k + 8 = i
  ·subst e; rw [if_pos rfl, if_neg (by omega), if_pos (by omega), show k + 8 - 8 = k by omega]
  ·rw [if_neg e]
   by_cases e2 : k = i
   ·subst e2; rw [if_pos rfl, if_pos (by omega), if_pos (by omega)]
   ·rw [if_neg e2]
    by_cases h8 : i < 8
    ·rw [if_pos h8, if_pos h8]
     by_cases hik : i < k
     ·rw [if_pos hik, if_pos (by omega)]
     ·rw [if_neg hik, if_neg (by omega)]
    ·rw [if_neg h8, if_neg h8]
     by_cases hik : i - 8 < k
     ·rw [if_pos hik, if_pos (by omega)]
     ·rw [if_neg hik, if_neg (by omega)]
theorem cpB_all (h : WL) (hh : h.length = 8) : cpB h 8 = h ++ startV := by
 apply List.ext_getElem (by rw [cpB_len, List.length_append, hh]; rfl)
 intro i h1 h2
 have h16 : i < 16 := by rwa [cpB_len] at h1
 rw [cpB_at]
 by_cases h8 : i < 8
 ·rw [if_pos h8, if_pos h8, List.getElem_append_left (by omega)]
  simp [List.getD, hh, h8]
 ·rw [if_neg h8, if_pos (by omega), List.getElem_append_right (by omega)]
  have : i - 8 < startV.length := by rw [startB_len]; omega
  simp [List.getD, hh, this]
theorem rPress_any (h m : WL) (hh : h.length = 8) (hm : m.length = 16) (n : Nat) (hn : n < 18446744073709551616) (last : Bool) (w : World) :
  Calls Tryz.prog 178 #[.agg (wlV h).toArray, .agg (wlV m).toArray, .int .u64 (n : Int), .bool last] w fun e w' => e = .returned (.agg (wlV (pressB h m n last)).toArray) ∧ Below w.heap.size w w' := by
 have HH := Lib.hid hh
 have HM := Lib.hid hm
 have HL8 := Lib.hid (show (wlV h).length = 8 by rw [wlV_len, hh])
 have HI8 := Lib.hid (show (Tryz.prog.info? 208).map (·.size) = some (wlV startV).length from info8)
 have HZ8 := Lib.hid (show (wlV (zw 8)).length = (wlV startV).length from rfl)
 have HIM := Lib.hid (show (Tryz.prog.info? 230).map (·.size) = some (wlV m).length by rw [wlV_len, hm]; exact info16)
 have hz : (#[.int .u32 0, .int .u32 0, .int .u32 0, .int .u32 0, .int .u32 0, .int .u32 0, .int .u32 0, .int .u32 0, .int .u32 0, .int .u32 0, .int .u32 0, .int .u32 0, .int .u32 0, .int .u32 0, .int .u32 0, .int .u32 0] : Array Value) = (wlV (zw 16)).toArray := rfl
 have hz8 : (#[.int .u32 0, .int .u32 0, .int .u32 0, .int .u32 0, .int .u32 0, .int .u32 0, .int .u32 0, .int .u32 0] : Array Value) = (wlV (zw 8)).toArray := rfl
 have hx12 := xor_lo n
 have hx13 := xor_hi n hn
 clear hh hm
 go_enter Tryz.func178, Tryz.ntmps178
 go_upto_region 2 with (fail)
 obtain ⟨w1, hq1, hb9, hz9, Ha, Hb, Hr, Hv⟩ := new4 w 208 (wlV h) 230 (wlV m) 208 (wlV (zw 8)) 230 (wlV (zw 16))
 rw [hq1]
 clear hq1
 have HB := Lib.hid hb9
 have HZS := hz9
 clear hb9 hz9
 go_wp2_with fail
 refine (rstart_any w1).mono ?_
 rintro e w2 ⟨rfl, hb9⟩
 replace Ha := Lib.hid (Ha.out.up hb9)
 replace Hb := Lib.hid (Hb.out.up hb9)
 replace Hr := Lib.hid (Hr.out.up hb9)
 replace Hv := Lib.hid (Hv.out.up hb9)
 replace HB := hbu HB hb9
 replace HZS := sz HZS hb9.size
 clear hb9
 go_upto_region 3 with (refine wpList_store_new rfl 208 208 (.tmp 10) (.tmp 14) rfl (wlV (zw 8)) (wlV startV) rfl rfl HI8.out HZ8.out (wl_one startV) ?_)
 obtain ⟨w3, hq3, hb9, hz9, Hs⟩ := new1 w2 208 (wlV startV)
 rw [hq3]
 clear hq3
 replace Ha := Lib.hid (Ha.out.up hb9)
 replace Hb := Lib.hid (Hb.out.up hb9)
 replace Hr := Lib.hid (Hr.out.up hb9)
 replace Hv := Lib.hid (Hv.out.up hb9)
 replace HB := hbu HB hb9
 replace HZS := sz HZS hz9.out
 clear hb9 hz9
 have HK := Lib.hid (Kept.refl (fun q9 => q9 = w.heap.size + 3) w3)
 rw [← cpB_zero h] at Hv
 have HB0 := HB
 have Ha0 := Ha
 have Hb0 := Hb
 have Hr0 := Hr
 have Hs0 := Hs
 have HBS := Lib.hid HB.out.size
 go_wp2_with fail
 go_loopw [11] (fun c wr => ∃ k : Nat, k ≤ 8 ∧ c = .int .i64 k ∧ Hid (Bx wr (w.heap.size + 3) 230 (wlV (cpB h k))) ∧ Hid (Kept (fun q9 => q9 = w.heap.size + 3) w3 wr)) (fun c _ => 8 - (intOf c).toNat)
 case atStart => exact ⟨0, by omega, rfl, Hv, HK⟩
 case round =>
  obtain ⟨k, hk, rfl, HQ, HK1⟩ := hrel
  clear HK
  have hg9 := HK1.out
  clear Hv
  replace Ha := Lib.hid (Ha.out.keptP hg9 (show ¬ (w.heap.size = w.heap.size + 3) by have g0 := HZS.out; omega))
  replace Hb := Lib.hid (Hb.out.keptP hg9 (show ¬ (w.heap.size + 1 = w.heap.size + 3) by have g0 := HZS.out; omega))
  replace Hr := Lib.hid (Hr.out.keptP hg9 (show ¬ (w.heap.size + 2 = w.heap.size + 3) by have g0 := HZS.out; omega))
  replace Hs := Lib.hid (Hs.out.keptP hg9 (show ¬ (w2.heap.size = w.heap.size + 3) by have g0 := HZS.out; omega))
  replace HB := Lib.hid (Below.keptP HB.out hg9 (by have g0 := HZS.out; omega) (fun q9 h9 => (show w.heap.size ≤ _ by subst h9; have g0 := HZS.out; omega)))
  replace HZS := sz HZS (show w3.heap.size ≤ wr.heap.size from hg9.size)
  clear hg9
  have Hv := HQ
  clear HQ
  have HCL := Lib.hid (cpB_len h k)
  by_cases hk8 : k < 8
  ·have HCS := Lib.hid ((cpB_succ h k).resolve_right (by omega))
   have c1 := wl_cell Ha.out k (by rw [HH.out]; exact hk8)
   have c2 := wl_cell Hs.out k (by rw [startB_len]; exact hk8)
   have c3 := Hv.out.cell (wlV_get (cpB h k) k (by rw [HCL.out]; omega))
   generalize h.getD k 0 = x at *
   obtain ⟨y, hy⟩ : ∃ y, startV.getD k 0 = y := ⟨_, rfl⟩
   have HY := Lib.hid hy
   rw [hy] at c2 HCS
   clear hy
   generalize cpB h k = V at *
   have f4_v := Hv.out.frozen
   obtain ⟨w4, hq4, hg9, hz9, hx9⟩ := put1 Hv k (.int .u32 (x.toNat : Int)) _ rfl
   replace Ha := Lib.hid (Ha.out.grown hg9.out (sne (by have g0 := HZS.out; omega)))
   replace Hb := Lib.hid (Hb.out.grown hg9.out (sne (by have g0 := HZS.out; omega)))
   replace Hr := Lib.hid (Hr.out.grown hg9.out (sne (by have g0 := HZS.out; omega)))
   replace Hs := Lib.hid (Hs.out.grown hg9.out (sne (by have g0 := HZS.out; omega)))
   replace HK1 := Lib.hid (Kept.grown HK1.out hg9.out (fun q9 e9 => by obtain rfl := Option.some.inj e9; exact Or.inr (rfl)))
   replace HB := hbg HB hg9 (by have g0 := HZS.out; omega)
   replace HZS := sz HZS hz9.out
   replace Hv := hx9
   clear hx9 hg9 hz9
   replace Hv := Lib.hid Hv.out.wset
   go_upto_region 7 with (fail)
   clear c1 c2 c3
   have c2 := wl_cell Hs.out k (by rw [startB_len]; exact hk8)
   rw [HY.out] at c2
   have HSL9 : (V.set k x).length = 16 := by rw [List.length_set]; exact HCL.out
   have c3 := Hv.out.cell (wlV_get (V.set k x) (k + 8) (by rw [HSL9]; omega))
   have f5_v := Hv.out.frozen
   obtain ⟨w5, hq5, hg9, hz9, hx9⟩ := put1 Hv (k + 8) (.int .u32 (y.toNat : Int)) _ rfl
   replace Ha := Lib.hid (Ha.out.grown hg9.out (sne (by have g0 := HZS.out; omega)))
   replace Hb := Lib.hid (Hb.out.grown hg9.out (sne (by have g0 := HZS.out; omega)))
   replace Hr := Lib.hid (Hr.out.grown hg9.out (sne (by have g0 := HZS.out; omega)))
   replace Hs := Lib.hid (Hs.out.grown hg9.out (sne (by have g0 := HZS.out; omega)))
   replace HK1 := Lib.hid (Kept.grown HK1.out hg9.out (fun q9 e9 => by obtain rfl := Option.some.inj e9; exact Or.inr (rfl)))
   replace HB := hbg HB hg9 (by have g0 := HZS.out; omega)
   replace HZS := sz HZS hz9.out
   replace Hv := hx9
   clear hx9 hg9 hz9
   replace Hv := Lib.hid Hv.out.wset
   have HQ := Hv
   rw [← HCS.out] at HQ
   go_wp2_with fail
   clear hq5 f5_v hq4 f4_v c2 c3
   exact ⟨⟨k + 1, by omega, by go_num, HQ, HK1⟩, by simp [intOf]; omega⟩
  ·have hk' : k = 8 := by omega
   subst hk'
   rw [cpB_all h HH.out] at Hv
   have hdk : decide ((8 : Int) < 8) = false := rfl
   go_upto_region 8 with (fail)
   clear Hs
   have c12 : wr.cell? ⟨w.heap.size + 3, 12, none⟩ = some (.int .u32 1359893119) := Hv.out.cell (by rw [show 12 = 8 + 4 from rfl, pre_cell h HH.out 4 (by decide)]; rfl)
   obtain ⟨z12, e12⟩ : ∃ z, startB.getD 4 0 ^^^ BitVec.ofNat 32 n = z := ⟨_, rfl⟩
   obtain ⟨z13, e13⟩ : ∃ z, startB.getD 5 0 ^^^ BitVec.ofNat 32 (n / 4294967296) = z := ⟨_, rfl⟩
   rw [e12] at hx12
   rw [e13] at hx13
   have HPR := Lib.hid (show ∀ b, preB h n b = if b then (((h ++ startV).set 12 z12).set 13 z13).set 14 (~~~ startB.getD 6 0) else ((h ++ startV).set 12 z12).set 13 z13 from fun b => by rw [← e12, ← e13]; rfl)
   clear e12 e13
   have f4_v := Hv.out.frozen
   obtain ⟨w4, hq4, hg9, hz9, hx9⟩ := put1 Hv 12 (.int .u32 (z12.toNat : Int)) _ rfl
   replace Ha := Lib.hid (Ha.out.grown hg9.out (sne (by have g0 := HZS.out; omega)))
   replace Hb := Lib.hid (Hb.out.grown hg9.out (sne (by have g0 := HZS.out; omega)))
   replace Hr := Lib.hid (Hr.out.grown hg9.out (sne (by have g0 := HZS.out; omega)))
   replace HK1 := Lib.hid (Kept.grown HK1.out hg9.out (fun q9 e9 => by obtain rfl := Option.some.inj e9; exact Or.inr (rfl)))
   replace HB := hbg HB hg9 (by have g0 := HZS.out; omega)
   replace HZS := sz HZS hz9.out
   replace Hv := hx9
   clear hx9 hg9 hz9
   replace Hv := Lib.hid Hv.out.wset
   go_upto_region 9 with (fail)
   clear c12
   have c13 : w4.cell? ⟨w.heap.size + 3, 13, none⟩ = some (.int .u32 2600822924) := Hv.out.cell (by rw [wl_ne _ _ _ _ (by decide), show 13 = 8 + 5 from rfl, pre_cell h HH.out 5 (by decide)]; rfl)
   have f5_v := Hv.out.frozen
   obtain ⟨w5, hq5, hg9, hz9, hx9⟩ := put1 Hv 13 (.int .u32 (z13.toNat : Int)) _ rfl
   replace Ha := Lib.hid (Ha.out.grown hg9.out (sne (by have g0 := HZS.out; omega)))
   replace Hb := Lib.hid (Hb.out.grown hg9.out (sne (by have g0 := HZS.out; omega)))
   replace Hr := Lib.hid (Hr.out.grown hg9.out (sne (by have g0 := HZS.out; omega)))
   replace HK1 := Lib.hid (Kept.grown HK1.out hg9.out (fun q9 e9 => by obtain rfl := Option.some.inj e9; exact Or.inr (rfl)))
   replace HB := hbg HB hg9 (by have g0 := HZS.out; omega)
   replace HZS := sz HZS hz9.out
   replace Hv := hx9
   clear hx9 hg9 hz9
   replace Hv := Lib.hid Hv.out.wset
   go_upto_region 10 with (fail)
   clear c13 hx12 hx13
   have HLV := Lib.hid (show (((h ++ startV).set 12 z12).set 13 z13).length = 16 by rw [List.length_set, List.length_set, List.length_append, HH.out]; rfl)
   have c14 : w5.cell? ⟨w.heap.size + 3, 14, none⟩ = some (.int .u32 528734635) := Hv.out.cell (by rw [wl_ne _ _ _ _ (by decide), wl_ne _ _ _ _ (by decide), show 14 = 8 + 6 from rfl, pre_cell h HH.out 6 (by decide)]; rfl)
   generalize ((h ++ startV).set 12 z12).set 13 z13 = V1 at *
   cases last
   case true =>
    obtain ⟨z14, e14⟩ : ∃ z, ~~~ startB.getD 6 0 = z := ⟨_, rfl⟩
    have HX14 := Lib.hid (show (z14.toNat : Int) = 3766232660 by rw [← e14]; rfl)
    rw [e14] at HPR
    clear e14
    have f6_v := Hv.out.frozen
    obtain ⟨w6, hq6, hg9, hz9, hx9⟩ := put1 Hv 14 (.int .u32 3766232660) _ rfl
    replace Ha := Lib.hid (Ha.out.grown hg9.out (sne (by have g0 := HZS.out; omega)))
    replace Hb := Lib.hid (Hb.out.grown hg9.out (sne (by have g0 := HZS.out; omega)))
    replace Hr := Lib.hid (Hr.out.grown hg9.out (sne (by have g0 := HZS.out; omega)))
    replace HK1 := Lib.hid (Kept.grown HK1.out hg9.out (fun q9 e9 => by obtain rfl := Option.some.inj e9; exact Or.inr (rfl)))
    replace HB := hbg HB hg9 (by have g0 := HZS.out; omega)
    replace HZS := sz HZS hz9.out
    replace Hv := hx9
    clear hx9 hg9 hz9
    replace Hv := Lib.hid (show Bx w6 (w.heap.size + 3) 230 (wlV (V1.set 14 z14)) from by rw [← wlV_set, HX14.out]; exact Hv.out)
    have HPV := Lib.hid (show V1.set 14 z14 = preB h n true from (HPR.out true).symm)
    have HVL := Lib.hid (show (preB h n true).length = 16 by rw [← HPV.out, List.length_set]; exact HLV.out)
    rw [HPV.out] at Hv
    clear HPV HPR HLV
    go_upto_region 12 with (fail)
    clear c14
    have HVI := Lib.hid (show (Tryz.prog.info? 230).map (·.size) = some (wlV (preB h n true)).length by rw [wlV_len, HVL.out]; exact info16)
    have HSA := Lib.hid (fun w => rStir_any (preB h n true) m HVL.out HM.out w)
    have HSL := Lib.hid (stirB_len (preB h n true) m)
    have HPE := Lib.hid (show mixB h (stirB (preB h n true) m) 8 = pressB h m n true from rfl)
    generalize stirB (preB h n true) m = S at *
    generalize preB h n true = V at *
    go_wp2_with (first | refine wpList_load_mid rfl 230 (.tmp 9) rfl (w.heap.size + 3) 0 rfl (wlV V) _ Hv.out.range Tryz.underlying230 rfl HVI.out ?_ | refine wpList_load_mid rfl 230 (.tmp 5) rfl (w.heap.size + 1) 0 rfl (wlV m) _ Hb.out.range Tryz.underlying230 rfl HIM.out ?_)
    refine (HSA.out w6).mono ?_
    rintro e w7 ⟨rfl, hb9⟩
    replace Ha := Lib.hid (Ha.out.up hb9)
    replace Hb := Lib.hid (Hb.out.up hb9)
    replace Hr := Lib.hid (Hr.out.up hb9)
    replace Hv := Lib.hid (Hv.out.up hb9)
    replace HK1 := Lib.hid (Kept.up HK1.out hb9)
    replace HB := hbu HB hb9
    replace HZS := sz HZS hb9.size
    clear hb9
    have HIS := Lib.hid (show (Tryz.prog.info? 230).map (·.size) = some (wlV S).length by rw [wlV_len, HSL.out, HVL.out]; exact info16)
    have HZS2 := Lib.hid (show (wlV (zw 16)).length = (wlV S).length by rw [wlV_len, wlV_len, HSL.out, HVL.out]; rfl)
    go_upto_region 13 with (refine wpList_store_new rfl 230 230 (.tmp 12) (.tmp 51) rfl (wlV (zw 16)) (wlV S) rfl rfl HIS.out HZS2.out (wl_one S) ?_)
    clear HVI HSA HIM HZS2 HIS Hv Hb
    obtain ⟨w8, hq8, hb9, hz9, Hs⟩ := new1 w7 230 (wlV S)
    rw [hq8]
    clear hq8
    replace Ha := Lib.hid (Ha.out.up hb9)
    replace Hr := Lib.hid (Hr.out.up hb9)
    replace HK1 := Lib.hid (Kept.up HK1.out hb9)
    replace HB := hbu HB hb9
    replace HZS := sz HZS hz9.out
    clear hb9 hz9
    rw [show wlV h = wlV (mixB h S 0) by rw [mixB_zero h S HH.out]] at Ha
    clear hz hz8
    have HK := Lib.hid (Kept.refl (fun q9 => q9 = w.heap.size) w8)
    go_wp2_with fail
    clear hq6 f6_v hq5 f5_v hq4 f4_v
    go_loopw [13] (fun c wr => ∃ k : Nat, k ≤ 8 ∧ c = .int .i64 k ∧ Hid (Bx wr w.heap.size 208 (wlV (mixB h S k))) ∧ Hid (Kept (fun q9 => q9 = w.heap.size) w8 wr)) (fun c _ => 8 - (intOf c).toNat)
    case atStart => exact ⟨0, by omega, rfl, Ha, HK⟩
    case round =>
     obtain ⟨k, hk, rfl, HQ, HK1⟩ := hrel
     clear HK
     have hg9 := HK1.out
     clear Ha
     replace Hr := Lib.hid (Hr.out.keptP hg9 (show ¬ (w.heap.size + 2 = w.heap.size) by have g0 := HZS.out; omega))
     replace Hs := Lib.hid (Hs.out.keptP hg9 (show ¬ (w7.heap.size = w.heap.size) by have g0 := HZS.out; omega))
     replace HB := Lib.hid (Below.keptP HB.out hg9 (by have g0 := HZS.out; omega) (fun q9 h9 => (show w.heap.size ≤ _ by subst h9; have g0 := HZS.out; omega)))
     replace HZS := sz HZS (show w8.heap.size ≤ wr.heap.size from hg9.size)
     clear hg9
     have Ha := HQ
     clear HQ
     have HAL := Lib.hid (mixB_len h S k)
     by_cases hk8 : k < 8
     ·have hs := mixB_succ h S k
      have c1 := wl_cell Ha.out k (by rw [HAL.out]; exact hk8)
      have e1 : (mixB h S k).getD k 0 = h.getD k 0 := by
       show ((mixB h S k)[k]?).getD 0 = _
       rw [List.getElem?_eq_getElem (by rw [HAL.out]; exact hk8)]
       exact (mixB_at h S k k (by rw [HAL.out]; exact hk8)).trans (if_neg (by omega))
      rw [e1] at c1
      have c2 := wl_cell Hs.out k (by rw [HSL.out, HVL.out]; omega)
      have c3 := wl_cell Hs.out (k + 8) (by rw [HSL.out, HVL.out]; omega)
      generalize h.getD k 0 = x at *
      generalize S.getD k 0 = y at *
      generalize S.getD (k + 8) 0 = z at *
      have g1 := bits_xor x y
      obtain ⟨yz, e2⟩ : ∃ u, x ^^^ y = u := ⟨_, rfl⟩
      rw [e2] at g1
      have g2 := bits_xor yz z
      obtain ⟨u, e3⟩ : ∃ u, yz ^^^ z = u := ⟨_, rfl⟩
      rw [e3] at g2
      rw [show x ^^^ y ^^^ z = u by rw [← e3, ← e2]] at hs
      have HSS := Lib.hid hs
      clear hs e1 e2 e3
      generalize mixB h S k = M at *
      go_wp2_with fail
      refine wp_region_otail 14 (by kernel_rfl) (by kernel_rfl) ?_
      simp only [List.take_succ_cons, List.take_zero, List.drop_succ_cons, List.drop_zero]
      have hov_w_heap_size := fun (E : Over wr) o => E.cell (b := w.heap.size) o Ha.out.lt
      have hov_w7_heap_size := fun (E : Over wr) o => E.cell (b := w7.heap.size) o Hs.out.lt
      repeat (go_big_quiet_step (first | fail))
      all_goals (try unfold elV limbV)
      repeat (go_big_quiet_step (first | fail))
      all_goals (try unfold elV limbV)
      repeat (go_big_quiet_step (first | fail))
      all_goals (try unfold ciphV)
      refine wpQuiet_nil ?_
      rintro _ ⟨E, rfl⟩
      clear hov_w_heap_size hov_w7_heap_size
      replace Hr := Lib.hid (Hr.out.up E.h)
      replace Hs := Lib.hid (Hs.out.up E.h)
      replace Ha := Lib.hid (Ha.out.up E.h)
      replace HK1 := Lib.hid (Kept.up HK1.out E.h)
      replace HB := hbu HB E.h
      replace HZS := sz HZS E.h.size
      obtain ⟨w9, hq9⟩ : ∃ W9 : World, E.w = W9 := ⟨_, rfl⟩
      rw [hq9] at Hr Hs Ha HK1 HB HZS ⊢
      clear hq9 E c1 c2 c3
      have c1 := Ha.out.cell (wlV_get M k (by rw [HAL.out]; exact hk8))
      have f10_a := Ha.out.frozen
      obtain ⟨w10, hq10, hg9, hz9, hx9⟩ := put1 Ha k (.int .u32 (u.toNat : Int)) _ rfl
      replace Hr := Lib.hid (Hr.out.grown hg9.out (sne (by have g0 := HZS.out; omega)))
      replace Hs := Lib.hid (Hs.out.grown hg9.out (sne (by have g0 := HZS.out; omega)))
      replace HK1 := Lib.hid (Kept.grown HK1.out hg9.out (fun q9 e9 => by obtain rfl := Option.some.inj e9; exact Or.inr (rfl)))
      replace HB := hbg HB hg9 (by have g0 := HZS.out; omega)
      replace HZS := sz HZS hz9.out
      replace Ha := hx9
      clear hx9 hg9 hz9
      replace Ha := Lib.hid Ha.out.wset
      go_wp2_with fail
      clear hq10 f10_a c1 g1 g2
      have HQ := Ha
      rw [← HSS.out] at HQ
      exact ⟨⟨k + 1, by omega, by go_num, HQ, HK1⟩, by simp [intOf]; omega⟩
     ·have hk' : k = 8 := by omega
      subst hk'
      rw [HPE.out] at Ha
      have HR := Lib.hid (pressB_len h m n true)
      obtain ⟨R, hR⟩ : ∃ R, pressB h m n true = R := ⟨_, rfl⟩
      rw [hR] at Ha HR
      have HRE := Lib.hid hR
      clear hR
      have HRI := Lib.hid (show (Tryz.prog.info? 208).map (·.size) = some (wlV R).length by rw [wlV_len, HR.out]; exact info8)
      have HRZ := Lib.hid (show (wlV R).length = (wlV (zw 8)).length by rw [wlV_len, wlV_len, HR.out]; rfl)
      obtain ⟨w5, hq5, hg5, hz5, hr5⟩ := puts Hr 0 (wlV R) (wlV R) (putL_all _ _ HRZ.out)
      have HB5 := hbg HB hg5 (by omega)
      go_wp2_with (first | refine wpList_load_mid rfl 208 (.tmp 4) rfl w.heap.size 0 rfl (wlV R) _ Ha.out.range Tryz.underlying208 rfl HRI.out ?_ | refine wpList_store_mid rfl 208 (.tmp 8) (.tmp 70) rfl (w.heap.size + 2) 0 (wlV R).toArray rfl rfl (Hr.out.there (by simp [HRZ.out])) (by simpa using HRI.out) (all_oneCell_toArray (wl_one R)) ?_)
      rw [hq5]
      exact ret_arr Tryz.results178 hr5.out _ rfl Tryz.underlying208 rfl HRI.out rfl ⟨by rw [HRE.out], HB5.out⟩
   case false =>
    have HPV := Lib.hid (show V1 = preB h n false from (HPR.out false).symm)
    have HVL := Lib.hid (show (preB h n false).length = 16 by rw [← HPV.out]; exact HLV.out)
    rw [HPV.out] at Hv
    clear HPV HPR HLV
    go_upto_region 12 with (fail)
    clear c14
    have HVI := Lib.hid (show (Tryz.prog.info? 230).map (·.size) = some (wlV (preB h n false)).length by rw [wlV_len, HVL.out]; exact info16)
    have HSA := Lib.hid (fun w => rStir_any (preB h n false) m HVL.out HM.out w)
    have HSL := Lib.hid (stirB_len (preB h n false) m)
    have HPE := Lib.hid (show mixB h (stirB (preB h n false) m) 8 = pressB h m n false from rfl)
    generalize stirB (preB h n false) m = S at *
    generalize preB h n false = V at *
    go_wp2_with (first | refine wpList_load_mid rfl 230 (.tmp 9) rfl (w.heap.size + 3) 0 rfl (wlV V) _ Hv.out.range Tryz.underlying230 rfl HVI.out ?_ | refine wpList_load_mid rfl 230 (.tmp 5) rfl (w.heap.size + 1) 0 rfl (wlV m) _ Hb.out.range Tryz.underlying230 rfl HIM.out ?_)
    refine (HSA.out w5).mono ?_
    rintro e w6 ⟨rfl, hb9⟩
    replace Ha := Lib.hid (Ha.out.up hb9)
    replace Hb := Lib.hid (Hb.out.up hb9)
    replace Hr := Lib.hid (Hr.out.up hb9)
    replace Hv := Lib.hid (Hv.out.up hb9)
    replace HK1 := Lib.hid (Kept.up HK1.out hb9)
    replace HB := hbu HB hb9
    replace HZS := sz HZS hb9.size
    clear hb9
    have HIS := Lib.hid (show (Tryz.prog.info? 230).map (·.size) = some (wlV S).length by rw [wlV_len, HSL.out, HVL.out]; exact info16)
    have HZS2 := Lib.hid (show (wlV (zw 16)).length = (wlV S).length by rw [wlV_len, wlV_len, HSL.out, HVL.out]; rfl)
    go_upto_region 13 with (refine wpList_store_new rfl 230 230 (.tmp 12) (.tmp 51) rfl (wlV (zw 16)) (wlV S) rfl rfl HIS.out HZS2.out (wl_one S) ?_)
    clear HVI HSA HIM HZS2 HIS Hv Hb
    obtain ⟨w7, hq7, hb9, hz9, Hs⟩ := new1 w6 230 (wlV S)
    rw [hq7]
    clear hq7
    replace Ha := Lib.hid (Ha.out.up hb9)
    replace Hr := Lib.hid (Hr.out.up hb9)
    replace HK1 := Lib.hid (Kept.up HK1.out hb9)
    replace HB := hbu HB hb9
    replace HZS := sz HZS hz9.out
    clear hb9 hz9
    rw [show wlV h = wlV (mixB h S 0) by rw [mixB_zero h S HH.out]] at Ha
    clear hz hz8
    have HK := Lib.hid (Kept.refl (fun q9 => q9 = w.heap.size) w7)
    go_wp2_with fail
    clear hq5 f5_v hq4 f4_v
    go_loopw [13] (fun c wr => ∃ k : Nat, k ≤ 8 ∧ c = .int .i64 k ∧ Hid (Bx wr w.heap.size 208 (wlV (mixB h S k))) ∧ Hid (Kept (fun q9 => q9 = w.heap.size) w7 wr)) (fun c _ => 8 - (intOf c).toNat)
    case atStart => exact ⟨0, by omega, rfl, Ha, HK⟩
    case round =>
     obtain ⟨k, hk, rfl, HQ, HK1⟩ := hrel
     clear HK
     have hg9 := HK1.out
     clear Ha
     replace Hr := Lib.hid (Hr.out.keptP hg9 (show ¬ (w.heap.size + 2 = w.heap.size) by have g0 := HZS.out; omega))
     replace Hs := Lib.hid (Hs.out.keptP hg9 (show ¬ (w6.heap.size = w.heap.size) by have g0 := HZS.out; omega))
     replace HB := Lib.hid (Below.keptP HB.out hg9 (by have g0 := HZS.out; omega) (fun q9 h9 => (show w.heap.size ≤ _ by subst h9; have g0 := HZS.out; omega)))
     replace HZS := sz HZS (show w7.heap.size ≤ wr.heap.size from hg9.size)
     clear hg9
     have Ha := HQ
     clear HQ
     have HAL := Lib.hid (mixB_len h S k)
     by_cases hk8 : k < 8
     ·have hs := mixB_succ h S k
      have c1 := wl_cell Ha.out k (by rw [HAL.out]; exact hk8)
      have e1 : (mixB h S k).getD k 0 = h.getD k 0 := by
       show ((mixB h S k)[k]?).getD 0 = _
       rw [List.getElem?_eq_getElem (by rw [HAL.out]; exact hk8)]
       exact (mixB_at h S k k (by rw [HAL.out]; exact hk8)).trans (if_neg (by omega))
      rw [e1] at c1
      have c2 := wl_cell Hs.out k (by rw [HSL.out, HVL.out]; omega)
      have c3 := wl_cell Hs.out (k + 8) (by rw [HSL.out, HVL.out]; omega)
      generalize h.getD k 0 = x at *
      generalize S.getD k 0 = y at *
      generalize S.getD (k + 8) 0 = z at *
      have g1 := bits_xor x y
      obtain ⟨yz, e2⟩ : ∃ u, x ^^^ y = u := ⟨_, rfl⟩
      rw [e2] at g1
      have g2 := bits_xor yz z
      obtain ⟨u, e3⟩ : ∃ u, yz ^^^ z = u := ⟨_, rfl⟩
      rw [e3] at g2
      rw [show x ^^^ y ^^^ z = u by rw [← e3, ← e2]] at hs
      have HSS := Lib.hid hs
      clear hs e1 e2 e3
      generalize mixB h S k = M at *
      go_wp2_with fail
      refine wp_region_otail 14 (by kernel_rfl) (by kernel_rfl) ?_
      simp only [List.take_succ_cons, List.take_zero, List.drop_succ_cons, List.drop_zero]
      have hov_w_heap_size := fun (E : Over wr) o => E.cell (b := w.heap.size) o Ha.out.lt
      have hov_w6_heap_size := fun (E : Over wr) o => E.cell (b := w6.heap.size) o Hs.out.lt
      repeat (go_big_quiet_step (first | fail))
      all_goals (try unfold elV limbV)
      repeat (go_big_quiet_step (first | fail))
      all_goals (try unfold elV limbV)
      repeat (go_big_quiet_step (first | fail))
      all_goals (try unfold ciphV)
      refine wpQuiet_nil ?_
      rintro _ ⟨E, rfl⟩
      clear hov_w_heap_size hov_w6_heap_size
      replace Hr := Lib.hid (Hr.out.up E.h)
      replace Hs := Lib.hid (Hs.out.up E.h)
      replace Ha := Lib.hid (Ha.out.up E.h)
      replace HK1 := Lib.hid (Kept.up HK1.out E.h)
      replace HB := hbu HB E.h
      replace HZS := sz HZS E.h.size
      obtain ⟨w8, hq9⟩ : ∃ W9 : World, E.w = W9 := ⟨_, rfl⟩
      rw [hq9] at Hr Hs Ha HK1 HB HZS ⊢
      clear hq9 E c1 c2 c3
      have c1 := Ha.out.cell (wlV_get M k (by rw [HAL.out]; exact hk8))
      have f9_a := Ha.out.frozen
      obtain ⟨w9, hq9, hg9, hz9, hx9⟩ := put1 Ha k (.int .u32 (u.toNat : Int)) _ rfl
      replace Hr := Lib.hid (Hr.out.grown hg9.out (sne (by have g0 := HZS.out; omega)))
      replace Hs := Lib.hid (Hs.out.grown hg9.out (sne (by have g0 := HZS.out; omega)))
      replace HK1 := Lib.hid (Kept.grown HK1.out hg9.out (fun q9 e9 => by obtain rfl := Option.some.inj e9; exact Or.inr (rfl)))
      replace HB := hbg HB hg9 (by have g0 := HZS.out; omega)
      replace HZS := sz HZS hz9.out
      replace Ha := hx9
      clear hx9 hg9 hz9
      replace Ha := Lib.hid Ha.out.wset
      go_wp2_with fail
      clear hq9 f9_a c1 g1 g2
      have HQ := Ha
      rw [← HSS.out] at HQ
      exact ⟨⟨k + 1, by omega, by go_num, HQ, HK1⟩, by simp [intOf]; omega⟩
     ·have hk' : k = 8 := by omega
      subst hk'
      rw [HPE.out] at Ha
      have HR := Lib.hid (pressB_len h m n false)
      obtain ⟨R, hR⟩ : ∃ R, pressB h m n false = R := ⟨_, rfl⟩
      rw [hR] at Ha HR
      have HRE := Lib.hid hR
      clear hR
      have HRI := Lib.hid (show (Tryz.prog.info? 208).map (·.size) = some (wlV R).length by rw [wlV_len, HR.out]; exact info8)
      have HRZ := Lib.hid (show (wlV R).length = (wlV (zw 8)).length by rw [wlV_len, wlV_len, HR.out]; rfl)
      obtain ⟨w5, hq5, hg5, hz5, hr5⟩ := puts Hr 0 (wlV R) (wlV R) (putL_all _ _ HRZ.out)
      have HB5 := hbg HB hg5 (by omega)
      go_wp2_with (first | refine wpList_load_mid rfl 208 (.tmp 4) rfl w.heap.size 0 rfl (wlV R) _ Ha.out.range Tryz.underlying208 rfl HRI.out ?_ | refine wpList_store_mid rfl 208 (.tmp 8) (.tmp 70) rfl (w.heap.size + 2) 0 (wlV R).toArray rfl rfl (Hr.out.there (by simp [HRZ.out])) (by simpa using HRI.out) (all_oneCell_toArray (wl_one R)) ?_)
      rw [hq5]
      exact ret_arr Tryz.results178 hr5.out _ rfl Tryz.underlying208 rfl HRI.out rfl ⟨by rw [HRE.out], HB5.out⟩
end Go.Proofs.YtdlnnkbigeiilaaGreat
namespace Go.Proofs.YtdlnnkbigeiilaaGreat
open Go.RowKit Go.Lib
theorem power_any (r : Nat) (hr : r < 4) (w : World) : Calls Tryz.prog 177 #[.int .i64 (r : Int)] w fun e w' => e = .returned (.int .u32 ((256 ^ r : Nat) : Int)) ∧ Below w.heap.size w w' := by
 go_enter Tryz.func177, Tryz.ntmps177
 go_wp2_with fail
 go_loop [3, 4] (fun v c => ∃ j : Nat, j ≤ r ∧ c = .int .i64 j ∧ v = .int .u32 ((256 ^ j : Nat) : Int)) (fun _ c => r - (RowKit.intOf c).toNat)
 case atStart => exact ⟨0, by omega, rfl, rfl⟩
 case round =>
  obtain ⟨j, hj, rfl, rfl⟩ := hrel
  by_cases hjr : j < r
  ·have HS := Lib.hid (show ((256 ^ (j + 1) : Nat) : Int) = ((256 ^ j : Nat) : Int) * 256 by rw [Nat.pow_succ]; omega)
   have hb : ((256 ^ j : Nat) : Int) ≤ 65536 := by
    have := Nat.pow_le_pow_right (show 0 < 256 by decide) (show j ≤ 2 by omega)
    have e : (256 : Nat) ^ 2 = 65536 := rfl
    omega
   have hb0 : (0 : Int) ≤ ((256 ^ j : Nat) : Int) := Int.natCast_nonneg _
   generalize ((256 ^ j : Nat) : Int) = p at *
   go_wp2_with fail
   exact ⟨⟨j + 1, by omega, by go_num, by rw [HS.out]⟩, by simp [RowKit.intOf]; omega⟩
  ·have hjr' : j = r := by omega
   subst hjr'
   go_wp2_with fail
   go_ret
   exact ⟨rfl, Below.refl _ _⟩
theorem wordsB_full (l : List UInt8) (_h : l.length ≤ 64) : wordsB l l.length = wordsB l 64 := by
 apply wordsB_congr
 intro j hj
 unfold byteW
 rw [if_pos hj]
 by_cases e : j < l.length
 ·rw [if_pos e]
 ·rw [if_neg e]
  simp [List.getD, List.getElem?_eq_none (show l.length ≤ j by omega)]
def keyW (s : List UInt8) (k : Nat) : WL := if k ≤ lastB s then allB s k else digW s
theorem keyW_len (s : List UInt8) (k : Nat) : (keyW s k).length = 8 := by unfold keyW; split; exact allB_len s k; exact digW_len s
theorem piece_get (s : List UInt8) (k i : Nat) (h : i < 64) : (pieceB s k).getD i 0 = s.getD (64 * k + i) 0 := by
 unfold pieceB List.getD
 rw [List.getElem?_take_of_lt h, List.getElem?_drop]
theorem piece_len (s : List UInt8) (k : Nat) : (pieceB s k).length = min 64 (s.length - 64 * k) := by unfold pieceB; rw [List.length_take, List.length_drop]
theorem word_mul (l : List UInt8) (i : Nat) : (((l.getD i 0).toNat : Int) * ((256 ^ (i % 4) : Nat) : Int)) % 4294967296 = ((BitVec.ofNat 32 ((l.getD i 0).toNat * 256 ^ (i % 4))).toNat : Int) := by
 rw [BitVec.toNat_ofNat]
 omega
def outP (s : List UInt8) (i : Nat) : List UInt8 := (digB s).take i ++ List.replicate (32 - i) 0
theorem outP_len (s : List UInt8) (i : Nat) (h : i ≤ 32) : (outP s i).length = 32 := by unfold outP; simp [digB_len]; omega
theorem outB_at : ∀ (w : WL) (i : Nat), i / 4 < w.length → (outB w)[i]? = some (UInt8.ofNat ((w.getD (i / 4) 0).toNat / 256 ^ (i % 4) % 256))
 | [], i, h => by simp at h
 | x :: w, i, h => by
   show ([_, _, _, _] ++ outB w)[i]? = _
   by_cases h4 : i < 4
   ·rcases (show i = 0 ∨ i = 1 ∨ i = 2 ∨ i = 3 by omega) with rfl | rfl | rfl | rfl <;> simp [List.getD]
   ·rw [List.getElem?_append_right (by simp; omega)]
    have e1 : i / 4 = (i - 4) / 4 + 1 := by omega
    have e2 : i % 4 = (i - 4) % 4 := by omega
    rw [e1, e2]
    exact outB_at w (i - 4) (by rw [List.length_cons] at h; omega)
theorem dig_get (s : List UInt8) (i : Nat) (h : i < 32) : (digB s).getD i 0 = UInt8.ofNat (((digW s).getD (i / 4) 0).toNat / 256 ^ (i % 4) % 256) := by
 unfold digB List.getD
 rw [outB_at _ _ (by rw [digW_len]; omega)]
 rfl
theorem digB_div (s : List UInt8) (i : Nat) (h : i < 32) : (((digW s).getD (i / 4) 0).toNat : Int) / ((256 ^ (i % 4) : Nat) : Int) % 256 = (((digB s).getD i 0).toNat : Int) := by
 rw [dig_get s i h, byte_int]
 omega
theorem outP_succ (s : List UInt8) (i : Nat) (h : i < 32) : outP s (i + 1) = (outP s i).set i ((digB s).getD i 0) := by
 have hl := digB_len s
 have e : (digB s).getD i 0 = (digB s)[i]'(by omega) := by simp [List.getD, hl, h]
 unfold outP
 rw [List.set_append_right _ _ (by rw [List.length_take]; omega), List.length_take, Nat.min_eq_left (by omega), Nat.sub_self, show 32 - i = (32 - (i + 1)) + 1 by omega, List.replicate_succ, List.set_cons_zero, List.take_succ_eq_append_getElem (by omega), List.append_assoc, e]
 rfl
theorem outP_all (s : List UInt8) : outP s 32 = digB s := by unfold outP; rw [List.take_of_length_le (by rw [digB_len]; exact Nat.le_refl _)]; simp
theorem make32 (s : List UInt8) (W : World) : (Instr.makeSlice 150 (.int .i64 32) (.int .i64 32)).run Tryz.prog W = .ok (.slice (some ⟨W.heap.size, 0, none⟩) 32 32) (W.alloc (.cells (byteCells (outP s 0)).toArray 5)) := by
 have e : madeCells #[Value.int .u8 0] 32 = (byteCells (outP s 0)).toArray := by
  unfold outP
  rw [List.take_zero, List.nil_append]
  kernel_rfl
 have h := Go.run_make_row' (P := Tryz.prog) 150 5 (.int .u8 0) 1 Tryz.underlying150 infoByte rfl .i64 .i64 32 (by decide) (by decide) W
 rw [e] at h
 exact h
theorem byteCells_set (l : List UInt8) (i : Nat) (y : UInt8) : (byteCells l).set i (.int .u8 (y.toNat : Int)) = byteCells (l.set i y) := by unfold byteCells; rw [List.map_set]
theorem Keyed_any (b : ByteArray) (hsz : b.size < 2305843009213693952) (w : World) :
  Calls Tryz.prog 160 #[.string ⟨#[]⟩, .string b] w fun e w' => e = .returned (.tuple #[.string (digS (bytesOf b)), .bool true]) ∧ Below w.heap.size w w' := by
 have hb0 : (0 : Int) ≤ (b.size : Int) := by omega
 by_cases hb : b.size = 0
 ·have hP : (((b.size : Int) + 63) / 64 == 0) = true := by rw [hb]; rfl
  have HPL := Lib.hid (show 1 = lastB (bytesOf b) + 1 by unfold lastB; rw [bytesOf_len, hb])
  clear hb
  go_enter Tryz.func160, Tryz.ntmps160
  go_wp2_with fail
  refine (rstart_any w).mono ?_
  rintro e w1 ⟨rfl, hb9⟩
  have HB := Lib.hid hb9
  have HZS := Lib.hid hb9.size
  clear hb9
  have HI8 := Lib.hid (show (Tryz.prog.info? 208).map (·.size) = some (wlV startV).length from info8)
  have HZ8 := Lib.hid (show (wlV (zw 8)).length = (wlV startV).length from rfl)
  have hz8 : (#[.int .u32 0, .int .u32 0, .int .u32 0, .int .u32 0, .int .u32 0, .int .u32 0, .int .u32 0, .int .u32 0] : Array Value) = (wlV (zw 8)).toArray := rfl
  go_upto_region 14 with (refine wpList_store_new rfl 208 208 (.tmp 10) (.tmp 40) rfl (wlV (zw 8)) (wlV startV) rfl rfl HI8.out HZ8.out (wl_one startV) ?_)
  clear hz8 HZ8 HI8
  have HBW := Lib.hid HB.out.size
  obtain ⟨w2, hq2, hb9, hz9, Hh⟩ := new1 w1 208 (wlV startV)
  rw [hq2]
  clear hq2
  replace HB := hbu HB hb9
  replace HZS := sz HZS hz9.out
  clear hb9 hz9
  have c0 : w2.cell? ⟨w1.heap.size, 0, none⟩ = some (.int .u32 1779033703) := Hh.out.cell rfl
  have hx0 : bits BinOp.xor IntKind.u32 1779033703 16842784 = 1795745351 := by decide
  have f3_h := Hh.out.frozen
  obtain ⟨w3, hq3, hg9, hz9, hx9⟩ := put1 Hh 0 (.int .u32 1795745351) _ rfl
  replace HB := hbg HB hg9 (by have g0 := HZS.out; omega)
  replace HZS := sz HZS hz9.out
  replace Hh := hx9
  clear hx9 hg9 hz9
  replace Hh := Lib.hid (show Bx w3 w1.heap.size 208 (wlV h0B) from Hh.out)
  go_wp2_with fail
  clear hq3 f3_h c0 hx0
  have HZ0 := Lib.hid (show w.heap.size ≤ w1.heap.size from HBW.out)
  have HP9 := Lib.hid hP
  clear hP HBW
  generalize w1.heap.size = hB at *
  have HQ0 := Lib.hid (show Bx w3 hB 208 (wlV (keyW (bytesOf b) 0)) from Hh.out)
  clear Hh
  go_loopw [11] (fun c wr => ∃ k : Nat, k ≤ 1 ∧ c = .int .i64 k ∧ Hid (Bx wr hB 208 (wlV (keyW (bytesOf b) k))) ∧ Hid (Below w.heap.size w wr)) (fun c _ => 1 - (RowKit.intOf c).toNat)
  case atStart => exact ⟨0, by omega, rfl, HQ0, HB⟩
  case round =>
   obtain ⟨k, hk, rfl, HQ, HB9⟩ := hrel
   clear HQ0 HB
   have HB := HB9
   have Hh := HQ
   clear HB9 HQ
   have HSB := Lib.hid HB.out.size
   have HSH := Lib.hid Hh.out.lt
   replace HZS := sz HZS HZ0.out
   replace HZS := sz HZS HSB.out
   replace HZS := sz HZS HSH.out
   by_cases hkP : k < 1
   ·have HKE := Lib.hid (show keyW (bytesOf b) k = allB (bytesOf b) k from by unfold keyW; rw [if_pos (by have := HPL.out; omega)])
    rw [HKE.out] at Hh
    have hz16 : (#[.int .u32 0, .int .u32 0, .int .u32 0, .int .u32 0, .int .u32 0, .int .u32 0, .int .u32 0, .int .u32 0, .int .u32 0, .int .u32 0, .int .u32 0, .int .u32 0, .int .u32 0, .int .u32 0, .int .u32 0, .int .u32 0] : Array Value) = (wlV (wordsB (pieceB (bytesOf b) k) 0)).toArray := by rw [wordsB_zero]; rfl
    have hkd : decide ((k : Int) < (1 : Int)) = true := by simp; omega
    have HCL := Lib.hid (show (pieceB (bytesOf b) k).length = min 64 (b.size - 64 * k) from by rw [piece_len, bytesOf_len])
    have hk64 : 64 * k ≤ b.size := by have := HPL.out; unfold lastB at this; rw [bytesOf_len] at this; omega
    go_upto_region 19 with (fail)
    obtain ⟨wo, rfl⟩ : ∃ wo : World, wo = wr := ⟨_, rfl⟩
    obtain ⟨w4, hq4, hb9, hz9, Hm⟩ := new1 wo 230 (wlV (wordsB (pieceB (bytesOf b) k) 0))
    rw [hq4]
    clear hq4
    replace Hh := Lib.hid (Hh.out.up hb9)
    replace HB := hbu HB hb9
    replace HZS := sz HZS hz9.out
    clear hb9 hz9 hz16
    have HK := Lib.hid (Kept.refl (fun q9 => q9 = wo.heap.size) w4)
    go_wp2_with fail
    go_loopw [13] (fun c wr => ∃ i : Nat, i ≤ (pieceB (bytesOf b) k).length ∧ c = .int .i64 i ∧ Hid (Bx wr wo.heap.size 230 (wlV (wordsB (pieceB (bytesOf b) k) i))) ∧ Hid (Kept (fun q9 => q9 = wo.heap.size) w4 wr)) (fun c _ => 64 - (RowKit.intOf c).toNat)
    case atStart => exact ⟨0, by omega, rfl, Hm, HK⟩
    case round =>
     obtain ⟨i, hi, rfl, HQ, HK1⟩ := hrel
     clear HK
     have hg9 := HK1.out
     clear Hm
     replace Hh := Lib.hid (Hh.out.keptP hg9 (show ¬ (hB = wo.heap.size) by have g0 := HZS.out; omega))
     replace HB := Lib.hid (Below.keptP HB.out hg9 (by have g0 := HZS.out; omega) (fun q9 h9 => (show w.heap.size ≤ _ by subst h9; have g0 := HZS.out; omega)))
     replace HZS := sz HZS (show w4.heap.size ≤ wr.heap.size from hg9.size)
     clear hg9
     have Hm := HQ
     clear HQ
     have HWL := Lib.hid (wordsB_len (pieceB (bytesOf b) k) i)
     have hi64 : i ≤ 64 := by have := HCL.out; omega
     by_cases hic : i < (pieceB (bytesOf b) k).length
     ·have hi6 : i < 64 := by have := HCL.out; omega
      have hin : 64 * k + i < b.size := by have := HCL.out; omega
      have hbb : (bytesOf b).getD (64 * k + i) 0 = b[64 * k + i] := by unfold bytesOf List.getD; rw [List.getElem?_eq_getElem (by rw [Array.length_toList]; exact hin)]; rfl
      have hix := fun W => run_index_str (P := Tryz.prog) W 9 b (64 * k + i) (64 * (k : Int) + (i : Int)) (by omega) hin (((pieceB (bytesOf b) k).getD i 0).toNat : Int) (by rw [piece_get _ _ _ hi6, hbb]) Tryz.underlying9
      have HWS := Lib.hid (wordsB_succ (pieceB (bytesOf b) k) i hi6)
      have HPW := fun w => power_any (i % 4) (by omega) w
      rw [show ((i % 4 : Nat) : Int) = (i : Int) % 4 from by omega] at HPW
      have HPW := Lib.hid HPW
      have hmul := word_mul (pieceB (bytesOf b) k) i
      have c1 := wl_cell Hm.out (i / 4) (by rw [HWL.out]; omega)
      generalize (wordsB (pieceB (bytesOf b) k) i).getD (i / 4) 0 = X at *
      generalize BitVec.ofNat 32 (((pieceB (bytesOf b) k).getD i 0).toNat * 256 ^ (i % 4)) = z at *
      clear hbb
      have hcb := ((pieceB (bytesOf b) k).getD i 0).toNat_lt
      generalize ((pieceB (bytesOf b) k).getD i 0).toNat = cb at *
      generalize ((256 ^ (i % 4) : Nat) : Int) = p at *
      have hadd := add32 X z
      obtain ⟨Z, hZ⟩ : ∃ Z, X + z = Z := ⟨_, rfl⟩
      rw [hZ] at hadd HWS
      clear hZ
      have a1 : (0 : Int) ≤ ((i / 4 : Nat) : Int) := by omega
      have a2 : ((i / 4 : Nat) : Int) < 16 := by omega
      have hdi : decide ((i : Int) < 64) = true := by simp; omega
      have hdn : decide (64 * (k : Int) + (i : Int) < (b.size : Int)) = true := by simp; omega
      go_wp2_with fail
      refine wp_region_otail 19 (by kernel_rfl) (by kernel_rfl) ?_
      simp only [List.take_succ_cons, List.take_zero, List.drop_succ_cons, List.drop_zero]
      have hov_wo_heap_size := fun (E : Over wr) o => E.cell (b := wo.heap.size) o Hm.out.lt
      repeat (go_big_quiet_step (first | (go_at_call 177; exact calls_over (HPW.out _))))
      all_goals (try unfold elV limbV)
      repeat (go_big_quiet_step (first | (go_at_call 177; exact calls_over (HPW.out _))))
      all_goals (try unfold elV limbV)
      repeat (go_big_quiet_step (first | (go_at_call 177; exact calls_over (HPW.out _))))
      all_goals (try unfold ciphV)
      refine wpQuiet_nil ?_
      rintro _ ⟨E, rfl⟩
      clear hov_wo_heap_size
      replace Hh := Lib.hid (Hh.out.up E.h)
      replace Hm := Lib.hid (Hm.out.up E.h)
      replace HK1 := Lib.hid (Kept.up HK1.out E.h)
      replace HB := hbu HB E.h
      replace HZS := sz HZS E.h.size
      obtain ⟨w5, hq9⟩ : ∃ W9 : World, E.w = W9 := ⟨_, rfl⟩
      rw [hq9] at Hh Hm HK1 HB HZS ⊢
      clear hq9 E c1 hix HPW
      have c1 := Hm.out.cell (wlV_get (wordsB (pieceB (bytesOf b) k) i) (i / 4) (by rw [HWL.out]; omega))
      have f6_m := Hm.out.frozen
      obtain ⟨w6, hq6, hg9, hz9, hx9⟩ := put1 Hm (i / 4) (.int .u32 (Z.toNat : Int)) _ rfl
      replace Hh := Lib.hid (Hh.out.grown hg9.out (sne (by have g0 := HZS.out; omega)))
      replace HK1 := Lib.hid (Kept.grown HK1.out hg9.out (fun q9 e9 => by obtain rfl := Option.some.inj e9; exact Or.inr (rfl)))
      replace HB := hbg HB hg9 (by have g0 := HZS.out; omega)
      replace HZS := sz HZS hz9.out
      replace Hm := hx9
      clear hx9 hg9 hz9
      replace Hm := Lib.hid Hm.out.wset
      rw [← HWS.out] at Hm
      go_wp2_with fail
      clear hq6 f6_m
      exact ⟨⟨i + 1, hic, by go_num, Hm, HK1⟩, by simp [RowKit.intOf]; omega⟩
     ·have hie : i = (pieceB (bytesOf b) k).length := by omega
      have hpl : (pieceB (bytesOf b) k).length ≤ 64 := by rw [← hie]; exact hi64
      rw [hie, wordsB_full _ hpl] at Hm
      have hcl := HCL.out
      rw [← hie] at hcl
      have hpl9 := HPL.out
      unfold lastB at hpl9
      rw [bytesOf_len] at hpl9
      have HHL := Lib.hid (allB_len (bytesOf b) k)
      have HHI := Lib.hid (show (Tryz.prog.info? 208).map (·.size) = some (wlV (allB (bytesOf b) k)).length by rw [wlV_len, HHL.out]; exact info8)
      have HMI := Lib.hid (show (Tryz.prog.info? 230).map (·.size) = some (wlV (wordsB (pieceB (bytesOf b) k) 64)).length by rw [wlV_len, wordsB_len]; exact info16)
      clear hie hpl
      by_cases hi6 : i < 64
      ·have hdi : decide ((i : Int) < 64) = true := by simp; omega
       have hdn : decide (64 * (k : Int) + (i : Int) < (b.size : Int)) = false := by simp; omega
       have hgt : (b.size : Int) < 64 * (k : Int) + 64 := by omega
       have hke : ((k : Int) == 0) = true := by rw [beq_iff_eq]; omega
       have HKN := Lib.hid (show keyW (bytesOf b) (k + 1) = pressB (allB (bytesOf b) k) (wordsB (pieceB (bytesOf b) k) 64) b.size true from by
        have e : k = lastB (bytesOf b) := by have := HPL.out; omega
        unfold keyW
        rw [if_neg (by omega), e]
        unfold digW
        rw [bytesOf_len])
       have HPR := Lib.hid (fun w => rPress_any (allB (bytesOf b) k) (wordsB (pieceB (bytesOf b) k) 64) HHL.out (wordsB_len _ _) b.size (by omega) true w)
       clear hcl hpl9
       go_wp2_with (first | refine wpList_load_mid rfl 208 (.tmp 10) rfl hB 0 rfl (wlV (allB (bytesOf b) k)) _ Hh.out.range Tryz.underlying208 rfl HHI.out ?_ | refine wpList_load_mid rfl 230 (.tmp 12) rfl wo.heap.size 0 rfl (wlV (wordsB (pieceB (bytesOf b) k) 64)) _ Hm.out.range Tryz.underlying230 rfl HMI.out ?_)
       refine (HPR.out wr).mono ?_
       rintro e w5 ⟨rfl, hb9⟩
       replace Hh := Lib.hid (Hh.out.up hb9)
       replace Hm := Lib.hid (Hm.out.up hb9)
       replace HK1 := Lib.hid (Kept.up HK1.out hb9)
       replace HB := hbu HB hb9
       replace HZS := sz HZS hb9.size
       clear hb9
       rw [← HKN.out]
       have HRL := Lib.hid (keyW_len (bytesOf b) (k + 1))
       obtain ⟨R, hR⟩ : ∃ R, keyW (bytesOf b) (k + 1) = R := ⟨_, rfl⟩
       rw [hR] at HRL ⊢
       have HRE := Lib.hid hR
       clear hR
       have HRI := Lib.hid (show (Tryz.prog.info? 208).map (·.size) = some (wlV R).length by rw [wlV_len, HRL.out]; exact info8)
       have HRZ := Lib.hid (show (wlV R).length = (wlV (allB (bytesOf b) k)).length by rw [wlV_len, wlV_len, HRL.out, HHL.out])
       obtain ⟨wz, hqz, hgz, hzz, hrz⟩ := puts Hh 0 (wlV R) (wlV R) (putL_all _ _ HRZ.out)
       have HBZ := hbg HB hgz (by have g0 := HZS.out; omega)
       go_wp2_with (refine wpList_store_mid rfl 208 (.tmp 10) (.tmp 101) rfl hB 0 (wlV R).toArray rfl rfl (Hh.out.there (by simp [HRZ.out])) (by simpa using HRI.out) (all_oneCell_toArray (wl_one R)) ?_)
       exact ⟨⟨k + 1, by omega, by go_num, by rw [HRE.out]; exact hrz, HBZ⟩, by simp [RowKit.intOf]; omega⟩
      ·have hdi : decide ((i : Int) < 64) = false := by simp; omega
       have hgt : 64 * (k : Int) + 64 ≤ (b.size : Int) := by omega
       by_cases hkl : k + 1 < 1
       ·omega
       ·have hke : ((k : Int) == 0) = true := by rw [beq_iff_eq]; omega
        have HKN := Lib.hid (show keyW (bytesOf b) (k + 1) = pressB (allB (bytesOf b) k) (wordsB (pieceB (bytesOf b) k) 64) (64 * k + 64) true from by
         have e : k = lastB (bytesOf b) := by have := HPL.out; omega
         have e2 : b.size = 64 * k + 64 := by omega
         unfold keyW
         rw [if_neg (by omega), ← e2, e]
         unfold digW
         rw [bytesOf_len])
        have hpr := fun w => rPress_any (allB (bytesOf b) k) (wordsB (pieceB (bytesOf b) k) 64) HHL.out (wordsB_len _ _) (64 * k + 64) (by omega) true w
        rw [show ((64 * k + 64 : Nat) : Int) = 64 * (k : Int) + 64 from by omega] at hpr
        have HPR := Lib.hid hpr
        clear hpr hcl hpl9
        go_wp2_with (first | refine wpList_load_mid rfl 208 (.tmp 10) rfl hB 0 rfl (wlV (allB (bytesOf b) k)) _ Hh.out.range Tryz.underlying208 rfl HHI.out ?_ | refine wpList_load_mid rfl 230 (.tmp 12) rfl wo.heap.size 0 rfl (wlV (wordsB (pieceB (bytesOf b) k) 64)) _ Hm.out.range Tryz.underlying230 rfl HMI.out ?_)
        refine (HPR.out wr).mono ?_
        rintro e w5 ⟨rfl, hb9⟩
        replace Hh := Lib.hid (Hh.out.up hb9)
        replace Hm := Lib.hid (Hm.out.up hb9)
        replace HK1 := Lib.hid (Kept.up HK1.out hb9)
        replace HB := hbu HB hb9
        replace HZS := sz HZS hb9.size
        clear hb9
        rw [← HKN.out]
        have HRL := Lib.hid (keyW_len (bytesOf b) (k + 1))
        obtain ⟨R, hR⟩ : ∃ R, keyW (bytesOf b) (k + 1) = R := ⟨_, rfl⟩
        rw [hR] at HRL ⊢
        have HRE := Lib.hid hR
        clear hR
        have HRI := Lib.hid (show (Tryz.prog.info? 208).map (·.size) = some (wlV R).length by rw [wlV_len, HRL.out]; exact info8)
        have HRZ := Lib.hid (show (wlV R).length = (wlV (allB (bytesOf b) k)).length by rw [wlV_len, wlV_len, HRL.out, HHL.out])
        obtain ⟨wz, hqz, hgz, hzz, hrz⟩ := puts Hh 0 (wlV R) (wlV R) (putL_all _ _ HRZ.out)
        have HBZ := hbg HB hgz (by have g0 := HZS.out; omega)
        go_wp2_with (refine wpList_store_mid rfl 208 (.tmp 10) (.tmp 101) rfl hB 0 (wlV R).toArray rfl rfl (Hh.out.there (by simp [HRZ.out])) (by simpa using HRI.out) (all_oneCell_toArray (wl_one R)) ?_)
        exact ⟨⟨k + 1, by omega, by go_num, by rw [HRE.out]; exact hrz, HBZ⟩, by simp [RowKit.intOf]; omega⟩
   ·have hkP' : k = 1 := by omega
    have HKD := Lib.hid (show keyW (bytesOf b) k = digW (bytesOf b) from by unfold keyW; rw [if_neg (by have := HPL.out; omega)])
    rw [HKD.out] at Hh
    have hkd : decide ((k : Int) < (1 : Int)) = false := by simp; omega
    clear HKD
    have hmk := make32 (bytesOf b)
    go_upto_region 28 with (fail)
    clear hmk
    obtain ⟨wo, rfl⟩ : ∃ wo : World, wo = wr := ⟨_, rfl⟩
    obtain ⟨w4, hq4, hb9, hz9, Ho⟩ := new1 wo 5 (byteCells (outP (bytesOf b) 0))
    rw [hq4]
    clear hq4
    replace Hh := Lib.hid (Hh.out.up hb9)
    replace HB := hbu HB hb9
    replace HZS := sz HZS hz9.out
    clear hb9 hz9
    have HK := Lib.hid (Kept.refl (fun q9 => q9 = wo.heap.size) w4)
    have HRL := Lib.hid (digW_len (bytesOf b))
    go_wp2_with fail
    go_loopw [16] (fun c wr => ∃ i : Nat, i ≤ 32 ∧ c = .int .i64 i ∧ Hid (Bx wr wo.heap.size 5 (byteCells (outP (bytesOf b) i))) ∧ Hid (Kept (fun q9 => q9 = wo.heap.size) w4 wr)) (fun c _ => 32 - (RowKit.intOf c).toNat)
    case atStart => exact ⟨0, by omega, rfl, Ho, HK⟩
    case round =>
     obtain ⟨i, hi, rfl, HQ, HK1⟩ := hrel
     clear HK
     have hg9 := HK1.out
     clear Ho
     replace Hh := Lib.hid (Hh.out.keptP hg9 (show ¬ (hB = wo.heap.size) by have g0 := HZS.out; omega))
     replace HB := Lib.hid (Below.keptP HB.out hg9 (by have g0 := HZS.out; omega) (fun q9 h9 => (show w.heap.size ≤ _ by subst h9; have g0 := HZS.out; omega)))
     replace HZS := sz HZS (show w4.heap.size ≤ wr.heap.size from hg9.size)
     clear hg9
     have Ho := HQ
     clear HQ
     by_cases hi3 : i < 32
     ·have HPW := fun w => power_any (i % 4) (by omega) w
      rw [show ((i % 4 : Nat) : Int) = (i : Int) % 4 from by omega] at HPW
      have HPW := Lib.hid HPW
      have c1 := wl_cell Hh.out (i / 4) (by rw [HRL.out]; omega)
      have hdv := digB_div (bytesOf b) i hi3
      have HON := Lib.hid (outP_succ (bytesOf b) i hi3)
      have hp1 : (1 : Int) ≤ ((256 ^ (i % 4) : Nat) : Int) := by have := Nat.pow_pos (n := i % 4) (show 0 < 256 by decide); omega
      generalize (digW (bytesOf b)).getD (i / 4) 0 = X at *
      generalize ((256 ^ (i % 4) : Nat) : Int) = p at *
      obtain ⟨y, hy⟩ : ∃ y, (digB (bytesOf b)).getD i 0 = y := ⟨_, rfl⟩
      rw [hy] at hdv HON
      clear hy
      have hyl := y.toNat_lt
      have HOL := Lib.hid (outP_len (bytesOf b) i hi)
      have a1 : (0 : Int) ≤ ((i / 4 : Nat) : Int) := by omega
      have a2 : ((i / 4 : Nat) : Int) < 8 := by omega
      go_wp2_with fail
      refine wp_region_otail 13 (by kernel_rfl) (by kernel_rfl) ?_
      simp only [List.take_succ_cons, List.take_zero, List.drop_succ_cons, List.drop_zero]
      have hov_hB := fun (E : Over wr) o => E.cell (b := hB) o Hh.out.lt
      repeat (go_big_quiet_step (first | (go_at_call 177; exact calls_over (HPW.out _))))
      all_goals (try unfold elV limbV)
      repeat (go_big_quiet_step (first | (go_at_call 177; exact calls_over (HPW.out _))))
      all_goals (try unfold elV limbV)
      repeat (go_big_quiet_step (first | (go_at_call 177; exact calls_over (HPW.out _))))
      all_goals (try unfold ciphV)
      refine wpQuiet_nil ?_
      rintro _ ⟨E, rfl⟩
      clear hov_hB
      replace Hh := Lib.hid (Hh.out.up E.h)
      replace Ho := Lib.hid (Ho.out.up E.h)
      replace HK1 := Lib.hid (Kept.up HK1.out E.h)
      replace HB := hbu HB E.h
      replace HZS := sz HZS E.h.size
      obtain ⟨w5, hq9⟩ : ∃ W9 : World, E.w = W9 := ⟨_, rfl⟩
      rw [hq9] at Hh Ho HK1 HB HZS ⊢
      clear hq9 E c1 HPW
      have c1 := Ho.out.cell (byte_cell (outP (bytesOf b) i) i (by rw [HOL.out]; exact hi3))
      have f6_o := Ho.out.frozen
      obtain ⟨w6, hq6, hg9, hz9, hx9⟩ := put1 Ho i (.int .u8 (y.toNat : Int)) _ rfl
      replace Hh := Lib.hid (Hh.out.grown hg9.out (sne (by have g0 := HZS.out; omega)))
      replace HK1 := Lib.hid (Kept.grown HK1.out hg9.out (fun q9 e9 => by obtain rfl := Option.some.inj e9; exact Or.inr (rfl)))
      replace HB := hbg HB hg9 (by have g0 := HZS.out; omega)
      replace HZS := sz HZS hz9.out
      replace Ho := hx9
      clear hx9 hg9 hz9
      replace Ho := Lib.hid (show Bx w6 wo.heap.size 5 (byteCells (outP (bytesOf b) (i + 1))) from by rw [HON.out, ← byteCells_set]; exact Ho.out)
      go_wp2_with fail
      clear hq6 f6_o
      exact ⟨⟨i + 1, by omega, by go_num, Ho, HK1⟩, by simp [RowKit.intOf]; omega⟩
     ·have hi3' : i = 32 := by omega
      subst hi3'
      rw [outP_all] at Ho
      have hcv := run_convert_bytes_arg (P := Tryz.prog) wr 150 5 Tryz.underlying150 Tryz.underlying5 wo.heap.size 0 32 32 ((digB (bytesOf b)).map fun b => (b.toNat : Int)) (by rw [List.length_map, digB_len]) (fun j hj => by rw [Nat.zero_add, Ho.out.cell (byte_cell _ j (by rw [digB_len]; exact hj))]; simp [List.getD, digB_len, hj]) 9 Tryz.underlying9
      rw [out_str] at hcv
      go_wp2_with fail
      go_ret2
      exact ⟨rfl, HB.out⟩
 ·have hP : (((b.size : Int) + 63) / 64 == 0) = false := by rw [beq_eq_false_iff_ne]; omega
  obtain ⟨P, hp⟩ : ∃ P : Nat, lastB (bytesOf b) + 1 = P := ⟨_, rfl⟩
  have HPL := Lib.hid hp.symm
  have hPP : ((b.size : Int) + 63) / 64 = (P : Int) := by rw [← hp]; unfold lastB; rw [bytesOf_len]; omega
  rw [hPP] at hP
  clear hb hp
  go_enter Tryz.func160, Tryz.ntmps160
  go_wp2_with fail
  refine (rstart_any w).mono ?_
  rintro e w1 ⟨rfl, hb9⟩
  have HB := Lib.hid hb9
  have HZS := Lib.hid hb9.size
  clear hb9
  have HI8 := Lib.hid (show (Tryz.prog.info? 208).map (·.size) = some (wlV startV).length from info8)
  have HZ8 := Lib.hid (show (wlV (zw 8)).length = (wlV startV).length from rfl)
  have hz8 : (#[.int .u32 0, .int .u32 0, .int .u32 0, .int .u32 0, .int .u32 0, .int .u32 0, .int .u32 0, .int .u32 0] : Array Value) = (wlV (zw 8)).toArray := rfl
  go_upto_region 14 with (refine wpList_store_new rfl 208 208 (.tmp 10) (.tmp 40) rfl (wlV (zw 8)) (wlV startV) rfl rfl HI8.out HZ8.out (wl_one startV) ?_)
  clear hz8 HZ8 HI8
  have HBW := Lib.hid HB.out.size
  obtain ⟨w2, hq2, hb9, hz9, Hh⟩ := new1 w1 208 (wlV startV)
  rw [hq2]
  clear hq2
  replace HB := hbu HB hb9
  replace HZS := sz HZS hz9.out
  clear hb9 hz9
  have c0 : w2.cell? ⟨w1.heap.size, 0, none⟩ = some (.int .u32 1779033703) := Hh.out.cell rfl
  have hx0 : bits BinOp.xor IntKind.u32 1779033703 16842784 = 1795745351 := by decide
  have f3_h := Hh.out.frozen
  obtain ⟨w3, hq3, hg9, hz9, hx9⟩ := put1 Hh 0 (.int .u32 1795745351) _ rfl
  replace HB := hbg HB hg9 (by have g0 := HZS.out; omega)
  replace HZS := sz HZS hz9.out
  replace Hh := hx9
  clear hx9 hg9 hz9
  replace Hh := Lib.hid (show Bx w3 w1.heap.size 208 (wlV h0B) from Hh.out)
  go_wp2_with fail
  clear hq3 f3_h c0 hx0
  have HZ0 := Lib.hid (show w.heap.size ≤ w1.heap.size from HBW.out)
  have HP9 := Lib.hid hP
  clear hP HBW
  generalize w1.heap.size = hB at *
  have HQ0 := Lib.hid (show Bx w3 hB 208 (wlV (keyW (bytesOf b) 0)) from Hh.out)
  clear Hh
  go_loopw [11] (fun c wr => ∃ k : Nat, k ≤ P ∧ c = .int .i64 k ∧ Hid (Bx wr hB 208 (wlV (keyW (bytesOf b) k))) ∧ Hid (Below w.heap.size w wr)) (fun c _ => P - (RowKit.intOf c).toNat)
  case atStart => exact ⟨0, by omega, rfl, HQ0, HB⟩
  case round =>
   obtain ⟨k, hk, rfl, HQ, HB9⟩ := hrel
   clear HQ0 HB
   have HB := HB9
   have Hh := HQ
   clear HB9 HQ
   have HSB := Lib.hid HB.out.size
   have HSH := Lib.hid Hh.out.lt
   replace HZS := sz HZS HZ0.out
   replace HZS := sz HZS HSB.out
   replace HZS := sz HZS HSH.out
   by_cases hkP : k < P
   ·have HKE := Lib.hid (show keyW (bytesOf b) k = allB (bytesOf b) k from by unfold keyW; rw [if_pos (by have := HPL.out; omega)])
    rw [HKE.out] at Hh
    have hz16 : (#[.int .u32 0, .int .u32 0, .int .u32 0, .int .u32 0, .int .u32 0, .int .u32 0, .int .u32 0, .int .u32 0, .int .u32 0, .int .u32 0, .int .u32 0, .int .u32 0, .int .u32 0, .int .u32 0, .int .u32 0, .int .u32 0] : Array Value) = (wlV (wordsB (pieceB (bytesOf b) k) 0)).toArray := by rw [wordsB_zero]; rfl
    have hkd : decide ((k : Int) < (P : Int)) = true := by simp; omega
    have HCL := Lib.hid (show (pieceB (bytesOf b) k).length = min 64 (b.size - 64 * k) from by rw [piece_len, bytesOf_len])
    have hk64 : 64 * k ≤ b.size := by have := HPL.out; unfold lastB at this; rw [bytesOf_len] at this; omega
    go_upto_region 19 with (fail)
    obtain ⟨wo, rfl⟩ : ∃ wo : World, wo = wr := ⟨_, rfl⟩
    obtain ⟨w4, hq4, hb9, hz9, Hm⟩ := new1 wo 230 (wlV (wordsB (pieceB (bytesOf b) k) 0))
    rw [hq4]
    clear hq4
    replace Hh := Lib.hid (Hh.out.up hb9)
    replace HB := hbu HB hb9
    replace HZS := sz HZS hz9.out
    clear hb9 hz9 hz16
    have HK := Lib.hid (Kept.refl (fun q9 => q9 = wo.heap.size) w4)
    go_wp2_with fail
    go_loopw [13] (fun c wr => ∃ i : Nat, i ≤ (pieceB (bytesOf b) k).length ∧ c = .int .i64 i ∧ Hid (Bx wr wo.heap.size 230 (wlV (wordsB (pieceB (bytesOf b) k) i))) ∧ Hid (Kept (fun q9 => q9 = wo.heap.size) w4 wr)) (fun c _ => 64 - (RowKit.intOf c).toNat)
    case atStart => exact ⟨0, by omega, rfl, Hm, HK⟩
    case round =>
     obtain ⟨i, hi, rfl, HQ, HK1⟩ := hrel
     clear HK
     have hg9 := HK1.out
     clear Hm
     replace Hh := Lib.hid (Hh.out.keptP hg9 (show ¬ (hB = wo.heap.size) by have g0 := HZS.out; omega))
     replace HB := Lib.hid (Below.keptP HB.out hg9 (by have g0 := HZS.out; omega) (fun q9 h9 => (show w.heap.size ≤ _ by subst h9; have g0 := HZS.out; omega)))
     replace HZS := sz HZS (show w4.heap.size ≤ wr.heap.size from hg9.size)
     clear hg9
     have Hm := HQ
     clear HQ
     have HWL := Lib.hid (wordsB_len (pieceB (bytesOf b) k) i)
     have hi64 : i ≤ 64 := by have := HCL.out; omega
     by_cases hic : i < (pieceB (bytesOf b) k).length
     ·have hi6 : i < 64 := by have := HCL.out; omega
      have hin : 64 * k + i < b.size := by have := HCL.out; omega
      have hbb : (bytesOf b).getD (64 * k + i) 0 = b[64 * k + i] := by unfold bytesOf List.getD; rw [List.getElem?_eq_getElem (by rw [Array.length_toList]; exact hin)]; rfl
      have hix := fun W => run_index_str (P := Tryz.prog) W 9 b (64 * k + i) (64 * (k : Int) + (i : Int)) (by omega) hin (((pieceB (bytesOf b) k).getD i 0).toNat : Int) (by rw [piece_get _ _ _ hi6, hbb]) Tryz.underlying9
      have HWS := Lib.hid (wordsB_succ (pieceB (bytesOf b) k) i hi6)
      have HPW := fun w => power_any (i % 4) (by omega) w
      rw [show ((i % 4 : Nat) : Int) = (i : Int) % 4 from by omega] at HPW
      have HPW := Lib.hid HPW
      have hmul := word_mul (pieceB (bytesOf b) k) i
      have c1 := wl_cell Hm.out (i / 4) (by rw [HWL.out]; omega)
      generalize (wordsB (pieceB (bytesOf b) k) i).getD (i / 4) 0 = X at *
      generalize BitVec.ofNat 32 (((pieceB (bytesOf b) k).getD i 0).toNat * 256 ^ (i % 4)) = z at *
      clear hbb
      have hcb := ((pieceB (bytesOf b) k).getD i 0).toNat_lt
      generalize ((pieceB (bytesOf b) k).getD i 0).toNat = cb at *
      generalize ((256 ^ (i % 4) : Nat) : Int) = p at *
      have hadd := add32 X z
      obtain ⟨Z, hZ⟩ : ∃ Z, X + z = Z := ⟨_, rfl⟩
      rw [hZ] at hadd HWS
      clear hZ
      have a1 : (0 : Int) ≤ ((i / 4 : Nat) : Int) := by omega
      have a2 : ((i / 4 : Nat) : Int) < 16 := by omega
      have hdi : decide ((i : Int) < 64) = true := by simp; omega
      have hdn : decide (64 * (k : Int) + (i : Int) < (b.size : Int)) = true := by simp; omega
      go_wp2_with fail
      refine wp_region_otail 19 (by kernel_rfl) (by kernel_rfl) ?_
      simp only [List.take_succ_cons, List.take_zero, List.drop_succ_cons, List.drop_zero]
      have hov_wo_heap_size := fun (E : Over wr) o => E.cell (b := wo.heap.size) o Hm.out.lt
      repeat (go_big_quiet_step (first | (go_at_call 177; exact calls_over (HPW.out _))))
      all_goals (try unfold elV limbV)
      repeat (go_big_quiet_step (first | (go_at_call 177; exact calls_over (HPW.out _))))
      all_goals (try unfold elV limbV)
      repeat (go_big_quiet_step (first | (go_at_call 177; exact calls_over (HPW.out _))))
      all_goals (try unfold ciphV)
      refine wpQuiet_nil ?_
      rintro _ ⟨E, rfl⟩
      clear hov_wo_heap_size
      replace Hh := Lib.hid (Hh.out.up E.h)
      replace Hm := Lib.hid (Hm.out.up E.h)
      replace HK1 := Lib.hid (Kept.up HK1.out E.h)
      replace HB := hbu HB E.h
      replace HZS := sz HZS E.h.size
      obtain ⟨w5, hq9⟩ : ∃ W9 : World, E.w = W9 := ⟨_, rfl⟩
      rw [hq9] at Hh Hm HK1 HB HZS ⊢
      clear hq9 E c1 hix HPW
      have c1 := Hm.out.cell (wlV_get (wordsB (pieceB (bytesOf b) k) i) (i / 4) (by rw [HWL.out]; omega))
      have f6_m := Hm.out.frozen
      obtain ⟨w6, hq6, hg9, hz9, hx9⟩ := put1 Hm (i / 4) (.int .u32 (Z.toNat : Int)) _ rfl
      replace Hh := Lib.hid (Hh.out.grown hg9.out (sne (by have g0 := HZS.out; omega)))
      replace HK1 := Lib.hid (Kept.grown HK1.out hg9.out (fun q9 e9 => by obtain rfl := Option.some.inj e9; exact Or.inr (rfl)))
      replace HB := hbg HB hg9 (by have g0 := HZS.out; omega)
      replace HZS := sz HZS hz9.out
      replace Hm := hx9
      clear hx9 hg9 hz9
      replace Hm := Lib.hid Hm.out.wset
      rw [← HWS.out] at Hm
      go_wp2_with fail
      clear hq6 f6_m
      exact ⟨⟨i + 1, hic, by go_num, Hm, HK1⟩, by simp [RowKit.intOf]; omega⟩
     ·have hie : i = (pieceB (bytesOf b) k).length := by omega
      have hpl : (pieceB (bytesOf b) k).length ≤ 64 := by rw [← hie]; exact hi64
      rw [hie, wordsB_full _ hpl] at Hm
      have hcl := HCL.out
      rw [← hie] at hcl
      have hpl9 := HPL.out
      unfold lastB at hpl9
      rw [bytesOf_len] at hpl9
      have HHL := Lib.hid (allB_len (bytesOf b) k)
      have HHI := Lib.hid (show (Tryz.prog.info? 208).map (·.size) = some (wlV (allB (bytesOf b) k)).length by rw [wlV_len, HHL.out]; exact info8)
      have HMI := Lib.hid (show (Tryz.prog.info? 230).map (·.size) = some (wlV (wordsB (pieceB (bytesOf b) k) 64)).length by rw [wlV_len, wordsB_len]; exact info16)
      clear hie hpl
      by_cases hi6 : i < 64
      ·have hdi : decide ((i : Int) < 64) = true := by simp; omega
       have hdn : decide (64 * (k : Int) + (i : Int) < (b.size : Int)) = false := by simp; omega
       have hgt : (b.size : Int) < 64 * (k : Int) + 64 := by omega
       have hke : ((k : Int) == ((P : Int) - 1)) = true := by rw [beq_iff_eq]; omega
       have HKN := Lib.hid (show keyW (bytesOf b) (k + 1) = pressB (allB (bytesOf b) k) (wordsB (pieceB (bytesOf b) k) 64) b.size true from by
        have e : k = lastB (bytesOf b) := by have := HPL.out; omega
        unfold keyW
        rw [if_neg (by omega), e]
        unfold digW
        rw [bytesOf_len])
       have HPR := Lib.hid (fun w => rPress_any (allB (bytesOf b) k) (wordsB (pieceB (bytesOf b) k) 64) HHL.out (wordsB_len _ _) b.size (by omega) true w)
       clear hcl hpl9
       go_wp2_with (first | refine wpList_load_mid rfl 208 (.tmp 10) rfl hB 0 rfl (wlV (allB (bytesOf b) k)) _ Hh.out.range Tryz.underlying208 rfl HHI.out ?_ | refine wpList_load_mid rfl 230 (.tmp 12) rfl wo.heap.size 0 rfl (wlV (wordsB (pieceB (bytesOf b) k) 64)) _ Hm.out.range Tryz.underlying230 rfl HMI.out ?_)
       refine (HPR.out wr).mono ?_
       rintro e w5 ⟨rfl, hb9⟩
       replace Hh := Lib.hid (Hh.out.up hb9)
       replace Hm := Lib.hid (Hm.out.up hb9)
       replace HK1 := Lib.hid (Kept.up HK1.out hb9)
       replace HB := hbu HB hb9
       replace HZS := sz HZS hb9.size
       clear hb9
       rw [← HKN.out]
       have HRL := Lib.hid (keyW_len (bytesOf b) (k + 1))
       obtain ⟨R, hR⟩ : ∃ R, keyW (bytesOf b) (k + 1) = R := ⟨_, rfl⟩
       rw [hR] at HRL ⊢
       have HRE := Lib.hid hR
       clear hR
       have HRI := Lib.hid (show (Tryz.prog.info? 208).map (·.size) = some (wlV R).length by rw [wlV_len, HRL.out]; exact info8)
       have HRZ := Lib.hid (show (wlV R).length = (wlV (allB (bytesOf b) k)).length by rw [wlV_len, wlV_len, HRL.out, HHL.out])
       obtain ⟨wz, hqz, hgz, hzz, hrz⟩ := puts Hh 0 (wlV R) (wlV R) (putL_all _ _ HRZ.out)
       have HBZ := hbg HB hgz (by have g0 := HZS.out; omega)
       go_wp2_with (refine wpList_store_mid rfl 208 (.tmp 10) (.tmp 101) rfl hB 0 (wlV R).toArray rfl rfl (Hh.out.there (by simp [HRZ.out])) (by simpa using HRI.out) (all_oneCell_toArray (wl_one R)) ?_)
       exact ⟨⟨k + 1, by omega, by go_num, by rw [HRE.out]; exact hrz, HBZ⟩, by simp [RowKit.intOf]; omega⟩
      ·have hdi : decide ((i : Int) < 64) = false := by simp; omega
       have hgt : 64 * (k : Int) + 64 ≤ (b.size : Int) := by omega
       by_cases hkl : k + 1 < P
       ·have hke : ((k : Int) == ((P : Int) - 1)) = false := by rw [beq_eq_false_iff_ne]; omega
        have HKN := Lib.hid (show keyW (bytesOf b) (k + 1) = pressB (allB (bytesOf b) k) (wordsB (pieceB (bytesOf b) k) 64) (64 * k + 64) false from by
         unfold keyW
         rw [if_pos (by have := HPL.out; omega), show 64 * k + 64 = 64 * (k + 1) by omega]
         rfl)
        have hpr := fun w => rPress_any (allB (bytesOf b) k) (wordsB (pieceB (bytesOf b) k) 64) HHL.out (wordsB_len _ _) (64 * k + 64) (by omega) false w
        rw [show ((64 * k + 64 : Nat) : Int) = 64 * (k : Int) + 64 from by omega] at hpr
        have HPR := Lib.hid hpr
        clear hpr hcl hpl9
        go_wp2_with (first | refine wpList_load_mid rfl 208 (.tmp 10) rfl hB 0 rfl (wlV (allB (bytesOf b) k)) _ Hh.out.range Tryz.underlying208 rfl HHI.out ?_ | refine wpList_load_mid rfl 230 (.tmp 12) rfl wo.heap.size 0 rfl (wlV (wordsB (pieceB (bytesOf b) k) 64)) _ Hm.out.range Tryz.underlying230 rfl HMI.out ?_)
        refine (HPR.out wr).mono ?_
        rintro e w5 ⟨rfl, hb9⟩
        replace Hh := Lib.hid (Hh.out.up hb9)
        replace Hm := Lib.hid (Hm.out.up hb9)
        replace HK1 := Lib.hid (Kept.up HK1.out hb9)
        replace HB := hbu HB hb9
        replace HZS := sz HZS hb9.size
        clear hb9
        rw [← HKN.out]
        have HRL := Lib.hid (keyW_len (bytesOf b) (k + 1))
        obtain ⟨R, hR⟩ : ∃ R, keyW (bytesOf b) (k + 1) = R := ⟨_, rfl⟩
        rw [hR] at HRL ⊢
        have HRE := Lib.hid hR
        clear hR
        have HRI := Lib.hid (show (Tryz.prog.info? 208).map (·.size) = some (wlV R).length by rw [wlV_len, HRL.out]; exact info8)
        have HRZ := Lib.hid (show (wlV R).length = (wlV (allB (bytesOf b) k)).length by rw [wlV_len, wlV_len, HRL.out, HHL.out])
        obtain ⟨wz, hqz, hgz, hzz, hrz⟩ := puts Hh 0 (wlV R) (wlV R) (putL_all _ _ HRZ.out)
        have HBZ := hbg HB hgz (by have g0 := HZS.out; omega)
        go_wp2_with (refine wpList_store_mid rfl 208 (.tmp 10) (.tmp 101) rfl hB 0 (wlV R).toArray rfl rfl (Hh.out.there (by simp [HRZ.out])) (by simpa using HRI.out) (all_oneCell_toArray (wl_one R)) ?_)
        exact ⟨⟨k + 1, by omega, by go_num, by rw [HRE.out]; exact hrz, HBZ⟩, by simp [RowKit.intOf]; omega⟩
       ·have hke : ((k : Int) == ((P : Int) - 1)) = true := by rw [beq_iff_eq]; omega
        have HKN := Lib.hid (show keyW (bytesOf b) (k + 1) = pressB (allB (bytesOf b) k) (wordsB (pieceB (bytesOf b) k) 64) (64 * k + 64) true from by
         have e : k = lastB (bytesOf b) := by have := HPL.out; omega
         have e2 : b.size = 64 * k + 64 := by omega
         unfold keyW
         rw [if_neg (by omega), ← e2, e]
         unfold digW
         rw [bytesOf_len])
        have hpr := fun w => rPress_any (allB (bytesOf b) k) (wordsB (pieceB (bytesOf b) k) 64) HHL.out (wordsB_len _ _) (64 * k + 64) (by omega) true w
        rw [show ((64 * k + 64 : Nat) : Int) = 64 * (k : Int) + 64 from by omega] at hpr
        have HPR := Lib.hid hpr
        clear hpr hcl hpl9
        go_wp2_with (first | refine wpList_load_mid rfl 208 (.tmp 10) rfl hB 0 rfl (wlV (allB (bytesOf b) k)) _ Hh.out.range Tryz.underlying208 rfl HHI.out ?_ | refine wpList_load_mid rfl 230 (.tmp 12) rfl wo.heap.size 0 rfl (wlV (wordsB (pieceB (bytesOf b) k) 64)) _ Hm.out.range Tryz.underlying230 rfl HMI.out ?_)
        refine (HPR.out wr).mono ?_
        rintro e w5 ⟨rfl, hb9⟩
        replace Hh := Lib.hid (Hh.out.up hb9)
        replace Hm := Lib.hid (Hm.out.up hb9)
        replace HK1 := Lib.hid (Kept.up HK1.out hb9)
        replace HB := hbu HB hb9
        replace HZS := sz HZS hb9.size
        clear hb9
        rw [← HKN.out]
        have HRL := Lib.hid (keyW_len (bytesOf b) (k + 1))
        obtain ⟨R, hR⟩ : ∃ R, keyW (bytesOf b) (k + 1) = R := ⟨_, rfl⟩
        rw [hR] at HRL ⊢
        have HRE := Lib.hid hR
        clear hR
        have HRI := Lib.hid (show (Tryz.prog.info? 208).map (·.size) = some (wlV R).length by rw [wlV_len, HRL.out]; exact info8)
        have HRZ := Lib.hid (show (wlV R).length = (wlV (allB (bytesOf b) k)).length by rw [wlV_len, wlV_len, HRL.out, HHL.out])
        obtain ⟨wz, hqz, hgz, hzz, hrz⟩ := puts Hh 0 (wlV R) (wlV R) (putL_all _ _ HRZ.out)
        have HBZ := hbg HB hgz (by have g0 := HZS.out; omega)
        go_wp2_with (refine wpList_store_mid rfl 208 (.tmp 10) (.tmp 101) rfl hB 0 (wlV R).toArray rfl rfl (Hh.out.there (by simp [HRZ.out])) (by simpa using HRI.out) (all_oneCell_toArray (wl_one R)) ?_)
        exact ⟨⟨k + 1, by omega, by go_num, by rw [HRE.out]; exact hrz, HBZ⟩, by simp [RowKit.intOf]; omega⟩
   ·have hkP' : k = P := by omega
    have HKD := Lib.hid (show keyW (bytesOf b) k = digW (bytesOf b) from by unfold keyW; rw [if_neg (by have := HPL.out; omega)])
    rw [HKD.out] at Hh
    have hkd : decide ((k : Int) < (P : Int)) = false := by simp; omega
    clear HKD
    have hmk := make32 (bytesOf b)
    go_upto_region 28 with (fail)
    clear hmk
    obtain ⟨wo, rfl⟩ : ∃ wo : World, wo = wr := ⟨_, rfl⟩
    obtain ⟨w4, hq4, hb9, hz9, Ho⟩ := new1 wo 5 (byteCells (outP (bytesOf b) 0))
    rw [hq4]
    clear hq4
    replace Hh := Lib.hid (Hh.out.up hb9)
    replace HB := hbu HB hb9
    replace HZS := sz HZS hz9.out
    clear hb9 hz9
    have HK := Lib.hid (Kept.refl (fun q9 => q9 = wo.heap.size) w4)
    have HRL := Lib.hid (digW_len (bytesOf b))
    go_wp2_with fail
    go_loopw [16] (fun c wr => ∃ i : Nat, i ≤ 32 ∧ c = .int .i64 i ∧ Hid (Bx wr wo.heap.size 5 (byteCells (outP (bytesOf b) i))) ∧ Hid (Kept (fun q9 => q9 = wo.heap.size) w4 wr)) (fun c _ => 32 - (RowKit.intOf c).toNat)
    case atStart => exact ⟨0, by omega, rfl, Ho, HK⟩
    case round =>
     obtain ⟨i, hi, rfl, HQ, HK1⟩ := hrel
     clear HK
     have hg9 := HK1.out
     clear Ho
     replace Hh := Lib.hid (Hh.out.keptP hg9 (show ¬ (hB = wo.heap.size) by have g0 := HZS.out; omega))
     replace HB := Lib.hid (Below.keptP HB.out hg9 (by have g0 := HZS.out; omega) (fun q9 h9 => (show w.heap.size ≤ _ by subst h9; have g0 := HZS.out; omega)))
     replace HZS := sz HZS (show w4.heap.size ≤ wr.heap.size from hg9.size)
     clear hg9
     have Ho := HQ
     clear HQ
     by_cases hi3 : i < 32
     ·have HPW := fun w => power_any (i % 4) (by omega) w
      rw [show ((i % 4 : Nat) : Int) = (i : Int) % 4 from by omega] at HPW
      have HPW := Lib.hid HPW
      have c1 := wl_cell Hh.out (i / 4) (by rw [HRL.out]; omega)
      have hdv := digB_div (bytesOf b) i hi3
      have HON := Lib.hid (outP_succ (bytesOf b) i hi3)
      have hp1 : (1 : Int) ≤ ((256 ^ (i % 4) : Nat) : Int) := by have := Nat.pow_pos (n := i % 4) (show 0 < 256 by decide); omega
      generalize (digW (bytesOf b)).getD (i / 4) 0 = X at *
      generalize ((256 ^ (i % 4) : Nat) : Int) = p at *
      obtain ⟨y, hy⟩ : ∃ y, (digB (bytesOf b)).getD i 0 = y := ⟨_, rfl⟩
      rw [hy] at hdv HON
      clear hy
      have hyl := y.toNat_lt
      have HOL := Lib.hid (outP_len (bytesOf b) i hi)
      have a1 : (0 : Int) ≤ ((i / 4 : Nat) : Int) := by omega
      have a2 : ((i / 4 : Nat) : Int) < 8 := by omega
      go_wp2_with fail
      refine wp_region_otail 13 (by kernel_rfl) (by kernel_rfl) ?_
      simp only [List.take_succ_cons, List.take_zero, List.drop_succ_cons, List.drop_zero]
      have hov_hB := fun (E : Over wr) o => E.cell (b := hB) o Hh.out.lt
      repeat (go_big_quiet_step (first | (go_at_call 177; exact calls_over (HPW.out _))))
      all_goals (try unfold elV limbV)
      repeat (go_big_quiet_step (first | (go_at_call 177; exact calls_over (HPW.out _))))
      all_goals (try unfold elV limbV)
      repeat (go_big_quiet_step (first | (go_at_call 177; exact calls_over (HPW.out _))))
      all_goals (try unfold ciphV)
      refine wpQuiet_nil ?_
      rintro _ ⟨E, rfl⟩
      clear hov_hB
      replace Hh := Lib.hid (Hh.out.up E.h)
      replace Ho := Lib.hid (Ho.out.up E.h)
      replace HK1 := Lib.hid (Kept.up HK1.out E.h)
      replace HB := hbu HB E.h
      replace HZS := sz HZS E.h.size
      obtain ⟨w5, hq9⟩ : ∃ W9 : World, E.w = W9 := ⟨_, rfl⟩
      rw [hq9] at Hh Ho HK1 HB HZS ⊢
      clear hq9 E c1 HPW
      have c1 := Ho.out.cell (byte_cell (outP (bytesOf b) i) i (by rw [HOL.out]; exact hi3))
      have f6_o := Ho.out.frozen
      obtain ⟨w6, hq6, hg9, hz9, hx9⟩ := put1 Ho i (.int .u8 (y.toNat : Int)) _ rfl
      replace Hh := Lib.hid (Hh.out.grown hg9.out (sne (by have g0 := HZS.out; omega)))
      replace HK1 := Lib.hid (Kept.grown HK1.out hg9.out (fun q9 e9 => by obtain rfl := Option.some.inj e9; exact Or.inr (rfl)))
      replace HB := hbg HB hg9 (by have g0 := HZS.out; omega)
      replace HZS := sz HZS hz9.out
      replace Ho := hx9
      clear hx9 hg9 hz9
      replace Ho := Lib.hid (show Bx w6 wo.heap.size 5 (byteCells (outP (bytesOf b) (i + 1))) from by rw [HON.out, ← byteCells_set]; exact Ho.out)
      go_wp2_with fail
      clear hq6 f6_o
      exact ⟨⟨i + 1, by omega, by go_num, Ho, HK1⟩, by simp [RowKit.intOf]; omega⟩
     ·have hi3' : i = 32 := by omega
      subst hi3'
      rw [outP_all] at Ho
      have hcv := run_convert_bytes_arg (P := Tryz.prog) wr 150 5 Tryz.underlying150 Tryz.underlying5 wo.heap.size 0 32 32 ((digB (bytesOf b)).map fun b => (b.toNat : Int)) (by rw [List.length_map, digB_len]) (fun j hj => by rw [Nat.zero_add, Ho.out.cell (byte_cell _ j (by rw [digB_len]; exact hj))]; simp [List.getD, digB_len, hj]) 9 Tryz.underlying9
      rw [out_str] at hcv
      go_wp2_with fail
      go_ret2
      exact ⟨rfl, HB.out⟩
end Go.Proofs.YtdlnnkbigeiilaaGreat
namespace Go.Proofs.YtdlnnkbigeiilaaGreat
open Go.RowKit Go.Lib
theorem Digest_any (b : ByteArray) (hsz : b.size < 2305843009213693952) (w : World) : Calls Tryz.prog 133 #[.string b] w fun e w' => e = .returned (.string (digS (bytesOf b))) ∧ Below w.heap.size w w' := by
 have HK := Lib.hid (fun w => Keyed_any b hsz w)
 go_enter Tryz.func133, Tryz.ntmps133
 go_wp2_with fail
 refine (HK.out w).mono ?_
 rintro e w1 ⟨rfl, hb9⟩
 have HB := Lib.hid hb9
 have HZS := Lib.hid hb9.size
 clear hb9
 go_wp2_with fail
 go_ret
 exact ⟨rfl, HB.out⟩
theorem Four_any (n : Nat) (hn : n < 9223372036854775808) (w : World) : Calls Tryz.prog 141 #[.int .i64 (n : Int)] w fun e w' => e = .returned (.string (fourS n)) ∧ Below w.heap.size w w' := by
 have hn0 : (0 : Int) ≤ (n : Int) := by omega
 go_enter Tryz.func141, Tryz.ntmps141
 obtain ⟨w1, hq1, hb9, hz9, Hr⟩ := new1 w 5 [.int .u8 ((n : Int) / 16777216 % 256), .int .u8 ((n : Int) / 65536 % 256), .int .u8 ((n : Int) / 256 % 256), .int .u8 ((n : Int) % 256)]
 have HB := Lib.hid hb9
 have HZS := hz9
 clear hb9 hz9
 have r_ := Hr.out.c4
 have hcv := run_convert_bytes_arg (P := Tryz.prog) w1 150 5 Tryz.underlying150 Tryz.underlying5 w.heap.size 0 4 4 [(n : Int) / 16777216 % 256, (n : Int) / 65536 % 256, (n : Int) / 256 % 256, (n : Int) % 256] rfl (fun i hi => by
  rcases (show i = 0 ∨ i = 1 ∨ i = 2 ∨ i = 3 by omega) with rfl | rfl | rfl | rfl
  ·exact Hr.out.cell (i := 0) rfl
  ·exact Hr.out.cell (i := 1) rfl
  ·exact Hr.out.cell (i := 2) rfl
  ·exact Hr.out.cell (i := 3) rfl) 9 Tryz.underlying9
 go_wp2_with fail
 clear hq1
 go_ret
 exact ⟨rfl, HB.out⟩
theorem bytesOf_app (a b : ByteArray) : bytesOf (a ++ b) = bytesOf a ++ bytesOf b := by
 unfold bytesOf
 simp
theorem Joined_any (label : ByteArray) (ps : List ByteArray) (n : Nat) (hpn : ps.length = n) (hsz : (joinL label ps).length < 2305843009213693952) (a : Option Addr) (c : Nat) (w : World) (hX : Sl w w.heap.size a (ps.map Value.string)) :
  Calls Tryz.prog 134 #[.string label, .slice a n c] w fun e w' => ∃ y, e = .returned (.string y) ∧ bytesOf y = joinL label ps ∧ Below w.heap.size w w' := by
 have HPN := Lib.hid hpn
 have HSZ := Lib.hid (show ((label :: ps).flatMap pfxL).length < 2305843009213693952 from joinL_eq label ps ▸ hsz)
 have HX := Lib.hid hX
 have hn6 : n < 1152921504606846976 := by
  have := join_ge (label :: ps)
  rw [← joinL_eq, List.length_cons, hpn] at this
  omega
 have hl0 := join_len (label :: ps) 0 (by simp)
 rw [List.getElem_cons_zero, ← joinL_eq] at hl0
 have hl1 : label.size < 2305843009213693952 := by omega
 clear hpn hsz hX hl0
 go_enter Tryz.func134, Tryz.ntmps134
 go_wp2_with fail
 refine (Four_any label.size (by omega) w).mono ?_
 rintro e w1 ⟨rfl, hb9⟩
 have HB := Lib.hid hb9
 have HZS := Lib.hid hb9.size
 clear hb9
 have hfs : (fourS label.size).size = 4 := rfl
 have HY0 := Lib.hid (show bytesOf (fourS label.size ++ label) = ((label :: ps).take (0 + 1)).flatMap pfxL from by rw [bytesOf_app, fourS_bytes]; simp [pfxL])
 generalize fourS label.size = f0 at *
 have hfc : ¬ (9223372036854775807 < f0.size + label.size) := by omega
 go_wp2_with fail
 go_loopw [15, 5] (fun c v wr => ∃ (j : Nat) (y : ByteArray), j ≤ n ∧ c = .int .i64 j ∧ v = .string y ∧ Hid (bytesOf y = ((label :: ps).take (j + 1)).flatMap pfxL) ∧ Hid (Below w.heap.size w wr)) (fun c _ _ => n - (RowKit.intOf c).toNat)
 case atStart => exact ⟨0, _, by omega, rfl, rfl, HY0, HB⟩
 case round =>
  clear HY0 HB hfs hfc
  obtain ⟨j, y, hj, rfl, rfl, HY, HB⟩ := hrel
  by_cases hjn : j < n
  ·have hjp : j < ps.length := by rw [HPN.out]; exact hjn
   have hl9 := join_len (label :: ps) (j + 1) (by rw [List.length_cons]; omega)
   have hs9 := join_snoc (label :: ps) (j + 1) (by rw [List.length_cons]; omega)
   rw [List.getElem_cons_succ] at hl9 hs9
   rw [← HY.out] at hl9 hs9
   rw [bytesOf_len] at hl9
   have hT := HSZ.out
   obtain ⟨xb, xo, rfl, hxl, hxc⟩ := (HX.out.up HB.out).at j (by rw [List.length_map]; exact hjp)
   rw [List.getElem_map] at hxc
   generalize ps[j] = x at *
   have hl8 : y.size + 4 + x.size < 2305843009213693952 := by omega
   have HYN := Lib.hid (show bytesOf (y ++ fourS x.size ++ x) = ((label :: ps).take (j + 1 + 1)).flatMap pfxL from by rw [bytesOf_app, bytesOf_app, fourS_bytes, hs9, List.append_assoc])
   have HF4 := Lib.hid (fun w => Four_any x.size (by omega) w)
   have hfs : (fourS x.size).size = 4 := rfl
   clear hl9 hs9 hT
   generalize fourS x.size = f at *
   have hc1 : ¬ (9223372036854775807 < y.size + f.size) := by omega
   have hc2 : ¬ (9223372036854775807 < (y ++ f).size + x.size) := by rw [ByteArray.size_append]; omega
   have hc3 : ¬ (9223372036854775807 < y.size + f.size + x.size) := by omega
   go_wp2_with fail
   refine (HF4.out wr).mono ?_
   rintro e w2 ⟨rfl, hb9⟩
   replace HB := hbu HB hb9
   replace HZS := sz HZS hb9.size
   clear hb9
   go_wp2_with fail
   go_roundw
   case rel => exact ⟨j + 1, _, by omega, by go_num, rfl, HYN, HB⟩
   case measure => simp [RowKit.intOf]; omega
  ·have hjn' : j = n := by omega
   subst hjn'
   rw [List.take_of_length_le (by rw [List.length_cons, HPN.out]; exact Nat.le_refl _), ← joinL_eq] at HY
   go_wp2_with fail
   go_ret
   exact ⟨y, rfl, HY.out, HB.out⟩
theorem rTag_any (label : ByteArray) (ps : List ByteArray) (n : Nat) (hpn : ps.length = n) (hsz : (joinL label ps).length < 2305843009213693952) (a : Option Addr) (c : Nat) (w : World) (hX : Sl w w.heap.size a (ps.map Value.string)) :
  Calls Tryz.prog 83 #[.string label, .slice a n c] w fun e w' => e = .returned (.string (tagS label ps)) ∧ Below w.heap.size w w' := by
 have HJ := Lib.hid (Joined_any label ps n hpn hsz a c w hX)
 have HSZ := Lib.hid hsz
 clear hpn hsz hX
 go_enter Tryz.func83, Tryz.ntmps83
 go_wp2_with fail
 refine (HJ.out).mono ?_
 rintro e w1 ⟨y, rfl, hy, hb9⟩
 have HB := Lib.hid hb9
 have HZS := Lib.hid hb9.size
 have HY := Lib.hid hy
 clear hy hb9
 go_wp2_with fail
 refine (Digest_any y (by rw [← bytesOf_len, HY.out]; exact HSZ.out) w1).mono ?_
 rintro e w2 ⟨rfl, hb9⟩
 replace HB := hbu HB hb9
 replace HZS := sz HZS hb9.size
 clear hb9
 have HE := Lib.hid (show digS (bytesOf y) = tagS label ps from by rw [HY.out]; rfl)
 rw [HE.out]
 go_wp2_with fail
 go_ret
 exact ⟨rfl, HB.out⟩
end Go.Proofs.YtdlnnkbigeiilaaGreat
namespace Go.Proofs.YtdlnnkbigeiilaaGreat
open Go.RowKit Go.Lib
theorem rNewTalk_any (label : ByteArray) (hl : label.size < 140737488355328) (w : World) :
  Calls Tryz.prog 112 #[.string label] w fun e w' => e = .returned (.agg #[.string (tagS talkB [label])]) ∧ Below w.heap.size w w' := by
 have HJ := Lib.hid (join_small talkB [label] 0 (by simp) (by simpa using hl) (by decide))
 have HT := Lib.hid (fun a c w hX => rTag_any talkB [label] 1 rfl HJ.out a c w hX)
 obtain ⟨T, hT⟩ : ∃ T, tagS talkB [label] = T := ⟨_, rfl⟩
 rw [hT] at HT ⊢
 clear hl hT HJ
 go_enter Tryz.func112, Tryz.ntmps112
 go_upto_region 1 with (fail)
 obtain ⟨w1, hq1, hb9, hz9, Ho⟩ := new1 w 89 [.string ⟨#[]⟩]
 rw [hq1]
 clear hq1
 have HB := Lib.hid hb9
 have HZS := hz9
 clear hb9 hz9
 have o_ := Ho.out.c1
 have o2_o_ := o_; clear o_
 obtain ⟨w2, hq2, hb9, hz9, Hr⟩ := new1 w1 9 [.string label]
 replace Ho := Lib.hid (Ho.out.up hb9)
 replace HB := hbu HB hb9
 replace HZS := sz HZS hz9.out
 clear hb9 hz9
 have o_ := Ho.out.c1
 have r_ := Hr.out.c1
 go_wp2_with fail
 clear hq2 o2_o_
 refine (HT.out _ _ _ (Sl.ofB Hr.out)).mono ?_
 rintro e w3 ⟨rfl, hb9⟩
 clear o_
 replace Ho := Lib.hid (Ho.out.up hb9)
 clear r_
 replace Hr := Lib.hid (Hr.out.up hb9)
 replace HB := hbu HB hb9
 replace HZS := sz HZS hb9.size
 clear hb9
 have o_ := Ho.out.c1
 have r_ := Hr.out.c1
 have f4_o := Ho.out.frozen
 have o4_o_ := o_; clear o_
 have o4_r_ := r_; clear r_
 obtain ⟨w4, hq4, hg9, hz9, hx9⟩ := put1 Ho 0 (.string T) [.string T] rfl
 replace Hr := Lib.hid (Hr.out.grown hg9.out (sne (by have g0 := HZS.out; omega)))
 replace HB := hbg HB hg9 (by have g0 := HZS.out; omega)
 replace HZS := sz HZS hz9.out
 replace Ho := hx9
 clear hx9 hg9 hz9
 have o_ := Ho.out.c1
 have r_ := Hr.out.c1
 go_wp2_with fail
 clear hq4 o4_r_ o4_o_ f4_o
 simp [bodyPost, results, Tryz.results112, go_sem, o_]
 exact HB.out
theorem rSay_any (s label b : ByteArray) (hs : s.size < 140737488355328) (hl : label.size < 140737488355328) (hb : b.size < 140737488355328) (w : World) :
  Calls Tryz.prog 73 #[.agg #[.string s], .string label, .string b] w fun e w' => e = .returned (.agg #[.string (tagS sayB [s, label, b])]) ∧ Below w.heap.size w w' := by
 have HJ := Lib.hid (join_small sayB [s, label, b] 0 (by simp) (by simp [hs, hl, hb]) (by decide))
 have HT := Lib.hid (fun a c w hX => rTag_any sayB [s, label, b] 3 rfl HJ.out a c w hX)
 obtain ⟨T, hT⟩ : ∃ T, tagS sayB [s, label, b] = T := ⟨_, rfl⟩
 rw [hT] at HT ⊢
 clear hs hl hb hT HJ
 go_enter Tryz.func73, Tryz.ntmps73
 go_upto_region 1 with (fail)
 obtain ⟨w1, hq1, hb9, hz9, Ht, Ho⟩ := new2 w 89 [.string s] 89 [.string ⟨#[]⟩]
 rw [hq1]
 clear hq1
 have HB := Lib.hid hb9
 have HZS := hz9
 clear hb9 hz9
 have t_ := Ht.out.c1
 have o_ := Ho.out.c1
 have o2_t_ := t_; clear t_
 have o2_o_ := o_; clear o_
 obtain ⟨w2, hq2, hb9, hz9, Hr⟩ := new1 w1 9 [.string s, .string label, .string b]
 replace Ht := Lib.hid (Ht.out.up hb9)
 replace Ho := Lib.hid (Ho.out.up hb9)
 replace HB := hbu HB hb9
 replace HZS := sz HZS hz9.out
 clear hb9 hz9
 have t_ := Ht.out.c1
 have o_ := Ho.out.c1
 have r_ := Hr.out.c3
 go_wp2_with fail
 clear hq2 o2_o_ o2_t_
 refine (HT.out _ _ _ (Sl.ofB Hr.out)).mono ?_
 rintro e w3 ⟨rfl, hb9⟩
 clear t_
 replace Ht := Lib.hid (Ht.out.up hb9)
 clear o_
 replace Ho := Lib.hid (Ho.out.up hb9)
 clear r_
 replace Hr := Lib.hid (Hr.out.up hb9)
 replace HB := hbu HB hb9
 replace HZS := sz HZS hb9.size
 clear hb9
 have t_ := Ht.out.c1
 have o_ := Ho.out.c1
 have r_ := Hr.out.c3
 have f4_o := Ho.out.frozen
 have o4_t_ := t_; clear t_
 have o4_o_ := o_; clear o_
 have o4_r_ := r_; clear r_
 obtain ⟨w4, hq4, hg9, hz9, hx9⟩ := put1 Ho 0 (.string T) [.string T] rfl
 replace Ht := Lib.hid (Ht.out.grown hg9.out (sne (by have g0 := HZS.out; omega)))
 replace Hr := Lib.hid (Hr.out.grown hg9.out (sne (by have g0 := HZS.out; omega)))
 replace HB := hbg HB hg9 (by have g0 := HZS.out; omega)
 replace HZS := sz HZS hz9.out
 replace Ho := hx9
 clear hx9 hg9 hz9
 have t_ := Ht.out.c1
 have o_ := Ho.out.c1
 have r_ := Hr.out.c3
 go_wp2_with fail
 clear hq4 o4_r_ o4_o_ o4_t_ f4_o
 simp [bodyPost, results, Tryz.results73, go_sem, o_]
 exact HB.out
theorem new1D (w : World) (t0 : TypeId) (c0 : List Value) : ∃ W, (w.alloc (Obj.cells c0.toArray t0)).drew = W ∧ Below w.heap.size w W ∧ Hid (W.heap.size = w.heap.size + 1) ∧ Hid (Bx W w.heap.size t0 c0) := by
 obtain ⟨W, hq, hb, hz, hx⟩ := new1 w t0 c0
 subst hq
 exact ⟨_, rfl, hb.drew, hz, hx⟩
theorem rAsk_any (s label : ByteArray) (hs : s.size < 140737488355328) (hl : label.size < 140737488355328) (w : World) :
  Calls Tryz.prog 109 #[.agg #[.string s], .string label] w fun e w' => e = .returned (.tuple #[.string (tagS askB [s, label]), .agg #[.string (tagS askedB [s, label])]]) ∧ Below w.heap.size w w' := by
 have HJ := Lib.hid (join_small askB [s, label] 0 (by simp) (by simp [hs, hl]) (by decide))
 have HJ2 := Lib.hid (join_small askedB [s, label] 0 (by simp) (by simp [hs, hl]) (by decide))
 have H1 := Lib.hid (fun a c w hX => rTag_any askB [s, label] 2 rfl HJ.out a c w hX)
 have H2 := Lib.hid (fun a c w hX => rTag_any askedB [s, label] 2 rfl HJ2.out a c w hX)
 obtain ⟨A, hA⟩ : ∃ A, tagS askB [s, label] = A := ⟨_, rfl⟩
 obtain ⟨D, hD⟩ : ∃ D, tagS askedB [s, label] = D := ⟨_, rfl⟩
 rw [hA] at H1 ⊢
 rw [hD] at H2 ⊢
 clear hs hl hA hD HJ HJ2
 go_enter Tryz.func109, Tryz.ntmps109
 go_wp2_with fail
 obtain ⟨w1, hq1, hb9, hz9, Ht, Ho⟩ := new2 w 89 [.string s] 89 [.string ⟨#[]⟩]
 rw [hq1]
 clear hq1
 have HB := Lib.hid hb9
 have HZS := hz9
 clear hb9 hz9
 have t_ := Ht.out.c1
 have o_ := Ho.out.c1
 have HT := Lib.hid (show Below w1.heap.size w1 w1.drew from (Below.refl _ _).drew)
 have hl_t := Ht.out.lt
 refine wp_region_tree (fun wq9 => ∃ E : But w1 (some (w.heap.size + 1)), wq9 = E.w) ((.qs [0, 1, 2, 5, 6, 7] (.two 3 (.two 4 (.a 8 (.a 9 (.qs [10, 11] (.a 12 .done)))) 8 (.a 4 (.a 9 (.qs [10, 11] (.a 12 .done))))) 8 (.a 3 (.a 4 (.a 9 (.qs [10, 11] (.a 12 .done)))))))) (by kernel_rfl) (by kernel_rfl) (fun _ _ d _ _ h => by cases d <;> exact h) ⟨⟨_, ((below_grown HT.out).but _)⟩, rfl⟩ ?_
 have hov_t := fun (E : But w1 (some (w.heap.size + 1))) o => E.cell (b := w.heap.size) o hl_t (by intro e9; have a0 := Option.some.inj e9; have g0 := HZS.out; omega)
 simp only [Tree.qs]
 repeat (refine tree_q rfl rfl ?_; go_big_quiet_step (fail); refine wpQuiet_nil ?_)
 refine tree_two rfl rfl (fun K hK => ?_) (fun K hK => ?_)
 ·go_simp
  obtain ⟨w2, hq9, hb9, hz9, Hr⟩ := new1D w1 9 [.string s, .string label]
  rw [hq9]
  clear hq9
  have HAr := Lib.hid HT.out.size
  replace HT := Lib.hid hb9
  replace HZS := sz HZS (show w1.heap.size ≤ w2.heap.size from HT.out.size)
  clear hb9 hz9
  refine hK _ _ ⟨⟨⟨w2, ((below_grown HT.out).but _)⟩, rfl⟩, ?_⟩
  clear hK K
  repeat (refine tree_q rfl rfl ?_; go_big_quiet_step (fail); refine wpQuiet_nil ?_)
  refine tree_two rfl rfl (fun K hK => ?_) (fun K hK => ?_)
  ·go_simp
   refine (H1.out _ _ _ (Sl.ofB Hr.out)).mono ?_
   rintro e w3 ⟨rfl, hb9⟩
   replace Hr := Lib.hid (Hr.out.up hb9)
   replace HT := Lib.hid (below_up HT.out hb9)
   replace HZS := sz HZS (show w1.heap.size ≤ w3.heap.size from HT.out.size)
   clear hb9
   refine hK _ _ ⟨⟨⟨w3, ((below_grown HT.out).but _)⟩, rfl⟩, ?_⟩
   clear hK K
   repeat (refine tree_q rfl rfl ?_; go_big_quiet_step (fail); refine wpQuiet_nil ?_)
   refine tree_a rfl (fun K hK => ?_)
   go_simp
   obtain ⟨w4, hq9, hb9, hz9, Hq⟩ := new1 w3 9 [.string s, .string label]
   rw [hq9]
   clear hq9
   have HAq := Lib.hid HT.out.size
   replace Hr := Lib.hid (Hr.out.up hb9)
   replace HT := Lib.hid (below_up HT.out hb9)
   replace HZS := sz HZS (show w1.heap.size ≤ w4.heap.size from HT.out.size)
   clear hb9 hz9
   refine hK _ _ ⟨⟨⟨w4, ((below_grown HT.out).but _)⟩, rfl⟩, ?_⟩
   clear hK K
   repeat (refine tree_q rfl rfl ?_; go_big_quiet_step (fail); refine wpQuiet_nil ?_)
   refine tree_a rfl (fun K hK => ?_)
   go_simp
   refine (H2.out _ _ _ (Sl.ofB Hq.out)).mono ?_
   rintro e w5 ⟨rfl, hb9⟩
   replace Hr := Lib.hid (Hr.out.up hb9)
   replace Hq := Lib.hid (Hq.out.up hb9)
   replace HT := Lib.hid (below_up HT.out hb9)
   replace HZS := sz HZS (show w1.heap.size ≤ w5.heap.size from HT.out.size)
   clear hb9
   refine hK _ _ ⟨⟨⟨w5, ((below_grown HT.out).but _)⟩, rfl⟩, ?_⟩
   clear hK K
   repeat (refine tree_q rfl rfl ?_; go_big_quiet_step (fail); refine wpQuiet_nil ?_)
   clear hov_t hl_t
   refine tree_a rfl (fun K hK => ?_)
   clear t_
   replace Ht := Lib.hid (Ht.out.up HT.out)
   clear o_
   replace Ho := Lib.hid (Ho.out.up HT.out)
   replace HB := hbu HB HT.out
   replace HZS := sz HZS HT.out.size
   have t_ := Ht.out.c1
   have o_ := Ho.out.c1
   clear Hr Hq
   have f6_o := Ho.out.frozen
   have o6_t_ := t_; clear t_
   have o6_o_ := o_; clear o_
   obtain ⟨w6, hq6, hg9, hz9, hx9⟩ := put1 Ho 0 (.string D) [.string D] rfl
   replace Ht := Lib.hid (Ht.out.grown hg9.out (sne (by have g0 := HZS.out; omega)))
   replace HB := hbg HB hg9 (by have g0 := HZS.out; omega)
   replace HZS := sz HZS hz9.out
   replace Ho := hx9
   have HGR := Lib.hid (((below_grown HT.out).but _).trans hg9.out)
   clear hx9 hg9 hz9
   have t_ := Ht.out.c1
   have o_ := Ho.out.c1
   clear HT
   go_simp
   try rw [hq6]
   refine hK _ _ ⟨⟨⟨w6, HGR.out⟩, rfl⟩, ?_⟩
   clear hK K HGR hq6 o6_o_ o6_t_ f6_o
   repeat (refine tree_q rfl rfl ?_; go_big_quiet_step (fail); refine wpQuiet_nil ?_)
   refine tree_end ?_
   go_wp2_with fail
   simp [bodyPost, results, Tryz.results109, go_sem, o_]
   exact HB.out
  ·go_simp
   obtain ⟨w3, hq9, hb9, hz9, Hq⟩ := new1 w2 9 [.string s, .string label]
   rw [hq9]
   clear hq9
   have HAq := Lib.hid HT.out.size
   replace Hr := Lib.hid (Hr.out.up hb9)
   replace HT := Lib.hid (below_up HT.out hb9)
   replace HZS := sz HZS (show w1.heap.size ≤ w3.heap.size from HT.out.size)
   clear hb9 hz9
   refine hK _ _ ⟨⟨⟨w3, ((below_grown HT.out).but _)⟩, rfl⟩, ?_⟩
   clear hK K
   repeat (refine tree_q rfl rfl ?_; go_big_quiet_step (fail); refine wpQuiet_nil ?_)
   refine tree_a rfl (fun K hK => ?_)
   go_simp
   refine (H1.out _ _ _ (Sl.ofB Hr.out)).mono ?_
   rintro e w4 ⟨rfl, hb9⟩
   replace Hr := Lib.hid (Hr.out.up hb9)
   replace Hq := Lib.hid (Hq.out.up hb9)
   replace HT := Lib.hid (below_up HT.out hb9)
   replace HZS := sz HZS (show w1.heap.size ≤ w4.heap.size from HT.out.size)
   clear hb9
   refine hK _ _ ⟨⟨⟨w4, ((below_grown HT.out).but _)⟩, rfl⟩, ?_⟩
   clear hK K
   repeat (refine tree_q rfl rfl ?_; go_big_quiet_step (fail); refine wpQuiet_nil ?_)
   refine tree_a rfl (fun K hK => ?_)
   go_simp
   refine (H2.out _ _ _ (Sl.ofB Hq.out)).mono ?_
   rintro e w5 ⟨rfl, hb9⟩
   replace Hr := Lib.hid (Hr.out.up hb9)
   replace Hq := Lib.hid (Hq.out.up hb9)
   replace HT := Lib.hid (below_up HT.out hb9)
   replace HZS := sz HZS (show w1.heap.size ≤ w5.heap.size from HT.out.size)
   clear hb9
   refine hK _ _ ⟨⟨⟨w5, ((below_grown HT.out).but _)⟩, rfl⟩, ?_⟩
   clear hK K
   repeat (refine tree_q rfl rfl ?_; go_big_quiet_step (fail); refine wpQuiet_nil ?_)
   clear hov_t hl_t
   refine tree_a rfl (fun K hK => ?_)
   clear t_
   replace Ht := Lib.hid (Ht.out.up HT.out)
   clear o_
   replace Ho := Lib.hid (Ho.out.up HT.out)
   replace HB := hbu HB HT.out
   replace HZS := sz HZS HT.out.size
   have t_ := Ht.out.c1
   have o_ := Ho.out.c1
   clear Hr Hq
   have f6_o := Ho.out.frozen
   have o6_t_ := t_; clear t_
   have o6_o_ := o_; clear o_
   obtain ⟨w6, hq6, hg9, hz9, hx9⟩ := put1 Ho 0 (.string D) [.string D] rfl
   replace Ht := Lib.hid (Ht.out.grown hg9.out (sne (by have g0 := HZS.out; omega)))
   replace HB := hbg HB hg9 (by have g0 := HZS.out; omega)
   replace HZS := sz HZS hz9.out
   replace Ho := hx9
   have HGR := Lib.hid (((below_grown HT.out).but _).trans hg9.out)
   clear hx9 hg9 hz9
   have t_ := Ht.out.c1
   have o_ := Ho.out.c1
   clear HT
   go_simp
   try rw [hq6]
   refine hK _ _ ⟨⟨⟨w6, HGR.out⟩, rfl⟩, ?_⟩
   clear hK K HGR hq6 o6_o_ o6_t_ f6_o
   repeat (refine tree_q rfl rfl ?_; go_big_quiet_step (fail); refine wpQuiet_nil ?_)
   refine tree_end ?_
   go_wp2_with fail
   simp [bodyPost, results, Tryz.results109, go_sem, o_]
   exact HB.out
 ·go_simp
  obtain ⟨w2, hq9, hb9, hz9, Hq⟩ := new1D w1 9 [.string s, .string label]
  rw [hq9]
  clear hq9
  have HAq := Lib.hid HT.out.size
  replace HT := Lib.hid hb9
  replace HZS := sz HZS (show w1.heap.size ≤ w2.heap.size from HT.out.size)
  clear hb9 hz9
  refine hK _ _ ⟨⟨⟨w2, ((below_grown HT.out).but _)⟩, rfl⟩, ?_⟩
  clear hK K
  repeat (refine tree_q rfl rfl ?_; go_big_quiet_step (fail); refine wpQuiet_nil ?_)
  refine tree_a rfl (fun K hK => ?_)
  go_simp
  obtain ⟨w3, hq9, hb9, hz9, Hr⟩ := new1 w2 9 [.string s, .string label]
  rw [hq9]
  clear hq9
  have HAr := Lib.hid HT.out.size
  replace Hq := Lib.hid (Hq.out.up hb9)
  replace HT := Lib.hid (below_up HT.out hb9)
  replace HZS := sz HZS (show w1.heap.size ≤ w3.heap.size from HT.out.size)
  clear hb9 hz9
  refine hK _ _ ⟨⟨⟨w3, ((below_grown HT.out).but _)⟩, rfl⟩, ?_⟩
  clear hK K
  repeat (refine tree_q rfl rfl ?_; go_big_quiet_step (fail); refine wpQuiet_nil ?_)
  refine tree_a rfl (fun K hK => ?_)
  go_simp
  refine (H1.out _ _ _ (Sl.ofB Hr.out)).mono ?_
  rintro e w4 ⟨rfl, hb9⟩
  replace Hq := Lib.hid (Hq.out.up hb9)
  replace Hr := Lib.hid (Hr.out.up hb9)
  replace HT := Lib.hid (below_up HT.out hb9)
  replace HZS := sz HZS (show w1.heap.size ≤ w4.heap.size from HT.out.size)
  clear hb9
  refine hK _ _ ⟨⟨⟨w4, ((below_grown HT.out).but _)⟩, rfl⟩, ?_⟩
  clear hK K
  repeat (refine tree_q rfl rfl ?_; go_big_quiet_step (fail); refine wpQuiet_nil ?_)
  refine tree_a rfl (fun K hK => ?_)
  go_simp
  refine (H2.out _ _ _ (Sl.ofB Hq.out)).mono ?_
  rintro e w5 ⟨rfl, hb9⟩
  replace Hq := Lib.hid (Hq.out.up hb9)
  replace Hr := Lib.hid (Hr.out.up hb9)
  replace HT := Lib.hid (below_up HT.out hb9)
  replace HZS := sz HZS (show w1.heap.size ≤ w5.heap.size from HT.out.size)
  clear hb9
  refine hK _ _ ⟨⟨⟨w5, ((below_grown HT.out).but _)⟩, rfl⟩, ?_⟩
  clear hK K
  repeat (refine tree_q rfl rfl ?_; go_big_quiet_step (fail); refine wpQuiet_nil ?_)
  clear hov_t hl_t
  refine tree_a rfl (fun K hK => ?_)
  clear t_
  replace Ht := Lib.hid (Ht.out.up HT.out)
  clear o_
  replace Ho := Lib.hid (Ho.out.up HT.out)
  replace HB := hbu HB HT.out
  replace HZS := sz HZS HT.out.size
  have t_ := Ht.out.c1
  have o_ := Ho.out.c1
  clear Hq Hr
  have f6_o := Ho.out.frozen
  have o6_t_ := t_; clear t_
  have o6_o_ := o_; clear o_
  obtain ⟨w6, hq6, hg9, hz9, hx9⟩ := put1 Ho 0 (.string D) [.string D] rfl
  replace Ht := Lib.hid (Ht.out.grown hg9.out (sne (by have g0 := HZS.out; omega)))
  replace HB := hbg HB hg9 (by have g0 := HZS.out; omega)
  replace HZS := sz HZS hz9.out
  replace Ho := hx9
  have HGR := Lib.hid (((below_grown HT.out).but _).trans hg9.out)
  clear hx9 hg9 hz9
  have t_ := Ht.out.c1
  have o_ := Ho.out.c1
  clear HT
  go_simp
  try rw [hq6]
  refine hK _ _ ⟨⟨⟨w6, HGR.out⟩, rfl⟩, ?_⟩
  clear hK K HGR hq6 o6_o_ o6_t_ f6_o
  repeat (refine tree_q rfl rfl ?_; go_big_quiet_step (fail); refine wpQuiet_nil ?_)
  refine tree_end ?_
  go_wp2_with fail
  simp [bodyPost, results, Tryz.results109, go_sem, o_]
  exact HB.out
end Go.Proofs.YtdlnnkbigeiilaaGreat
namespace Go.Proofs.YtdlnnkbigeiilaaGreat
open Go.RowKit
theorem rjoined_any (l : List ByteArray) (n : Nat) (hn : l.length = n) (h8 : n ≤ 4096) (hz : ∀ x ∈ l, x.size ≤ 4096) (a : Option Addr) (c : Nat) (w : World) (hX : Sl w w.heap.size a (l.map Value.string)) :
  Calls Tryz.prog 111 #[.slice a n c] w fun e w' => e = .returned (.string (catB l)) ∧ Below w.heap.size w w' := by
 have HX := Lib.hid hX
 have HN := Lib.hid hn
 have HZ := Lib.hid hz
 clear hX hn hz
 go_enter Tryz.func111, Tryz.ntmps111
 go_wp2_with fail
 go_loopw [8, 3] (fun c v wr => ∃ (j : Nat) (y : ByteArray), j ≤ n ∧ c = .int .i64 (j : Int) ∧ v = .string y ∧ Hid (y = catB (l.take j)) ∧ Hid (Below w.heap.size w wr)) (fun c _ _ => n - (intOf c).toNat)
 case atStart => exact ⟨0, _, by omega, rfl, rfl, rfl, Below.refl _ _⟩
 case round =>
  obtain ⟨j, y, hj, rfl, rfl, HY, HB⟩ := hrel
  by_cases hjn : j < n
  ·have hjl : j < l.length := by rw [HN.out]; exact hjn
   obtain ⟨xb, xo, rfl, hxl, hxc⟩ := (HX.out.up HB.out).at j (by rw [List.length_map]; exact hjl)
   rw [List.getElem_map] at hxc
   have hs9 := catB_take l j hjl
   have hy9 : y.size ≤ 4096 * 4096 := by
    rw [HY.out]
    refine Nat.le_trans (catB_size 4096 _ fun x hx => HZ.out x (List.mem_of_mem_take hx)) (Nat.mul_le_mul_right _ ?_)
    rw [List.length_take]; omega
   have hx9 := HZ.out _ (List.getElem_mem hjl)
   rw [← HY.out] at hs9
   obtain ⟨x, hx8⟩ : ∃ x, l[j]'hjl = x := ⟨_, rfl⟩
   rw [hx8] at hxc hx9 hs9
   have HS9 := Lib.hid hs9.symm
   have hcc : ¬ (9223372036854775807 < y.size + x.size) := by omega
   clear hx8 hs9 hy9 hx9 HY hjl
   go_wp2_with fail
   exact ⟨⟨j + 1, _, by omega, by go_num, rfl, HS9, HB⟩, by simp [intOf]; omega⟩
  ·have hj' : j = n := by omega
   subst hj'
   rw [List.take_of_length_le (by rw [HN.out]; exact Nat.le_refl _)] at HY
   go_wp2_with fail
   go_ret
   exact ⟨by rw [HY.out]; rfl, HB.out⟩
theorem rbegin_any (k : Int) (hk : 0 ≤ k ∧ k < 256) (nm label : ByteArray) (hm : nm.size < 140737488355328) (hl : label.size < 140737488355328) (w : World) :
  Calls Tryz.prog 48 #[.int .i64 k, .string nm, .string label] w fun e w' => e = .returned (.agg #[.string (beginT nm label k)]) ∧ Below w.heap.size w w' := by
 have H1 := Lib.hid (fun w => rNewTalk_any nm hm w)
 have hz1 : (tagS talkB [nm]).size < 140737488355328 := by rw [tagS_size]; decide
 have H2 := Lib.hid (fun w => rSay_any (tagS talkB [nm]) labelB label hz1 (by decide) hl w)
 have hz2 : (say1 (tagS talkB [nm]) labelB label).size < 140737488355328 := by rw [say1_size]; decide
 have H3 := Lib.hid (fun w => rSay_any (say1 (tagS talkB [nm]) labelB label) kindB (kindS k) hz2 (by decide) (show (1 : Nat) < 140737488355328 by decide) w)
 unfold beginT
 unfold say1 at *
 generalize tagS talkB [nm] = t0 at *
 generalize tagS sayB [t0, labelB, label] = t1 at *
 generalize tagS sayB [t1, kindB, kindS k] = t2 at *
 clear hz1 hz2 hm hl
 unfold kindS at H3
 have hk0 := hk.1
 have hk1 := hk.2
 clear hk
 go_enter Tryz.func48, Tryz.ntmps48
 go_wp2_with fail
 obtain ⟨w1, hq1, hb9, hz9, Ho⟩ := new1 w 89 [.string ⟨#[]⟩]
 rw [hq1]
 clear hq1
 have HB := Lib.hid hb9
 have HZS := hz9
 clear hb9 hz9
 have o_ := Ho.out.c1
 go_wp2_with fail
 refine (H1.out w1).mono ?_
 rintro e w2 ⟨rfl, hb9⟩
 clear o_
 replace Ho := Lib.hid (Ho.out.up hb9)
 replace HB := hbu HB hb9
 replace HZS := sz HZS hb9.size
 clear hb9
 have o_ := Ho.out.c1
 go_wp2_with fail
 refine (H2.out w2).mono ?_
 rintro e w3 ⟨rfl, hb9⟩
 clear o_
 replace Ho := Lib.hid (Ho.out.up hb9)
 replace HB := hbu HB hb9
 replace HZS := sz HZS hb9.size
 clear hb9
 have o_ := Ho.out.c1
 have o4_o_ := o_; clear o_
 obtain ⟨w4, hq4, hb9, hz9, Ht⟩ := new1 w3 89 [.string t1]
 replace Ho := Lib.hid (Ho.out.up hb9)
 replace HB := hbu HB hb9
 replace HZS := sz HZS hz9.out
 clear hb9 hz9
 have o_ := Ho.out.c1
 have t_ := Ht.out.c1
 have o5_o_ := o_; clear o_
 have o5_t_ := t_; clear t_
 obtain ⟨w5, hq5, hb9, hz9, Hr⟩ := new1 w4 5 [.int .u8 k]
 replace Ho := Lib.hid (Ho.out.up hb9)
 replace Ht := Lib.hid (Ht.out.up hb9)
 replace HB := hbu HB hb9
 replace HZS := sz HZS hz9.out
 clear hb9 hz9
 have o_ := Ho.out.c1
 have t_ := Ht.out.c1
 have r_ := Hr.out.c1
 have hcv := run_convert_bytes_arg (P := Tryz.prog) w5 150 5 Tryz.underlying150 Tryz.underlying5 w4.heap.size 0 1 1 [k] rfl (fun i hi => by
  obtain rfl : i = 0 := by omega
  exact Hr.out.cell (i := 0) rfl) 9 Tryz.underlying9
 go_wp2_with fail
 clear hq5 o5_t_ o5_o_ hq4 o4_o_
 refine (H3.out w5).mono ?_
 rintro e w6 ⟨rfl, hb9⟩
 clear o_
 replace Ho := Lib.hid (Ho.out.up hb9)
 clear t_
 replace Ht := Lib.hid (Ht.out.up hb9)
 clear r_
 replace Hr := Lib.hid (Hr.out.up hb9)
 replace HB := hbu HB hb9
 replace HZS := sz HZS hb9.size
 clear hb9
 have o_ := Ho.out.c1
 have t_ := Ht.out.c1
 have r_ := Hr.out.c1
 have f7_o := Ho.out.frozen
 have o7_o_ := o_; clear o_
 have o7_t_ := t_; clear t_
 have o7_r_ := r_; clear r_
 obtain ⟨w7, hq7, hg9, hz9, hx9⟩ := put1 Ho 0 (.string t2) [.string t2] rfl
 replace Ht := Lib.hid (Ht.out.grown hg9.out (sne (by have g0 := HZS.out; omega)))
 replace Hr := Lib.hid (Hr.out.grown hg9.out (sne (by have g0 := HZS.out; omega)))
 replace HB := hbg HB hg9 (by have g0 := HZS.out; omega)
 replace HZS := sz HZS hz9.out
 replace Ho := hx9
 clear hx9 hg9 hz9
 have o_ := Ho.out.c1
 have t_ := Ht.out.c1
 have r_ := Hr.out.c1
 go_wp2_with fail
 clear hq7 o7_r_ o7_t_ o7_o_ f7_o
 simp [bodyPost, results, Tryz.results48, go_sem, o_]
 exact HB.out
def SayOk (c : ClaimA) : Prop := c.bases.length ≤ 8 ∧ c.images.length ≤ 8 ∧ (∀ x ∈ c.bases, x.size ≤ 32) ∧ (∀ x ∈ c.images, x.size ≤ 32)
theorem cat_small {l : List ByteArray} (h8 : l.length ≤ 8) (h : ∀ x ∈ l, x.size ≤ 32) : (catB l).size < 140737488355328 := by
 have h1 := catB_size 32 l h
 have h2 : l.length * 32 ≤ 8 * 32 := Nat.mul_le_mul_right _ h8
 omega
theorem rsayCl_any (s : ByteArray) (l : List ClaimA) (n : Nat) (hn : l.length = n) (h64 : n ≤ 64) (hz : s.size = 32) (sh : ∀ c ∈ l, SayOk c) (al : Option Addr) (cl : Nat) (w : World) (hC : ClaimsAt w al l) :
  Calls Tryz.prog 47 #[.agg #[.string s], .slice al n cl] w fun e w' => e = .returned (.agg #[.string (sayCl s l)]) ∧ Below w.heap.size w w' := by
 have HTK := Lib.hid (fun j h => sayCl_take s l j h)
 unfold sayC at HTK
 have HF := Lib.hid (fun s lb x hs hl hx w => (show Calls Tryz.prog 73 #[.agg #[.string s], .string lb, .string x] w fun e w' => e = .returned (.agg #[.string (say1 s lb x)]) ∧ Below w.heap.size w w' from rSay_any s lb x hs hl hx w))
 have HS1 := Lib.hid say1_size
 have HT0 := Lib.hid (show sayCl s [] = s from rfl)
 generalize sayCl s = SC at *
 generalize say1 = S1 at *
 have HC := Lib.hid hC
 have HN := Lib.hid hn
 have HZ := Lib.hid hz
 have HSH := Lib.hid sh
 clear hC hn hz sh
 go_enter Tryz.func47, Tryz.ntmps47
 go_wp2_with fail
 obtain ⟨w1, hq1, hb9, hz9, Ht, Ho⟩ := new2 w 89 [.string s] 89 [.string ⟨#[]⟩]
 rw [hq1]
 clear hq1
 have HB := Lib.hid hb9
 have HZS := hz9
 clear hb9 hz9
 have t_ := Ht.out.c1
 have o_ := Ho.out.c1
 go_wp2_with fail
 go_loopw [9] (fun i wr => ∃ (j : Nat) (y : ByteArray), j ≤ n ∧ i = .int .i64 (j : Int) ∧ Hid (y.size = 32) ∧ Hid (y = SC (l.take j)) ∧ Hid (Bx wr w.heap.size 89 [.string y]) ∧ Hid (Bx wr (w.heap.size + 1) 89 [.string ⟨#[]⟩]) ∧ Hid (Below w.heap.size w wr)) (fun i _ => n - (intOf i).toNat)
 case atStart => exact ⟨0, s, Nat.zero_le _, rfl, HZ, HT0.out.symm, Ht, Ho, HB⟩
 case round =>
  clear Ht Ho HB t_ o_
  obtain ⟨j, y, hj, rfl, HY, HYS, Ht, Ho, HB⟩ := hrel
  have HO9 := Lib.hid Ho.out.lt
  by_cases hjn : j < n
  ·have hjl : j < l.length := by rw [HN.out]; exact hjn
   obtain ⟨bl, ol, rfl, hbl0, hc⟩ := (HC.out.s.up HB.out).elem ClaimA.cells_len (by omega) j hjl
   have hc_0 := hc 0 _ rfl
   rw [Nat.add_zero] at hc_0
   have hc_1 := hc 1 _ rfl
   clear hc
   have HAT := Lib.hid (HC.out.one j hjl)
   have hsj := HSH.out _ (List.getElem_mem hjl)
   unfold SayOk at hsj
   have HSJ := Lib.hid hsj
   have HTJ := Lib.hid (HTK.out j hjl)
   clear hsj
   generalize l[j] = c at *
   have HAB := Lib.hid HAT.out.b
   have HAJ := Lib.hid HAT.out.i
   clear HAT
   generalize c.bases = bs at *
   generalize c.images = ims at *
   generalize c.ab = ab at *
   generalize c.ai = ai at *
   generalize c.cb = cb at *
   generalize c.ci = ci at *
   rw [← HYS.out] at HTJ
   have HCB := Lib.hid (cat_small HSJ.out.1 HSJ.out.2.2.1)
   have HCI := Lib.hid (cat_small HSJ.out.2.1 HSJ.out.2.2.2)
   have HJ1 := Lib.hid (fun w h => rjoined_any bs bs.length rfl (by have := HSJ.out.1; omega) (fun x hx => Nat.le_trans (HSJ.out.2.2.1 x hx) (by decide)) ab cb w h)
   have HJ2 := Lib.hid (fun w h => rjoined_any ims ims.length rfl (by have := HSJ.out.2.1; omega) (fun x hx => Nat.le_trans (HSJ.out.2.2.2 x hx) (by decide)) ai ci w h)
   clear HYS HSJ
   replace HZS := sz HZS HO9.out
   have t_ := Ht.out.c1
   have o_ := Ho.out.c1
   have o2_t_ := t_; clear t_
   have o2_o_ := o_; clear o_
   obtain ⟨w2, hq2, hb9, hz9, Hbc⟩ := new1 wr 50 [.slice ab bs.length cb, .slice ai ims.length ci]
   replace Ht := Lib.hid (Ht.out.up hb9)
   replace Ho := Lib.hid (Ho.out.up hb9)
   replace HB := hbu HB hb9
   replace HZS := sz HZS hz9.out
   clear hb9 hz9
   have t_ := Ht.out.c1
   have o_ := Ho.out.c1
   have bc_ := Hbc.out.c2
   go_wp2_with fail
   clear hq2 o2_o_ o2_t_
   have HT := Lib.hid (show Below w2.heap.size w2 w2.drew from (Below.refl _ _).drew)
   have hl_t := Ht.out.lt
   have hl_o := Ho.out.lt
   have hl_bc := Hbc.out.lt
   refine wp_region_treek (fun wq9 => ∃ E : Over w2, wq9 = E.w) 5 ((.e 0 [] (.qs [1] (.e 2 [] (.a 3 (.a 4 (.a 5 .done))))))) (by kernel_rfl) (by kernel_rfl) (fun _ _ d _ _ h => by cases d <;> exact h) ⟨⟨_, HT.out⟩, rfl⟩ ?_
   have hov_t := fun (E : Over w2) o => E.cell (b := w.heap.size) o hl_t
   have hov_o := fun (E : Over w2) o => E.cell (b := (w.heap.size + 1)) o hl_o
   have hov_bc := fun (E : Over w2) o => E.cell (b := wr.heap.size) o hl_bc
   simp only [TreeK.qs]
   repeat (first | (refine treek_q rfl rfl ?_; go_big_quiet_step (fail); refine wpQuiet_nil ?_) | (refine treek_e rfl rfl ?_; go_big_quiet_step (fail); refine wpQuiet_nil ?_))
   refine treek_a rfl (fun K hK => ?_)
   go_simp
   refine (HJ1.out _ (HAB.out.up (below_up HB.out HT.out))).mono ?_
   rintro e w3 ⟨rfl, hb9⟩
   replace HT := Lib.hid (below_up HT.out hb9)
   replace HZS := sz HZS (show w2.heap.size ≤ w3.heap.size from HT.out.size)
   clear hb9
   refine hK _ _ ⟨fun _ => ⟨⟨w3, HT.out⟩, rfl⟩, ?_⟩
   clear hK K
   repeat (first | (refine treek_q rfl rfl ?_; go_big_quiet_step (fail); refine wpQuiet_nil ?_) | (refine treek_e rfl rfl ?_; go_big_quiet_step (fail); refine wpQuiet_nil ?_))
   refine treek_a rfl (fun K hK => ?_)
   go_simp
   refine (HF.out y basesB (catB bs) (by have := HY.out; omega) (by decide) HCB.out _).mono ?_
   rintro e w4 ⟨rfl, hb9⟩
   replace HT := Lib.hid (below_up HT.out hb9)
   replace HZS := sz HZS (show w2.heap.size ≤ w4.heap.size from HT.out.size)
   clear hb9
   refine hK _ _ ⟨fun _ => ⟨⟨w4, HT.out⟩, rfl⟩, ?_⟩
   clear hK K
   repeat (first | (refine treek_q rfl rfl ?_; go_big_quiet_step (fail); refine wpQuiet_nil ?_) | (refine treek_e rfl rfl ?_; go_big_quiet_step (fail); refine wpQuiet_nil ?_))
   clear hov_t hl_t hov_o hl_o hov_bc hl_bc
   refine treek_a rfl (fun K hK => ?_)
   clear t_
   replace Ht := Lib.hid (Ht.out.up HT.out)
   clear o_
   replace Ho := Lib.hid (Ho.out.up HT.out)
   clear bc_
   replace Hbc := Lib.hid (Hbc.out.up HT.out)
   replace HB := hbu HB HT.out
   replace HZS := sz HZS HT.out.size
   clear HT
   have t_ := Ht.out.c1
   have o_ := Ho.out.c1
   have bc_ := Hbc.out.c2
   have f5_t := Ht.out.frozen
   have o5_t_ := t_; clear t_
   have o5_o_ := o_; clear o_
   have o5_bc_ := bc_; clear bc_
   obtain ⟨w5, hq5, hg9, hz9, hx9⟩ := put1 Ht 0 (.string (S1 y basesB (catB bs))) [.string (S1 y basesB (catB bs))] rfl
   replace Ho := Lib.hid (Ho.out.grown hg9.out (sne (by have g0 := HZS.out; omega)))
   replace Hbc := Lib.hid (Hbc.out.grown hg9.out (sne (by have g0 := HZS.out; omega)))
   replace HB := hbg HB hg9 (by have g0 := HZS.out; omega)
   replace HZS := sz HZS hz9.out
   replace Ht := hx9
   clear hx9 hg9 hz9
   have t_ := Ht.out.c1
   have o_ := Ho.out.c1
   have bc_ := Hbc.out.c2
   go_simp
   try rw [hq5]
   refine hK _ _ ⟨fun h9 => absurd rfl h9, ?_⟩
   clear hK K hq5 o5_bc_ o5_o_ o5_t_ f5_t
   refine treek_end ?_
   go_wp2_with fail
   have HT := Lib.hid (show Below w5.heap.size w5 w5.drew from (Below.refl _ _).drew)
   have hl_t := Ht.out.lt
   have hl_o := Ho.out.lt
   have hl_bc := Hbc.out.lt
   refine wp_region_treek (fun wq9 => ∃ E : Over w5, wq9 = E.w) 5 ((.e 0 [] (.qs [1] (.e 2 [] (.a 3 (.a 4 (.a 5 .done))))))) (by kernel_rfl) (by kernel_rfl) (fun _ _ d _ _ h => by cases d <;> exact h) ⟨⟨_, HT.out⟩, rfl⟩ ?_
   have hov_t := fun (E : Over w5) o => E.cell (b := w.heap.size) o hl_t
   have hov_o := fun (E : Over w5) o => E.cell (b := (w.heap.size + 1)) o hl_o
   have hov_bc := fun (E : Over w5) o => E.cell (b := wr.heap.size) o hl_bc
   simp only [TreeK.qs]
   repeat (first | (refine treek_q rfl rfl ?_; go_big_quiet_step (fail); refine wpQuiet_nil ?_) | (refine treek_e rfl rfl ?_; go_big_quiet_step (fail); refine wpQuiet_nil ?_))
   refine treek_a rfl (fun K hK => ?_)
   go_simp
   refine (HJ2.out _ (HAJ.out.up (below_up HB.out HT.out))).mono ?_
   rintro e w6 ⟨rfl, hb9⟩
   replace HT := Lib.hid (below_up HT.out hb9)
   replace HZS := sz HZS (show w5.heap.size ≤ w6.heap.size from HT.out.size)
   clear hb9
   refine hK _ _ ⟨fun _ => ⟨⟨w6, HT.out⟩, rfl⟩, ?_⟩
   clear hK K
   repeat (first | (refine treek_q rfl rfl ?_; go_big_quiet_step (fail); refine wpQuiet_nil ?_) | (refine treek_e rfl rfl ?_; go_big_quiet_step (fail); refine wpQuiet_nil ?_))
   refine treek_a rfl (fun K hK => ?_)
   go_simp
   refine (HF.out (S1 y basesB (catB bs)) imagesB (catB ims) (by rw [HS1.out]; decide) (by decide) HCI.out _).mono ?_
   rintro e w7 ⟨rfl, hb9⟩
   replace HT := Lib.hid (below_up HT.out hb9)
   replace HZS := sz HZS (show w5.heap.size ≤ w7.heap.size from HT.out.size)
   clear hb9
   refine hK _ _ ⟨fun _ => ⟨⟨w7, HT.out⟩, rfl⟩, ?_⟩
   clear hK K
   repeat (first | (refine treek_q rfl rfl ?_; go_big_quiet_step (fail); refine wpQuiet_nil ?_) | (refine treek_e rfl rfl ?_; go_big_quiet_step (fail); refine wpQuiet_nil ?_))
   clear hov_t hl_t hov_o hl_o hov_bc hl_bc
   refine treek_a rfl (fun K hK => ?_)
   clear t_
   replace Ht := Lib.hid (Ht.out.up HT.out)
   clear o_
   replace Ho := Lib.hid (Ho.out.up HT.out)
   clear bc_
   replace Hbc := Lib.hid (Hbc.out.up HT.out)
   replace HB := hbu HB HT.out
   replace HZS := sz HZS HT.out.size
   clear HT
   have t_ := Ht.out.c1
   have o_ := Ho.out.c1
   have bc_ := Hbc.out.c2
   have f8_t := Ht.out.frozen
   have o8_t_ := t_; clear t_
   have o8_o_ := o_; clear o_
   have o8_bc_ := bc_; clear bc_
   obtain ⟨w8, hq8, hg9, hz9, hx9⟩ := put1 Ht 0 (.string (S1 (S1 y basesB (catB bs)) imagesB (catB ims))) [.string (S1 (S1 y basesB (catB bs)) imagesB (catB ims))] rfl
   replace Ho := Lib.hid (Ho.out.grown hg9.out (sne (by have g0 := HZS.out; omega)))
   replace Hbc := Lib.hid (Hbc.out.grown hg9.out (sne (by have g0 := HZS.out; omega)))
   replace HB := hbg HB hg9 (by have g0 := HZS.out; omega)
   replace HZS := sz HZS hz9.out
   replace Ht := hx9
   clear hx9 hg9 hz9
   have t_ := Ht.out.c1
   have o_ := Ho.out.c1
   have bc_ := Hbc.out.c2
   go_simp
   try rw [hq8]
   refine hK _ _ ⟨fun h9 => absurd rfl h9, ?_⟩
   clear hK K hq8 o8_bc_ o8_o_ o8_t_ f8_t
   refine treek_end ?_
   go_wp2_with fail
   exact ⟨⟨j + 1, _, by omega, by go_num, Lib.hid (HS1.out _ _ _), Lib.hid HTJ.out.symm, Ht, Ho, HB⟩, by simp [intOf]; omega⟩
  ·have hj' : j = n := by omega
   subst hj'
   rw [List.take_of_length_le (by rw [HN.out]; exact Nat.le_refl _)] at HYS
   replace HZS := sz HZS HO9.out
   have t_ := Ht.out.c1
   have o_ := Ho.out.c1
   have f2_o := Ho.out.frozen
   have o2_t_ := t_; clear t_
   have o2_o_ := o_; clear o_
   obtain ⟨w2, hq2, hg9, hz9, hx9⟩ := put1 Ho 0 (.string y) [.string y] rfl
   replace Ht := Lib.hid (Ht.out.grown hg9.out (sne (by have g0 := HZS.out; omega)))
   replace HB := hbg HB hg9 (by have g0 := HZS.out; omega)
   replace HZS := sz HZS hz9.out
   replace Ho := hx9
   clear hx9 hg9 hz9
   have t_ := Ht.out.c1
   have o_ := Ho.out.c1
   go_wp2_with fail
   clear hq2 o2_o_ o2_t_ f2_o
   rw [← HYS.out]
   simp [bodyPost, results, Tryz.results47, go_sem, o_]
   exact HB.out
theorem rsayFi_any (s : ByteArray) (ro : List RowA) (n : Nat) (hn : ro.length = n) (h64 : n ≤ 64) (hz : s.size = 32) (sh : ∀ r ∈ ro, r.l.length ≤ 8 ∧ ∀ x ∈ r.l, x.size ≤ 32) (al : Option Addr) (cl : Nat) (w : World) (hC : RowsAt w al ro) :
  Calls Tryz.prog 46 #[.agg #[.string s], .slice al n cl] w fun e w' => e = .returned (.agg #[.string (sayFi s (ro.map RowA.l))]) ∧ Below w.heap.size w w' := by
 have HTK := Lib.hid (fun j (h : j < ro.length) => by
  have h1 := sayFi_take s (ro.map RowA.l) j (by rw [List.length_map]; exact h)
  rw [List.getElem_map, ← List.map_take, ← List.map_take] at h1
  exact h1)
 unfold sayF at HTK
 have HF := Lib.hid (fun s lb x hs hl hx w => (show Calls Tryz.prog 73 #[.agg #[.string s], .string lb, .string x] w fun e w' => e = .returned (.agg #[.string (say1 s lb x)]) ∧ Below w.heap.size w w' from rSay_any s lb x hs hl hx w))
 have HS1 := Lib.hid say1_size
 have HT0 := Lib.hid (show sayFi s ([].map RowA.l) = s from rfl)
 generalize sayFi s = SC at *
 generalize say1 = S1 at *
 have HC := Lib.hid hC
 have HN := Lib.hid hn
 have HZ := Lib.hid hz
 have HSH := Lib.hid sh
 clear hC hn hz sh
 go_enter Tryz.func46, Tryz.ntmps46
 go_wp2_with fail
 obtain ⟨w1, hq1, hb9, hz9, Ht, Ho⟩ := new2 w 89 [.string s] 89 [.string ⟨#[]⟩]
 rw [hq1]
 clear hq1
 have HB := Lib.hid hb9
 have HZS := hz9
 clear hb9 hz9
 have t_ := Ht.out.c1
 have o_ := Ho.out.c1
 go_wp2_with fail
 go_loopw [9] (fun i wr => ∃ (j : Nat) (y : ByteArray), j ≤ n ∧ i = .int .i64 (j : Int) ∧ Hid (y.size = 32) ∧ Hid (y = SC ((ro.take j).map RowA.l)) ∧ Hid (Bx wr w.heap.size 89 [.string y]) ∧ Hid (Bx wr (w.heap.size + 1) 89 [.string ⟨#[]⟩]) ∧ Hid (Below w.heap.size w wr)) (fun i _ => n - (intOf i).toNat)
 case atStart => exact ⟨0, s, Nat.zero_le _, rfl, HZ, HT0.out.symm, Ht, Ho, HB⟩
 case round =>
  clear Ht Ho HB t_ o_
  obtain ⟨j, y, hj, rfl, HY, HYS, Ht, Ho, HB⟩ := hrel
  have HO9 := Lib.hid Ho.out.lt
  by_cases hjn : j < n
  ·have hjl : j < ro.length := by rw [HN.out]; exact hjn
   obtain ⟨bl, ol, rfl, hbl0, hc⟩ := (HC.out.s.up HB.out).elem RowA.cells_len (by omega) j hjl
   have hc_0 := hc 0 _ rfl
   rw [Nat.add_zero] at hc_0
   clear hc
   rw [Nat.mul_one] at hc_0
   have HAB := Lib.hid (HC.out.one j hjl)
   have hsj := HSH.out _ (List.getElem_mem hjl)
   have HSJ := Lib.hid hsj
   have HTJ := Lib.hid (HTK.out j hjl)
   clear hsj
   generalize ro[j] = c at *
   unfold RowA.At at HAB
   generalize c.l = bs at *
   generalize c.a = ab at *
   generalize c.c = cb at *
   rw [← HYS.out] at HTJ
   have HCB := Lib.hid (cat_small HSJ.out.1 HSJ.out.2)
   have HJ1 := Lib.hid (fun w h => rjoined_any bs bs.length rfl (by have := HSJ.out.1; omega) (fun x hx => Nat.le_trans (HSJ.out.2 x hx) (by decide)) ab cb w h)
   clear HYS HSJ
   replace HZS := sz HZS HO9.out
   have t_ := Ht.out.c1
   have o_ := Ho.out.c1
   go_wp2_with fail
   have HT := Lib.hid (show Below wr.heap.size wr wr.drew from (Below.refl _ _).drew)
   have hl_t := Ht.out.lt
   have hl_o := Ho.out.lt
   refine wp_region_treek (fun wq9 => ∃ E : Over wr, wq9 = E.w) 4 ((.e 0 [] (.qs [1] (.a 2 (.a 3 (.a 4 .done)))))) (by kernel_rfl) (by kernel_rfl) (fun _ _ d _ _ h => by cases d <;> exact h) ⟨⟨_, HT.out⟩, rfl⟩ ?_
   have hov_t := fun (E : Over wr) o => E.cell (b := w.heap.size) o hl_t
   have hov_o := fun (E : Over wr) o => E.cell (b := (w.heap.size + 1)) o hl_o
   simp only [TreeK.qs]
   repeat (first | (refine treek_q rfl rfl ?_; go_big_quiet_step (fail); refine wpQuiet_nil ?_) | (refine treek_e rfl rfl ?_; go_big_quiet_step (fail); refine wpQuiet_nil ?_))
   refine treek_a rfl (fun K hK => ?_)
   go_simp
   refine (HJ1.out _ (HAB.out.up (below_up HB.out HT.out))).mono ?_
   rintro e w2 ⟨rfl, hb9⟩
   replace HT := Lib.hid (below_up HT.out hb9)
   replace HZS := sz HZS (show wr.heap.size ≤ w2.heap.size from HT.out.size)
   clear hb9
   refine hK _ _ ⟨fun _ => ⟨⟨w2, HT.out⟩, rfl⟩, ?_⟩
   clear hK K
   repeat (first | (refine treek_q rfl rfl ?_; go_big_quiet_step (fail); refine wpQuiet_nil ?_) | (refine treek_e rfl rfl ?_; go_big_quiet_step (fail); refine wpQuiet_nil ?_))
   refine treek_a rfl (fun K hK => ?_)
   go_simp
   refine (HF.out y firstB (catB bs) (by have := HY.out; omega) (by decide) HCB.out _).mono ?_
   rintro e w3 ⟨rfl, hb9⟩
   replace HT := Lib.hid (below_up HT.out hb9)
   replace HZS := sz HZS (show wr.heap.size ≤ w3.heap.size from HT.out.size)
   clear hb9
   refine hK _ _ ⟨fun _ => ⟨⟨w3, HT.out⟩, rfl⟩, ?_⟩
   clear hK K
   repeat (first | (refine treek_q rfl rfl ?_; go_big_quiet_step (fail); refine wpQuiet_nil ?_) | (refine treek_e rfl rfl ?_; go_big_quiet_step (fail); refine wpQuiet_nil ?_))
   clear hov_t hl_t hov_o hl_o
   refine treek_a rfl (fun K hK => ?_)
   clear t_
   replace Ht := Lib.hid (Ht.out.up HT.out)
   clear o_
   replace Ho := Lib.hid (Ho.out.up HT.out)
   replace HB := hbu HB HT.out
   replace HZS := sz HZS HT.out.size
   clear HT
   have t_ := Ht.out.c1
   have o_ := Ho.out.c1
   have f4_t := Ht.out.frozen
   have o4_t_ := t_; clear t_
   have o4_o_ := o_; clear o_
   obtain ⟨w4, hq4, hg9, hz9, hx9⟩ := put1 Ht 0 (.string (S1 y firstB (catB bs))) [.string (S1 y firstB (catB bs))] rfl
   replace Ho := Lib.hid (Ho.out.grown hg9.out (sne (by have g0 := HZS.out; omega)))
   replace HB := hbg HB hg9 (by have g0 := HZS.out; omega)
   replace HZS := sz HZS hz9.out
   replace Ht := hx9
   clear hx9 hg9 hz9
   have t_ := Ht.out.c1
   have o_ := Ho.out.c1
   go_simp
   try rw [hq4]
   refine hK _ _ ⟨fun h9 => absurd rfl h9, ?_⟩
   clear hK K hq4 o4_o_ o4_t_ f4_t
   refine treek_end ?_
   go_wp2_with fail
   exact ⟨⟨j + 1, _, by omega, by go_num, Lib.hid (HS1.out _ _ _), Lib.hid HTJ.out.symm, Ht, Ho, HB⟩, by simp [intOf]; omega⟩
  ·have hj' : j = n := by omega
   subst hj'
   rw [List.take_of_length_le (by rw [HN.out]; exact Nat.le_refl _)] at HYS
   replace HZS := sz HZS HO9.out
   have t_ := Ht.out.c1
   have o_ := Ho.out.c1
   have f2_o := Ho.out.frozen
   have o2_t_ := t_; clear t_
   have o2_o_ := o_; clear o_
   obtain ⟨w2, hq2, hg9, hz9, hx9⟩ := put1 Ho 0 (.string y) [.string y] rfl
   replace Ht := Lib.hid (Ht.out.grown hg9.out (sne (by have g0 := HZS.out; omega)))
   replace HB := hbg HB hg9 (by have g0 := HZS.out; omega)
   replace HZS := sz HZS hz9.out
   replace Ho := hx9
   clear hx9 hg9 hz9
   have t_ := Ht.out.c1
   have o_ := Ho.out.c1
   go_wp2_with fail
   clear hq2 o2_o_ o2_t_ f2_o
   rw [← HYS.out]
   simp [bodyPost, results, Tryz.results46, go_sem, o_]
   exact HB.out
end Go.Proofs.YtdlnnkbigeiilaaGreat
namespace Go.Proofs.YtdlnnkbigeiilaaGreat
open Go.RowKit
theorem catB_bytes : ∀ (l : List ByteArray) (a : ByteArray), (l.foldl (· ++ ·) a).data.toList = a.data.toList ++ (l.map (·.data.toList)).flatten
 | [], a => by simp
 | x :: l, a => by rw [List.foldl_cons, catB_bytes l (a ++ x)]; simp
theorem join_none : ∀ xs : List (List UInt8), Lib.join xs [] = xs.flatten
 | [] => rfl
 | x :: r => by rw [Lib.join_cons, Lib.joinTail]; simp
theorem join_cat (l : List ByteArray) : (⟨(Lib.join (l.map (·.data.toList)) (ByteArray.mk #[]).data.toList).toArray⟩ : ByteArray) = catB l := by
 have h := catB_bytes l ⟨#[]⟩
 have e : (ByteArray.mk #[]).data.toList = [] := rfl
 rw [e, List.nil_append] at h
 rw [e, join_none, ← h]
 rfl
theorem join_size (l : List ByteArray) : (Lib.join (l.map (·.data.toList)) (ByteArray.mk #[]).data.toList).length = (catB l).size := by
 rw [← join_cat]; rfl
theorem sJoin_any (l : List ByteArray) (h8 : l.length ≤ 4096) (hz : ∀ x ∈ l, x.size ≤ 4096) (a : Option Addr) (c : Nat) (hc : l.length ≤ c) (w : World) (hX : Sl w w.heap.size a (l.map Value.string)) :
  Calls Tryz.prog 98 #[.slice a l.length c, .string ⟨#[]⟩] w fun e w' => e = .returned (.string (catB l)) ∧ Below w.heap.size w w' := by
 by_cases h0 : l = []
 ·subst h0
  refine (Tryz.strings_Join_none a c ⟨#[]⟩ w).mono ?_
  rintro e w' ⟨rfl, rfl⟩
  exact ⟨rfl, Below.refl _ _⟩
 ·have hp : 0 < l.length := List.length_pos_iff.2 h0
  obtain ⟨b, o, rfl, hb, _⟩ := hX.at 0 (by rw [List.length_map]; exact hp)
  refine (Tryz.strings_Join b o c l ⟨#[]⟩ w (fun j x hx => ?_) hb (by omega) hc ?_).mono ?_
  ·obtain ⟨hj, rfl⟩ := List.getElem?_eq_some_iff.1 hx
   obtain ⟨b', o', he, _, h1⟩ := hX.at j (by rw [List.length_map]; exact hj)
   cases he
   rw [List.getElem_map] at h1
   exact h1
  ·rw [join_size]
   have h1 := catB_size 4096 l hz
   have h2 : l.length * 4096 ≤ 4096 * 4096 := Nat.mul_le_mul_right _ h8
   omega
  ·rintro e w' ⟨rfl, hb'⟩
   exact ⟨by rw [join_cat], hb'⟩
theorem sbegin_any (G : GP) (gb : Nat) (nm label : ByteArray) (hm : nm.size < 140737488355328) (hl : label.size < 140737488355328) (hk : G.kind < 256) (w : World) (hG : GroupAt w gb G) :
  Calls Tryz.prog 38 #[.pointer (some ⟨gb, 0, none⟩), .string nm, .string label] w fun e w' => ∃ tb, e = .returned (.pointer (some ⟨tb, 0, none⟩)) ∧ w.heap.size ≤ tb ∧ TalkAt w' tb (beginT nm label (G.kind : Int)) ∧ Below w.heap.size w w' := by
 have H1 := Lib.hid (fun w => NewTalk_any nm hm w)
 have hz1 : (tagS talkB [nm]).size < 140737488355328 := by rw [tagS_size]; decide
 have H2 := Lib.hid (fun tb w h => Say_any tb (tagS talkB [nm]) labelB label hz1 (by decide) hl w h)
 have hz2 : (say1 (tagS talkB [nm]) labelB label).size < 140737488355328 := by rw [say1_size]; decide
 have H3 := Lib.hid (fun tb w h => Say_any tb (say1 (tagS talkB [nm]) labelB label) kindB (kindS (G.kind : Int)) hz2 (by decide) (show (1 : Nat) < 140737488355328 by decide) w h)
 unfold beginT
 unfold say1 at *
 generalize tagS talkB [nm] = t0 at *
 generalize tagS sayB [t0, labelB, label] = t1 at *
 generalize tagS sayB [t1, kindB, kindS (G.kind : Int)] = t2 at *
 clear hz1 hz2 hm hl
 unfold kindS at H3
 have HG := Lib.hid hG
 have HLT := Lib.hid hG.lt
 clear hG
 go_enter Tryz.func38, Tryz.ntmps38
 go_wp2_with fail
 refine (H1.out w).mono ?_
 rintro e wa ⟨tb, rfl, hge, ht, hb⟩
 have HGE := Lib.hid hge
 have HT := Lib.hid ht
 have HB := Lib.hid hb
 clear hge ht hb
 go_wp2_with fail
 refine (H2.out tb wa HT.out).mono ?_
 rintro e wb ⟨rfl, ht, hk2⟩
 have hkc := ((HG.out.up HB.out).keptP hk2 (show ¬ gb = tb by have := HGE.out; have := HLT.out; omega)).kind
 have HT2 := Lib.hid ht
 have HB2 := Lib.hid (Below.keptP HB.out hk2 HB.out.size (fun q hq => hq ▸ HGE.out))
 clear HT HB ht hk2 HG
 generalize G.kind = k at *
 have hk0 : (0 : Int) ≤ (k : Int) := by omega
 have hk1 : (k : Int) < 256 := by omega
 have BL := Lib.hid (Below.refl wb.heap.size wb)
 obtain ⟨w1, hq1, hb9, hz9, Hr⟩ := new1 wb 5 [.int .u8 (k : Int)]
 replace BL := hbu BL hb9
 have HZS := hz9
 clear hb9 hz9
 have r_ := Hr.out.c1
 have hcv := run_convert_bytes_arg (P := Tryz.prog) w1 150 5 Tryz.underlying150 Tryz.underlying5 wb.heap.size 0 1 1 [(k : Int)] rfl (fun i hi => by
  obtain rfl : i = 0 := by omega
  exact Hr.out.cell (i := 0) rfl) 9 Tryz.underlying9
 go_wp2_with fail
 clear hq1
 refine (H3.out tb _ (Bx.up HT2.out BL.out)).mono ?_
 rintro e wz ⟨rfl, ht, hk2⟩
 have HB3 := Lib.hid (Below.keptP (below_up HB2.out BL.out) hk2 (below_up HB2.out BL.out).size (fun q hq => hq ▸ HGE.out))
 have HT3 := Lib.hid ht
 clear ht hk2
 go_wp2_with fail
 go_ret
 exact ⟨tb, rfl, HGE.out, HT3.out, HB3.out⟩
theorem said_any (tb : Nat) (s : ByteArray) (ro : List RowA) (n : Nat) (hn : ro.length = n) (h64 : n ≤ 64) (hz : s.size = 32) (sh : ∀ r ∈ ro, r.l.length ≤ 8 ∧ ∀ x ∈ r.l, x.size ≤ 32) (hok : ∀ r ∈ ro, r.l.length ≤ r.c) (al : Option Addr) (cl : Nat) (w : World) (hT : TalkAt w tb s) (hC : RowsAt w al ro) (ha : ∀ x, al = some x → ¬ x.block = tb) (hr : ∀ r ∈ ro, ∀ x, r.a = some x → ¬ x.block = tb) :
  Calls Tryz.prog 40 #[.pointer (some ⟨tb, 0, none⟩), .slice al n cl] w fun e w' => e = .returned (.tuple #[]) ∧ TalkAt w' tb (sayFi s (ro.map RowA.l)) ∧ Kept (fun q => q = tb) w w' := by
 have HTK := Lib.hid (fun j (h : j < ro.length) => by
  have h1 := sayFi_take s (ro.map RowA.l) j (by rw [List.length_map]; exact h)
  rw [List.getElem_map, ← List.map_take, ← List.map_take] at h1
  exact h1)
 unfold sayF at HTK
 have HF := Lib.hid (fun s lb x hs hl hx w h => (show Calls Tryz.prog 97 #[.pointer (some ⟨tb, 0, none⟩), .string lb, .string x] w fun e w' => e = .returned (.tuple #[]) ∧ TalkAt w' tb (say1 s lb x) ∧ Kept (fun q => q = tb) w w' from Say_any tb s lb x hs hl hx w h))
 have HS1 := Lib.hid say1_size
 have HT0 := Lib.hid (show sayFi s ([].map RowA.l) = s from rfl)
 generalize sayFi s = SC at *
 generalize say1 = S1 at *
 have HC := Lib.hid hC
 have HN := Lib.hid hn
 have HZ := Lib.hid hz
 have HSH := Lib.hid sh
 have HOK := Lib.hid hok
 have HA := Lib.hid ha
 have HR := Lib.hid hr
 have HT := Lib.hid hT
 clear hC hn hz sh hok ha hr hT
 go_enter Tryz.func40, Tryz.ntmps40
 go_wp2_with fail
 go_loopw [8] (fun i wr => ∃ (j : Nat) (y : ByteArray), j ≤ n ∧ i = .int .i64 (j : Int) ∧ Hid (y.size = 32) ∧ Hid (y = SC ((ro.take j).map RowA.l)) ∧ Hid (TalkAt wr tb y) ∧ Hid (Kept (fun q => q = tb) w wr)) (fun i _ => n - (intOf i).toNat)
 case atStart => exact ⟨0, s, Nat.zero_le _, rfl, HZ, HT0.out.symm, HT, Kept.refl _ _⟩
 case round =>
  clear HT
  obtain ⟨j, y, hj, rfl, HY, HYS, HT, HK⟩ := hrel
  by_cases hjn : j < n
  ·have hjl : j < ro.length := by rw [HN.out]; exact hjn
   obtain ⟨bl, ol, rfl, hbl0, hc⟩ := (HC.out.s.kept HK.out HA.out).elem RowA.cells_len (by omega) j hjl
   have hc_0 := hc 0 _ rfl
   rw [Nat.add_zero] at hc_0
   clear hc
   rw [Nat.mul_one] at hc_0
   have HAB := Lib.hid (Sl.kept (HC.out.one j hjl) HK.out (HR.out _ (List.getElem_mem hjl)))
   have HSJ := Lib.hid (HSH.out _ (List.getElem_mem hjl))
   have HOJ := Lib.hid (HOK.out _ (List.getElem_mem hjl))
   have HTJ := Lib.hid (HTK.out j hjl)
   generalize ro[j] = c at *
   generalize c.l = bs at *
   generalize c.a = ab at *
   generalize c.c = cb at *
   rw [← HYS.out] at HTJ
   have HCB := Lib.hid (cat_small HSJ.out.1 HSJ.out.2)
   have HJ1 := Lib.hid (fun w h => sJoin_any bs (by have := HSJ.out.1; omega) (fun x hx => Nat.le_trans (HSJ.out.2 x hx) (by decide)) ab cb HOJ.out w h)
   clear HYS HSJ HOJ
   go_wp2_with fail
   refine (HJ1.out wr HAB.out).mono ?_
   rintro e wz ⟨rfl, hb9⟩
   have HT9 := Lib.hid (Bx.up HT.out hb9)
   have HK9 := Lib.hid (HK.out.up hb9)
   clear hb9 HT HK HAB HJ1 hc_0
   go_wp2_with fail
   refine (HF.out y firstB (catB bs) (by have := HY.out; omega) (by decide) HCB.out wz HT9.out).mono ?_
   rintro e wy ⟨rfl, ht, hk⟩
   have HT8 := Lib.hid ht
   have HK8 := Lib.hid (HK9.out.trans hk)
   clear ht hk HT9 HK9
   go_wp2_with fail
   exact ⟨⟨j + 1, _, by omega, by go_num, Lib.hid (HS1.out _ _ _), Lib.hid HTJ.out.symm, HT8, HK8⟩, by simp [intOf]; omega⟩
  ·have hj' : j = n := by omega
   subst hj'
   rw [List.take_of_length_le (by rw [HN.out]; exact Nat.le_refl _)] at HYS
   go_wp2_with fail
   go_end0
   exact ⟨rfl, by rw [← HYS.out]; exact HT.out, HK.out⟩
def CapOk (c : ClaimA) : Prop := c.bases.length ≤ c.cb ∧ c.images.length ≤ c.ci
theorem say_any (G : GP) (gv : Value) (tb : Nat) (s : ByteArray) (rs : List ClaimR) (n : Nat) (hn : rs.length = n) (h64 : n ≤ 64) (hz : s.size = 32) (sh : ∀ r ∈ rs, SayOk r.k ∧ CapOk r.k) (al : Option Addr) (cl : Nat) (w0 w : World) (hb : Below w0.heap.size w0 w) (htb : w0.heap.size ≤ tb) (hT : TalkAt w tb s) (hS : SetAt G w0 al rs) (hC : ∀ r ∈ rs, r.Src w0) :
  Calls Tryz.prog 39 #[.agg #[gv, .slice al n cl], .pointer (some ⟨tb, 0, none⟩)] w fun e w' => e = .returned (.tuple #[]) ∧ TalkAt w' tb (sayCl s (rs.map ClaimR.k)) ∧ Kept (fun q => q = tb) w w' := by
 have HTK := Lib.hid (fun j (h : j < rs.length) => by
  have h1 := sayCl_take s (rs.map ClaimR.k) j (by rw [List.length_map]; exact h)
  rw [List.getElem_map, ← List.map_take, ← List.map_take] at h1
  exact h1)
 unfold sayC at HTK
 have HF := Lib.hid (fun s lb x hs hl hx w h => (show Calls Tryz.prog 97 #[.pointer (some ⟨tb, 0, none⟩), .string lb, .string x] w fun e w' => e = .returned (.tuple #[]) ∧ TalkAt w' tb (say1 s lb x) ∧ Kept (fun q => q = tb) w w' from Say_any tb s lb x hs hl hx w h))
 have HS1 := Lib.hid say1_size
 have HT0 := Lib.hid (show sayCl s ([].map ClaimR.k) = s from rfl)
 generalize sayCl s = SC at *
 generalize say1 = S1 at *
 have HC := Lib.hid hC
 have HN := Lib.hid hn
 have HZ := Lib.hid hz
 have HSH := Lib.hid sh
 have HS := Lib.hid hS
 have HT := Lib.hid hT
 have HB0 := Lib.hid hb
 have HTB := Lib.hid htb
 have HLT := Lib.hid hT.lt
 clear hC hn hz sh hS hT hb htb
 go_enter Tryz.func39, Tryz.ntmps39
 go_wp2_with fail
 obtain ⟨w1, hq1, hb9, hz9, Hp⟩ := new1 w 64 [gv, .slice al n cl]
 rw [hq1]
 clear hq1
 have HB := Lib.hid hb9
 have HZS := hz9
 clear hb9 hz9
 have p_ := Hp.out.c2
 have HKP := Lib.hid ((Kept.refl (fun q => q = tb) w).up HB.out)
 have HT1 := Lib.hid (Bx.up HT.out HB.out)
 have HP0 := Lib.hid (show ¬ w.heap.size = tb by have := HLT.out; omega)
 go_wp2_with fail
 go_loopw [9] (fun i wr => ∃ (j : Nat) (y : ByteArray), j ≤ n ∧ i = .int .i64 (j : Int) ∧ Hid (y.size = 32) ∧ Hid (y = SC ((rs.take j).map ClaimR.k)) ∧ Hid (TalkAt wr tb y) ∧ Hid (Kept (fun q => q = tb) w wr)) (fun i _ => n - (intOf i).toNat)
 case atStart => exact ⟨0, s, Nat.zero_le _, rfl, HZ, HT0.out.symm, HT1, HKP⟩
 case round =>
  clear HT HT1 HKP HB Hp p_
  obtain ⟨j, y, hj, rfl, HY, HYS, HT, HK⟩ := hrel
  have HB := Lib.hid (Below.keptP HB0.out HK.out HB0.out.size (fun q hq => hq ▸ HTB.out))
  by_cases hjn : j < n
  ·have hjl : j < rs.length := by rw [HN.out]; exact hjn
   obtain ⟨bl, ol, rfl, hbl0, hc⟩ := (HS.out.s.up HB.out).elem ClaimR.cells_len (by omega) j hjl
   have hc_0 := hc 0 _ rfl
   rw [Nat.add_zero] at hc_0
   have hc_1 := hc 1 _ rfl
   have hc_2 := hc 2 _ rfl
   clear hc
   have hsr := HC.out _ (List.getElem_mem hjl)
   have hsh := HSH.out _ (List.getElem_mem hjl)
   unfold SayOk CapOk at hsh
   have HSJ := Lib.hid hsh
   have HTJ := Lib.hid (HTK.out j hjl)
   generalize rs[j] = r at *
   have hq0 := hsr.c 0 _ rfl
   have hq1 := hsr.c 1 _ rfl
   rw [Nat.add_zero] at hq0
   have HPL := Lib.hid hsr.l
   have HAB := Lib.hid hsr.k.b
   have HAJ := Lib.hid hsr.k.i
   have HQ0 := Lib.hid hq0
   have HQ1 := Lib.hid hq1
   clear hsr hsh hq0 hq1
   generalize r.k.bases = bs at *
   generalize r.k.images = ims at *
   generalize r.k.ab = ab at *
   generalize r.k.ai = ai at *
   generalize r.k.cb = cb at *
   generalize r.k.ci = ci at *
   generalize r.pb = pb at *
   generalize r.po = po at *
   rw [← HYS.out] at HTJ
   have HCB := Lib.hid (cat_small HSJ.out.1.1 HSJ.out.1.2.2.1)
   have HCI := Lib.hid (cat_small HSJ.out.1.2.1 HSJ.out.1.2.2.2)
   have HJ1 := Lib.hid (fun w h => sJoin_any bs (by have := HSJ.out.1.1; omega) (fun x hx => Nat.le_trans (HSJ.out.1.2.2.1 x hx) (by decide)) ab cb HSJ.out.2.1 w h)
   have HJ2 := Lib.hid (fun w h => sJoin_any ims (by have := HSJ.out.1.2.1; omega) (fun x hx => Nat.le_trans (HSJ.out.1.2.2.2 x hx) (by decide)) ai ci HSJ.out.2.2 w h)
   have HRL := Lib.hid HT.out.lt
   clear HYS HSJ
   have BL := Lib.hid (Below.refl wr.heap.size wr)
   obtain ⟨w2, hq2, hb9, hz9, Hbc⟩ := new1 wr 154 [.pointer (some ⟨pb, po, none⟩), .slice (some ⟨r.bb, r.bo, none⟩) bs.length r.bc, .slice (some ⟨r.ib, r.io, none⟩) ims.length r.ic]
   replace BL := hbu BL hb9
   replace HZS := sz HZS hz9.out
   clear hb9 hz9
   have bc_ := Hbc.out.c3
   have hd0 := ((below_up HB.out BL.out).cell (p := ⟨pb, po, none⟩) HPL.out).trans HQ0.out
   go_wp2_with fail
   clear hq2
   refine (HJ1.out _ (HAB.out.up (below_up HB.out BL.out))).mono ?_
   rintro e wz ⟨rfl, hb9⟩
   have HBZ := Lib.hid (below_up BL.out hb9)
   have HT9 := Lib.hid (Bx.up HT.out HBZ.out)
   have HK9 := Lib.hid (HK.out.up HBZ.out)
   have HBC := Lib.hid (Bx.up Hbc.out hb9)
   have HB9 := Lib.hid (below_up HB.out HBZ.out)
   clear hb9 BL HT HK HB HJ1 Hbc
   go_wp2_with fail
   refine (HF.out y basesB (catB bs) (by have := HY.out; omega) (by decide) HCB.out wz HT9.out).mono ?_
   rintro e wy ⟨rfl, ht, hk⟩
   have HT8 := Lib.hid ht
   have HK8 := Lib.hid (HK9.out.trans hk)
   have HB8 := Lib.hid (Below.keptP HB9.out hk HB9.out.size (fun q hq => hq ▸ HTB.out))
   have Hbc := Lib.hid (HBC.out.keptP hk (show ¬ wr.heap.size = tb by have := HRL.out; omega))
   have hcc := Hbc.out.cell (i := 0) rfl
   have hd1 := (HB8.out.cell (p := ⟨pb, po + 1, none⟩) HPL.out).trans HQ1.out
   clear ht hk HT9 HK9 HB9 HBC HBZ
   go_wp2_with fail
   refine (HJ2.out wy (HAJ.out.up HB8.out)).mono ?_
   rintro e wx ⟨rfl, hb9⟩
   have HT7 := Lib.hid (Bx.up HT8.out hb9)
   have HK7 := Lib.hid (HK8.out.up hb9)
   clear hb9 HT8 HK8 HB8 HJ2
   go_wp2_with fail
   refine (HF.out (S1 y basesB (catB bs)) imagesB (catB ims) (by rw [HS1.out]; decide) (by decide) HCI.out wx HT7.out).mono ?_
   rintro e wv ⟨rfl, ht, hk⟩
   have HT6 := Lib.hid ht
   have HK6 := Lib.hid (HK7.out.trans hk)
   clear ht hk HT7 HK7
   go_wp2_with fail
   exact ⟨⟨j + 1, _, by omega, by go_num, Lib.hid (HS1.out _ _ _), Lib.hid HTJ.out.symm, HT6, HK6⟩, by simp [intOf]; omega⟩
  ·have hj' : j = n := by omega
   subst hj'
   rw [List.take_of_length_le (by rw [HN.out]; exact Nat.le_refl _)] at HYS
   go_wp2_with fail
   go_end0
   exact ⟨rfl, by rw [← HYS.out]; exact HT.out, HK.out⟩
end Go.Proofs.YtdlnnkbigeiilaaGreat
namespace Go.Proofs.YtdlnnkbigeiilaaGreat
theorem Lw_iff {q p : Nat} (hq : 0 < q) (hp : p = 2 * q + 1) (u v : Nat) : Lw q p u = Lw q p v ↔ PM p u v :=
 ⟨fun h => ((Lw_pm hp u).symm.trans (by rw [h]; exact PM.refl _ _)).trans (Lw_pm hp v), fun h => Lw_eq hq hp h⟩
theorem T_inj {G : GP} (ok : G.Ok) (fit : G.q.m < 256 ^ G.size) {u v : Nat} (hu : u ≤ G.q.m) (hv : v ≤ G.q.m) (h : T G u = T G v) : u = v := by
 have := congrArg numOf h
 rwa [T_num ok hu fit, T_num ok hv fit] at this
end Go.Proofs.YtdlnnkbigeiilaaGreat
namespace Go.Proofs.YtdlnnkbigeiilaaGreat
open Go.RowKit
section
variable {G : GP}
theorem lowN_iff (ok : G.Ok) (x y : Nat) : lowN G x = lowN G y ↔ PM G.p.m x y := Lw_iff ok.q.pos ok.twice x y
end
end Go.Proofs.YtdlnnkbigeiilaaGreat
namespace Go.Proofs.YtdlnnkbigeiilaaGreat
open Go.RowKit
theorem elemField : ∃ f, (Tryz.prog.fieldsOf 127).toList = [f] ∧ f.name = "n" ∧ f.type = 70 ∧ f.offset = 0 := by
 have h : ((Tryz.prog.fieldsOf 127).toList.map fun f => (f.name, f.type, f.offset)) = [("n", 70, 0)] := by kernel_rfl
 generalize (Tryz.prog.fieldsOf 127).toList = fs at *
 obtain ⟨f, rfl⟩ : ∃ f, fs = [f] := List.length_eq_one_iff.1 (by have := congrArg List.length h; simpa using this)
 simp only [List.map_cons, List.map_nil, List.cons.injEq, Prod.mk.injEq, and_true] at h
 exact ⟨f, rfl, h.1, h.2.1, h.2.2⟩
theorem eqElem (x y : Nat) (hx : x < BB ^ 4) (hy : y < BB ^ 4) (w : World) (b : Bool) (hb : b = decide (x = y)) :
  (Op.equalIn 10000 127 (.agg #[.int .u64 (dig x 0 : Int), .int .u64 (dig x 1 : Int), .int .u64 (dig x 2 : Int), .int .u64 (dig x 3 : Int)]) (.agg #[.int .u64 (dig y 0 : Int), .int .u64 (dig y 1 : Int), .int .u64 (dig y 2 : Int), .int .u64 (dig y 3 : Int)])).run Tryz.prog w = .ok b w := by
 obtain ⟨f, hf, hn, ht, ho⟩ := elemField
 rw [run_equalIn_struct w 9999 _ _ _ (by kernel_rfl) (by kernel_rfl), hf]
 obtain ⟨i, hi⟩ := Option.isSome_iff_exists.1 infoU64
 have h4 := run_equalIn_four w 9997 _ _ Tryz.underlying70 Tryz.underlying68 i hi cellsU64 plainU64 (dig x 0 : Int) (dig x 1 : Int) (dig x 2 : Int) (dig x 3 : Int) (dig y 0 : Int) (dig y 1 : Int) (dig y 2 : Int) (dig y 3 : Int)
 have he : ((dig x 0 : Int) == (dig y 0 : Int) && ((dig x 1 : Int) == (dig y 1 : Int) && ((dig x 2 : Int) == (dig y 2 : Int) && (dig x 3 : Int) == (dig y 3 : Int)))) = b := by
  rw [hb, Bool.eq_iff_iff]
  simp only [Bool.and_eq_true, beq_iff_eq, Int.natCast_inj, decide_eq_true_eq]
  exact ⟨fun ⟨h0, h1, h2, h3⟩ => lim_eq x y hx hy h0 h1 h2 h3, fun e => by rw [e]; exact ⟨rfl, rfl, rfl, rfl⟩⟩
 rw [he] at h4
 simp only [Op.eqFields, hn, ht, ho]
 rw [if_pos (by decide), Sem.run_bind, partLimbs, Result.andThen_ok, Sem.run_bind, partLimbs, Result.andThen_ok, Sem.run_bind]
 erw [h4]
 cases b <;> rfl
theorem guardElem (op : BinOp) (x y : Operand) (xs ys : Array Value) (w : World) : (eqGuard op 127 x y (.agg xs) (.agg ys)).run Tryz.prog w = .ok () w := run_eqGuard_agg w op _ x y xs ys (by kernel_rfl)
theorem binElem {xs ys : Array Value} {b : Bool} {w : World} (h : (Op.equalIn 10000 127 (.agg xs) (.agg ys)).run Tryz.prog w = .ok b w) : (binOp .eql 127 (.agg xs) (.agg ys)).run Tryz.prog w = .ok (.bool b) w := by
 rw [run_eql_struct, h]
 rfl
theorem mont_iff {R : RingP} (ok : R.Ok) (x y : Nat) : mont R.m x = mont R.m y ↔ x % R.m = y % R.m :=
 ⟨fun h => mont_cancel ok.low (show (x * BB ^ 4) % R.m = (y * BB ^ 4) % R.m from h), fun h => by rw [← mont_mod R.m x, h, mont_mod]⟩
theorem dvd_sub_iff (p x y : Nat) : (p : Int) ∣ (x : Int) - y ↔ x % p = y % p :=
 ⟨fun h => by have := Int.emod_eq_emod_iff_emod_sub_eq_zero.2 (Int.emod_eq_zero_of_dvd h); exact_mod_cast this, fun h => Int.dvd_of_emod_eq_zero (Int.emod_eq_emod_iff_emod_sub_eq_zero.1 (by exact_mod_cast h))⟩
theorem same_iff {G : GP} (ok : G.Ok) (x y : Nat) : lowN G x = lowN G y ↔ mont G.p.m x = mont G.p.m y ∨ mont G.p.m (x + y) = 0 := by
 rw [lowN_iff ok, mont_iff ok.p, ← mont_zero G.p.m, mont_iff ok.p]
 unfold PM
 rw [dvd_sub_iff]
 refine or_congr Iff.rfl ⟨fun h => ?_, fun h => ?_⟩
 ·have h2 : G.p.m ∣ x + y := by exact_mod_cast h
  rw [Nat.mod_eq_zero_of_dvd h2, Nat.zero_mod]
 ·have h2 : G.p.m ∣ x + y := Nat.dvd_of_mod_eq_zero (by rw [h, Nat.zero_mod])
  exact_mod_cast h2
theorem gSame_any (G : GP) (ok : G.Ok) (gb x y : Nat) (w : World) (hG : GroupAt w gb G) :
  Calls Tryz.prog 119 #[.pointer (some ⟨gb, 0, none⟩), elV G x, elV G y] w (Gives (.bool (decide (lowN G x = lowN G y))) w) := by
 have OK := Lib.hid ok
 have HG := Lib.hid hG
 obtain ⟨b1, hb1⟩ : ∃ b, decide (mont G.p.m x = mont G.p.m y) = b := ⟨_, rfl⟩
 obtain ⟨b2, hb2⟩ : ∃ b, decide (mont G.p.m (x + y) = 0) = b := ⟨_, rfl⟩
 have hr : decide (lowN G x = lowN G y) = (b1 || b2) := by
  rw [← hb1, ← hb2, Bool.eq_iff_iff]
  simp only [Bool.or_eq_true, decide_eq_true_eq]
  exact same_iff ok x y
 have HEQ := Lib.hid (fun W => binElem (w := W) (eqElem (mont G.p.m x) (mont G.p.m y) (ok.p.mont _) (ok.p.mont _) W b1 hb1.symm))
 have HEZ := Lib.hid (fun W => binLimbs (w := W) (eqZero (mont G.p.m (x + y)) (ok.p.mont _) W b2 hb2.symm))
 rw [hr]
 clear ok hG hb1 hb2 hr
 unfold Gives elV limbV
 go_enter Tryz.func119, Tryz.ntmps119
 go_wp2_with fail
 obtain ⟨w1, hq1, hb9, hz9, Hbx, Hby⟩ := new2 w 127 [.int .u64 (dig (mont G.p.m x) 0 : Int), .int .u64 (dig (mont G.p.m x) 1 : Int), .int .u64 (dig (mont G.p.m x) 2 : Int), .int .u64 (dig (mont G.p.m x) 3 : Int)] 127 [.int .u64 (dig (mont G.p.m y) 0 : Int), .int .u64 (dig (mont G.p.m y) 1 : Int), .int .u64 (dig (mont G.p.m y) 2 : Int), .int .u64 (dig (mont G.p.m y) 3 : Int)]
 rw [hq1]
 clear hq1
 replace HG := Lib.hid (HG.out.up hb9)
 have HB := Lib.hid hb9
 have HZS := hz9
 clear hb9 hz9
 have bx_ := Hbx.out.c4
 have by_ := Hby.out.c4
 go_wp2_with fail
 cases b1
 ·have hl_bx := Hbx.out.lt
  have hl_by := Hby.out.lt
  refine wp_region_over (by kernel_rfl) (by kernel_rfl) ?_
  have hov_bx := fun (E : Over w1) o => E.cell (b := w.heap.size) o hl_bx
  have hov_by := fun (E : Over w1) o => E.cell (b := w.heap.size + 1) o hl_by
  go_big_quiet_step (fail)
  go_big_quiet_step (fail)
  refine wpQuiet_bin rfl .eql _ _ 127 _ rfl _ _ (.bool false) rfl rfl (fun _ => guardElem _ _ _ _ _ _) (fun _ => HEQ.out _) ?_
  simp only [Act.put, List.setIfInBounds_toArray, List.set_cons_succ, List.set_cons_zero]
  repeat (go_big_quiet_step (first | (go_at_call 114; exact calls_over (addM G.p OK.out.p gb 2 x y _ (HG.out.up (Over.h _)).p))))
  unfold limbV
  refine wpQuiet_bin rfl .eql _ _ 70 _ rfl _ _ (.bool b2) rfl rfl (fun _ => guardLimbs _ _ _ _ _ _) (fun _ => HEZ.out _) ?_
  simp only [Act.put, List.setIfInBounds_toArray, List.set_cons_succ, List.set_cons_zero]
  repeat (go_big_quiet_step (fail))
  refine wpQuiet_nil ?_
  rintro _ ⟨E, rfl⟩
  clear hov_bx hl_bx hov_by hl_by bx_
  replace Hbx := Lib.hid (Hbx.out.up E.h)
  clear by_
  replace Hby := Lib.hid (Hby.out.up E.h)
  replace HG := Lib.hid (HG.out.up E.h)
  replace HB := hbu HB E.h
  replace HZS := sz HZS E.h.size
  obtain ⟨w2, hq9⟩ : ∃ W9 : World, E.w = W9 := ⟨_, rfl⟩
  rw [hq9] at Hbx Hby HG HB HZS ⊢
  clear hq9 E
  have bx_ := Hbx.out.c4
  have by_ := Hby.out.c4
  go_wp2_with fail
  go_ret
  exact ⟨by simp, HB.out⟩
 ·have hl_bx := Hbx.out.lt
  have hl_by := Hby.out.lt
  refine wp_region_over (by kernel_rfl) (by kernel_rfl) ?_
  have hov_bx := fun (E : Over w1) o => E.cell (b := w.heap.size) o hl_bx
  have hov_by := fun (E : Over w1) o => E.cell (b := w.heap.size + 1) o hl_by
  go_big_quiet_step (fail)
  go_big_quiet_step (fail)
  refine wpQuiet_bin rfl .eql _ _ 127 _ rfl _ _ (.bool true) rfl rfl (fun _ => guardElem _ _ _ _ _ _) (fun _ => HEQ.out _) ?_
  simp only [Act.put, List.setIfInBounds_toArray, List.set_cons_succ, List.set_cons_zero]
  repeat (go_big_quiet_step (fail))
  refine wpQuiet_nil ?_
  rintro _ ⟨E, rfl⟩
  clear hov_bx hl_bx hov_by hl_by bx_
  replace Hbx := Lib.hid (Hbx.out.up E.h)
  clear by_
  replace Hby := Lib.hid (Hby.out.up E.h)
  replace HG := Lib.hid (HG.out.up E.h)
  replace HB := hbu HB E.h
  replace HZS := sz HZS E.h.size
  obtain ⟨w2, hq9⟩ : ∃ W9 : World, E.w = W9 := ⟨_, rfl⟩
  rw [hq9] at Hbx Hby HG HB HZS ⊢
  clear hq9 E
  have bx_ := Hbx.out.c4
  have by_ := Hby.out.c4
  go_wp2_with fail
  go_ret
  exact ⟨by simp, HB.out⟩
end Go.Proofs.YtdlnnkbigeiilaaGreat
namespace Go.Proofs.YtdlnnkbigeiilaaGreat
open Go.RowKit
def ScalQ (G : GP) (er : Nat) (l : List ByteArray) (w : World) (e : Ending) (w' : World) : Prop :=
 Below w.heap.size w w' ∧ ∃ v, e = .returned (.tuple #[v, .int .i64 (er : Int)]) ∧ (er = 0 → ∃ a c, v = .slice a l.length c ∧ Sl w' w'.heap.size a (l.flatMap (limC G.q.m)) ∧ (∀ x, a = some x → w.heap.size ≤ x.block))
def ScalR (G : GP) (n : Nat) (l : List ByteArray) (w : World) (e : Ending) (w' : World) : Prop := ScalQ G (scE G n l) l w e w'
theorem scalars_any (G : GP) (ok : G.Ok) (gb n : Nat) (a : Option Addr) (c : Nat) (l : List ByteArray) (al : Option Addr) (cl : Nat) (hn : l.length ≤ 8796093022207) (w : World) (hG : GroupAt w gb G) (hS : Sl w w.heap.size al (l.map Value.string)) :
  Calls Tryz.prog 53 #[.agg #[.pointer (some ⟨gb, 0, none⟩), .slice a n c], .slice al l.length cl] w (ScalR G n l w) := by
 have OK := Lib.hid ok
 have HG := Lib.hid hG
 have HS := Lib.hid hS
 clear ok hG hS
 obtain ⟨z, hz⟩ : ∃ z, scE G n l = z := ⟨_, rfl⟩
 have hzz : z = if l.length = n then if l.all (isSc G.q.m G.size) = true then 0 else 6 else 2 := hz.symm
 unfold ScalR
 rw [hz]
 clear hz
 by_cases h1 : l.length = n
 ·have hd : ((l.length : Int) != (n : Int)) = false := by simp; omega
  rw [if_pos h1] at hzz
  obtain ⟨b, hb⟩ : ∃ b, l.all (isSc G.q.m G.size) = b := ⟨_, rfl⟩
  rw [hb] at hzz
  have HBB := Lib.hid hb
  clear hb h1
  go_enter Tryz.func53, Tryz.ntmps53
  go_wp2_with fail
  obtain ⟨w1, hq1, hb9, hz9, Hbs⟩ := new1 w 64 [.pointer (some ⟨gb, 0, none⟩), .slice a n c]
  rw [hq1]
  clear hq1
  replace HG := Lib.hid (HG.out.up hb9)
  have HB := Lib.hid hb9
  have HZS := hz9
  clear hb9 hz9
  have bs_ := Hbs.out.c2
  go_wp2_with fail
  refine (allSc_v G OK.out gb l b HBB.out l.length rfl al cl hn w1 HG.out (HS.out.up HB.out)).mono ?_
  rintro e w2 ⟨vx, rfl, hb9, hx9⟩
  clear bs_
  replace Hbs := Lib.hid (Hbs.out.up hb9)
  replace HG := Lib.hid (HG.out.up hb9)
  replace HB := hbu HB hb9
  replace HZS := sz HZS hb9.size
  have HX := Lib.hid hx9
  clear hx9 hb9
  have bs_ := Hbs.out.c2
  cases b
  ·obtain rfl : z = 6 := by rw [hzz, if_neg (by decide)]
   clear hzz
   go_wp2_with fail
   go_ret2
   exact ⟨HB.out, .slice none 0 0, rfl, fun h => by cases h⟩
  ·obtain rfl : z = 0 := by rw [hzz, if_pos rfl]
   clear hzz
   obtain ⟨ax, cx, rfl, hsx, hfx⟩ := HX.out rfl
   have HSX := Lib.hid hsx
   have HFX := Lib.hid (show ∀ x, ax = some x → w.heap.size ≤ x.block from fun x hx => Nat.le_trans (by have a0 := HZS.out; omega) (hfx x hx))
   clear hsx hfx HX
   go_wp2_with fail
   go_ret2
   exact ⟨HB.out, .slice ax l.length cx, rfl, fun _ => ⟨ax, cx, rfl, HSX.out, HFX.out⟩⟩
 ·have hd : ((l.length : Int) != (n : Int)) = true := by simp; omega
  obtain rfl : z = 2 := by rw [hzz, if_neg h1]
  clear hzz h1
  go_enter Tryz.func53, Tryz.ntmps53
  go_wp2_with fail
  obtain ⟨w1, hq1, hb9, hz9, Hbs⟩ := new1 w 64 [.pointer (some ⟨gb, 0, none⟩), .slice a n c]
  rw [hq1]
  clear hq1
  have HB := Lib.hid hb9
  have HZS := hz9
  clear hb9 hz9
  have bs_ := Hbs.out.c2
  go_wp2_with fail
  go_ret2
  exact ⟨HB.out, .slice none 0 0, rfl, fun h => by cases h⟩
def openE (G : GP) (l : List ClaimA) (xs : List ByteArray) : Nat := if wrongE G l ≠ 0 then wrongE G l else scE G l.length xs
end Go.Proofs.YtdlnnkbigeiilaaGreat
