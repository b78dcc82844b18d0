/- Texts of this seat, one behind the other: what TrustDeals leans on. No condition beyond those that each names. -/
import Derived.Test.YtjmeakfjfpnciaaGreatZTrustDeals3
import Derived.Deep.QuietTactic
import Derived.RegionTactic
import Derived.Outline
import Derived.LoopTactic
import Derived.Lib.SlBytesConst
import Derived.Lib.IndexBytes

set_option maxRecDepth 100000
set_option maxHeartbeats 4000000
set_option linter.unusedVariables false
set_option linter.unusedSimpArgs false
namespace Go.Proofs.YtjmeakfjfpnciaaGreat
open Go.RowKit
theorem turn_nat (x : BitVec 32) (n : Nat) (h0 : n = 16 ∨ n = 12 ∨ n = 8 ∨ n = 7) : x.toNat / 2 ^ n ||| x.toNat * 2 ^ (32 - n) % 4294967296 = (rotB x n).toNat := by
 rw [← rot_or x n h0, BitVec.toNat_or, BitVec.toNat_ushiftRight, BitVec.toNat_shiftLeft, Nat.shiftRight_eq_div_pow, Nat.shiftLeft_eq]
theorem turn_any (x : BitVec 32) (n : Nat) (h0 : n = 16 ∨ n = 12 ∨ n = 8 ∨ n = 7) (w : World) : Calls Tryz.prog 217 #[.int .u32 (x.toNat : Int), .int .i64 (n : Int)] w fun e w' => e = .returned (.int .u32 ((rotB x n).toNat : Int)) ∧ Below w.heap.size w w' := by
 have hx := x.isLt
 have ht := turn_nat x n h0
 have HB := Lib.hid (bits_or (x.toNat / 2 ^ n) (x.toNat * 2 ^ (32 - n) % 4294967296) (Nat.lt_of_le_of_lt (Nat.div_le_self _ _) hx) (Nat.mod_lt _ (by decide)))
 rw [ht] at HB
 have HBo := HB.out
 clear ht HB
 rcases h0 with rfl | rfl | rfl | rfl <;> simp at HBo
 all_goals
  go_enter Tryz.func217, Tryz.ntmps217
  go_wp2_with fail
  refine wp_region_over (by kernel_rfl) (by kernel_rfl) ?_
  repeat (go_big_quiet_step (first | fail))
  all_goals (try unfold elV limbV)
  repeat (go_big_quiet_step (first | fail))
  all_goals (try unfold elV limbV)
  repeat (go_big_quiet_step (first | fail))
  all_goals (try unfold ciphV)
  refine wpQuiet_nil ?_
  rintro _ ⟨E, rfl⟩
  have HB := Lib.hid E.h
  have HZS := Lib.hid E.h.size
  obtain ⟨w1, hq9⟩ : ∃ W9 : World, E.w = W9 := ⟨_, rfl⟩
  rw [hq9] at HB HZS ⊢
  clear hq9 E
  go_wp2_with fail
  go_ret
  exact ⟨rfl, HB.out⟩
def ordB : ByteArray := ⟨#[48, 49, 50, 51, 52, 53, 54, 55, 56, 57, 97, 98, 99, 100, 101, 102, 101, 97, 52, 56, 57, 102, 100, 54, 49, 99, 48, 50, 98, 55, 53, 51, 98, 56, 99, 48, 53, 50, 102, 100, 97, 101, 51, 54, 55, 49, 57, 52, 55, 57, 51, 49, 100, 99, 98, 101, 50, 54, 53, 97, 52, 48, 102, 56, 57, 48, 53, 55, 50, 52, 97, 102, 101, 49, 98, 99, 54, 56, 51, 100, 50, 99, 54, 97, 48, 98, 56, 51, 52, 100, 55, 53, 102, 101, 49, 57, 99, 53, 49, 102, 101, 100, 52, 97, 48, 55, 54, 51, 57, 50, 56, 98, 100, 98, 55, 101, 99, 49, 51, 57, 53, 48, 102, 52, 56, 54, 50, 97, 54, 102, 101, 57, 98, 51, 48, 56, 99, 50, 100, 55, 49, 52, 97, 53, 97, 50, 56, 52, 55, 54, 49, 53, 102, 98, 57, 101, 51, 99, 100, 48]⟩
theorem ord_tab : ∀ k : Fin 160, (ordB.data.getD k.1 0).toNat = if ordN (k.1 / 16) (k.1 % 16) < 10 then 48 + ordN (k.1 / 16) (k.1 % 16) else 87 + ordN (k.1 / 16) (k.1 % 16) := by decide +kernel
theorem ord_lt : ∀ k : Fin 160, ordN (k.1 / 16) (k.1 % 16) < 16 := by decide +kernel
theorem ordN_lt {r i : Nat} (hr : r < 10) (hi : i < 16) : ordN r i < 16 := by
 have h := ord_lt ⟨16 * r + i, by omega⟩
 simp only at h
 rwa [show (16 * r + i) / 16 = r by omega, show (16 * r + i) % 16 = i by omega] at h
theorem place_at {r i : Nat} (hr : r < 10) (hi : i < 16) (h : 16 * r + i < ordB.size) : (ordB[16 * r + i].toNat : Int) = if ordN r i < 10 then 48 + (ordN r i : Int) else 87 + (ordN r i : Int) := by
 have h1 := ord_tab ⟨16 * r + i, by omega⟩
 simp only at h1
 rw [show (16 * r + i) / 16 = r by omega, show (16 * r + i) % 16 = i by omega] at h1
 have e : ordB[16 * r + i] = ordB.data.getD (16 * r + i) 0 := by
  show ordB.data[16 * r + i]'h = _
  unfold Array.getD
  exact (dif_pos h).symm
 rw [e, h1]
 split <;> simp
theorem place_lo {r i : Nat} (hr : r < 10) (hi : i < 16) (h : 16 * r + i < ordB.size) (hc : (ordB[16 * r + i].toNat : Int) < 97) : ((ordB[16 * r + i].toNat : Int) - 48) % 256 = (ordN r i : Int) := by
 rw [place_at hr hi h] at *
 have := ordN_lt hr hi
 split at * <;> omega
theorem place_hi {r i : Nat} (hr : r < 10) (hi : i < 16) (h : 16 * r + i < ordB.size) (hc : 97 ≤ (ordB[16 * r + i].toNat : Int)) : ((ordB[16 * r + i].toNat : Int) - 97) % 256 + 10 = (ordN r i : Int) := by
 rw [place_at hr hi h] at *
 have := ordN_lt hr hi
 split at * <;> omega
theorem place_any (r i : Nat) (hr : r < 10) (hi : i < 16) (w : World) : Calls Tryz.prog 213 #[.int .i64 (r : Int), .int .i64 (i : Int)] w fun e w' => e = .returned (.int .i64 (ordN r i : Int)) ∧ Below w.heap.size w w' := by
 go_enter Tryz.func213, Tryz.ntmps213
 go_wp2_with fail
 ·go_ret
  exact ⟨ret_int (place_hi hr hi (show 16 * r + i < 160 by omega) (by assumption)), Below.refl _ _⟩
 ·go_ret
  exact ⟨ret_int (place_lo hr hi (show 16 * r + i < 160 by omega) (by assumption)), Below.refl _ _⟩
theorem corners_any (pb i : Nat) (hi : i < 8) (w : World) : Calls Tryz.prog 216 #[.pointer (some ⟨pb, 0, none⟩), .int .i64 (i : Int)] w fun e w' => e = .returned (.tuple #[.pointer (some ⟨pb, cA i, none⟩), .pointer (some ⟨pb, cB i, none⟩), .pointer (some ⟨pb, cC i, none⟩), .pointer (some ⟨pb, cD i, none⟩)]) ∧ Below w.heap.size w w' := by
 have h8 : i = 0 ∨ i = 1 ∨ i = 2 ∨ i = 3 ∨ i = 4 ∨ i = 5 ∨ i = 6 ∨ i = 7 := by omega
 clear hi
 rcases h8 with rfl | rfl | rfl | rfl | rfl | rfl | rfl | rfl
 all_goals
  go_enter Tryz.func216, Tryz.ntmps216
  go_wp2_with fail
  refine wp_region_over (by kernel_rfl) (by kernel_rfl) ?_
  repeat (go_big_quiet_step (first | fail))
  all_goals (try unfold elV limbV)
  repeat (go_big_quiet_step (first | fail))
  all_goals (try unfold elV limbV)
  repeat (go_big_quiet_step (first | fail))
  all_goals (try unfold ciphV)
  refine wpQuiet_nil ?_
  rintro _ ⟨E, rfl⟩
  have HB := Lib.hid E.h
  have HZS := Lib.hid E.h.size
  obtain ⟨w1, hq9⟩ : ∃ W9 : World, E.w = W9 := ⟨_, rfl⟩
  rw [hq9] at HB HZS ⊢
  clear hq9 E
  go_wp2_with fail
  simp [bodyPost, results, Tryz.results216, go_sem, cA, cB, cC, cD]
  exact HB.out
structure W4 (l : WL) (A B C D : Nat) (a b c d : BitVec 32) : Prop where
 len : l.length = 16
 bd : A < 4 ∧ 4 ≤ B ∧ B < 8 ∧ 8 ≤ C ∧ C < 12 ∧ 12 ≤ D ∧ D < 16
 ha : l.getD A 0 = a
 hb : l.getD B 0 = b
 hc : l.getD C 0 = c
 hd : l.getD D 0 = d
section
variable {l : WL} {A B C D : Nat} {a b c d z : BitVec 32}
theorem W4.ca (h : W4 l A B C D a b c d) : (wlV l)[A]? = some (.int .u32 (a.toNat : Int)) := h.ha ▸ wlV_get l A (by have := h.len; have := h.bd; omega)
theorem W4.cb (h : W4 l A B C D a b c d) : (wlV l)[B]? = some (.int .u32 (b.toNat : Int)) := h.hb ▸ wlV_get l B (by have := h.len; have := h.bd; omega)
theorem W4.cc (h : W4 l A B C D a b c d) : (wlV l)[C]? = some (.int .u32 (c.toNat : Int)) := h.hc ▸ wlV_get l C (by have := h.len; have := h.bd; omega)
theorem W4.cd (h : W4 l A B C D a b c d) : (wlV l)[D]? = some (.int .u32 (d.toNat : Int)) := h.hd ▸ wlV_get l D (by have := h.len; have := h.bd; omega)
theorem set_same (l : WL) (k : Nat) (u : BitVec 32) (h : k < l.length) : (l.set k u).getD k 0 = u := by simp [List.getD, h]
theorem set_other (l : WL) (k j : Nat) (u : BitVec 32) (h : k ≠ j) : (l.set k u).getD j 0 = l.getD j 0 := by simp [List.getD, List.getElem?_set_ne h]
theorem W4.sa (h : W4 l A B C D a b c d) : W4 (l.set A z) A B C D z b c d := by
 have h1 := h.len; have h2 := h.bd
 exact ⟨by rw [List.length_set]; exact h1, h2, set_same _ _ _ (by omega), by rw [set_other _ _ _ _ (by omega)]; exact h.hb, by rw [set_other _ _ _ _ (by omega)]; exact h.hc, by rw [set_other _ _ _ _ (by omega)]; exact h.hd⟩
theorem W4.sb (h : W4 l A B C D a b c d) : W4 (l.set B z) A B C D a z c d := by
 have h1 := h.len; have h2 := h.bd
 exact ⟨by rw [List.length_set]; exact h1, h2, by rw [set_other _ _ _ _ (by omega)]; exact h.ha, set_same _ _ _ (by omega), by rw [set_other _ _ _ _ (by omega)]; exact h.hc, by rw [set_other _ _ _ _ (by omega)]; exact h.hd⟩
theorem W4.sc (h : W4 l A B C D a b c d) : W4 (l.set C z) A B C D a b z d := by
 have h1 := h.len; have h2 := h.bd
 exact ⟨by rw [List.length_set]; exact h1, h2, by rw [set_other _ _ _ _ (by omega)]; exact h.ha, by rw [set_other _ _ _ _ (by omega)]; exact h.hb, set_same _ _ _ (by omega), by rw [set_other _ _ _ _ (by omega)]; exact h.hd⟩
theorem W4.sd (h : W4 l A B C D a b c d) : W4 (l.set D z) A B C D a b c z := by
 have h1 := h.len; have h2 := h.bd
 exact ⟨by rw [List.length_set]; exact h1, h2, by rw [set_other _ _ _ _ (by omega)]; exact h.ha, by rw [set_other _ _ _ _ (by omega)]; exact h.hb, by rw [set_other _ _ _ _ (by omega)]; exact h.hc, set_same _ _ _ (by omega)⟩
theorem Bx.wset {W : World} {b i : Nat} {t : TypeId} {l : WL} {x : BitVec 32} (h : Bx W b t ((wlV l).set i (.int .u32 (x.toNat : Int)))) : Bx W b t (wlV (l.set i x)) := wlV_set l i x ▸ h
end
theorem quarter_any (m v : WL) (r i : Nat) (hi : i < 8) (hv : v.length = 16) (pb : Nat) (w : World) (hp : Bx w pb 299 (wlV v)) :
  Calls Tryz.prog 212 #[.pointer (some ⟨pb, 0, none⟩), .int .i64 (i : Int), .int .u32 ((m.getD (ordN r (2 * i)) 0).toNat : Int), .int .u32 ((m.getD (ordN r (2 * i + 1)) 0).toNat : Int)] w
   fun e w' => e = .returned (.tuple #[]) ∧ Bx w' pb 299 (wlV (quartB m v r i)) ∧ Kept (fun q => q = pb) w w' := by
 have hq := quart_words m v r i hv _ _ _ _ _ _ rfl rfl rfl rfl rfl rfl
 have HC := Lib.hid (fun w => corners_any pb i hi w)
 have HW := Lib.hid (show W4 v (cA i) (cB i) (cC i) (cD i) _ _ _ _ from ⟨hv, by unfold cA cB cC cD; omega, rfl, rfl, rfl, rfl⟩)
 generalize quartB m v r i = V at *
 generalize m.getD (ordN r (2 * i)) 0 = x at *
 generalize m.getD (ordN r (2 * i + 1)) 0 = y at *
 generalize v.getD (cA i) 0 = a at *
 generalize v.getD (cB i) 0 = b at *
 generalize v.getD (cC i) 0 = c at *
 generalize v.getD (cD i) 0 = d at *
 generalize cA i = A at *
 generalize cB i = B at *
 generalize cC i = C at *
 generalize cD i = D at *
 have HQ := Lib.hid hq
 have Hp := Lib.hid hp
 clear hp hv hi hq
 go_enter Tryz.func212, Tryz.ntmps212
 go_wp2_with fail
 have HK := Lib.hid (Kept.refl (fun q9 => q9 = pb) w)
 refine (HC.out w).mono ?_
 rintro e w1 ⟨rfl, hb9⟩
 replace Hp := Lib.hid (Hp.out.up hb9)
 replace HK := Lib.hid (Kept.up HK.out hb9)
 have HZS := Lib.hid hb9.size
 clear hb9
 go_wp2_with fail
 have g1 := add32 b x
 obtain ⟨za1, e0⟩ : ∃ z, b + x = z := ⟨_, rfl⟩
 rw [e0] at g1
 have g2 := add32 a za1
 obtain ⟨a1, e1⟩ : ∃ z, a + za1 = z := ⟨_, rfl⟩
 rw [e1] at g2
 have Eza1 := Lib.hid e0
 have Ea1 := Lib.hid e1
 clear e1 e0
 have hlp := Hp.out.lt
 have hcA := Hp.out.cell HW.out.ca
 have hcB := Hp.out.cell HW.out.cb
 have hcC := Hp.out.cell HW.out.cc
 have hcD := Hp.out.cell HW.out.cd
 refine wp_region_otail 10 (by kernel_rfl) (by kernel_rfl) ?_
 simp only [List.take_succ_cons, List.take_zero, List.drop_succ_cons, List.drop_zero]
 have hov_pb := fun (E : Over w1) o => E.cell (b := pb) o hlp
 repeat (go_big_quiet_step (first | fail))
 all_goals (try unfold elV limbV)
 repeat (go_big_quiet_step (first | fail))
 all_goals (try unfold elV limbV)
 repeat (go_big_quiet_step (first | fail))
 all_goals (try unfold ciphV)
 refine wpQuiet_nil ?_
 rintro _ ⟨E, rfl⟩
 clear hov_pb
 replace Hp := Lib.hid (Hp.out.up E.h)
 replace HK := Lib.hid (Kept.up HK.out E.h)
 replace HZS := sz HZS E.h.size
 obtain ⟨w2, hq9⟩ : ∃ W9 : World, E.w = W9 := ⟨_, rfl⟩
 rw [hq9] at Hp HK HZS ⊢
 clear hq9 E hcA hcB hcC hcD hlp
 have hcT := Hp.out.cell HW.out.ca
 have f3_p := Hp.out.frozen
 obtain ⟨w3, hq3, hg9, hz9, hx9⟩ := put1 Hp A (.int .u32 (a1.toNat : Int)) _ rfl
 replace HK := Lib.hid (Kept.grown HK.out hg9.out (fun q9 e9 => by obtain rfl := Option.some.inj e9; exact Or.inr (rfl)))
 replace HZS := sz HZS hz9.out
 replace Hp := hx9
 clear hx9 hg9 hz9
 replace Hp := Lib.hid Hp.out.wset
 replace HW := Lib.hid (HW.out.sa (z := a1))
 go_wp2_with fail
 clear hq3 f3_p hcT g1 g2
 have g1 := bits_xor d a1
 obtain ⟨zd1, e0⟩ : ∃ z, d ^^^ a1 = z := ⟨_, rfl⟩
 rw [e0] at g1
 obtain ⟨d1, e1⟩ : ∃ z, rotB zd1 16 = z := ⟨_, rfl⟩
 have HT := Lib.hid (fun w => turn_any zd1 16 (by omega) w)
 rw [e1] at HT
 have Ezd1 := Lib.hid e0
 have Ed1 := Lib.hid e1
 clear e1 e0
 have hlp := Hp.out.lt
 have hcA := Hp.out.cell HW.out.ca
 have hcB := Hp.out.cell HW.out.cb
 have hcC := Hp.out.cell HW.out.cc
 have hcD := Hp.out.cell HW.out.cd
 refine wp_region_otail 10 (by kernel_rfl) (by kernel_rfl) ?_
 simp only [List.take_succ_cons, List.take_zero, List.drop_succ_cons, List.drop_zero]
 have hov_pb := fun (E : Over w3) o => E.cell (b := pb) o hlp
 repeat (go_big_quiet_step (first | (go_at_call 217; exact calls_over (HT.out _))))
 all_goals (try unfold elV limbV)
 repeat (go_big_quiet_step (first | (go_at_call 217; exact calls_over (HT.out _))))
 all_goals (try unfold elV limbV)
 repeat (go_big_quiet_step (first | (go_at_call 217; exact calls_over (HT.out _))))
 all_goals (try unfold ciphV)
 refine wpQuiet_nil ?_
 rintro _ ⟨E, rfl⟩
 clear hov_pb
 replace Hp := Lib.hid (Hp.out.up E.h)
 replace HK := Lib.hid (Kept.up HK.out E.h)
 replace HZS := sz HZS E.h.size
 obtain ⟨w4, hq9⟩ : ∃ W9 : World, E.w = W9 := ⟨_, rfl⟩
 rw [hq9] at Hp HK HZS ⊢
 clear hq9 E hcA hcB hcC hcD hlp
 have hcT := Hp.out.cell HW.out.cd
 have f5_p := Hp.out.frozen
 obtain ⟨w5, hq5, hg9, hz9, hx9⟩ := put1 Hp D (.int .u32 (d1.toNat : Int)) _ rfl
 replace HK := Lib.hid (Kept.grown HK.out hg9.out (fun q9 e9 => by obtain rfl := Option.some.inj e9; exact Or.inr (rfl)))
 replace HZS := sz HZS hz9.out
 replace Hp := hx9
 clear hx9 hg9 hz9
 replace Hp := Lib.hid Hp.out.wset
 replace HW := Lib.hid (HW.out.sd (z := d1))
 go_wp2_with fail
 clear hq5 f5_p hcT g1 HT
 have g2 := add32 c d1
 obtain ⟨c1, e1⟩ : ∃ z, c + d1 = z := ⟨_, rfl⟩
 rw [e1] at g2
 have Ec1 := Lib.hid e1
 clear e1
 have hlp := Hp.out.lt
 have hcA := Hp.out.cell HW.out.ca
 have hcB := Hp.out.cell HW.out.cb
 have hcC := Hp.out.cell HW.out.cc
 have hcD := Hp.out.cell HW.out.cd
 refine wp_region_otail 8 (by kernel_rfl) (by kernel_rfl) ?_
 simp only [List.take_succ_cons, List.take_zero, List.drop_succ_cons, List.drop_zero]
 have hov_pb := fun (E : Over w5) o => E.cell (b := pb) o hlp
 repeat (go_big_quiet_step (first | fail))
 all_goals (try unfold elV limbV)
 repeat (go_big_quiet_step (first | fail))
 all_goals (try unfold elV limbV)
 repeat (go_big_quiet_step (first | fail))
 all_goals (try unfold ciphV)
 refine wpQuiet_nil ?_
 rintro _ ⟨E, rfl⟩
 clear hov_pb
 replace Hp := Lib.hid (Hp.out.up E.h)
 replace HK := Lib.hid (Kept.up HK.out E.h)
 replace HZS := sz HZS E.h.size
 obtain ⟨w6, hq9⟩ : ∃ W9 : World, E.w = W9 := ⟨_, rfl⟩
 rw [hq9] at Hp HK HZS ⊢
 clear hq9 E hcA hcB hcC hcD hlp
 have hcT := Hp.out.cell HW.out.cc
 have f7_p := Hp.out.frozen
 obtain ⟨w7, hq7, hg9, hz9, hx9⟩ := put1 Hp C (.int .u32 (c1.toNat : Int)) _ rfl
 replace HK := Lib.hid (Kept.grown HK.out hg9.out (fun q9 e9 => by obtain rfl := Option.some.inj e9; exact Or.inr (rfl)))
 replace HZS := sz HZS hz9.out
 replace Hp := hx9
 clear hx9 hg9 hz9
 replace Hp := Lib.hid Hp.out.wset
 replace HW := Lib.hid (HW.out.sc (z := c1))
 go_wp2_with fail
 clear hq7 f7_p hcT g2
 have g1 := bits_xor b c1
 obtain ⟨zb1, e0⟩ : ∃ z, b ^^^ c1 = z := ⟨_, rfl⟩
 rw [e0] at g1
 obtain ⟨b1, e1⟩ : ∃ z, rotB zb1 12 = z := ⟨_, rfl⟩
 have HT := Lib.hid (fun w => turn_any zb1 12 (by omega) w)
 rw [e1] at HT
 have Ezb1 := Lib.hid e0
 have Eb1 := Lib.hid e1
 clear e1 e0
 have hlp := Hp.out.lt
 have hcA := Hp.out.cell HW.out.ca
 have hcB := Hp.out.cell HW.out.cb
 have hcC := Hp.out.cell HW.out.cc
 have hcD := Hp.out.cell HW.out.cd
 refine wp_region_otail 10 (by kernel_rfl) (by kernel_rfl) ?_
 simp only [List.take_succ_cons, List.take_zero, List.drop_succ_cons, List.drop_zero]
 have hov_pb := fun (E : Over w7) o => E.cell (b := pb) o hlp
 repeat (go_big_quiet_step (first | (go_at_call 217; exact calls_over (HT.out _))))
 all_goals (try unfold elV limbV)
 repeat (go_big_quiet_step (first | (go_at_call 217; exact calls_over (HT.out _))))
 all_goals (try unfold elV limbV)
 repeat (go_big_quiet_step (first | (go_at_call 217; exact calls_over (HT.out _))))
 all_goals (try unfold ciphV)
 refine wpQuiet_nil ?_
 rintro _ ⟨E, rfl⟩
 clear hov_pb
 replace Hp := Lib.hid (Hp.out.up E.h)
 replace HK := Lib.hid (Kept.up HK.out E.h)
 replace HZS := sz HZS E.h.size
 obtain ⟨w8, hq9⟩ : ∃ W9 : World, E.w = W9 := ⟨_, rfl⟩
 rw [hq9] at Hp HK HZS ⊢
 clear hq9 E hcA hcB hcC hcD hlp
 have hcT := Hp.out.cell HW.out.cb
 have f9_p := Hp.out.frozen
 obtain ⟨w9, hq9, hg9, hz9, hx9⟩ := put1 Hp B (.int .u32 (b1.toNat : Int)) _ rfl
 replace HK := Lib.hid (Kept.grown HK.out hg9.out (fun q9 e9 => by obtain rfl := Option.some.inj e9; exact Or.inr (rfl)))
 replace HZS := sz HZS hz9.out
 replace Hp := hx9
 clear hx9 hg9 hz9
 replace Hp := Lib.hid Hp.out.wset
 replace HW := Lib.hid (HW.out.sb (z := b1))
 go_wp2_with fail
 clear hq9 f9_p hcT g1 HT
 have g1 := add32 b1 y
 obtain ⟨za2, e0⟩ : ∃ z, b1 + y = z := ⟨_, rfl⟩
 rw [e0] at g1
 have g2 := add32 a1 za2
 obtain ⟨a2, e1⟩ : ∃ z, a1 + za2 = z := ⟨_, rfl⟩
 rw [e1] at g2
 have Eza2 := Lib.hid e0
 have Ea2 := Lib.hid e1
 clear e1 e0
 have hlp := Hp.out.lt
 have hcA := Hp.out.cell HW.out.ca
 have hcB := Hp.out.cell HW.out.cb
 have hcC := Hp.out.cell HW.out.cc
 have hcD := Hp.out.cell HW.out.cd
 refine wp_region_otail 10 (by kernel_rfl) (by kernel_rfl) ?_
 simp only [List.take_succ_cons, List.take_zero, List.drop_succ_cons, List.drop_zero]
 have hov_pb := fun (E : Over w9) o => E.cell (b := pb) o hlp
 repeat (go_big_quiet_step (first | fail))
 all_goals (try unfold elV limbV)
 repeat (go_big_quiet_step (first | fail))
 all_goals (try unfold elV limbV)
 repeat (go_big_quiet_step (first | fail))
 all_goals (try unfold ciphV)
 refine wpQuiet_nil ?_
 rintro _ ⟨E, rfl⟩
 clear hov_pb
 replace Hp := Lib.hid (Hp.out.up E.h)
 replace HK := Lib.hid (Kept.up HK.out E.h)
 replace HZS := sz HZS E.h.size
 obtain ⟨w10, hq9⟩ : ∃ W9 : World, E.w = W9 := ⟨_, rfl⟩
 rw [hq9] at Hp HK HZS ⊢
 clear hq9 E hcA hcB hcC hcD hlp
 have hcT := Hp.out.cell HW.out.ca
 have f11_p := Hp.out.frozen
 obtain ⟨w11, hq11, hg9, hz9, hx9⟩ := put1 Hp A (.int .u32 (a2.toNat : Int)) _ rfl
 replace HK := Lib.hid (Kept.grown HK.out hg9.out (fun q9 e9 => by obtain rfl := Option.some.inj e9; exact Or.inr (rfl)))
 replace HZS := sz HZS hz9.out
 replace Hp := hx9
 clear hx9 hg9 hz9
 replace Hp := Lib.hid Hp.out.wset
 replace HW := Lib.hid (HW.out.sa (z := a2))
 go_wp2_with fail
 clear hq11 f11_p hcT g1 g2
 have g1 := bits_xor d1 a2
 obtain ⟨zd2, e0⟩ : ∃ z, d1 ^^^ a2 = z := ⟨_, rfl⟩
 rw [e0] at g1
 obtain ⟨d2, e1⟩ : ∃ z, rotB zd2 8 = z := ⟨_, rfl⟩
 have HT := Lib.hid (fun w => turn_any zd2 8 (by omega) w)
 rw [e1] at HT
 have Ezd2 := Lib.hid e0
 have Ed2 := Lib.hid e1
 clear e1 e0
 have hlp := Hp.out.lt
 have hcA := Hp.out.cell HW.out.ca
 have hcB := Hp.out.cell HW.out.cb
 have hcC := Hp.out.cell HW.out.cc
 have hcD := Hp.out.cell HW.out.cd
 refine wp_region_otail 10 (by kernel_rfl) (by kernel_rfl) ?_
 simp only [List.take_succ_cons, List.take_zero, List.drop_succ_cons, List.drop_zero]
 have hov_pb := fun (E : Over w11) o => E.cell (b := pb) o hlp
 repeat (go_big_quiet_step (first | (go_at_call 217; exact calls_over (HT.out _))))
 all_goals (try unfold elV limbV)
 repeat (go_big_quiet_step (first | (go_at_call 217; exact calls_over (HT.out _))))
 all_goals (try unfold elV limbV)
 repeat (go_big_quiet_step (first | (go_at_call 217; exact calls_over (HT.out _))))
 all_goals (try unfold ciphV)
 refine wpQuiet_nil ?_
 rintro _ ⟨E, rfl⟩
 clear hov_pb
 replace Hp := Lib.hid (Hp.out.up E.h)
 replace HK := Lib.hid (Kept.up HK.out E.h)
 replace HZS := sz HZS E.h.size
 obtain ⟨w12, hq9⟩ : ∃ W9 : World, E.w = W9 := ⟨_, rfl⟩
 rw [hq9] at Hp HK HZS ⊢
 clear hq9 E hcA hcB hcC hcD hlp
 have hcT := Hp.out.cell HW.out.cd
 have f13_p := Hp.out.frozen
 obtain ⟨w13, hq13, hg9, hz9, hx9⟩ := put1 Hp D (.int .u32 (d2.toNat : Int)) _ rfl
 replace HK := Lib.hid (Kept.grown HK.out hg9.out (fun q9 e9 => by obtain rfl := Option.some.inj e9; exact Or.inr (rfl)))
 replace HZS := sz HZS hz9.out
 replace Hp := hx9
 clear hx9 hg9 hz9
 replace Hp := Lib.hid Hp.out.wset
 replace HW := Lib.hid (HW.out.sd (z := d2))
 go_wp2_with fail
 clear hq13 f13_p hcT g1 HT
 have g2 := add32 c1 d2
 obtain ⟨c2, e1⟩ : ∃ z, c1 + d2 = z := ⟨_, rfl⟩
 rw [e1] at g2
 have Ec2 := Lib.hid e1
 clear e1
 have hlp := Hp.out.lt
 have hcA := Hp.out.cell HW.out.ca
 have hcB := Hp.out.cell HW.out.cb
 have hcC := Hp.out.cell HW.out.cc
 have hcD := Hp.out.cell HW.out.cd
 refine wp_region_otail 8 (by kernel_rfl) (by kernel_rfl) ?_
 simp only [List.take_succ_cons, List.take_zero, List.drop_succ_cons, List.drop_zero]
 have hov_pb := fun (E : Over w13) o => E.cell (b := pb) o hlp
 repeat (go_big_quiet_step (first | fail))
 all_goals (try unfold elV limbV)
 repeat (go_big_quiet_step (first | fail))
 all_goals (try unfold elV limbV)
 repeat (go_big_quiet_step (first | fail))
 all_goals (try unfold ciphV)
 refine wpQuiet_nil ?_
 rintro _ ⟨E, rfl⟩
 clear hov_pb
 replace Hp := Lib.hid (Hp.out.up E.h)
 replace HK := Lib.hid (Kept.up HK.out E.h)
 replace HZS := sz HZS E.h.size
 obtain ⟨w14, hq9⟩ : ∃ W9 : World, E.w = W9 := ⟨_, rfl⟩
 rw [hq9] at Hp HK HZS ⊢
 clear hq9 E hcA hcB hcC hcD hlp
 have hcT := Hp.out.cell HW.out.cc
 have f15_p := Hp.out.frozen
 obtain ⟨w15, hq15, hg9, hz9, hx9⟩ := put1 Hp C (.int .u32 (c2.toNat : Int)) _ rfl
 replace HK := Lib.hid (Kept.grown HK.out hg9.out (fun q9 e9 => by obtain rfl := Option.some.inj e9; exact Or.inr (rfl)))
 replace HZS := sz HZS hz9.out
 replace Hp := hx9
 clear hx9 hg9 hz9
 replace Hp := Lib.hid Hp.out.wset
 replace HW := Lib.hid (HW.out.sc (z := c2))
 go_wp2_with fail
 clear hq15 f15_p hcT g2
 have g1 := bits_xor b1 c2
 obtain ⟨zb2, e0⟩ : ∃ z, b1 ^^^ c2 = z := ⟨_, rfl⟩
 rw [e0] at g1
 obtain ⟨b2, e1⟩ : ∃ z, rotB zb2 7 = z := ⟨_, rfl⟩
 have HT := Lib.hid (fun w => turn_any zb2 7 (by omega) w)
 rw [e1] at HT
 have Ezb2 := Lib.hid e0
 have Eb2 := Lib.hid e1
 clear e1 e0
 have hlp := Hp.out.lt
 have hcA := Hp.out.cell HW.out.ca
 have hcB := Hp.out.cell HW.out.cb
 have hcC := Hp.out.cell HW.out.cc
 have hcD := Hp.out.cell HW.out.cd
 refine wp_region_otail 10 (by kernel_rfl) (by kernel_rfl) ?_
 simp only [List.take_succ_cons, List.take_zero, List.drop_succ_cons, List.drop_zero]
 have hov_pb := fun (E : Over w15) o => E.cell (b := pb) o hlp
 repeat (go_big_quiet_step (first | (go_at_call 217; exact calls_over (HT.out _))))
 all_goals (try unfold elV limbV)
 repeat (go_big_quiet_step (first | (go_at_call 217; exact calls_over (HT.out _))))
 all_goals (try unfold elV limbV)
 repeat (go_big_quiet_step (first | (go_at_call 217; exact calls_over (HT.out _))))
 all_goals (try unfold ciphV)
 refine wpQuiet_nil ?_
 rintro _ ⟨E, rfl⟩
 clear hov_pb
 replace Hp := Lib.hid (Hp.out.up E.h)
 replace HK := Lib.hid (Kept.up HK.out E.h)
 replace HZS := sz HZS E.h.size
 obtain ⟨w16, hq9⟩ : ∃ W9 : World, E.w = W9 := ⟨_, rfl⟩
 rw [hq9] at Hp HK HZS ⊢
 clear hq9 E hcA hcB hcC hcD hlp
 have hcT := Hp.out.cell HW.out.cb
 have f17_p := Hp.out.frozen
 obtain ⟨w17, hq17, hg9, hz9, hx9⟩ := put1 Hp B (.int .u32 (b2.toNat : Int)) _ rfl
 replace HK := Lib.hid (Kept.grown HK.out hg9.out (fun q9 e9 => by obtain rfl := Option.some.inj e9; exact Or.inr (rfl)))
 replace HZS := sz HZS hz9.out
 replace Hp := hx9
 clear hx9 hg9 hz9
 replace Hp := Lib.hid Hp.out.wset
 replace HW := Lib.hid (HW.out.sb (z := b2))
 go_wp2_with fail
 clear hq17 f17_p hcT g1 HT
 go_end0
 have h := HQ.out
 rw [BitVec.add_assoc a b x, Eza1.out, Ea1.out, Ezd1.out, Ed1.out, Ec1.out, Ezb1.out, Eb1.out, BitVec.add_assoc a1 b1 y, Eza2.out, Ea2.out, Ezd2.out, Ed2.out, Ec2.out, Ezb2.out, Eb2.out] at h
 exact ⟨rfl, h ▸ Hp.out, HK.out⟩
end Go.Proofs.YtjmeakfjfpnciaaGreat
namespace Go.Proofs.YtjmeakfjfpnciaaGreat
open Go.RowKit
theorem wpList_pushM {P : Program} (N : Nat) (w0 : World) (hN : N ≤ w0.heap.size) {ops : Array Oper} {rest : List Oper} {o : Oper} {a : Act} {Q : Exit → Act → World → Prop} (hgd : o.guard = none) (s x : Operand) (t : TypeId)
  (ho : o.op = .call { callee := .builtin .append, args := #[s, x], argTypes := #[t, t] })
  (e : TypeId) (i : TypeInfo) (z : Value) (size bytes m : Nat) (ht : P.underlying t = some (.slice e)) (hi : P.info? e = some i) (hz : i.zero = some z)
  (hsize : i.size = size) (hby : i.bytes = bytes) (hzs : z.cells.size = size) (hsz : 0 < size) (hm : 0 < m)
  (v : Value) (n : Nat) (xs : List Value) (hs : a.eval s = v) (hown : RowO N w0 e size v n xs)
  (news : Array Value) (e2 : TypeId) (b : Nat) (hb : w0.heap.size = b) (hx : a.eval x = .slice (some ⟨b, 0, none⟩) m m) (hl : news.size = m * size) (h1 : ∀ u ∈ news.toList, u.oneCell' = true)
  (h63 : (n + m) * bytes ≤ 140737488355328) (hn : n + m ≤ maxLen)
  (h : ∀ g cap w', RowO N w' e size (.slice (some ⟨g, 0, none⟩) (n + m) cap) (n + m) (xs ++ news.toList) → w0.grownBy w' v.ownBlock → wpList P ops Q rest (a.put o.dst (.slice (some ⟨g, 0, none⟩) (n + m) cap)) w') :
  wpList P ops Q (o :: rest) a (w0.alloc (.cells news e2)) := by
 subst hb
 refine wpList_append_lies _ hgd s x t ho N e i z size bytes ht hi hz hsize hby hzs hsz v n xs hs (World.ownsRow.alloc hown _) ⟨w0.heap.size, 0, none⟩ m m news.toList hx (by simpa using hl)
  (World.news_of_block (heap_alloc_new w0 _)) h1 hm hn h63 (by simp; omega) _ rfl ?_
 intro g cap w' hown' hg _ _
 refine h g cap w' hown' ⟨hg.os, hg.tape, hg.output, ?_, ?_⟩
 ·have := hg.size; simp at this; omega
 ·intro k hk hne
  rw [hg.block k (by simp; omega) hne]
  exact Below.heap_alloc _ _ _ hk
end Go.Proofs.YtjmeakfjfpnciaaGreat
namespace Go.Proofs.YtjmeakfjfpnciaaGreat
open Go.RowKit
theorem rot1_nat (x : BitVec 32) : ((rot1 x).toNat : Int) = (x.toNat : Int) / 2 + (x.toNat : Int) % 2 * 2147483648 := by
 have := x.isLt
 unfold rot1
 rw [BitVec.toNat_ofNat, Nat.mod_eq_of_lt (by omega)]
 omega
theorem right_any (x : BitVec 32) (n : Nat) (hn : n ≤ 16) (w : World) : Calls Tryz.prog 215 #[.int .u32 (x.toNat : Int), .int .i64 (n : Int)] w fun e w' => e = .returned (.int .u32 ((rotB x n).toNat : Int)) ∧ Below w.heap.size w w' := by
 have HR := Lib.hid (rotI_eq x n hn)
 go_enter Tryz.func215, Tryz.ntmps215
 go_wp2_with fail
 go_loop [0, 5] (fun v c => ∃ j : Nat, j ≤ n ∧ c = .int .i64 j ∧ v = .int .u32 ((rotI j x).toNat : Int)) (fun _ c => n - (intOf c).toNat)
 case atStart => exact ⟨0, by omega, rfl, rfl⟩
 case round =>
  obtain ⟨j, hj, rfl, rfl⟩ := hrel
  by_cases hjn : j < n
  ·have hr := rot1_nat (rotI j x)
   have HS := Lib.hid (show rotI (j + 1) x = rot1 (rotI j x) from rfl)
   generalize rot1 (rotI j x) = z at *
   generalize rotI j x = y at *
   have hy := y.isLt
   have HRN := Lib.hid hr
   clear hr
   go_wp2_with fail
   go_round
   case rel => exact ⟨j + 1, by omega, by go_num, by rw [HS.out, HRN.out]⟩
   case measure => simp [intOf]; omega
  ·have hjn' : j = n := by omega
   subst hjn'
   go_wp2_with fail
   go_ret
   exact ⟨by rw [HR.out]; rfl, Below.refl _ _⟩
def hexN (d : Nat) : Nat := if d < 10 then 48 + d else 87 + d
def hexB : ByteArray := ⟨#[48, 49, 50, 51, 52, 53, 54, 55, 56, 57, 97, 98, 99, 100, 101, 102]⟩
theorem hex_tab : ∀ k : Fin 16, (hexB.data.getD k.1 0).toNat = hexN k.1 := by decide +kernel
theorem hex_at (i : Nat) (h : i < hexB.size) : (hexB[i].toNat : Int) = (hexN i : Int) := by
 rw [← hex_tab ⟨i, h⟩]
 congr 2
 unfold Array.getD
 exact (dif_pos h).symm
theorem hexN_inj {i d : Nat} (hi : i < 16) (hd : d < 16) (h : hexN i = hexN d) : i = d := by unfold hexN at h; split at h <;> split at h <;> omega
theorem digit_any (d : Nat) (hd : d < 16) (w : World) : Calls Tryz.prog 220 #[.int .u8 (hexN d : Int)] w fun e w' => e = .returned (.int .i64 (d : Int)) ∧ Below w.heap.size w w' := by
 have HI := Lib.hid (fun (i : Nat) (hi : i < 16) => hexN_inj (d := d) hi hd)
 obtain ⟨c, hc⟩ : ∃ c, hexN d = c := ⟨_, rfl⟩
 have HC := Lib.hid hc
 rw [hc] at HI ⊢
 clear hc
 go_enter Tryz.func220, Tryz.ntmps220
 go_wp2_with fail
 go_loop [3] (fun v => ∃ j : Nat, j ≤ d ∧ v = .int .i64 j) (fun v => d - (intOf v).toNat)
 case atStart => exact ⟨0, by omega, rfl⟩
 case round =>
  obtain ⟨j, hj, rfl⟩ := hrel
  have hj6 : j < 16 := by omega
  have hb := hex_at j hj6
  unfold hexB at hb
  by_cases hjd : j = d
  ·have hcj : ((hexN j : Int) == (c : Int)) = true := by rw [hjd, HC.out]; simp
   subst hjd
   clear HC
   go_wp2_with fail
   go_ret
   exact ⟨rfl, Below.refl _ _⟩
  ·have hcj : ((hexN j : Int) == (c : Int)) = false := by
    rw [beq_eq_false_iff_ne]
    intro e
    exact hjd (HI.out j hj6 (by omega))
   have hjd2 : j < d := by omega
   clear hjd
   go_wp2_with fail
   exact ⟨⟨j + 1, by omega, by go_num⟩, by simp [intOf]; omega⟩
def rowB (r : Nat) : ByteArray := ⟨((List.range 16).map fun i => UInt8.ofNat (hexN (ordN r i))).toArray⟩
def rowsV : List Value := (List.range 10).map fun r => .string (rowB r)
theorem rows_any (w : World) : Calls Tryz.prog 218 #[] w fun e w' => ∃ b, e = .returned (.slice (some ⟨b, 0, none⟩) 10 10) ∧ Bx w' b 9 rowsV ∧ w.heap.size ≤ b ∧ Below w.heap.size w w' := by
 go_enter Tryz.func218, Tryz.ntmps218
 go_wp2_with fail
 go_ret
 refine ⟨_, rfl, Bx.new w _ rowsV _ ?_, Nat.le_refl _, (Below.refl _ _).alloc (Nat.le_refl _) _⟩
 kernel_rfl
def quad (i : Nat) : List Value := [.int .i64 (cA i : Int), .int .i64 (cB i : Int), .int .i64 (cC i : Int), .int .i64 (cD i : Int)]
def quads : List Value := (List.range 8).flatMap quad
theorem quads_at : ∀ (i : Fin 8) (k : Fin 4), quads[i.1 * 4 + k.1]? = (quad i.1)[k.1]? := by
 intro i k
 have h := flat_at quad 4 (fun _ => rfl) (List.range 8) i.1 k.1 (by simp) k.2
 rw [List.getElem_range] at h
 exact h
theorem infoQ : (Tryz.prog.info? 315).map (·.size) = some 32 := by kernel_rfl
theorem rfour_any (i : Nat) (hi : i < 8) (w : World) : Calls Tryz.prog 219 #[.int .i64 (i : Int)] w fun e w' => e = .returned (.agg #[.int .i64 (cA i : Int), .int .i64 (cB i : Int), .int .i64 (cC i : Int), .int .i64 (cD i : Int)]) ∧ Below w.heap.size w w' := by
 have q0 := quads_at ⟨i, hi⟩ 0
 have q1 := quads_at ⟨i, hi⟩ 1
 have q2 := quads_at ⟨i, hi⟩ 2
 have q3 := quads_at ⟨i, hi⟩ 3
 have HQ0 := Lib.hid (show quads[i * 4]? = some (.int .i64 (cA i : Int)) from q0)
 have HQ1 := Lib.hid (show quads[i * 4 + 1]? = some (.int .i64 (cB i : Int)) from q1)
 have HQ2 := Lib.hid (show quads[i * 4 + 2]? = some (.int .i64 (cC i : Int)) from q2)
 have HQ3 := Lib.hid (show quads[i * 4 + 3]? = some (.int .i64 (cD i : Int)) from q3)
 clear q0 q1 q2 q3
 generalize cA i = A at *
 generalize cB i = B at *
 generalize cC i = C at *
 generalize cD i = D at *
 go_enter Tryz.func219, Tryz.ntmps219
 go_upto_region 1 with (fail)
 obtain ⟨w1, hq1, hb9, hz9, Hr⟩ := new1 w 312 [.int .i64 0, .int .i64 0, .int .i64 0, .int .i64 0]
 rw [hq1]
 clear hq1
 have HB := Lib.hid hb9
 have HZS := hz9
 clear hb9 hz9
 have r_ := Hr.out.c4
 go_upto_region 2 with (refine wpList_store_new rfl 315 315 (.tmp 3) (.tmp 12) rfl (List.replicate 32 (.int .i64 0)) quads rfl rfl infoQ rfl (by decide) ?_)
 clear r_
 obtain ⟨w2, hq2, hb9, hz9, Hq⟩ := new1 w1 315 (quads)
 rw [hq2]
 clear hq2
 replace Hr := Lib.hid (Hr.out.up hb9)
 replace HB := hbu HB hb9
 replace HZS := sz HZS hz9.out
 clear hb9 hz9
 have r_ := Hr.out.c4
 have c0 := Hq.out.cell HQ0.out
 have c1 := Hq.out.cell HQ1.out
 have c2 := Hq.out.cell HQ2.out
 have c3 := Hq.out.cell HQ3.out
 have a1 : (0 : Int) ≤ (i : Int) := by omega
 have a2 : (i : Int) < 8 := by omega
 have f3_r := Hr.out.frozen
 have o3_r_ := r_; clear r_
 obtain ⟨w3, hq3, hg9, hz9, hx9⟩ := put4 Hr 0 (.int .i64 (A : Int)) 1 (.int .i64 (B : Int)) 2 (.int .i64 (C : Int)) 3 (.int .i64 (D : Int)) [.int .i64 (A : Int), .int .i64 (B : Int), .int .i64 (C : Int), .int .i64 (D : Int)] rfl
 replace Hq := Lib.hid (Hq.out.grown hg9.out (sne (by have g0 := HZS.out; omega)))
 replace HB := hbg HB hg9 (by have g0 := HZS.out; omega)
 replace HZS := sz HZS hz9.out
 replace Hr := hx9
 clear hx9 hg9 hz9
 have r_ := Hr.out.c4
 go_wp2_with fail
 clear hq3 o3_r_ f3_r
 simp [bodyPost, results, Tryz.results219, go_sem, r_]
 exact HB.out
end Go.Proofs.YtjmeakfjfpnciaaGreat
namespace Go.Proofs.YtjmeakfjfpnciaaGreat
open Go.RowKit
def moreV (m : Option Nat) : Int := match m with | some k => (k : Int) | none => -1
def stpV (s : Stp) : List Value := [.int .i64 (s.a : Int), .int .i64 (s.o : Int), .int .i64 (moreV s.m), .int .i64 (s.t : Int)]
theorem stpV_len (s : Stp) : (stpV s).length = 4 := rfl
def halfL (r i : Nat) : List Stp := ((List.range r).flatMap rowL) ++ ((List.range i).flatMap fun i => quartL i (ordN r (2 * i)) (ordN r (2 * i + 1)))
theorem halfL_succ (r i : Nat) : halfL r (i + 1) = halfL r i ++ quartL i (ordN r (2 * i)) (ordN r (2 * i + 1)) := by
 unfold halfL
 rw [List.range_succ (n := i), List.flatMap_append, ← List.append_assoc]
 simp
theorem halfL_row (r : Nat) : halfL r 8 = halfL (r + 1) 0 := by
 unfold halfL
 rw [List.range_succ (n := r), List.flatMap_append]
 simp [rowL]
theorem halfL_all : halfL 10 0 = allL := by unfold halfL allL; simp
theorem infoStep : (Tryz.prog.info? 305).map (fun i => (i.zero, i.size, i.bytes)) = some (some (.agg #[.int .i64 0, .int .i64 0, .int .i64 0, .int .i64 0]), 4, 32) := by kernel_rfl
theorem rows_cell {W : World} {b : Nat} {t : TypeId} (h : Bx W b t rowsV) (r : Nat) (hr : r < 10) : W.cell? ⟨b, r, none⟩ = some (.string (rowB r)) := h.cell (by unfold rowsV; simp [hr])
theorem rowB_at (r i : Nat) (hi : i < 16) (hr : r < 10) (h : i < (rowB r).size) : ((rowB r)[i].toNat : Int) = (hexN (ordN r i) : Int) := by
 have gen : ∀ (l : List UInt8) (h : i < l.length), (⟨l.toArray⟩ : ByteArray)[i]'h = l[i] := fun l h => rfl
 have e : (rowB r)[i] = UInt8.ofNat (hexN (ordN r i)) := (gen _ (by simp; exact hi)).trans (by rw [List.getElem_map, List.getElem_range])
 have := ordN_lt hr hi
 rw [e, UInt8.toNat_ofNat_of_lt' (by show hexN _ < 256; unfold hexN; split <;> omega)]
theorem rowB_size (r : Nat) : (rowB r).size = 16 := by
 show (rowB r).data.size = 16
 unfold rowB
 simp
theorem run_index_str {P : Program} (w : World) (t : TypeId) (s : ByteArray) (i : Nat) (j : Int) (hj : j = (i : Int)) (hi : i < s.size) (x : Int) (hx : (s[i].toNat : Int) = x) (hu : P.underlying t = some .string) : (Instr.index t (.string s) (.int .i64 j)).run P w = .ok (.int .u8 x) w := by
 subst hj
 have e : s[i]? = some s[i] := getElem?_pos s i hi
 simp [Instr.index, asIntOf, run_underlying hu, e, hx]
theorem rowO_le {N : Nat} {w : World} {e : TypeId} {k : Nat} {g : Option Addr} {m n c : Nat} {xs : List Value} (h : RowO N w e k (.slice g m c) n xs) {x : Addr} (hx : g = some x) : N ≤ x.block := by
 subst hx
 exact (h.lt x.block rfl).1
def fourA (A B C D j : Nat) : List Value := [.int .i64 (A : Int), .int .i64 (B : Int), .int .i64 (j : Int), .int .i64 0, .int .i64 (D : Int), .int .i64 (A : Int), .int .i64 (-1), .int .i64 16, .int .i64 (C : Int), .int .i64 (D : Int), .int .i64 (-1), .int .i64 0, .int .i64 (B : Int), .int .i64 (C : Int), .int .i64 (-1), .int .i64 12]
def fourB (A B C D j : Nat) : List Value := [.int .i64 (A : Int), .int .i64 (B : Int), .int .i64 (j : Int), .int .i64 0, .int .i64 (D : Int), .int .i64 (A : Int), .int .i64 (-1), .int .i64 8, .int .i64 (C : Int), .int .i64 (D : Int), .int .i64 (-1), .int .i64 0, .int .i64 (B : Int), .int .i64 (C : Int), .int .i64 (-1), .int .i64 7]
theorem steps_snoc (r i : Nat) : (halfL r (i + 1)).flatMap stpV = (halfL r i).flatMap stpV ++ fourA (cA i) (cB i) (cC i) (cD i) (ordN r (2 * i)) ++ fourB (cA i) (cB i) (cC i) (cD i) (ordN r (2 * i + 1)) := by
 rw [halfL_succ, List.flatMap_append, List.append_assoc]
 rfl
theorem steps_any (w : World) : Calls Tryz.prog 214 #[] w fun e w' => ∃ a c, e = .returned (.slice a 640 c) ∧ Sl w' w'.heap.size a (allL.flatMap stpV) ∧ (∀ x, a = some x → w.heap.size ≤ x.block) ∧ Below w.heap.size w w' := by
 go_enter Tryz.func214, Tryz.ntmps214
 go_wp2_with fail
 refine (rows_any w).mono ?_
 rintro e w1 ⟨rb, rfl, hrb, _, hb9⟩
 have HB := Lib.hid hb9
 have HZS := Lib.hid hb9.size
 have Hb := Lib.hid hrb
 clear hrb hb9
 have HBS := Lib.hid HB.out.size
 have HB0 := HB
 have Hb0 := Hb
 have HRB := Lib.hid Hb.out.lt
 replace HZS := sz HZS HRB.out
 go_wp2_with fail
 go_loopw [10, 1] (fun c v wr => ∃ (r : Nat) (g : Option Addr) (cap : Nat), r ≤ 10 ∧ c = .int .i64 r ∧ v = .slice g (64 * r) cap ∧ Hid (Below w1.heap.size w1 wr) ∧ Hid (RowO w1.heap.size wr 305 4 (.slice g (64 * r) cap) (64 * r) ((halfL r 0).flatMap stpV))) (fun c _ _ => 10 - (intOf c).toNat)
 case atStart => exact ⟨0, none, 0, by omega, rfl, rfl, Lib.hid (Below.refl _ _), RowO.nil⟩
 case round =>
  obtain ⟨r, g, cap, hr, rfl, rfl, HL9, Hl⟩ := hrel
  clear HB Hb
  have HB := hbu HB0 HL9.out
  have Hb := Lib.hid (Hb0.out.up HL9.out)
  have HSW := Lib.hid HL9.out.size
  have BL := HL9
  clear HL9
  replace HZS := sz HZS HBS.out
  replace HZS := sz HZS HRB.out
  replace HZS := sz HZS HSW.out
  by_cases hr10 : r < 10
  ·have hdr : decide ((r : Int) < 10) = true := by simp; omega
   have c1 := rows_cell Hb.out r hr10
   have a1 : (0 : Int) ≤ (r : Int) := by omega
   have a2 : (r : Int) < 10 := by omega
   obtain ⟨wo, rfl⟩ : ∃ wo : World, wo = wr := ⟨_, rfl⟩
   go_wp2_with fail
   clear c1
   go_loopw [4, 1] (fun c v wr => ∃ (i : Nat) (g : Option Addr) (cap : Nat), i ≤ 8 ∧ c = .int .i64 i ∧ v = .slice g (64 * r + 8 * i) cap ∧ Hid (Below w1.heap.size w1 wr) ∧ Hid (RowO w1.heap.size wr 305 4 (.slice g (64 * r + 8 * i) cap) (64 * r + 8 * i) ((halfL r i).flatMap stpV))) (fun c _ _ => 8 - (intOf c).toNat)
   case atStart => exact ⟨0, _, _, by omega, rfl, rfl, BL, Hl⟩
   case round =>
    obtain ⟨i, g2, cap2, hi, rfl, rfl, HL9, Hl2⟩ := hrel
    clear HB Hb BL Hl
    have Hl := Hl2
    have HB := hbu HB0 HL9.out
    have Hb := Lib.hid (Hb0.out.up HL9.out)
    have HSV := Lib.hid HL9.out.size
    have BL := HL9
    clear HL9 Hl2
    replace HZS := sz HZS HBS.out
    replace HZS := sz HZS HRB.out
    replace HZS := sz HZS HSV.out
    by_cases hi8 : i < 8
    ·have HNP := Lib.hid Hl.out.lt
     have HST := Lib.hid (steps_snoc r i)
     have HF4 := Lib.hid (fun w => rfour_any i hi8 w)
     have hix1 := fun W => run_index_str (P := Tryz.prog) W 9 (rowB r) (2 * i) (2 * (i : Int)) (by omega) (by rw [rowB_size]; omega) _ (rowB_at r (2 * i) (by omega) hr10 (by rw [rowB_size]; omega)) Tryz.underlying9
     have hix2 := fun W => run_index_str (P := Tryz.prog) W 9 (rowB r) (2 * i + 1) (2 * (i : Int) + 1) (by omega) (by rw [rowB_size]; omega) _ (rowB_at r (2 * i + 1) (by omega) hr10 (by rw [rowB_size]; omega)) Tryz.underlying9
     have o1 : ordN r (2 * i) < 16 := ordN_lt hr10 (by omega)
     have o2 : ordN r (2 * i + 1) < 16 := ordN_lt hr10 (by omega)
     have HD1 := Lib.hid (fun w => digit_any (ordN r (2 * i)) o1 w)
     have HD2 := Lib.hid (fun w => digit_any (ordN r (2 * i + 1)) o2 w)
     generalize cA i = A at *
     generalize cB i = B at *
     generalize cC i = C at *
     generalize cD i = D at *
     generalize ordN r (2 * i) = j1 at *
     generalize ordN r (2 * i + 1) = j2 at *
     generalize hexN j1 = h1 at *
     generalize hexN j2 = h2 at *
     go_wp2_with fail
     refine (HF4.out wr).mono ?_
     rintro e w2 ⟨rfl, hb9⟩
     replace Hb := Lib.hid (Hb.out.up hb9)
     replace Hl := Lib.hid (Hl.out.up hb9)
     replace BL := hbu BL hb9
     replace HB := hbu HB hb9
     replace HZS := sz HZS hb9.size
     clear hb9
     obtain ⟨w3, hq3, hb9, hz9, Hp⟩ := new1 w2 312 [.int .i64 (A : Int), .int .i64 (B : Int), .int .i64 (C : Int), .int .i64 (D : Int)]
     replace Hb := Lib.hid (Hb.out.up hb9)
     replace Hl := Lib.hid (Hl.out.up hb9)
     replace BL := hbu BL hb9
     replace HB := hbu HB hb9
     replace HZS := sz HZS hz9.out
     clear hb9 hz9
     have p_ := Hp.out.c4
     go_wp2_with fail
     clear hq3
     have hl_p := Hp.out.lt
     refine wp_region_over (by kernel_rfl) (by kernel_rfl) ?_
     have hov_p := fun (E : Over w3) o => E.cell (b := w2.heap.size) o hl_p
     repeat (go_big_quiet_step (first | (go_at_call 220; exact calls_over ((by first | with_reducible exact HD1.out _ | with_reducible exact HD2.out _)))))
     all_goals (try unfold elV limbV)
     repeat (go_big_quiet_step (first | (go_at_call 220; exact calls_over ((by first | with_reducible exact HD1.out _ | with_reducible exact HD2.out _)))))
     all_goals (try unfold elV limbV)
     repeat (go_big_quiet_step (first | (go_at_call 220; exact calls_over ((by first | with_reducible exact HD1.out _ | with_reducible exact HD2.out _)))))
     all_goals (try unfold ciphV)
     refine wpQuiet_nil ?_
     rintro _ ⟨E, rfl⟩
     clear hov_p hl_p
     replace Hb := Lib.hid (Hb.out.up E.h)
     clear p_
     replace Hp := Lib.hid (Hp.out.up E.h)
     replace Hl := Lib.hid (Hl.out.up E.h)
     replace BL := hbu BL E.h
     replace HB := hbu HB E.h
     replace HZS := sz HZS E.h.size
     obtain ⟨w4, hq9⟩ : ∃ W9 : World, E.w = W9 := ⟨_, rfl⟩
     rw [hq9] at Hb Hp Hl BL HB HZS ⊢
     clear hq9 E
     have p_ := Hp.out.c4
     clear hix1 hix2
     obtain ⟨i9, hi9, hz90, hz91, hz92⟩ := info_parts infoStep
     go_wp2_with (at_builtin; refine wpList_pushM (w1.heap.size) w4 (by have g0 := HZS.out; omega) rfl _ _ 302 rfl 305 i9 _ 4 32 4 Tryz.underlying302 hi9 hz90 hz91 hz92 rfl (by omega) (by omega) ((.slice g2 (64 * r + 8 * i) cap2)) ((64 * r + 8 * i)) (((halfL r i).flatMap stpV)) rfl Hl.out _ _ _ rfl rfl rfl (by simp [Value.oneCell']) (by omega) (by unfold maxLen; omega) ?_)
     intro g5 c5 w5 hown9 hg9
     clear p_
     have hb9 := Below.grown HB.out hg9 (by have g0 := HZS.out; omega) (fun q hq => Nat.le_trans (show w.heap.size ≤ w1.heap.size by have g0 := HZS.out; omega) (Hl.out.lt q hq).1)
     replace Hb := Lib.hid (Hb.out.grown hg9 (fun e9 => by have a2 := HNP.out _ e9; have a1 := Hl.out.lt _ e9; have g0 := HZS.out; omega))
     replace Hp := Lib.hid (Hp.out.grown hg9 (fun e9 => by have a2 := HNP.out _ e9; have a1 := Hl.out.lt _ e9; have g0 := HZS.out; omega))
     replace BL := Lib.hid (Below.grown BL.out hg9 (by have g0 := HZS.out; omega) (fun q hq => Nat.le_trans (show w1.heap.size ≤ w1.heap.size by have g0 := HZS.out; omega) (Hl.out.lt q hq).1))
     replace HZS := sz HZS hg9.size
     clear Hl HB
     have Hl := Lib.hid hown9
     have HB := Lib.hid hb9
     clear hb9 hown9 hg9 hi9 hz90 hz91 hz92
     have p_ := Hp.out.c4
     have HQ := Lib.hid (Hl.out.eq (ys := (halfL r i).flatMap stpV ++ fourA A B C D j1) (m := 64 * r + 8 * i + 4) (by simp [fourA]) rfl)
     clear Hl HNP
     have Hl := HQ
     clear HQ
     go_upto_region 11 with (fail)
     obtain ⟨i9, hi9, hz90, hz91, hz92⟩ := info_parts infoStep
     go_wp2_with (at_builtin; refine wpList_pushM (w1.heap.size) w5 (by have g0 := HZS.out; omega) rfl _ _ 302 rfl 305 i9 _ 4 32 4 Tryz.underlying302 hi9 hz90 hz91 hz92 rfl (by omega) (by omega) ((.slice (some ⟨g5, 0, none⟩) ((64 * r + 8 * i) + 4) c5)) ((64 * r + 8 * i + 4)) (((halfL r i).flatMap stpV ++ fourA A B C D j1)) rfl Hl.out _ _ _ rfl rfl rfl (by simp [Value.oneCell']) (by omega) (by unfold maxLen; omega) ?_)
     intro g6 c6 w6 hown9 hg9
     clear p_ Hp
     have hb9 := Below.grown HB.out hg9 (by have g0 := HZS.out; omega) (fun q hq => Nat.le_trans (show w.heap.size ≤ w1.heap.size by have g0 := HZS.out; omega) (Hl.out.lt q hq).1)
     replace Hb := Lib.hid (Hb.out.grown hg9 (fun e9 => by have a1 := Hl.out.lt _ e9; have g0 := HZS.out; omega))
     replace BL := Lib.hid (Below.grown BL.out hg9 (by have g0 := HZS.out; omega) (fun q hq => Nat.le_trans (show w1.heap.size ≤ w1.heap.size by have g0 := HZS.out; omega) (Hl.out.lt q hq).1))
     replace HZS := sz HZS hg9.size
     clear Hl HB
     have Hl := Lib.hid hown9
     have HB := Lib.hid hb9
     clear hb9 hown9 hg9 hi9 hz90 hz91 hz92
     have HQ := Lib.hid (Hl.out.eq (ys := (halfL r (i + 1)).flatMap stpV) (m := 64 * r + 8 * (i + 1)) (by rw [HST.out]; simp [fourB]) rfl)
     go_wp2_with fail
     exact ⟨⟨i + 1, _, _, by omega, by go_num, rfl, BL, HQ⟩, by simp [intOf]; omega⟩
    ·have hi8' : i = 8 := by omega
     subst hi8'
     have HQ := Lib.hid (Hl.out.eq (ys := (halfL (r + 1) 0).flatMap stpV) (m := 64 * (r + 1)) (by rw [halfL_row]) rfl)
     go_wp2_with fail
     go_roundw
     case rel => exact ⟨r + 1, _, _, by omega, by go_num, rfl, BL, HQ⟩
     case measure => simp [intOf]; omega
  ·have hr10' : r = 10 := by omega
   subst hr10'
   rw [halfL_all] at Hl
   go_wp2_with fail
   go_ret
   exact ⟨_, _, rfl, Hl.out.sl, fun x hx => Nat.le_trans HBS.out (rowO_le Hl.out hx), HB.out⟩
end Go.Proofs.YtjmeakfjfpnciaaGreat
namespace Go.Proofs.YtjmeakfjfpnciaaGreat
open Go.RowKit
def zw (n : Nat) : WL := List.replicate n 0
theorem zw_len (n : Nat) : (zw n).length = n := List.length_replicate
theorem wl_cell {W : World} {b : Nat} {t : TypeId} {l : WL} (h : Bx W b t (wlV l)) (i : Nat) (hi : i < l.length) : W.cell? ⟨b, i, none⟩ = some (.int .u32 ((l.getD i 0).toNat : Int)) := h.cell (wlV_get l i hi)
theorem info16 : (Tryz.prog.info? 288).map (·.size) = some 16 := by kernel_rfl
theorem infoPool : (Tryz.prog.info? 299).map (·.size) = some 16 := by kernel_rfl
theorem Stir_any (v m : WL) (hv : v.length = 16) (hm : m.length = 16) (w : World) :
  Calls Tryz.prog 208 #[.agg (wlV v).toArray, .agg (wlV m).toArray] w fun e w' => e = .returned (.agg (wlV (stirB v m)).toArray) ∧ Below w.heap.size w w' := by
 have HV := Lib.hid hv
 have HM := Lib.hid hm
 have HI := Lib.hid (show (Tryz.prog.info? 288).map (·.size) = some (wlV v).length by rw [wlV_len, hv]; exact info16)
 have HIP := Lib.hid (show (Tryz.prog.info? 299).map (·.size) = some (wlV v).length by rw [wlV_len, hv]; exact infoPool)
 have HZ := Lib.hid (show (wlV (zw 16)).length = (wlV v).length by rw [wlV_len, wlV_len, hv]; rfl)
 clear hv hm
 have hz : (#[.int .u32 0, .int .u32 0, .int .u32 0, .int .u32 0, .int .u32 0, .int .u32 0, .int .u32 0, .int .u32 0, .int .u32 0, .int .u32 0, .int .u32 0, .int .u32 0, .int .u32 0, .int .u32 0, .int .u32 0, .int .u32 0] : Array Value) = (wlV (zw 16)).toArray := rfl
 go_enter Tryz.func208, Tryz.ntmps208
 go_upto_region 1 with (fail)
 obtain ⟨w1, hq1, hb9, hz9, Ha, Hb, Hr⟩ := new3 w 288 (wlV v) 288 (wlV m) 288 (wlV (zw 16))
 rw [hq1]
 clear hq1
 have HB := Lib.hid hb9
 have HZS := hz9
 clear hb9 hz9
 go_upto_region 2 with (first | refine wpList_load_mid rfl 288 (.tmp 2) rfl w.heap.size 0 rfl (wlV v) _ Ha.out.range Tryz.underlying288 rfl HI.out ?_ | refine wpList_store_new rfl 299 299 (.tmp 5) (.tmp 8) rfl (wlV (zw 16)) (wlV v) rfl rfl HIP.out HZ.out (wl_one v) ?_)
 clear hz HIP HZ HI Ha
 obtain ⟨w2, hq2, hb9, hz9, Hp⟩ := new1 w1 299 (wlV v)
 rw [hq2]
 clear hq2
 replace Hb := Lib.hid (Hb.out.up hb9)
 replace Hr := Lib.hid (Hr.out.up hb9)
 replace HB := hbu HB hb9
 replace HZS := sz HZS hz9.out
 clear hb9 hz9
 have HK := Lib.hid (Kept.refl (fun q9 => q9 = w1.heap.size) w2)
 have HL0 := HB
 go_wp2_with fail
 go_loopw [9] (fun c wr => ∃ k : Nat, k ≤ 10 ∧ c = .int .i64 k ∧ Hid (Bx wr w1.heap.size 299 (wlV (roundsB m k v))) ∧ Hid (Kept (fun q9 => q9 = w1.heap.size) w2 wr)) (fun c _ => 10 - (intOf c).toNat)
 case atStart => exact ⟨0, by omega, rfl, Hp, HK⟩
 case round =>
  obtain ⟨k, hk, rfl, HQ, HK1⟩ := hrel
  clear HK
  have hg9 := HK1.out
  clear Hp
  replace Hb := Lib.hid (Bx.keptP (P := fun q9 => q9 = w1.heap.size) Hb.out hg9 (show ¬ (w.heap.size + 1 = w1.heap.size) by have g0 := HZS.out; omega))
  replace Hr := Lib.hid (Bx.keptP (P := fun q9 => q9 = w1.heap.size) Hr.out hg9 (show ¬ (w.heap.size + 2 = w1.heap.size) by have g0 := HZS.out; omega))
  replace HB := Lib.hid (Below.keptP HB.out hg9 (by have g0 := HZS.out; omega) (fun q9 h9 => (show w.heap.size ≤ _ by subst h9; have g0 := HZS.out; omega)))
  replace HZS := sz HZS (show w2.heap.size ≤ wr.heap.size from hg9.size)
  clear hg9
  have Hp := HQ
  clear HQ
  have HVL := Lib.hid (show (roundsB m k v).length = 16 by rw [roundsB_len]; exact HV.out)
  by_cases hk10 : k < 10
  ·have hdk : decide ((k : Int) < 10) = true := by simp; omega
   have hrs := Lib.hid (roundsB_succ m k v)
   generalize roundsB m k v = V at *
   obtain ⟨wo, rfl⟩ : ∃ wo : World, wo = wr := ⟨_, rfl⟩
   have HK2 := Lib.hid (Kept.refl (fun q9 => q9 = w1.heap.size) wo)
   go_wp2_with fail
   go_loopw [12] (fun c wr => ∃ i : Nat, i ≤ 8 ∧ c = .int .i64 i ∧ Hid (Bx wr w1.heap.size 299 (wlV (halfB m k i V))) ∧ Hid (Kept (fun q9 => q9 = w1.heap.size) wo wr)) (fun c _ => 8 - (intOf c).toNat)
   case atStart => exact ⟨0, by omega, rfl, Hp, HK2⟩
   case round =>
    obtain ⟨i, hi, rfl, HQ, HK3⟩ := hrel
    clear HK2
    have hg9 := HK3.out
    clear Hp
    replace Hb := Lib.hid (Bx.keptP (P := fun q9 => q9 = w1.heap.size) Hb.out hg9 (show ¬ (w.heap.size + 1 = w1.heap.size) by have g0 := HZS.out; omega))
    replace Hr := Lib.hid (Bx.keptP (P := fun q9 => q9 = w1.heap.size) Hr.out hg9 (show ¬ (w.heap.size + 2 = w1.heap.size) by have g0 := HZS.out; omega))
    replace HB := Lib.hid (Below.keptP HB.out hg9 (by have g0 := HZS.out; omega) (fun q9 h9 => (show w.heap.size ≤ _ by subst h9; have g0 := HZS.out; omega)))
    replace HZS := sz HZS (show wo.heap.size ≤ wr.heap.size from hg9.size)
    clear hg9
    have Hp := HQ
    clear HQ
    have HVI := Lib.hid (show (halfB m k i V).length = 16 by rw [halfB_len]; exact HVL.out)
    by_cases hi8 : i < 8
    ·have HS := Lib.hid (halfB_succ m k i V)
     have HQU := fun W h => quarter_any m (halfB m k i V) k i hi8 HVI.out w1.heap.size W h
     have HP1 := fun w => place_any k (2 * i) hk10 (by omega) w
     have HP2 := fun w => place_any k (2 * i + 1) hk10 (by omega) w
     have o1 : ordN k (2 * i) < 16 := ordN_lt hk10 (by omega)
     have o2 : ordN k (2 * i + 1) < 16 := ordN_lt hk10 (by omega)
     rw [show ((2 * i : Nat) : Int) = 2 * (i : Int) from by omega] at HP1
     rw [show ((2 * i + 1 : Nat) : Int) = 2 * (i : Int) + 1 from by omega] at HP2
     generalize quartB m (halfB m k i V) k i = V2 at *
     generalize halfB m k i V = V1 at *
     generalize ordN k (2 * i) = j1 at *
     generalize ordN k (2 * i + 1) = j2 at *
     have c1 := wl_cell Hb.out j1 (by rw [HM.out]; exact o1)
     have c2 := wl_cell Hb.out j2 (by rw [HM.out]; exact o2)
     have HQU := Lib.hid HQU
     have HP1 := Lib.hid HP1
     have HP2 := Lib.hid HP2
     generalize m.getD j1 0 = x1 at *
     generalize m.getD j2 0 = x2 at *
     have a1 : (0 : Int) ≤ (j1 : Int) := by omega
     have a2 : (j1 : Int) < 16 := by omega
     have a3 : (0 : Int) ≤ (j2 : Int) := by omega
     have a4 : (j2 : Int) < 16 := by omega
     go_wp2_with fail
     refine wp_region_otail 14 (by kernel_rfl) (by kernel_rfl) ?_
     simp only [List.take_succ_cons, List.take_zero, List.drop_succ_cons, List.drop_zero]
     have hov_w_heap_size___1 := fun (E : Over wr) o => E.cell (b := w.heap.size + 1) o Hb.out.lt
     repeat (go_big_quiet_step (first | (go_at_call 213; exact calls_over ((by first | with_reducible exact HP1.out _ | with_reducible exact HP2.out _)))))
     all_goals (try unfold elV limbV)
     repeat (go_big_quiet_step (first | (go_at_call 213; exact calls_over ((by first | with_reducible exact HP1.out _ | with_reducible exact HP2.out _)))))
     all_goals (try unfold elV limbV)
     repeat (go_big_quiet_step (first | (go_at_call 213; exact calls_over ((by first | with_reducible exact HP1.out _ | with_reducible exact HP2.out _)))))
     all_goals (try unfold ciphV)
     refine wpQuiet_nil ?_
     rintro _ ⟨E, rfl⟩
     clear hov_w_heap_size___1
     replace Hb := Lib.hid (Hb.out.up E.h)
     replace Hr := Lib.hid (Hr.out.up E.h)
     replace Hp := Lib.hid (Hp.out.up E.h)
     replace HK3 := Lib.hid (Kept.up HK3.out E.h)
     replace HB := hbu HB E.h
     replace HZS := sz HZS E.h.size
     obtain ⟨w3, hq9⟩ : ∃ W9 : World, E.w = W9 := ⟨_, rfl⟩
     rw [hq9] at Hb Hr Hp HK3 HB HZS ⊢
     clear hq9 E c1 c2
     go_wp2_with fail
     refine (HQU.out _ Hp.out).mono ?_
     rintro e wq ⟨rfl, hq1, hk1⟩
     have HQ1 := Lib.hid hq1
     have HK4 := Lib.hid (HK3.out.trans hk1)
     clear hq1 hk1 HQU HP1 HP2
     go_wp2_with fail
     go_roundw
     case rel => exact ⟨i + 1, by omega, by go_num, by rw [HS.out]; exact HQ1, HK4⟩
     case measure => simp [intOf]; omega
    ·have hi8' : i = 8 := by omega
     subst hi8'
     have HQ := Hp
     rw [← hrs.out] at HQ
     have HK5 := Lib.hid (HK1.out.trans HK3.out)
     go_wp2_with fail
     go_roundw
     case rel => exact ⟨k + 1, by omega, by go_num, HQ, HK5⟩
     case measure => simp [intOf]; omega
  ·have hk' : k = 10 := by omega
   subst hk'
   rw [roundsB_all] at Hp
   have HSL := Lib.hid (stirB_len v m)
   obtain ⟨S, hS⟩ : ∃ S, stirB v m = S := ⟨_, rfl⟩
   rw [hS] at Hp HSL
   have HS := Lib.hid hS
   clear hS
   have HSI := Lib.hid (show (Tryz.prog.info? 299).map (·.size) = some (wlV S).length by rw [wlV_len, HSL.out, HV.out]; exact infoPool)
   have HSJ := Lib.hid (show (Tryz.prog.info? 288).map (·.size) = some (wlV S).length by rw [wlV_len, HSL.out, HV.out]; exact info16)
   have HZ := Lib.hid (show (wlV S).length = (wlV (zw 16)).length by rw [wlV_len, wlV_len, HSL.out, HV.out]; rfl)
   obtain ⟨w5, hq5, hg5, hz5, hr5⟩ := puts Hr 0 (wlV S) (wlV S) (putL_all _ _ HZ.out)
   have HB5 := hbg HB hg5 (by omega)
   go_wp2_with (first | refine wpList_load_mid rfl 299 (.tmp 5) rfl w1.heap.size 0 rfl (wlV S) _ Hp.out.range Tryz.underlying299 rfl HSI.out ?_ | refine wpList_store_mid rfl 288 (.tmp 4) (.tmp 32) rfl (w.heap.size + 2) 0 (wlV S).toArray rfl rfl (Hr.out.there (by simp [HZ.out])) (by simpa using HSJ.out) (all_oneCell_toArray (wl_one S)) ?_)
   rw [hq5]
   exact ret_arr Tryz.results208 hr5.out _ rfl Tryz.underlying288 rfl HSJ.out rfl ⟨by rw [HS.out], HB5.out⟩
end Go.Proofs.YtjmeakfjfpnciaaGreat
namespace Go.Proofs.YtjmeakfjfpnciaaGreat
open Go.RowKit
def okStp (s : Stp) : Bool := decide (s.a < 16) && decide (s.o < 16) && (match s.m with | some j => decide (j < 16) | none => true) && (decide (s.t = 0) || decide (s.t ≤ 16))
theorem allL_ok : allL.all okStp = true := by decide +kernel
theorem allL_len : allL.length = 640 := by decide +kernel
def partS (m v : WL) (k : Nat) : WL := (allL.take k).foldl (stepB m) v
theorem partS_len (m v : WL) (k : Nat) : (partS m v k).length = v.length := steps_len _ _ _
theorem partS_succ (m v : WL) (k : Nat) (h : k < allL.length) : partS m v (k + 1) = stepB m (partS m v k) allL[k] := by
 unfold partS
 rw [List.take_succ_eq_append_getElem h, List.foldl_append]
 rfl
theorem partS_all (m v : WL) : partS m v 640 = stirB v m := by
 unfold partS stirB
 rw [List.take_of_length_le (by rw [allL_len]; exact Nat.le_refl _)]
theorem rStir_any (v m : WL) (hv : v.length = 16) (hm : m.length = 16) (w : World) :
  Calls Tryz.prog 211 #[.agg (wlV v).toArray, .agg (wlV m).toArray] w fun e w' => e = .returned (.agg (wlV (stirB v m)).toArray) ∧ Below w.heap.size w w' := by
 have HV := Lib.hid hv
 have HM := Lib.hid hm
 clear hv hm
 have hz : (#[.int .u32 0, .int .u32 0, .int .u32 0, .int .u32 0, .int .u32 0, .int .u32 0, .int .u32 0, .int .u32 0, .int .u32 0, .int .u32 0, .int .u32 0, .int .u32 0, .int .u32 0, .int .u32 0, .int .u32 0, .int .u32 0] : Array Value) = (wlV (zw 16)).toArray := rfl
 go_enter Tryz.func211, Tryz.ntmps211
 go_upto_region 1 with (fail)
 obtain ⟨w1, hq1, hb9, hz9, Ha, Hb, Hr⟩ := new3 w 288 (wlV v) 288 (wlV m) 288 (wlV (zw 16))
 rw [hq1]
 clear hq1
 have HB := Lib.hid hb9
 have HZS := hz9
 clear hb9 hz9 hz
 go_wp2_with fail
 refine (steps_any w1).mono ?_
 rintro e w2 ⟨sa, sc, rfl, hsl, hsf, hb9⟩
 replace Ha := Lib.hid (Ha.out.up hb9)
 replace Hb := Lib.hid (Hb.out.up hb9)
 replace Hr := Lib.hid (Hr.out.up hb9)
 replace HB := hbu HB hb9
 replace HZS := sz HZS hb9.size
 have HSL := Lib.hid hsl
 clear hsl
 have HSF := Lib.hid hsf
 clear hsf hb9
 have HK := Lib.hid (Kept.refl (fun q9 => q9 = w.heap.size) w2)
 go_wp2_with fail
 go_loopw [9] (fun c wr => ∃ k : Nat, k ≤ 640 ∧ c = .int .i64 k ∧ Hid (Bx wr w.heap.size 288 (wlV (partS m v k))) ∧ Hid (Kept (fun q9 => q9 = w.heap.size) w2 wr)) (fun c _ => 640 - (intOf c).toNat)
 case atStart => exact ⟨0, by omega, rfl, Ha, HK⟩
 case round =>
  obtain ⟨k, hk, rfl, HQ, HK1⟩ := hrel
  clear HK
  have HSK := Lib.hid (HSL.out.kept HK1.out (fun x hx => by have h1 := HSF.out x hx; have g0 := HZS.out; omega))
  have hg9 := HK1.out
  clear Ha
  replace Hb := Lib.hid (Bx.keptP (P := fun q9 => q9 = w.heap.size) Hb.out hg9 (show ¬ (w.heap.size + 1 = w.heap.size) by have g0 := HZS.out; omega))
  replace Hr := Lib.hid (Bx.keptP (P := fun q9 => q9 = w.heap.size) Hr.out hg9 (show ¬ (w.heap.size + 2 = w.heap.size) by have g0 := HZS.out; omega))
  replace HB := Lib.hid (Below.keptP HB.out hg9 (by have g0 := HZS.out; omega) (fun q9 h9 => (show w.heap.size ≤ _ by subst h9; have g0 := HZS.out; omega)))
  replace HZS := sz HZS (show w2.heap.size ≤ wr.heap.size from hg9.size)
  clear hg9
  have Ha := HQ
  clear HQ
  have HAL := Lib.hid (show (partS m v k).length = 16 by rw [partS_len]; exact HV.out)
  by_cases hk6 : k < 640
  ·have hkl : k < allL.length := by rw [allL_len]; exact hk6
   have HS := Lib.hid (partS_succ m v k hkl)
   have HOK := Lib.hid (List.all_eq_true.1 allL_ok _ (List.getElem_mem hkl))
   obtain ⟨xb, xo, rfl, hxl, hxc⟩ := HSK.out.elem stpV_len (by decide) k hkl
   have HXC := Lib.hid hxc
   clear hxc
   generalize allL[k] = s at *
   generalize partS m v k = V at *
   obtain ⟨A, O, M, t⟩ := s
   have hA : A < 16 := by have := HOK.out; simp [okStp] at this; omega
   have hO : O < 16 := by have := HOK.out; simp [okStp] at this; omega
   have ht : t ≤ 16 := by have := HOK.out; simp [okStp] at this; omega
   have hc0 := HXC.out 0 _ rfl
   have hc1 := HXC.out 1 _ rfl
   have hc2 := HXC.out 2 _ rfl
   have hc3 := HXC.out 3 _ rfl
   rw [Nat.add_zero] at hc0
   have a1 : (0 : Int) ≤ (A : Int) := by omega
   have a2 : (A : Int) < 16 := by omega
   have a3 : (0 : Int) ≤ (O : Int) := by omega
   have a4 : (O : Int) < 16 := by omega
   have k1 : (0 : Int) ≤ (k : Int) := by omega
   have k2 : (k : Int) < 640 := by omega
   by_cases ht0 : t = 0
   ·subst ht0
    cases M
    case none =>
     have hst : stepB m V ⟨A, O, none, 0⟩ = V.set A (V.getD A 0 + V.getD O 0) := by unfold stepB; rw [if_pos rfl]; simp
     have HSB := Lib.hid (HS.out.trans hst)
     clear HS hst
     have hd2 : wr.cell? ⟨xb, xo + k * 4 + 2, none⟩ = some (.int .i64 (-1)) := hc2
     have hd3 : wr.cell? ⟨xb, xo + k * 4 + 3, none⟩ = some (.int .i64 (0)) := hc3
     clear hc2 hc3
     go_wp2_with fail
     obtain ⟨w3, hq3, hb9, hz9, Hs⟩ := new1 wr 305 [.int .i64 (A : Int), .int .i64 (O : Int), .int .i64 (-1), .int .i64 (0)]
     rw [hq3]
     clear hq3
     replace Hb := Lib.hid (Hb.out.up hb9)
     replace Hr := Lib.hid (Hr.out.up hb9)
     replace Ha := Lib.hid (Ha.out.up hb9)
     replace HK1 := Lib.hid (Kept.up HK1.out hb9)
     replace HB := hbu HB hb9
     replace HZS := sz HZS hz9.out
     clear hb9 hz9
     have s_ := Hs.out.c4
     clear hc0 hc1 hd2 hd3
     have cA1 := wl_cell Ha.out A (by rw [HAL.out]; exact hA)
     have cO1 := wl_cell Ha.out O (by rw [HAL.out]; exact hO)
     obtain ⟨x, hx⟩ : ∃ x, V.getD A 0 = x := ⟨_, rfl⟩
     obtain ⟨y, hy⟩ : ∃ y, V.getD O 0 = y := ⟨_, rfl⟩
     rw [hx] at cA1
     rw [hy] at cO1
     have g1 := add32 x y
     obtain ⟨u, e1⟩ : ∃ u, x + y = u := ⟨_, rfl⟩
     rw [e1] at g1
     have hl_s := Hs.out.lt
     refine wp_region_otail 12 (by kernel_rfl) (by kernel_rfl) ?_
     simp only [List.take_succ_cons, List.take_zero, List.drop_succ_cons, List.drop_zero]
     have hov_s := fun (E : Over w3) o => E.cell (b := wr.heap.size) o hl_s
     have hov_w_heap_size := fun (E : Over w3) o => E.cell (b := w.heap.size) o Ha.out.lt
     repeat (go_big_quiet_step (first | fail))
     all_goals (try unfold elV limbV)
     repeat (go_big_quiet_step (first | fail))
     all_goals (try unfold elV limbV)
     repeat (go_big_quiet_step (first | fail))
     all_goals (try unfold ciphV)
     refine wpQuiet_nil ?_
     rintro _ ⟨E, rfl⟩
     clear hov_s hl_s hov_w_heap_size
     replace Hb := Lib.hid (Hb.out.up E.h)
     replace Hr := Lib.hid (Hr.out.up E.h)
     replace Ha := Lib.hid (Ha.out.up E.h)
     clear s_
     replace Hs := Lib.hid (Hs.out.up E.h)
     replace HK1 := Lib.hid (Kept.up HK1.out E.h)
     replace HB := hbu HB E.h
     replace HZS := sz HZS E.h.size
     obtain ⟨w4, hq9⟩ : ∃ W9 : World, E.w = W9 := ⟨_, rfl⟩
     rw [hq9] at Hb Hr Ha Hs HK1 HB HZS ⊢
     clear hq9 E
     have s_ := Hs.out.c4
     clear cA1 cO1
     have cA1 := Ha.out.cell (wlV_get V A (by rw [HAL.out]; exact hA))
     have f5_a := Ha.out.frozen
     have o5_s_ := s_; clear s_
     obtain ⟨w5, hq5, hg9, hz9, hx9⟩ := put1 Ha A (.int .u32 (u.toNat : Int)) _ rfl
     replace Hb := Lib.hid (Hb.out.grown hg9.out (sne (by have g0 := HZS.out; omega)))
     replace Hr := Lib.hid (Hr.out.grown hg9.out (sne (by have g0 := HZS.out; omega)))
     replace Hs := Lib.hid (Hs.out.grown hg9.out (sne (by have g0 := HZS.out; omega)))
     replace HK1 := Lib.hid (Kept.grown HK1.out hg9.out (fun q9 e9 => by obtain rfl := Option.some.inj e9; exact Or.inr (rfl)))
     replace HB := hbg HB hg9 (by have g0 := HZS.out; omega)
     replace HZS := sz HZS hz9.out
     replace Ha := hx9
     clear hx9 hg9 hz9
     have s_ := Hs.out.c4
     replace Ha := Lib.hid Ha.out.wset
     rw [hx, hy, e1] at HSB
     have HQ := Lib.hid (show Bx w5 w.heap.size 288 (wlV (partS m v (k + 1))) from by rw [HSB.out]; exact Ha.out)
     clear hx hy e1
     go_wp2_with fail
     clear hq5 o5_s_ f5_a cA1 g1
     go_roundw
     case rel => exact ⟨k + 1, by omega, by go_num, HQ, HK1⟩
     case measure => simp [intOf]; omega
    case some j =>
     have hj : j < 16 := by have := HOK.out; simp [okStp] at this; omega
     have hst : stepB m V ⟨A, O, some j, 0⟩ = V.set A (V.getD A 0 + V.getD O 0 + m.getD j 0) := by unfold stepB; rw [if_pos rfl]
     have HSB := Lib.hid (HS.out.trans hst)
     clear HS hst
     have hd2 : wr.cell? ⟨xb, xo + k * 4 + 2, none⟩ = some (.int .i64 ((j : Int))) := hc2
     have hd3 : wr.cell? ⟨xb, xo + k * 4 + 3, none⟩ = some (.int .i64 (0)) := hc3
     clear hc2 hc3
     go_wp2_with fail
     obtain ⟨w3, hq3, hb9, hz9, Hs⟩ := new1 wr 305 [.int .i64 (A : Int), .int .i64 (O : Int), .int .i64 ((j : Int)), .int .i64 (0)]
     rw [hq3]
     clear hq3
     replace Hb := Lib.hid (Hb.out.up hb9)
     replace Hr := Lib.hid (Hr.out.up hb9)
     replace Ha := Lib.hid (Ha.out.up hb9)
     replace HK1 := Lib.hid (Kept.up HK1.out hb9)
     replace HB := hbu HB hb9
     replace HZS := sz HZS hz9.out
     clear hb9 hz9
     have s_ := Hs.out.c4
     clear hc0 hc1 hd2 hd3
     have cA1 := wl_cell Ha.out A (by rw [HAL.out]; exact hA)
     have cO1 := wl_cell Ha.out O (by rw [HAL.out]; exact hO)
     obtain ⟨x, hx⟩ : ∃ x, V.getD A 0 = x := ⟨_, rfl⟩
     obtain ⟨y, hy⟩ : ∃ y, V.getD O 0 = y := ⟨_, rfl⟩
     rw [hx] at cA1
     rw [hy] at cO1
     have g1 := add32 x y
     obtain ⟨u, e1⟩ : ∃ u, x + y = u := ⟨_, rfl⟩
     rw [e1] at g1
     have hl_s := Hs.out.lt
     refine wp_region_otail 12 (by kernel_rfl) (by kernel_rfl) ?_
     simp only [List.take_succ_cons, List.take_zero, List.drop_succ_cons, List.drop_zero]
     have hov_s := fun (E : Over w3) o => E.cell (b := wr.heap.size) o hl_s
     have hov_w_heap_size := fun (E : Over w3) o => E.cell (b := w.heap.size) o Ha.out.lt
     repeat (go_big_quiet_step (first | fail))
     all_goals (try unfold elV limbV)
     repeat (go_big_quiet_step (first | fail))
     all_goals (try unfold elV limbV)
     repeat (go_big_quiet_step (first | fail))
     all_goals (try unfold ciphV)
     refine wpQuiet_nil ?_
     rintro _ ⟨E, rfl⟩
     clear hov_s hl_s hov_w_heap_size
     replace Hb := Lib.hid (Hb.out.up E.h)
     replace Hr := Lib.hid (Hr.out.up E.h)
     replace Ha := Lib.hid (Ha.out.up E.h)
     clear s_
     replace Hs := Lib.hid (Hs.out.up E.h)
     replace HK1 := Lib.hid (Kept.up HK1.out E.h)
     replace HB := hbu HB E.h
     replace HZS := sz HZS E.h.size
     obtain ⟨w4, hq9⟩ : ∃ W9 : World, E.w = W9 := ⟨_, rfl⟩
     rw [hq9] at Hb Hr Ha Hs HK1 HB HZS ⊢
     clear hq9 E
     have s_ := Hs.out.c4
     clear cA1 cO1
     have cA1 := Ha.out.cell (wlV_get V A (by rw [HAL.out]; exact hA))
     have f5_a := Ha.out.frozen
     have o5_s_ := s_; clear s_
     obtain ⟨w5, hq5, hg9, hz9, hx9⟩ := put1 Ha A (.int .u32 (u.toNat : Int)) _ rfl
     replace Hb := Lib.hid (Hb.out.grown hg9.out (sne (by have g0 := HZS.out; omega)))
     replace Hr := Lib.hid (Hr.out.grown hg9.out (sne (by have g0 := HZS.out; omega)))
     replace Hs := Lib.hid (Hs.out.grown hg9.out (sne (by have g0 := HZS.out; omega)))
     replace HK1 := Lib.hid (Kept.grown HK1.out hg9.out (fun q9 e9 => by obtain rfl := Option.some.inj e9; exact Or.inr (rfl)))
     replace HB := hbg HB hg9 (by have g0 := HZS.out; omega)
     replace HZS := sz HZS hz9.out
     replace Ha := hx9
     clear hx9 hg9 hz9
     have s_ := Hs.out.c4
     replace Ha := Lib.hid Ha.out.wset
     have j1 : (0 : Int) ≤ (j : Int) := by omega
     have j2 : (j : Int) < 16 := by omega
     go_upto_region 8 with (fail)
     clear cA1 g1
     have hA2 : A < (V.set A u).length := by rw [List.length_set, HAL.out]; exact hA
     have cA1 := wl_cell Ha.out A hA2
     have cM1 := wl_cell Hb.out j (by rw [HM.out]; exact hj)
     rw [set_same V A u (by rw [HAL.out]; exact hA)] at cA1
     obtain ⟨z, hz⟩ : ∃ z, m.getD j 0 = z := ⟨_, rfl⟩
     rw [hz] at cM1
     have g1 := add32 u z
     obtain ⟨u2, e2⟩ : ∃ u2, u + z = u2 := ⟨_, rfl⟩
     rw [e2] at g1
     have hl_s := Hs.out.lt
     refine wp_region_otail 12 (by kernel_rfl) (by kernel_rfl) ?_
     simp only [List.take_succ_cons, List.take_zero, List.drop_succ_cons, List.drop_zero]
     have hov_s := fun (E : Over w5) o => E.cell (b := wr.heap.size) o hl_s
     have hov_w_heap_size := fun (E : Over w5) o => E.cell (b := w.heap.size) o Ha.out.lt
     have hov_w_heap_size___1 := fun (E : Over w5) o => E.cell (b := w.heap.size + 1) o Hb.out.lt
     repeat (go_big_quiet_step (first | fail))
     all_goals (try unfold elV limbV)
     repeat (go_big_quiet_step (first | fail))
     all_goals (try unfold elV limbV)
     repeat (go_big_quiet_step (first | fail))
     all_goals (try unfold ciphV)
     refine wpQuiet_nil ?_
     rintro _ ⟨E, rfl⟩
     clear hov_s hl_s hov_w_heap_size hov_w_heap_size___1
     replace Hb := Lib.hid (Hb.out.up E.h)
     replace Hr := Lib.hid (Hr.out.up E.h)
     replace Ha := Lib.hid (Ha.out.up E.h)
     clear s_
     replace Hs := Lib.hid (Hs.out.up E.h)
     replace HK1 := Lib.hid (Kept.up HK1.out E.h)
     replace HB := hbu HB E.h
     replace HZS := sz HZS E.h.size
     obtain ⟨w6, hq9⟩ : ∃ W9 : World, E.w = W9 := ⟨_, rfl⟩
     rw [hq9] at Hb Hr Ha Hs HK1 HB HZS ⊢
     clear hq9 E
     have s_ := Hs.out.c4
     clear cA1 cM1
     have cA1 := Ha.out.cell (wlV_get (V.set A u) A hA2)
     have f7_a := Ha.out.frozen
     have o7_s_ := s_; clear s_
     obtain ⟨w7, hq7, hg9, hz9, hx9⟩ := put1 Ha A (.int .u32 (u2.toNat : Int)) _ rfl
     replace Hb := Lib.hid (Hb.out.grown hg9.out (sne (by have g0 := HZS.out; omega)))
     replace Hr := Lib.hid (Hr.out.grown hg9.out (sne (by have g0 := HZS.out; omega)))
     replace Hs := Lib.hid (Hs.out.grown hg9.out (sne (by have g0 := HZS.out; omega)))
     replace HK1 := Lib.hid (Kept.grown HK1.out hg9.out (fun q9 e9 => by obtain rfl := Option.some.inj e9; exact Or.inr (rfl)))
     replace HB := hbg HB hg9 (by have g0 := HZS.out; omega)
     replace HZS := sz HZS hz9.out
     replace Ha := hx9
     clear hx9 hg9 hz9
     have s_ := Hs.out.c4
     replace Ha := Lib.hid Ha.out.wset
     rw [hx, hy, e1, hz, e2] at HSB
     have HQ := Lib.hid (show Bx w7 w.heap.size 288 (wlV (partS m v (k + 1))) from by rw [HSB.out]; have h9 := Ha.out; rwa [List.set_set] at h9)
     clear hx hy e1 hz e2
     go_wp2_with fail
     clear hq7 o7_s_ f7_a hq5 o5_s_ f5_a cA1 g1
     go_roundw
     case rel => exact ⟨k + 1, by omega, by go_num, HQ, HK1⟩
     case measure => simp [intOf]; omega
   ·have htd : 0 < t := by omega
    have hst : stepB m V ⟨A, O, M, t⟩ = V.set A (rotB (V.getD A 0 ^^^ V.getD O 0) t) := by unfold stepB; rw [if_neg ht0]
    have HSB := Lib.hid (HS.out.trans hst)
    clear HS hst HOK
    simp only [] at hc0 hc1 hc2 hc3
    generalize moreV M = mm at *
    have hd2 : wr.cell? ⟨xb, xo + k * 4 + 2, none⟩ = some (.int .i64 (mm)) := hc2
    have hd3 : wr.cell? ⟨xb, xo + k * 4 + 3, none⟩ = some (.int .i64 ((t : Int))) := hc3
    clear hc2 hc3
    go_wp2_with fail
    obtain ⟨w3, hq3, hb9, hz9, Hs⟩ := new1 wr 305 [.int .i64 (A : Int), .int .i64 (O : Int), .int .i64 (mm), .int .i64 ((t : Int))]
    rw [hq3]
    clear hq3
    replace Hb := Lib.hid (Hb.out.up hb9)
    replace Hr := Lib.hid (Hr.out.up hb9)
    replace Ha := Lib.hid (Ha.out.up hb9)
    replace HK1 := Lib.hid (Kept.up HK1.out hb9)
    replace HB := hbu HB hb9
    replace HZS := sz HZS hz9.out
    clear hb9 hz9
    have s_ := Hs.out.c4
    clear hc0 hc1 hd2 hd3
    have cA1 := wl_cell Ha.out A (by rw [HAL.out]; exact hA)
    have cO1 := wl_cell Ha.out O (by rw [HAL.out]; exact hO)
    obtain ⟨x, hx⟩ : ∃ x, V.getD A 0 = x := ⟨_, rfl⟩
    obtain ⟨y, hy⟩ : ∃ y, V.getD O 0 = y := ⟨_, rfl⟩
    rw [hx] at cA1
    rw [hy] at cO1
    have g1 := bits_xor x y
    obtain ⟨z, e1⟩ : ∃ z, x ^^^ y = z := ⟨_, rfl⟩
    rw [e1] at g1
    have HR := Lib.hid (fun w => right_any z t ht w)
    obtain ⟨u, e2⟩ : ∃ u, rotB z t = u := ⟨_, rfl⟩
    rw [e2] at HR
    rw [hx, hy, e1, e2] at HSB
    clear hx hy e1 e2
    have hl_s := Hs.out.lt
    refine wp_region_otail 15 (by kernel_rfl) (by kernel_rfl) ?_
    simp only [List.take_succ_cons, List.take_zero, List.drop_succ_cons, List.drop_zero]
    have hov_s := fun (E : Over w3) o => E.cell (b := wr.heap.size) o hl_s
    have hov_w_heap_size := fun (E : Over w3) o => E.cell (b := w.heap.size) o Ha.out.lt
    repeat (go_big_quiet_step (first | (go_at_call 215; exact calls_over (HR.out _))))
    all_goals (try unfold elV limbV)
    repeat (go_big_quiet_step (first | (go_at_call 215; exact calls_over (HR.out _))))
    all_goals (try unfold elV limbV)
    repeat (go_big_quiet_step (first | (go_at_call 215; exact calls_over (HR.out _))))
    all_goals (try unfold ciphV)
    refine wpQuiet_nil ?_
    rintro _ ⟨E, rfl⟩
    clear hov_s hl_s hov_w_heap_size
    replace Hb := Lib.hid (Hb.out.up E.h)
    replace Hr := Lib.hid (Hr.out.up E.h)
    replace Ha := Lib.hid (Ha.out.up E.h)
    clear s_
    replace Hs := Lib.hid (Hs.out.up E.h)
    replace HK1 := Lib.hid (Kept.up HK1.out E.h)
    replace HB := hbu HB E.h
    replace HZS := sz HZS E.h.size
    obtain ⟨w4, hq9⟩ : ∃ W9 : World, E.w = W9 := ⟨_, rfl⟩
    rw [hq9] at Hb Hr Ha Hs HK1 HB HZS ⊢
    clear hq9 E
    have s_ := Hs.out.c4
    clear cA1 cO1 HR
    have cA1 := Ha.out.cell (wlV_get V A (by rw [HAL.out]; exact hA))
    have f5_a := Ha.out.frozen
    have o5_s_ := s_; clear s_
    obtain ⟨w5, hq5, hg9, hz9, hx9⟩ := put1 Ha A (.int .u32 (u.toNat : Int)) _ rfl
    replace Hb := Lib.hid (Hb.out.grown hg9.out (sne (by have g0 := HZS.out; omega)))
    replace Hr := Lib.hid (Hr.out.grown hg9.out (sne (by have g0 := HZS.out; omega)))
    replace Hs := Lib.hid (Hs.out.grown hg9.out (sne (by have g0 := HZS.out; omega)))
    replace HK1 := Lib.hid (Kept.grown HK1.out hg9.out (fun q9 e9 => by obtain rfl := Option.some.inj e9; exact Or.inr (rfl)))
    replace HB := hbg HB hg9 (by have g0 := HZS.out; omega)
    replace HZS := sz HZS hz9.out
    replace Ha := hx9
    clear hx9 hg9 hz9
    have s_ := Hs.out.c4
    replace Ha := Lib.hid Ha.out.wset
    have HQ := Lib.hid (show Bx w5 w.heap.size 288 (wlV (partS m v (k + 1))) from by rw [HSB.out]; exact Ha.out)
    go_wp2_with fail
    clear hq5 o5_s_ f5_a cA1 g1
    go_roundw
    case rel => exact ⟨k + 1, by omega, by go_num, HQ, HK1⟩
    case measure => simp [intOf]; omega
  ·have hk' : k = 640 := by omega
   subst hk'
   rw [partS_all] at Ha
   have HSL2 := Lib.hid (stirB_len v m)
   obtain ⟨S, hS⟩ : ∃ S, stirB v m = S := ⟨_, rfl⟩
   rw [hS] at Ha HSL2
   have HSE := Lib.hid hS
   clear hS
   have HSI := Lib.hid (show (Tryz.prog.info? 288).map (·.size) = some (wlV S).length by rw [wlV_len, HSL2.out, HV.out]; exact info16)
   have HZ := Lib.hid (show (wlV S).length = (wlV (zw 16)).length by rw [wlV_len, wlV_len, HSL2.out, HV.out]; rfl)
   obtain ⟨wz, hqz, hgz, hzz, hrz⟩ := puts Hr 0 (wlV S) (wlV S) (putL_all _ _ HZ.out)
   have HBZ := hbg HB hgz (by omega)
   go_wp2_with (first | refine wpList_load_mid rfl 288 (.tmp 2) rfl w.heap.size 0 rfl (wlV S) _ Ha.out.range Tryz.underlying288 rfl HSI.out ?_ | refine wpList_store_mid rfl 288 (.tmp 4) (.tmp 59) rfl (w.heap.size + 2) 0 (wlV S).toArray rfl rfl (Hr.out.there (by simp [HZ.out])) (by simpa using HSI.out) (all_oneCell_toArray (wl_one S)) ?_)
   rw [hqz]
   exact ret_arr Tryz.results211 hrz.out _ rfl Tryz.underlying288 rfl HSI.out rfl ⟨by rw [HSE.out], HBZ.out⟩
end Go.Proofs.YtjmeakfjfpnciaaGreat
namespace Go.Proofs.YtjmeakfjfpnciaaGreat
open Go.RowKit
theorem info8 : (Tryz.prog.info? 270).map (·.size) = some 8 := by kernel_rfl
theorem infoW : (Tryz.prog.info? 269).map (·.size) = some 1 := by kernel_rfl
def startV : WL := startB
theorem startB_len : startV.length = 8 := rfl
theorem start_any (w : World) : Calls Tryz.prog 197 #[] w fun e w' => e = .returned (.agg (wlV startV).toArray) ∧ Below w.heap.size w w' := by
 go_enter Tryz.func197, Tryz.ntmps197
 go_wp2_with fail
 obtain ⟨w1, hq1, hb9, hz9, Hr⟩ := new1 w 270 [.int .u32 1779033703, .int .u32 3144134277, .int .u32 1013904242, .int .u32 2773480762, .int .u32 1359893119, .int .u32 2600822924, .int .u32 528734635, .int .u32 1541459225]
 rw [hq1]
 clear hq1
 have HB := Lib.hid hb9
 have HZS := hz9
 clear hb9 hz9
 have r_ := Hr.out.c8
 simp [bodyPost, results, Tryz.results197, go_sem, r_]
 exact ⟨rfl, HB.out⟩
theorem wlV_app (l m : WL) : wlV l ++ wlV m = wlV (l ++ m) := by unfold wlV; rw [List.map_append]
theorem pre_copy1 (h : WL) (hh : h.length = 8) : putL (wlV (zw 16)) 0 (wlV h) = wlV (h ++ zw 8) := by
 rw [putL_eq _ _ _ (by rw [wlV_len, wlV_len, hh]; decide), List.take_zero, List.nil_append, wlV_len, hh, ← wlV_app]
 rfl
theorem pre_copy2 (h : WL) (hh : h.length = 8) : putL (wlV (h ++ zw 8)) 8 (wlV startV) = wlV (h ++ startV) := by
 have h8 : (wlV h).length = 8 := by rw [wlV_len, hh]
 rw [putL_eq _ _ _ (by rw [wlV_len, wlV_len, List.length_append, hh]; decide), ← wlV_app, List.take_append_of_le_length (by omega), List.take_of_length_le (by omega), wlV_len, startB_len, List.drop_eq_nil_of_le (by rw [List.length_append, h8, wlV_len]; decide), List.append_nil, wlV_app]
theorem pre_cell (h : WL) (hh : h.length = 8) (j : Nat) (hj : j < 8) : (wlV (h ++ startV))[8 + j]? = (wlV startV)[j]? := by
 rw [← wlV_app, List.getElem?_append_right (by rw [wlV_len, hh]; omega), wlV_len, hh, show 8 + j - 8 = j by omega]
theorem wl_ne (l : WL) (i j : Nat) (x : BitVec 32) (h : i ≠ j) : (wlV (l.set i x))[j]? = (wlV l)[j]? := by rw [← wlV_set, List.getElem?_set_ne h]
theorem xor_lo (n : Nat) : bits BinOp.xor IntKind.u32 1359893119 ((n : Int) % 4294967296) = ((startB.getD 4 0 ^^^ BitVec.ofNat 32 n).toNat : Int) := by
 rw [← bits_xor, BitVec.toNat_ofNat]; rfl
theorem xor_hi (n : Nat) (hn : n < 18446744073709551616) : bits BinOp.xor IntKind.u32 2600822924 ((n : Int) / 4294967296) = ((startB.getD 5 0 ^^^ BitVec.ofNat 32 (n / 4294967296)).toNat : Int) := by
 rw [← bits_xor, BitVec.toNat_ofNat, Nat.mod_eq_of_lt (show n / 4294967296 < 2 ^ 32 by omega)]; rfl
theorem Press_any (h m : WL) (hh : h.length = 8) (hm : m.length = 16) (n : Nat) (hn : n < 18446744073709551616) (last : Bool) (w : World) :
  Calls Tryz.prog 198 #[.agg (wlV h).toArray, .agg (wlV m).toArray, .int .u64 (n : Int), .bool last] w fun e w' => e = .returned (.agg (wlV (pressB h m n last)).toArray) ∧ Below w.heap.size w w' := by
 have HH := Lib.hid hh
 have HM := Lib.hid hm
 have HL8 := Lib.hid (show (wlV h).length = 8 by rw [wlV_len, hh])
 have HI8 := Lib.hid (show (Tryz.prog.info? 270).map (·.size) = some (wlV startV).length from info8)
 have HZ8 := Lib.hid (show (wlV (zw 8)).length = (wlV startV).length from rfl)
 have HIM := Lib.hid (show (Tryz.prog.info? 288).map (·.size) = some (wlV m).length by rw [wlV_len, hm]; exact info16)
 have hz : (#[.int .u32 0, .int .u32 0, .int .u32 0, .int .u32 0, .int .u32 0, .int .u32 0, .int .u32 0, .int .u32 0, .int .u32 0, .int .u32 0, .int .u32 0, .int .u32 0, .int .u32 0, .int .u32 0, .int .u32 0, .int .u32 0] : Array Value) = (wlV (zw 16)).toArray := rfl
 have hz8 : (#[.int .u32 0, .int .u32 0, .int .u32 0, .int .u32 0, .int .u32 0, .int .u32 0, .int .u32 0, .int .u32 0] : Array Value) = (wlV (zw 8)).toArray := rfl
 have E1 := Lib.hid (pre_copy1 h hh)
 have E2 := Lib.hid (pre_copy2 h hh)
 have hx12 := xor_lo n
 have hx13 := xor_hi n hn
 clear hh hm
 go_enter Tryz.func198, Tryz.ntmps198
 go_upto_region 2 with (fail)
 obtain ⟨w1, hq1, hb9, hz9, Ha, Hb, Hr, Hv⟩ := new4 w 270 (wlV h) 288 (wlV m) 270 (wlV (zw 8)) 288 (wlV (zw 16))
 rw [hq1]
 clear hq1
 have HB := Lib.hid hb9
 have HZS := hz9
 clear hb9 hz9
 go_wp2_with fail
 refine (start_any w1).mono ?_
 rintro e w2 ⟨rfl, hb9⟩
 replace Ha := Lib.hid (Ha.out.up hb9)
 replace Hb := Lib.hid (Hb.out.up hb9)
 replace Hr := Lib.hid (Hr.out.up hb9)
 replace Hv := Lib.hid (Hv.out.up hb9)
 replace HB := hbu HB hb9
 replace HZS := sz HZS hb9.size
 clear hb9
 go_upto_region 3 with (refine wpList_store_new rfl 270 270 (.tmp 10) (.tmp 13) rfl (wlV (zw 8)) (wlV startV) rfl rfl HI8.out HZ8.out (wl_one startV) ?_)
 obtain ⟨w3, hq3, hb9, hz9, Hs⟩ := new1 w2 270 (wlV startV)
 rw [hq3]
 clear hq3
 replace Ha := Lib.hid (Ha.out.up hb9)
 replace Hb := Lib.hid (Hb.out.up hb9)
 replace Hr := Lib.hid (Hr.out.up hb9)
 replace Hv := Lib.hid (Hv.out.up hb9)
 replace HB := hbu HB hb9
 replace HZS := sz HZS hz9.out
 clear hb9 hz9
 go_simp
 refine wp_region_otail 2 (by kernel_rfl) (by kernel_rfl) ?_
 simp only [List.take_succ_cons, List.take_zero, List.drop_succ_cons, List.drop_zero]
 repeat (go_big_quiet_step (first | fail))
 all_goals (try unfold elV limbV)
 repeat (go_big_quiet_step (first | fail))
 all_goals (try unfold elV limbV)
 repeat (go_big_quiet_step (first | fail))
 all_goals (try unfold ciphV)
 refine wpQuiet_nil ?_
 rintro _ ⟨E, rfl⟩
 replace Ha := Lib.hid (Ha.out.up E.h)
 replace Hb := Lib.hid (Hb.out.up E.h)
 replace Hr := Lib.hid (Hr.out.up E.h)
 replace Hv := Lib.hid (Hv.out.up E.h)
 replace Hs := Lib.hid (Hs.out.up E.h)
 replace HB := hbu HB E.h
 replace HZS := sz HZS E.h.size
 obtain ⟨w4, hq9⟩ : ∃ W9 : World, E.w = W9 := ⟨_, rfl⟩
 rw [hq9] at Ha Hb Hr Hv Hs HB HZS ⊢
 clear hq9 E
 refine wpList_copyB rfl (.tmp 14) (.tmp 15) 295 295 rfl 269 Tryz.underlying295 infoW (w.heap.size + 3) 0 8 16 ⟨w.heap.size, 0, none⟩ 8 8 rfl rfl (wlV (zw 16)) 288 Hv.out (wlV h) (by rw [HL8.out]; rfl) (fun j v hv => by rw [Addr.add_mid]; exact Ha.out.range j v hv) (by rw [HL8.out]; decide) (wl_one h) _ E1.out ?_
 intro wc hg9 hz9 hx9
 replace Ha := Lib.hid (Ha.out.grown hg9.out (sne (by have g0 := HZS.out; omega)))
 replace Hb := Lib.hid (Hb.out.grown hg9.out (sne (by have g0 := HZS.out; omega)))
 replace Hr := Lib.hid (Hr.out.grown hg9.out (sne (by have g0 := HZS.out; omega)))
 replace Hs := Lib.hid (Hs.out.grown hg9.out (sne (by have g0 := HZS.out; omega)))
 replace HB := hbg HB hg9 (by have g0 := HZS.out; omega)
 replace HZS := sz HZS hz9.out
 replace Hv := hx9
 clear hx9 hg9 hz9
 go_wp2_with fail
 go_simp
 refine wp_region_otail 2 (by kernel_rfl) (by kernel_rfl) ?_
 simp only [List.take_succ_cons, List.take_zero, List.drop_succ_cons, List.drop_zero]
 repeat (go_big_quiet_step (first | fail))
 all_goals (try unfold elV limbV)
 repeat (go_big_quiet_step (first | fail))
 all_goals (try unfold elV limbV)
 repeat (go_big_quiet_step (first | fail))
 all_goals (try unfold ciphV)
 refine wpQuiet_nil ?_
 rintro _ ⟨E, rfl⟩
 replace Ha := Lib.hid (Ha.out.up E.h)
 replace Hb := Lib.hid (Hb.out.up E.h)
 replace Hr := Lib.hid (Hr.out.up E.h)
 replace Hv := Lib.hid (Hv.out.up E.h)
 replace Hs := Lib.hid (Hs.out.up E.h)
 replace HB := hbu HB E.h
 replace HZS := sz HZS E.h.size
 obtain ⟨w5, hq9⟩ : ∃ W9 : World, E.w = W9 := ⟨_, rfl⟩
 rw [hq9] at Ha Hb Hr Hv Hs HB HZS ⊢
 clear hq9 E
 refine wpList_copyB rfl (.tmp 17) (.tmp 18) 295 295 rfl 269 Tryz.underlying295 infoW (w.heap.size + 3) 8 8 8 ⟨w2.heap.size, 0, none⟩ 8 8 rfl rfl (wlV (h ++ zw 8)) 288 Hv.out (wlV startV) rfl (fun j v hv => by rw [Addr.add_mid]; exact Hs.out.range j v hv) (by rw [wlV_len, wlV_len, List.length_append, HH.out]; decide) (wl_one startV) _ E2.out ?_
 intro wd hg9 hz9 hx9
 replace Ha := Lib.hid (Ha.out.grown hg9.out (sne (by have g0 := HZS.out; omega)))
 replace Hb := Lib.hid (Hb.out.grown hg9.out (sne (by have g0 := HZS.out; omega)))
 replace Hr := Lib.hid (Hr.out.grown hg9.out (sne (by have g0 := HZS.out; omega)))
 replace Hs := Lib.hid (Hs.out.grown hg9.out (sne (by have g0 := HZS.out; omega)))
 replace HB := hbg HB hg9 (by have g0 := HZS.out; omega)
 replace HZS := sz HZS hz9.out
 replace Hv := hx9
 clear hx9 hg9 hz9 Hs
 have c12 : wd.cell? ⟨w.heap.size + 3, 12, none⟩ = some (.int .u32 1359893119) := Hv.out.cell (by rw [show 12 = 8 + 4 from rfl, pre_cell h HH.out 4 (by decide)]; rfl)
 obtain ⟨z12, e12⟩ : ∃ z, startB.getD 4 0 ^^^ BitVec.ofNat 32 n = z := ⟨_, rfl⟩
 obtain ⟨z13, e13⟩ : ∃ z, startB.getD 5 0 ^^^ BitVec.ofNat 32 (n / 4294967296) = z := ⟨_, rfl⟩
 rw [e12] at hx12
 rw [e13] at hx13
 have HPR := Lib.hid (show ∀ b, preB h n b = if b then (((h ++ startV).set 12 z12).set 13 z13).set 14 (~~~ startB.getD 6 0) else ((h ++ startV).set 12 z12).set 13 z13 from fun b => by rw [← e12, ← e13]; rfl)
 clear e12 e13
 have f6_v := Hv.out.frozen
 obtain ⟨w6, hq6, hg9, hz9, hx9⟩ := put1 Hv 12 (.int .u32 (z12.toNat : Int)) _ rfl
 replace Ha := Lib.hid (Ha.out.grown hg9.out (sne (by have g0 := HZS.out; omega)))
 replace Hb := Lib.hid (Hb.out.grown hg9.out (sne (by have g0 := HZS.out; omega)))
 replace Hr := Lib.hid (Hr.out.grown hg9.out (sne (by have g0 := HZS.out; omega)))
 replace HB := hbg HB hg9 (by have g0 := HZS.out; omega)
 replace HZS := sz HZS hz9.out
 replace Hv := hx9
 clear hx9 hg9 hz9
 replace Hv := Lib.hid Hv.out.wset
 go_upto_region 6 with (fail)
 clear c12
 have c13 : w6.cell? ⟨w.heap.size + 3, 13, none⟩ = some (.int .u32 2600822924) := Hv.out.cell (by rw [wl_ne _ _ _ _ (by decide), show 13 = 8 + 5 from rfl, pre_cell h HH.out 5 (by decide)]; rfl)
 have f7_v := Hv.out.frozen
 obtain ⟨w7, hq7, hg9, hz9, hx9⟩ := put1 Hv 13 (.int .u32 (z13.toNat : Int)) _ rfl
 replace Ha := Lib.hid (Ha.out.grown hg9.out (sne (by have g0 := HZS.out; omega)))
 replace Hb := Lib.hid (Hb.out.grown hg9.out (sne (by have g0 := HZS.out; omega)))
 replace Hr := Lib.hid (Hr.out.grown hg9.out (sne (by have g0 := HZS.out; omega)))
 replace HB := hbg HB hg9 (by have g0 := HZS.out; omega)
 replace HZS := sz HZS hz9.out
 replace Hv := hx9
 clear hx9 hg9 hz9
 replace Hv := Lib.hid Hv.out.wset
 go_upto_region 7 with (fail)
 clear c13 hx12 hx13
 have HLV := Lib.hid (show (((h ++ startV).set 12 z12).set 13 z13).length = 16 by rw [List.length_set, List.length_set, List.length_append, HH.out]; rfl)
 have c14 : w7.cell? ⟨w.heap.size + 3, 14, none⟩ = some (.int .u32 528734635) := Hv.out.cell (by rw [wl_ne _ _ _ _ (by decide), wl_ne _ _ _ _ (by decide), show 14 = 8 + 6 from rfl, pre_cell h HH.out 6 (by decide)]; rfl)
 generalize ((h ++ startV).set 12 z12).set 13 z13 = V1 at *
 cases last
 case true =>
  have hx14 : bits BinOp.xor IntKind.u32 IntKind.u32.max 528734635 = ((~~~ startB.getD 6 0).toNat : Int) := by rw [← bits_not]; rfl
  obtain ⟨z14, e14⟩ : ∃ z, ~~~ startB.getD 6 0 = z := ⟨_, rfl⟩
  rw [e14] at hx14 HPR
  clear e14
  have f8_v := Hv.out.frozen
  obtain ⟨w8, hq8, hg9, hz9, hx9⟩ := put1 Hv 14 (.int .u32 (z14.toNat : Int)) _ rfl
  replace Ha := Lib.hid (Ha.out.grown hg9.out (sne (by have g0 := HZS.out; omega)))
  replace Hb := Lib.hid (Hb.out.grown hg9.out (sne (by have g0 := HZS.out; omega)))
  replace Hr := Lib.hid (Hr.out.grown hg9.out (sne (by have g0 := HZS.out; omega)))
  replace HB := hbg HB hg9 (by have g0 := HZS.out; omega)
  replace HZS := sz HZS hz9.out
  replace Hv := hx9
  clear hx9 hg9 hz9
  replace Hv := Lib.hid Hv.out.wset
  have HPV := Lib.hid (show V1.set 14 z14 = preB h n true from (HPR.out true).symm)
  have HVL := Lib.hid (show (preB h n true).length = 16 by rw [← HPV.out, List.length_set]; exact HLV.out)
  rw [HPV.out] at Hv
  clear HPV HPR HLV
  go_upto_region 9 with (fail)
  rw [if_neg (show ¬ (IntKind.u32.signed = true) by decide), hx14, hq8]
  clear c14 hx14
  have HVI := Lib.hid (show (Tryz.prog.info? 288).map (·.size) = some (wlV (preB h n true)).length by rw [wlV_len, HVL.out]; exact info16)
  have HSA := Lib.hid (fun w => Stir_any (preB h n true) m HVL.out HM.out w)
  have HSL := Lib.hid (stirB_len (preB h n true) m)
  have HPE := Lib.hid (show mixB h (stirB (preB h n true) m) 8 = pressB h m n true from rfl)
  generalize stirB (preB h n true) m = S at *
  generalize preB h n true = V at *
  go_wp2_with (first | refine wpList_load_mid rfl 288 (.tmp 9) rfl (w.heap.size + 3) 0 rfl (wlV V) _ Hv.out.range Tryz.underlying288 rfl HVI.out ?_ | refine wpList_load_mid rfl 288 (.tmp 5) rfl (w.heap.size + 1) 0 rfl (wlV m) _ Hb.out.range Tryz.underlying288 rfl HIM.out ?_)
  refine (HSA.out w8).mono ?_
  rintro e w9 ⟨rfl, hb9⟩
  replace Ha := Lib.hid (Ha.out.up hb9)
  replace Hb := Lib.hid (Hb.out.up hb9)
  replace Hr := Lib.hid (Hr.out.up hb9)
  replace Hv := Lib.hid (Hv.out.up hb9)
  replace HB := hbu HB hb9
  replace HZS := sz HZS hb9.size
  clear hb9
  have HIS := Lib.hid (show (Tryz.prog.info? 288).map (·.size) = some (wlV S).length by rw [wlV_len, HSL.out, HVL.out]; exact info16)
  have HZS2 := Lib.hid (show (wlV (zw 16)).length = (wlV S).length by rw [wlV_len, wlV_len, HSL.out, HVL.out]; rfl)
  go_upto_region 10 with (refine wpList_store_new rfl 288 288 (.tmp 11) (.tmp 40) rfl (wlV (zw 16)) (wlV S) rfl rfl HIS.out HZS2.out (wl_one S) ?_)
  clear HVI HSA HIM HZS2 HIS Hv Hb
  obtain ⟨w10, hq10, hb9, hz9, Hs⟩ := new1 w9 288 (wlV S)
  rw [hq10]
  clear hq10
  replace Ha := Lib.hid (Ha.out.up hb9)
  replace Hr := Lib.hid (Hr.out.up hb9)
  replace HB := hbu HB hb9
  replace HZS := sz HZS hz9.out
  clear hb9 hz9
  rw [show wlV h = wlV (mixB h S 0) by rw [mixB_zero h S HH.out]] at Ha
  clear hz hz8
  have HK := Lib.hid (Kept.refl (fun q9 => q9 = w.heap.size) w10)
  go_wp2_with fail
  clear hq8 f8_v hq7 f7_v hq6 f6_v
  go_loopw [41] (fun c wr => ∃ k : Nat, k ≤ 8 ∧ c = .int .i64 k ∧ Hid (Bx wr w.heap.size 270 (wlV (mixB h S k))) ∧ Hid (Kept (fun q9 => q9 = w.heap.size) w10 wr)) (fun c _ => 8 - (intOf c).toNat)
  case atStart => exact ⟨0, by omega, rfl, Ha, HK⟩
  case round =>
   obtain ⟨k, hk, rfl, HQ, HK1⟩ := hrel
   clear HK
   have hg9 := HK1.out
   clear Ha
   replace Hr := Lib.hid (Bx.keptP (P := fun q9 => q9 = w.heap.size) Hr.out hg9 (show ¬ (w.heap.size + 2 = w.heap.size) by have g0 := HZS.out; omega))
   replace Hs := Lib.hid (Bx.keptP (P := fun q9 => q9 = w.heap.size) Hs.out hg9 (show ¬ (w9.heap.size = w.heap.size) by have g0 := HZS.out; omega))
   replace HB := Lib.hid (Below.keptP HB.out hg9 (by have g0 := HZS.out; omega) (fun q9 h9 => (show w.heap.size ≤ _ by subst h9; have g0 := HZS.out; omega)))
   replace HZS := sz HZS (show w10.heap.size ≤ wr.heap.size from hg9.size)
   clear hg9
   have Ha := HQ
   clear HQ
   have HAL := Lib.hid (mixB_len h S k)
   by_cases hk8 : k < 8
   ·have hs := mixB_succ h S k
    have c1 := wl_cell Ha.out k (by rw [HAL.out]; exact hk8)
    have e1 : (mixB h S k).getD k 0 = h.getD k 0 := by
     show ((mixB h S k)[k]?).getD 0 = _
     rw [List.getElem?_eq_getElem (by rw [HAL.out]; exact hk8)]
     exact (mixB_at h S k k (by rw [HAL.out]; exact hk8)).trans (if_neg (by omega))
    rw [e1] at c1
    have c2 := wl_cell Hs.out k (by rw [HSL.out, HVL.out]; omega)
    have c3 := wl_cell Hs.out (k + 8) (by rw [HSL.out, HVL.out]; omega)
    generalize h.getD k 0 = x at *
    generalize S.getD k 0 = y at *
    generalize S.getD (k + 8) 0 = z at *
    have g1 := bits_xor y z
    obtain ⟨yz, e2⟩ : ∃ u, y ^^^ z = u := ⟨_, rfl⟩
    rw [e2] at g1
    have g2 := bits_xor x yz
    obtain ⟨u, e3⟩ : ∃ u, x ^^^ yz = u := ⟨_, rfl⟩
    rw [e3] at g2
    rw [show x ^^^ y ^^^ z = u by rw [← e3, ← e2, BitVec.xor_assoc]] at hs
    have HSS := Lib.hid hs
    clear hs e1 e2 e3
    generalize mixB h S k = M at *
    go_wp2_with fail
    refine wp_region_otail 13 (by kernel_rfl) (by kernel_rfl) ?_
    simp only [List.take_succ_cons, List.take_zero, List.drop_succ_cons, List.drop_zero]
    have hov_w_heap_size := fun (E : Over wr) o => E.cell (b := w.heap.size) o Ha.out.lt
    have hov_w9_heap_size := fun (E : Over wr) o => E.cell (b := w9.heap.size) o Hs.out.lt
    repeat (go_big_quiet_step (first | fail))
    all_goals (try unfold elV limbV)
    repeat (go_big_quiet_step (first | fail))
    all_goals (try unfold elV limbV)
    repeat (go_big_quiet_step (first | fail))
    all_goals (try unfold ciphV)
    refine wpQuiet_nil ?_
    rintro _ ⟨E, rfl⟩
    clear hov_w_heap_size hov_w9_heap_size
    replace Hr := Lib.hid (Hr.out.up E.h)
    replace Hs := Lib.hid (Hs.out.up E.h)
    replace Ha := Lib.hid (Ha.out.up E.h)
    replace HK1 := Lib.hid (Kept.up HK1.out E.h)
    replace HB := hbu HB E.h
    replace HZS := sz HZS E.h.size
    obtain ⟨w11, hq9⟩ : ∃ W9 : World, E.w = W9 := ⟨_, rfl⟩
    rw [hq9] at Hr Hs Ha HK1 HB HZS ⊢
    clear hq9 E c1 c2 c3
    have c1 := Ha.out.cell (wlV_get M k (by rw [HAL.out]; exact hk8))
    have f12_a := Ha.out.frozen
    obtain ⟨w12, hq12, hg9, hz9, hx9⟩ := put1 Ha k (.int .u32 (u.toNat : Int)) _ rfl
    replace Hr := Lib.hid (Hr.out.grown hg9.out (sne (by have g0 := HZS.out; omega)))
    replace Hs := Lib.hid (Hs.out.grown hg9.out (sne (by have g0 := HZS.out; omega)))
    replace HK1 := Lib.hid (Kept.grown HK1.out hg9.out (fun q9 e9 => by obtain rfl := Option.some.inj e9; exact Or.inr (rfl)))
    replace HB := hbg HB hg9 (by have g0 := HZS.out; omega)
    replace HZS := sz HZS hz9.out
    replace Ha := hx9
    clear hx9 hg9 hz9
    replace Ha := Lib.hid Ha.out.wset
    go_wp2_with fail
    clear hq12 f12_a c1 g1 g2
    have HQ := Ha
    rw [← HSS.out] at HQ
    go_roundw
    case rel => exact ⟨k + 1, by omega, by go_num, HQ, HK1⟩
    case measure => simp [intOf]; omega
   ·have hk' : k = 8 := by omega
    subst hk'
    rw [HPE.out] at Ha
    have HR := Lib.hid (pressB_len h m n true)
    obtain ⟨R, hR⟩ : ∃ R, pressB h m n true = R := ⟨_, rfl⟩
    rw [hR] at Ha HR
    have HRE := Lib.hid hR
    clear hR
    have HRI := Lib.hid (show (Tryz.prog.info? 270).map (·.size) = some (wlV R).length by rw [wlV_len, HR.out]; exact info8)
    have HRZ := Lib.hid (show (wlV R).length = (wlV (zw 8)).length by rw [wlV_len, wlV_len, HR.out]; rfl)
    obtain ⟨w5, hq5, hg5, hz5, hr5⟩ := puts Hr 0 (wlV R) (wlV R) (putL_all _ _ HRZ.out)
    have HB5 := hbg HB hg5 (by omega)
    go_wp2_with (first | refine wpList_load_mid rfl 270 (.tmp 4) rfl w.heap.size 0 rfl (wlV R) _ Ha.out.range Tryz.underlying270 rfl HRI.out ?_ | refine wpList_store_mid rfl 270 (.tmp 8) (.tmp 58) rfl (w.heap.size + 2) 0 (wlV R).toArray rfl rfl (Hr.out.there (by simp [HRZ.out])) (by simpa using HRI.out) (all_oneCell_toArray (wl_one R)) ?_)
    rw [hq5]
    exact ret_arr Tryz.results198 hr5.out _ rfl Tryz.underlying270 rfl HRI.out rfl ⟨by rw [HRE.out], HB5.out⟩
 case false =>
  have HPV := Lib.hid (show V1 = preB h n false from (HPR.out false).symm)
  have HVL := Lib.hid (show (preB h n false).length = 16 by rw [← HPV.out]; exact HLV.out)
  rw [HPV.out] at Hv
  clear HPV HPR HLV
  go_upto_region 9 with (fail)
  clear c14
  have HVI := Lib.hid (show (Tryz.prog.info? 288).map (·.size) = some (wlV (preB h n false)).length by rw [wlV_len, HVL.out]; exact info16)
  have HSA := Lib.hid (fun w => Stir_any (preB h n false) m HVL.out HM.out w)
  have HSL := Lib.hid (stirB_len (preB h n false) m)
  have HPE := Lib.hid (show mixB h (stirB (preB h n false) m) 8 = pressB h m n false from rfl)
  generalize stirB (preB h n false) m = S at *
  generalize preB h n false = V at *
  go_wp2_with (first | refine wpList_load_mid rfl 288 (.tmp 9) rfl (w.heap.size + 3) 0 rfl (wlV V) _ Hv.out.range Tryz.underlying288 rfl HVI.out ?_ | refine wpList_load_mid rfl 288 (.tmp 5) rfl (w.heap.size + 1) 0 rfl (wlV m) _ Hb.out.range Tryz.underlying288 rfl HIM.out ?_)
  refine (HSA.out w7).mono ?_
  rintro e w8 ⟨rfl, hb9⟩
  replace Ha := Lib.hid (Ha.out.up hb9)
  replace Hb := Lib.hid (Hb.out.up hb9)
  replace Hr := Lib.hid (Hr.out.up hb9)
  replace Hv := Lib.hid (Hv.out.up hb9)
  replace HB := hbu HB hb9
  replace HZS := sz HZS hb9.size
  clear hb9
  have HIS := Lib.hid (show (Tryz.prog.info? 288).map (·.size) = some (wlV S).length by rw [wlV_len, HSL.out, HVL.out]; exact info16)
  have HZS2 := Lib.hid (show (wlV (zw 16)).length = (wlV S).length by rw [wlV_len, wlV_len, HSL.out, HVL.out]; rfl)
  go_upto_region 10 with (refine wpList_store_new rfl 288 288 (.tmp 11) (.tmp 40) rfl (wlV (zw 16)) (wlV S) rfl rfl HIS.out HZS2.out (wl_one S) ?_)
  clear HVI HSA HIM HZS2 HIS Hv Hb
  obtain ⟨w9, hq9, hb9, hz9, Hs⟩ := new1 w8 288 (wlV S)
  rw [hq9]
  clear hq9
  replace Ha := Lib.hid (Ha.out.up hb9)
  replace Hr := Lib.hid (Hr.out.up hb9)
  replace HB := hbu HB hb9
  replace HZS := sz HZS hz9.out
  clear hb9 hz9
  rw [show wlV h = wlV (mixB h S 0) by rw [mixB_zero h S HH.out]] at Ha
  clear hz hz8
  have HK := Lib.hid (Kept.refl (fun q9 => q9 = w.heap.size) w9)
  go_wp2_with fail
  clear hq7 f7_v hq6 f6_v
  go_loopw [41] (fun c wr => ∃ k : Nat, k ≤ 8 ∧ c = .int .i64 k ∧ Hid (Bx wr w.heap.size 270 (wlV (mixB h S k))) ∧ Hid (Kept (fun q9 => q9 = w.heap.size) w9 wr)) (fun c _ => 8 - (intOf c).toNat)
  case atStart => exact ⟨0, by omega, rfl, Ha, HK⟩
  case round =>
   obtain ⟨k, hk, rfl, HQ, HK1⟩ := hrel
   clear HK
   have hg9 := HK1.out
   clear Ha
   replace Hr := Lib.hid (Bx.keptP (P := fun q9 => q9 = w.heap.size) Hr.out hg9 (show ¬ (w.heap.size + 2 = w.heap.size) by have g0 := HZS.out; omega))
   replace Hs := Lib.hid (Bx.keptP (P := fun q9 => q9 = w.heap.size) Hs.out hg9 (show ¬ (w8.heap.size = w.heap.size) by have g0 := HZS.out; omega))
   replace HB := Lib.hid (Below.keptP HB.out hg9 (by have g0 := HZS.out; omega) (fun q9 h9 => (show w.heap.size ≤ _ by subst h9; have g0 := HZS.out; omega)))
   replace HZS := sz HZS (show w9.heap.size ≤ wr.heap.size from hg9.size)
   clear hg9
   have Ha := HQ
   clear HQ
   have HAL := Lib.hid (mixB_len h S k)
   by_cases hk8 : k < 8
   ·have hs := mixB_succ h S k
    have c1 := wl_cell Ha.out k (by rw [HAL.out]; exact hk8)
    have e1 : (mixB h S k).getD k 0 = h.getD k 0 := by
     show ((mixB h S k)[k]?).getD 0 = _
     rw [List.getElem?_eq_getElem (by rw [HAL.out]; exact hk8)]
     exact (mixB_at h S k k (by rw [HAL.out]; exact hk8)).trans (if_neg (by omega))
    rw [e1] at c1
    have c2 := wl_cell Hs.out k (by rw [HSL.out, HVL.out]; omega)
    have c3 := wl_cell Hs.out (k + 8) (by rw [HSL.out, HVL.out]; omega)
    generalize h.getD k 0 = x at *
    generalize S.getD k 0 = y at *
    generalize S.getD (k + 8) 0 = z at *
    have g1 := bits_xor y z
    obtain ⟨yz, e2⟩ : ∃ u, y ^^^ z = u := ⟨_, rfl⟩
    rw [e2] at g1
    have g2 := bits_xor x yz
    obtain ⟨u, e3⟩ : ∃ u, x ^^^ yz = u := ⟨_, rfl⟩
    rw [e3] at g2
    rw [show x ^^^ y ^^^ z = u by rw [← e3, ← e2, BitVec.xor_assoc]] at hs
    have HSS := Lib.hid hs
    clear hs e1 e2 e3
    generalize mixB h S k = M at *
    go_wp2_with fail
    refine wp_region_otail 13 (by kernel_rfl) (by kernel_rfl) ?_
    simp only [List.take_succ_cons, List.take_zero, List.drop_succ_cons, List.drop_zero]
    have hov_w_heap_size := fun (E : Over wr) o => E.cell (b := w.heap.size) o Ha.out.lt
    have hov_w8_heap_size := fun (E : Over wr) o => E.cell (b := w8.heap.size) o Hs.out.lt
    repeat (go_big_quiet_step (first | fail))
    all_goals (try unfold elV limbV)
    repeat (go_big_quiet_step (first | fail))
    all_goals (try unfold elV limbV)
    repeat (go_big_quiet_step (first | fail))
    all_goals (try unfold ciphV)
    refine wpQuiet_nil ?_
    rintro _ ⟨E, rfl⟩
    clear hov_w_heap_size hov_w8_heap_size
    replace Hr := Lib.hid (Hr.out.up E.h)
    replace Hs := Lib.hid (Hs.out.up E.h)
    replace Ha := Lib.hid (Ha.out.up E.h)
    replace HK1 := Lib.hid (Kept.up HK1.out E.h)
    replace HB := hbu HB E.h
    replace HZS := sz HZS E.h.size
    obtain ⟨w10, hq9⟩ : ∃ W9 : World, E.w = W9 := ⟨_, rfl⟩
    rw [hq9] at Hr Hs Ha HK1 HB HZS ⊢
    clear hq9 E c1 c2 c3
    have c1 := Ha.out.cell (wlV_get M k (by rw [HAL.out]; exact hk8))
    have f11_a := Ha.out.frozen
    obtain ⟨w11, hq11, hg9, hz9, hx9⟩ := put1 Ha k (.int .u32 (u.toNat : Int)) _ rfl
    replace Hr := Lib.hid (Hr.out.grown hg9.out (sne (by have g0 := HZS.out; omega)))
    replace Hs := Lib.hid (Hs.out.grown hg9.out (sne (by have g0 := HZS.out; omega)))
    replace HK1 := Lib.hid (Kept.grown HK1.out hg9.out (fun q9 e9 => by obtain rfl := Option.some.inj e9; exact Or.inr (rfl)))
    replace HB := hbg HB hg9 (by have g0 := HZS.out; omega)
    replace HZS := sz HZS hz9.out
    replace Ha := hx9
    clear hx9 hg9 hz9
    replace Ha := Lib.hid Ha.out.wset
    go_wp2_with fail
    clear hq11 f11_a c1 g1 g2
    have HQ := Ha
    rw [← HSS.out] at HQ
    go_roundw
    case rel => exact ⟨k + 1, by omega, by go_num, HQ, HK1⟩
    case measure => simp [intOf]; omega
   ·have hk' : k = 8 := by omega
    subst hk'
    rw [HPE.out] at Ha
    have HR := Lib.hid (pressB_len h m n false)
    obtain ⟨R, hR⟩ : ∃ R, pressB h m n false = R := ⟨_, rfl⟩
    rw [hR] at Ha HR
    have HRE := Lib.hid hR
    clear hR
    have HRI := Lib.hid (show (Tryz.prog.info? 270).map (·.size) = some (wlV R).length by rw [wlV_len, HR.out]; exact info8)
    have HRZ := Lib.hid (show (wlV R).length = (wlV (zw 8)).length by rw [wlV_len, wlV_len, HR.out]; rfl)
    obtain ⟨w5, hq5, hg5, hz5, hr5⟩ := puts Hr 0 (wlV R) (wlV R) (putL_all _ _ HRZ.out)
    have HB5 := hbg HB hg5 (by omega)
    go_wp2_with (first | refine wpList_load_mid rfl 270 (.tmp 4) rfl w.heap.size 0 rfl (wlV R) _ Ha.out.range Tryz.underlying270 rfl HRI.out ?_ | refine wpList_store_mid rfl 270 (.tmp 8) (.tmp 58) rfl (w.heap.size + 2) 0 (wlV R).toArray rfl rfl (Hr.out.there (by simp [HRZ.out])) (by simpa using HRI.out) (all_oneCell_toArray (wl_one R)) ?_)
    rw [hq5]
    exact ret_arr Tryz.results198 hr5.out _ rfl Tryz.underlying270 rfl HRI.out rfl ⟨by rw [HRE.out], HB5.out⟩
end Go.Proofs.YtjmeakfjfpnciaaGreat
namespace Go.Proofs.YtjmeakfjfpnciaaGreat
open Go.RowKit
theorem rstart_any (w : World) : Calls Tryz.prog 204 #[] w fun e w' => e = .returned (.agg (wlV startV).toArray) ∧ Below w.heap.size w w' := by
 go_enter Tryz.func204, Tryz.ntmps204
 go_wp2_with fail
 obtain ⟨w1, hq1, hb9, hz9, Hr⟩ := new1 w 270 [.int .u32 1779033703, .int .u32 3144134277, .int .u32 1013904242, .int .u32 2773480762, .int .u32 1359893119, .int .u32 2600822924, .int .u32 528734635, .int .u32 1541459225]
 rw [hq1]
 clear hq1
 have HB := Lib.hid hb9
 have HZS := hz9
 clear hb9 hz9
 have r_ := Hr.out.c8
 simp [bodyPost, results, Tryz.results204, go_sem, r_]
 exact ⟨rfl, HB.out⟩
def cpB (h : WL) (k : Nat) : WL := (List.range 16).map fun j => if j < 8 then (if j < k then h.getD j 0 else 0) else if j - 8 < k then startV.getD (j - 8) 0 else 0
theorem cpB_len (h : WL) (k : Nat) : (cpB h k).length = 16 := by unfold cpB; simp
theorem cpB_at (h : WL) (k j : Nat) (hj : j < (cpB h k).length) : (cpB h k)[j] = if j < 8 then (if j < k then h.getD j 0 else 0) else if j - 8 < k then startV.getD (j - 8) 0 else 0 := by simp only [cpB, List.getElem_map, List.getElem_range]
theorem cpB_zero (h : WL) : cpB h 0 = zw 16 := by
 apply List.ext_getElem (by rw [cpB_len, zw_len])
 intro i h1 h2
 rw [cpB_at]
 simp only [Nat.not_lt_zero, if_false, ite_self, zw, List.getElem_replicate]
theorem cpB_succ (h : WL) (k : Nat) : cpB h (k + 1) = ((cpB h k).set k (h.getD k 0)).set (k + 8) (startV.getD k 0) ∨ 8 ≤ k := by
 by_cases hk : 8 ≤ k
 ·exact Or.inr hk
 ·left
  apply List.ext_getElem (by rw [List.length_set, List.length_set, cpB_len, cpB_len])
  intro i h1 h2
  rw [List.getElem_set, List.getElem_set, cpB_at, cpB_at]
  have h16 : i < 16 := by rwa [cpB_len] at h1
  by_cases e : k + 8 = i
  ·subst e; rw [if_pos rfl, if_neg (by omega), if_pos (by omega), show k + 8 - 8 = k by omega]
  ·rw [if_neg e]
   by_cases e2 : k = i
   ·subst e2; rw [if_pos rfl, if_pos (by omega), if_pos (by omega)]
   ·rw [if_neg e2]
    by_cases h8 : i < 8
    ·rw [if_pos h8, if_pos h8]
     by_cases hik : i < k
     ·rw [if_pos hik, if_pos (by omega)]
     ·rw [if_neg hik, if_neg (by omega)]
    ·rw [if_neg h8, if_neg h8]
     by_cases hik : i - 8 < k
     ·rw [if_pos hik, if_pos (by omega)]
     ·rw [if_neg hik, if_neg (by omega)]
theorem cpB_all (h : WL) (hh : h.length = 8) : cpB h 8 = h ++ startV := by
 apply List.ext_getElem (by rw [cpB_len, List.length_append, hh]; rfl)
 intro i h1 h2
 have h16 : i < 16 := by rwa [cpB_len] at h1
 rw [cpB_at]
 by_cases h8 : i < 8
 ·rw [if_pos h8, if_pos h8, List.getElem_append_left (by omega)]
  simp [List.getD, hh, h8]
 ·rw [if_neg h8, if_pos (by omega), List.getElem_append_right (by omega)]
  have : i - 8 < startV.length := by rw [startB_len]; omega
  simp [List.getD, hh, this]
theorem rPress_any (h m : WL) (hh : h.length = 8) (hm : m.length = 16) (n : Nat) (hn : n < 18446744073709551616) (last : Bool) (w : World) :
  Calls Tryz.prog 206 #[.agg (wlV h).toArray, .agg (wlV m).toArray, .int .u64 (n : Int), .bool last] w fun e w' => e = .returned (.agg (wlV (pressB h m n last)).toArray) ∧ Below w.heap.size w w' := by
 have HH := Lib.hid hh
 have HM := Lib.hid hm
 have HL8 := Lib.hid (show (wlV h).length = 8 by rw [wlV_len, hh])
 have HI8 := Lib.hid (show (Tryz.prog.info? 270).map (·.size) = some (wlV startV).length from info8)
 have HZ8 := Lib.hid (show (wlV (zw 8)).length = (wlV startV).length from rfl)
 have HIM := Lib.hid (show (Tryz.prog.info? 288).map (·.size) = some (wlV m).length by rw [wlV_len, hm]; exact info16)
 have hz : (#[.int .u32 0, .int .u32 0, .int .u32 0, .int .u32 0, .int .u32 0, .int .u32 0, .int .u32 0, .int .u32 0, .int .u32 0, .int .u32 0, .int .u32 0, .int .u32 0, .int .u32 0, .int .u32 0, .int .u32 0, .int .u32 0] : Array Value) = (wlV (zw 16)).toArray := rfl
 have hz8 : (#[.int .u32 0, .int .u32 0, .int .u32 0, .int .u32 0, .int .u32 0, .int .u32 0, .int .u32 0, .int .u32 0] : Array Value) = (wlV (zw 8)).toArray := rfl
 have hx12 := xor_lo n
 have hx13 := xor_hi n hn
 clear hh hm
 go_enter Tryz.func206, Tryz.ntmps206
 go_upto_region 2 with (fail)
 obtain ⟨w1, hq1, hb9, hz9, Ha, Hb, Hr, Hv⟩ := new4 w 270 (wlV h) 288 (wlV m) 270 (wlV (zw 8)) 288 (wlV (zw 16))
 rw [hq1]
 clear hq1
 have HB := Lib.hid hb9
 have HZS := hz9
 clear hb9 hz9
 go_wp2_with fail
 refine (rstart_any w1).mono ?_
 rintro e w2 ⟨rfl, hb9⟩
 replace Ha := Lib.hid (Ha.out.up hb9)
 replace Hb := Lib.hid (Hb.out.up hb9)
 replace Hr := Lib.hid (Hr.out.up hb9)
 replace Hv := Lib.hid (Hv.out.up hb9)
 replace HB := hbu HB hb9
 replace HZS := sz HZS hb9.size
 clear hb9
 go_upto_region 3 with (refine wpList_store_new rfl 270 270 (.tmp 10) (.tmp 14) rfl (wlV (zw 8)) (wlV startV) rfl rfl HI8.out HZ8.out (wl_one startV) ?_)
 obtain ⟨w3, hq3, hb9, hz9, Hs⟩ := new1 w2 270 (wlV startV)
 rw [hq3]
 clear hq3
 replace Ha := Lib.hid (Ha.out.up hb9)
 replace Hb := Lib.hid (Hb.out.up hb9)
 replace Hr := Lib.hid (Hr.out.up hb9)
 replace Hv := Lib.hid (Hv.out.up hb9)
 replace HB := hbu HB hb9
 replace HZS := sz HZS hz9.out
 clear hb9 hz9
 have HK := Lib.hid (Kept.refl (fun q9 => q9 = w.heap.size + 3) w3)
 rw [← cpB_zero h] at Hv
 have HB0 := HB
 have Ha0 := Ha
 have Hb0 := Hb
 have Hr0 := Hr
 have Hs0 := Hs
 have HBS := Lib.hid HB.out.size
 go_wp2_with fail
 go_loopw [11] (fun c wr => ∃ k : Nat, k ≤ 8 ∧ c = .int .i64 k ∧ Hid (Bx wr (w.heap.size + 3) 288 (wlV (cpB h k))) ∧ Hid (Kept (fun q9 => q9 = w.heap.size + 3) w3 wr)) (fun c _ => 8 - (intOf c).toNat)
 case atStart => exact ⟨0, by omega, rfl, Hv, HK⟩
 case round =>
  obtain ⟨k, hk, rfl, HQ, HK1⟩ := hrel
  clear HK
  have hg9 := HK1.out
  clear Hv
  replace Ha := Lib.hid (Bx.keptP (P := fun q9 => q9 = w.heap.size + 3) Ha.out hg9 (show ¬ (w.heap.size = w.heap.size + 3) by have g0 := HZS.out; omega))
  replace Hb := Lib.hid (Bx.keptP (P := fun q9 => q9 = w.heap.size + 3) Hb.out hg9 (show ¬ (w.heap.size + 1 = w.heap.size + 3) by have g0 := HZS.out; omega))
  replace Hr := Lib.hid (Bx.keptP (P := fun q9 => q9 = w.heap.size + 3) Hr.out hg9 (show ¬ (w.heap.size + 2 = w.heap.size + 3) by have g0 := HZS.out; omega))
  replace Hs := Lib.hid (Bx.keptP (P := fun q9 => q9 = w.heap.size + 3) Hs.out hg9 (show ¬ (w2.heap.size = w.heap.size + 3) by have g0 := HZS.out; omega))
  replace HB := Lib.hid (Below.keptP HB.out hg9 (by have g0 := HZS.out; omega) (fun q9 h9 => (show w.heap.size ≤ _ by subst h9; have g0 := HZS.out; omega)))
  replace HZS := sz HZS (show w3.heap.size ≤ wr.heap.size from hg9.size)
  clear hg9
  have Hv := HQ
  clear HQ
  have HCL := Lib.hid (cpB_len h k)
  by_cases hk8 : k < 8
  ·have HCS := Lib.hid ((cpB_succ h k).resolve_right (by omega))
   have c1 := wl_cell Ha.out k (by rw [HH.out]; exact hk8)
   have c2 := wl_cell Hs.out k (by rw [startB_len]; exact hk8)
   have c3 := Hv.out.cell (wlV_get (cpB h k) k (by rw [HCL.out]; omega))
   generalize h.getD k 0 = x at *
   obtain ⟨y, hy⟩ : ∃ y, startV.getD k 0 = y := ⟨_, rfl⟩
   have HY := Lib.hid hy
   rw [hy] at c2 HCS
   clear hy
   generalize cpB h k = V at *
   have f4_v := Hv.out.frozen
   obtain ⟨w4, hq4, hg9, hz9, hx9⟩ := put1 Hv k (.int .u32 (x.toNat : Int)) _ rfl
   replace Ha := Lib.hid (Ha.out.grown hg9.out (sne (by have g0 := HZS.out; omega)))
   replace Hb := Lib.hid (Hb.out.grown hg9.out (sne (by have g0 := HZS.out; omega)))
   replace Hr := Lib.hid (Hr.out.grown hg9.out (sne (by have g0 := HZS.out; omega)))
   replace Hs := Lib.hid (Hs.out.grown hg9.out (sne (by have g0 := HZS.out; omega)))
   replace HK1 := Lib.hid (Kept.grown HK1.out hg9.out (fun q9 e9 => by obtain rfl := Option.some.inj e9; exact Or.inr (rfl)))
   replace HB := hbg HB hg9 (by have g0 := HZS.out; omega)
   replace HZS := sz HZS hz9.out
   replace Hv := hx9
   clear hx9 hg9 hz9
   replace Hv := Lib.hid Hv.out.wset
   go_upto_region 7 with (fail)
   clear c1 c2 c3
   have c2 := wl_cell Hs.out k (by rw [startB_len]; exact hk8)
   rw [HY.out] at c2
   have HSL9 : (V.set k x).length = 16 := by rw [List.length_set]; exact HCL.out
   have c3 := Hv.out.cell (wlV_get (V.set k x) (k + 8) (by rw [HSL9]; omega))
   have f5_v := Hv.out.frozen
   obtain ⟨w5, hq5, hg9, hz9, hx9⟩ := put1 Hv (k + 8) (.int .u32 (y.toNat : Int)) _ rfl
   replace Ha := Lib.hid (Ha.out.grown hg9.out (sne (by have g0 := HZS.out; omega)))
   replace Hb := Lib.hid (Hb.out.grown hg9.out (sne (by have g0 := HZS.out; omega)))
   replace Hr := Lib.hid (Hr.out.grown hg9.out (sne (by have g0 := HZS.out; omega)))
   replace Hs := Lib.hid (Hs.out.grown hg9.out (sne (by have g0 := HZS.out; omega)))
   replace HK1 := Lib.hid (Kept.grown HK1.out hg9.out (fun q9 e9 => by obtain rfl := Option.some.inj e9; exact Or.inr (rfl)))
   replace HB := hbg HB hg9 (by have g0 := HZS.out; omega)
   replace HZS := sz HZS hz9.out
   replace Hv := hx9
   clear hx9 hg9 hz9
   replace Hv := Lib.hid Hv.out.wset
   have HQ := Hv
   rw [← HCS.out] at HQ
   go_wp2_with fail
   clear hq5 f5_v hq4 f4_v c2 c3
   exact ⟨⟨k + 1, by omega, by go_num, HQ, HK1⟩, by simp [intOf]; omega⟩
  ·have hk' : k = 8 := by omega
   subst hk'
   rw [cpB_all h HH.out] at Hv
   have hdk : decide ((8 : Int) < 8) = false := rfl
   go_upto_region 8 with (fail)
   clear Hs
   have c12 : wr.cell? ⟨w.heap.size + 3, 12, none⟩ = some (.int .u32 1359893119) := Hv.out.cell (by rw [show 12 = 8 + 4 from rfl, pre_cell h HH.out 4 (by decide)]; rfl)
   obtain ⟨z12, e12⟩ : ∃ z, startB.getD 4 0 ^^^ BitVec.ofNat 32 n = z := ⟨_, rfl⟩
   obtain ⟨z13, e13⟩ : ∃ z, startB.getD 5 0 ^^^ BitVec.ofNat 32 (n / 4294967296) = z := ⟨_, rfl⟩
   rw [e12] at hx12
   rw [e13] at hx13
   have HPR := Lib.hid (show ∀ b, preB h n b = if b then (((h ++ startV).set 12 z12).set 13 z13).set 14 (~~~ startB.getD 6 0) else ((h ++ startV).set 12 z12).set 13 z13 from fun b => by rw [← e12, ← e13]; rfl)
   clear e12 e13
   have f4_v := Hv.out.frozen
   obtain ⟨w4, hq4, hg9, hz9, hx9⟩ := put1 Hv 12 (.int .u32 (z12.toNat : Int)) _ rfl
   replace Ha := Lib.hid (Ha.out.grown hg9.out (sne (by have g0 := HZS.out; omega)))
   replace Hb := Lib.hid (Hb.out.grown hg9.out (sne (by have g0 := HZS.out; omega)))
   replace Hr := Lib.hid (Hr.out.grown hg9.out (sne (by have g0 := HZS.out; omega)))
   replace HK1 := Lib.hid (Kept.grown HK1.out hg9.out (fun q9 e9 => by obtain rfl := Option.some.inj e9; exact Or.inr (rfl)))
   replace HB := hbg HB hg9 (by have g0 := HZS.out; omega)
   replace HZS := sz HZS hz9.out
   replace Hv := hx9
   clear hx9 hg9 hz9
   replace Hv := Lib.hid Hv.out.wset
   go_upto_region 9 with (fail)
   clear c12
   have c13 : w4.cell? ⟨w.heap.size + 3, 13, none⟩ = some (.int .u32 2600822924) := Hv.out.cell (by rw [wl_ne _ _ _ _ (by decide), show 13 = 8 + 5 from rfl, pre_cell h HH.out 5 (by decide)]; rfl)
   have f5_v := Hv.out.frozen
   obtain ⟨w5, hq5, hg9, hz9, hx9⟩ := put1 Hv 13 (.int .u32 (z13.toNat : Int)) _ rfl
   replace Ha := Lib.hid (Ha.out.grown hg9.out (sne (by have g0 := HZS.out; omega)))
   replace Hb := Lib.hid (Hb.out.grown hg9.out (sne (by have g0 := HZS.out; omega)))
   replace Hr := Lib.hid (Hr.out.grown hg9.out (sne (by have g0 := HZS.out; omega)))
   replace HK1 := Lib.hid (Kept.grown HK1.out hg9.out (fun q9 e9 => by obtain rfl := Option.some.inj e9; exact Or.inr (rfl)))
   replace HB := hbg HB hg9 (by have g0 := HZS.out; omega)
   replace HZS := sz HZS hz9.out
   replace Hv := hx9
   clear hx9 hg9 hz9
   replace Hv := Lib.hid Hv.out.wset
   go_upto_region 10 with (fail)
   clear c13 hx12 hx13
   have HLV := Lib.hid (show (((h ++ startV).set 12 z12).set 13 z13).length = 16 by rw [List.length_set, List.length_set, List.length_append, HH.out]; rfl)
   have c14 : w5.cell? ⟨w.heap.size + 3, 14, none⟩ = some (.int .u32 528734635) := Hv.out.cell (by rw [wl_ne _ _ _ _ (by decide), wl_ne _ _ _ _ (by decide), show 14 = 8 + 6 from rfl, pre_cell h HH.out 6 (by decide)]; rfl)
   generalize ((h ++ startV).set 12 z12).set 13 z13 = V1 at *
   cases last
   case true =>
    obtain ⟨z14, e14⟩ : ∃ z, ~~~ startB.getD 6 0 = z := ⟨_, rfl⟩
    have HX14 := Lib.hid (show (z14.toNat : Int) = 3766232660 by rw [← e14]; rfl)
    rw [e14] at HPR
    clear e14
    have f6_v := Hv.out.frozen
    obtain ⟨w6, hq6, hg9, hz9, hx9⟩ := put1 Hv 14 (.int .u32 3766232660) _ rfl
    replace Ha := Lib.hid (Ha.out.grown hg9.out (sne (by have g0 := HZS.out; omega)))
    replace Hb := Lib.hid (Hb.out.grown hg9.out (sne (by have g0 := HZS.out; omega)))
    replace Hr := Lib.hid (Hr.out.grown hg9.out (sne (by have g0 := HZS.out; omega)))
    replace HK1 := Lib.hid (Kept.grown HK1.out hg9.out (fun q9 e9 => by obtain rfl := Option.some.inj e9; exact Or.inr (rfl)))
    replace HB := hbg HB hg9 (by have g0 := HZS.out; omega)
    replace HZS := sz HZS hz9.out
    replace Hv := hx9
    clear hx9 hg9 hz9
    replace Hv := Lib.hid (show Bx w6 (w.heap.size + 3) 288 (wlV (V1.set 14 z14)) from by rw [← wlV_set, HX14.out]; exact Hv.out)
    have HPV := Lib.hid (show V1.set 14 z14 = preB h n true from (HPR.out true).symm)
    have HVL := Lib.hid (show (preB h n true).length = 16 by rw [← HPV.out, List.length_set]; exact HLV.out)
    rw [HPV.out] at Hv
    clear HPV HPR HLV
    go_upto_region 12 with (fail)
    clear c14
    have HVI := Lib.hid (show (Tryz.prog.info? 288).map (·.size) = some (wlV (preB h n true)).length by rw [wlV_len, HVL.out]; exact info16)
    have HSA := Lib.hid (fun w => rStir_any (preB h n true) m HVL.out HM.out w)
    have HSL := Lib.hid (stirB_len (preB h n true) m)
    have HPE := Lib.hid (show mixB h (stirB (preB h n true) m) 8 = pressB h m n true from rfl)
    generalize stirB (preB h n true) m = S at *
    generalize preB h n true = V at *
    go_wp2_with (first | refine wpList_load_mid rfl 288 (.tmp 9) rfl (w.heap.size + 3) 0 rfl (wlV V) _ Hv.out.range Tryz.underlying288 rfl HVI.out ?_ | refine wpList_load_mid rfl 288 (.tmp 5) rfl (w.heap.size + 1) 0 rfl (wlV m) _ Hb.out.range Tryz.underlying288 rfl HIM.out ?_)
    refine (HSA.out w6).mono ?_
    rintro e w7 ⟨rfl, hb9⟩
    replace Ha := Lib.hid (Ha.out.up hb9)
    replace Hb := Lib.hid (Hb.out.up hb9)
    replace Hr := Lib.hid (Hr.out.up hb9)
    replace Hv := Lib.hid (Hv.out.up hb9)
    replace HK1 := Lib.hid (Kept.up HK1.out hb9)
    replace HB := hbu HB hb9
    replace HZS := sz HZS hb9.size
    clear hb9
    have HIS := Lib.hid (show (Tryz.prog.info? 288).map (·.size) = some (wlV S).length by rw [wlV_len, HSL.out, HVL.out]; exact info16)
    have HZS2 := Lib.hid (show (wlV (zw 16)).length = (wlV S).length by rw [wlV_len, wlV_len, HSL.out, HVL.out]; rfl)
    go_upto_region 13 with (refine wpList_store_new rfl 288 288 (.tmp 12) (.tmp 51) rfl (wlV (zw 16)) (wlV S) rfl rfl HIS.out HZS2.out (wl_one S) ?_)
    clear HVI HSA HIM HZS2 HIS Hv Hb
    obtain ⟨w8, hq8, hb9, hz9, Hs⟩ := new1 w7 288 (wlV S)
    rw [hq8]
    clear hq8
    replace Ha := Lib.hid (Ha.out.up hb9)
    replace Hr := Lib.hid (Hr.out.up hb9)
    replace HK1 := Lib.hid (Kept.up HK1.out hb9)
    replace HB := hbu HB hb9
    replace HZS := sz HZS hz9.out
    clear hb9 hz9
    rw [show wlV h = wlV (mixB h S 0) by rw [mixB_zero h S HH.out]] at Ha
    clear hz hz8
    have HK := Lib.hid (Kept.refl (fun q9 => q9 = w.heap.size) w8)
    go_wp2_with fail
    clear hq6 f6_v hq5 f5_v hq4 f4_v
    go_loopw [13] (fun c wr => ∃ k : Nat, k ≤ 8 ∧ c = .int .i64 k ∧ Hid (Bx wr w.heap.size 270 (wlV (mixB h S k))) ∧ Hid (Kept (fun q9 => q9 = w.heap.size) w8 wr)) (fun c _ => 8 - (intOf c).toNat)
    case atStart => exact ⟨0, by omega, rfl, Ha, HK⟩
    case round =>
     obtain ⟨k, hk, rfl, HQ, HK1⟩ := hrel
     clear HK
     have hg9 := HK1.out
     clear Ha
     replace Hr := Lib.hid (Bx.keptP (P := fun q9 => q9 = w.heap.size) Hr.out hg9 (show ¬ (w.heap.size + 2 = w.heap.size) by have g0 := HZS.out; omega))
     replace Hs := Lib.hid (Bx.keptP (P := fun q9 => q9 = w.heap.size) Hs.out hg9 (show ¬ (w7.heap.size = w.heap.size) by have g0 := HZS.out; omega))
     replace HB := Lib.hid (Below.keptP HB.out hg9 (by have g0 := HZS.out; omega) (fun q9 h9 => (show w.heap.size ≤ _ by subst h9; have g0 := HZS.out; omega)))
     replace HZS := sz HZS (show w8.heap.size ≤ wr.heap.size from hg9.size)
     clear hg9
     have Ha := HQ
     clear HQ
     have HAL := Lib.hid (mixB_len h S k)
     by_cases hk8 : k < 8
     ·have hs := mixB_succ h S k
      have c1 := wl_cell Ha.out k (by rw [HAL.out]; exact hk8)
      have e1 : (mixB h S k).getD k 0 = h.getD k 0 := by
       show ((mixB h S k)[k]?).getD 0 = _
       rw [List.getElem?_eq_getElem (by rw [HAL.out]; exact hk8)]
       exact (mixB_at h S k k (by rw [HAL.out]; exact hk8)).trans (if_neg (by omega))
      rw [e1] at c1
      have c2 := wl_cell Hs.out k (by rw [HSL.out, HVL.out]; omega)
      have c3 := wl_cell Hs.out (k + 8) (by rw [HSL.out, HVL.out]; omega)
      generalize h.getD k 0 = x at *
      generalize S.getD k 0 = y at *
      generalize S.getD (k + 8) 0 = z at *
      have g1 := bits_xor x y
      obtain ⟨yz, e2⟩ : ∃ u, x ^^^ y = u := ⟨_, rfl⟩
      rw [e2] at g1
      have g2 := bits_xor yz z
      obtain ⟨u, e3⟩ : ∃ u, yz ^^^ z = u := ⟨_, rfl⟩
      rw [e3] at g2
      rw [show x ^^^ y ^^^ z = u by rw [← e3, ← e2]] at hs
      have HSS := Lib.hid hs
      clear hs e1 e2 e3
      generalize mixB h S k = M at *
      go_wp2_with fail
      refine wp_region_otail 14 (by kernel_rfl) (by kernel_rfl) ?_
      simp only [List.take_succ_cons, List.take_zero, List.drop_succ_cons, List.drop_zero]
      have hov_w_heap_size := fun (E : Over wr) o => E.cell (b := w.heap.size) o Ha.out.lt
      have hov_w7_heap_size := fun (E : Over wr) o => E.cell (b := w7.heap.size) o Hs.out.lt
      repeat (go_big_quiet_step (first | fail))
      all_goals (try unfold elV limbV)
      repeat (go_big_quiet_step (first | fail))
      all_goals (try unfold elV limbV)
      repeat (go_big_quiet_step (first | fail))
      all_goals (try unfold ciphV)
      refine wpQuiet_nil ?_
      rintro _ ⟨E, rfl⟩
      clear hov_w_heap_size hov_w7_heap_size
      replace Hr := Lib.hid (Hr.out.up E.h)
      replace Hs := Lib.hid (Hs.out.up E.h)
      replace Ha := Lib.hid (Ha.out.up E.h)
      replace HK1 := Lib.hid (Kept.up HK1.out E.h)
      replace HB := hbu HB E.h
      replace HZS := sz HZS E.h.size
      obtain ⟨w9, hq9⟩ : ∃ W9 : World, E.w = W9 := ⟨_, rfl⟩
      rw [hq9] at Hr Hs Ha HK1 HB HZS ⊢
      clear hq9 E c1 c2 c3
      have c1 := Ha.out.cell (wlV_get M k (by rw [HAL.out]; exact hk8))
      have f10_a := Ha.out.frozen
      obtain ⟨w10, hq10, hg9, hz9, hx9⟩ := put1 Ha k (.int .u32 (u.toNat : Int)) _ rfl
      replace Hr := Lib.hid (Hr.out.grown hg9.out (sne (by have g0 := HZS.out; omega)))
      replace Hs := Lib.hid (Hs.out.grown hg9.out (sne (by have g0 := HZS.out; omega)))
      replace HK1 := Lib.hid (Kept.grown HK1.out hg9.out (fun q9 e9 => by obtain rfl := Option.some.inj e9; exact Or.inr (rfl)))
      replace HB := hbg HB hg9 (by have g0 := HZS.out; omega)
      replace HZS := sz HZS hz9.out
      replace Ha := hx9
      clear hx9 hg9 hz9
      replace Ha := Lib.hid Ha.out.wset
      go_wp2_with fail
      clear hq10 f10_a c1 g1 g2
      have HQ := Ha
      rw [← HSS.out] at HQ
      exact ⟨⟨k + 1, by omega, by go_num, HQ, HK1⟩, by simp [intOf]; omega⟩
     ·have hk' : k = 8 := by omega
      subst hk'
      rw [HPE.out] at Ha
      have HR := Lib.hid (pressB_len h m n true)
      obtain ⟨R, hR⟩ : ∃ R, pressB h m n true = R := ⟨_, rfl⟩
      rw [hR] at Ha HR
      have HRE := Lib.hid hR
      clear hR
      have HRI := Lib.hid (show (Tryz.prog.info? 270).map (·.size) = some (wlV R).length by rw [wlV_len, HR.out]; exact info8)
      have HRZ := Lib.hid (show (wlV R).length = (wlV (zw 8)).length by rw [wlV_len, wlV_len, HR.out]; rfl)
      obtain ⟨w5, hq5, hg5, hz5, hr5⟩ := puts Hr 0 (wlV R) (wlV R) (putL_all _ _ HRZ.out)
      have HB5 := hbg HB hg5 (by omega)
      go_wp2_with (first | refine wpList_load_mid rfl 270 (.tmp 4) rfl w.heap.size 0 rfl (wlV R) _ Ha.out.range Tryz.underlying270 rfl HRI.out ?_ | refine wpList_store_mid rfl 270 (.tmp 8) (.tmp 70) rfl (w.heap.size + 2) 0 (wlV R).toArray rfl rfl (Hr.out.there (by simp [HRZ.out])) (by simpa using HRI.out) (all_oneCell_toArray (wl_one R)) ?_)
      rw [hq5]
      exact ret_arr Tryz.results206 hr5.out _ rfl Tryz.underlying270 rfl HRI.out rfl ⟨by rw [HRE.out], HB5.out⟩
   case false =>
    have HPV := Lib.hid (show V1 = preB h n false from (HPR.out false).symm)
    have HVL := Lib.hid (show (preB h n false).length = 16 by rw [← HPV.out]; exact HLV.out)
    rw [HPV.out] at Hv
    clear HPV HPR HLV
    go_upto_region 12 with (fail)
    clear c14
    have HVI := Lib.hid (show (Tryz.prog.info? 288).map (·.size) = some (wlV (preB h n false)).length by rw [wlV_len, HVL.out]; exact info16)
    have HSA := Lib.hid (fun w => rStir_any (preB h n false) m HVL.out HM.out w)
    have HSL := Lib.hid (stirB_len (preB h n false) m)
    have HPE := Lib.hid (show mixB h (stirB (preB h n false) m) 8 = pressB h m n false from rfl)
    generalize stirB (preB h n false) m = S at *
    generalize preB h n false = V at *
    go_wp2_with (first | refine wpList_load_mid rfl 288 (.tmp 9) rfl (w.heap.size + 3) 0 rfl (wlV V) _ Hv.out.range Tryz.underlying288 rfl HVI.out ?_ | refine wpList_load_mid rfl 288 (.tmp 5) rfl (w.heap.size + 1) 0 rfl (wlV m) _ Hb.out.range Tryz.underlying288 rfl HIM.out ?_)
    refine (HSA.out w5).mono ?_
    rintro e w6 ⟨rfl, hb9⟩
    replace Ha := Lib.hid (Ha.out.up hb9)
    replace Hb := Lib.hid (Hb.out.up hb9)
    replace Hr := Lib.hid (Hr.out.up hb9)
    replace Hv := Lib.hid (Hv.out.up hb9)
    replace HK1 := Lib.hid (Kept.up HK1.out hb9)
    replace HB := hbu HB hb9
    replace HZS := sz HZS hb9.size
    clear hb9
    have HIS := Lib.hid (show (Tryz.prog.info? 288).map (·.size) = some (wlV S).length by rw [wlV_len, HSL.out, HVL.out]; exact info16)
    have HZS2 := Lib.hid (show (wlV (zw 16)).length = (wlV S).length by rw [wlV_len, wlV_len, HSL.out, HVL.out]; rfl)
    go_upto_region 13 with (refine wpList_store_new rfl 288 288 (.tmp 12) (.tmp 51) rfl (wlV (zw 16)) (wlV S) rfl rfl HIS.out HZS2.out (wl_one S) ?_)
    clear HVI HSA HIM HZS2 HIS Hv Hb
    obtain ⟨w7, hq7, hb9, hz9, Hs⟩ := new1 w6 288 (wlV S)
    rw [hq7]
    clear hq7
    replace Ha := Lib.hid (Ha.out.up hb9)
    replace Hr := Lib.hid (Hr.out.up hb9)
    replace HK1 := Lib.hid (Kept.up HK1.out hb9)
    replace HB := hbu HB hb9
    replace HZS := sz HZS hz9.out
    clear hb9 hz9
    rw [show wlV h = wlV (mixB h S 0) by rw [mixB_zero h S HH.out]] at Ha
    clear hz hz8
    have HK := Lib.hid (Kept.refl (fun q9 => q9 = w.heap.size) w7)
    go_wp2_with fail
    clear hq5 f5_v hq4 f4_v
    go_loopw [13] (fun c wr => ∃ k : Nat, k ≤ 8 ∧ c = .int .i64 k ∧ Hid (Bx wr w.heap.size 270 (wlV (mixB h S k))) ∧ Hid (Kept (fun q9 => q9 = w.heap.size) w7 wr)) (fun c _ => 8 - (intOf c).toNat)
    case atStart => exact ⟨0, by omega, rfl, Ha, HK⟩
    case round =>
     obtain ⟨k, hk, rfl, HQ, HK1⟩ := hrel
     clear HK
     have hg9 := HK1.out
     clear Ha
     replace Hr := Lib.hid (Bx.keptP (P := fun q9 => q9 = w.heap.size) Hr.out hg9 (show ¬ (w.heap.size + 2 = w.heap.size) by have g0 := HZS.out; omega))
     replace Hs := Lib.hid (Bx.keptP (P := fun q9 => q9 = w.heap.size) Hs.out hg9 (show ¬ (w6.heap.size = w.heap.size) by have g0 := HZS.out; omega))
     replace HB := Lib.hid (Below.keptP HB.out hg9 (by have g0 := HZS.out; omega) (fun q9 h9 => (show w.heap.size ≤ _ by subst h9; have g0 := HZS.out; omega)))
     replace HZS := sz HZS (show w7.heap.size ≤ wr.heap.size from hg9.size)
     clear hg9
     have Ha := HQ
     clear HQ
     have HAL := Lib.hid (mixB_len h S k)
     by_cases hk8 : k < 8
     ·have hs := mixB_succ h S k
      have c1 := wl_cell Ha.out k (by rw [HAL.out]; exact hk8)
      have e1 : (mixB h S k).getD k 0 = h.getD k 0 := by
       show ((mixB h S k)[k]?).getD 0 = _
       rw [List.getElem?_eq_getElem (by rw [HAL.out]; exact hk8)]
       exact (mixB_at h S k k (by rw [HAL.out]; exact hk8)).trans (if_neg (by omega))
      rw [e1] at c1
      have c2 := wl_cell Hs.out k (by rw [HSL.out, HVL.out]; omega)
      have c3 := wl_cell Hs.out (k + 8) (by rw [HSL.out, HVL.out]; omega)
      generalize h.getD k 0 = x at *
      generalize S.getD k 0 = y at *
      generalize S.getD (k + 8) 0 = z at *
      have g1 := bits_xor x y
      obtain ⟨yz, e2⟩ : ∃ u, x ^^^ y = u := ⟨_, rfl⟩
      rw [e2] at g1
      have g2 := bits_xor yz z
      obtain ⟨u, e3⟩ : ∃ u, yz ^^^ z = u := ⟨_, rfl⟩
      rw [e3] at g2
      rw [show x ^^^ y ^^^ z = u by rw [← e3, ← e2]] at hs
      have HSS := Lib.hid hs
      clear hs e1 e2 e3
      generalize mixB h S k = M at *
      go_wp2_with fail
      refine wp_region_otail 14 (by kernel_rfl) (by kernel_rfl) ?_
      simp only [List.take_succ_cons, List.take_zero, List.drop_succ_cons, List.drop_zero]
      have hov_w_heap_size := fun (E : Over wr) o => E.cell (b := w.heap.size) o Ha.out.lt
      have hov_w6_heap_size := fun (E : Over wr) o => E.cell (b := w6.heap.size) o Hs.out.lt
      repeat (go_big_quiet_step (first | fail))
      all_goals (try unfold elV limbV)
      repeat (go_big_quiet_step (first | fail))
      all_goals (try unfold elV limbV)
      repeat (go_big_quiet_step (first | fail))
      all_goals (try unfold ciphV)
      refine wpQuiet_nil ?_
      rintro _ ⟨E, rfl⟩
      clear hov_w_heap_size hov_w6_heap_size
      replace Hr := Lib.hid (Hr.out.up E.h)
      replace Hs := Lib.hid (Hs.out.up E.h)
      replace Ha := Lib.hid (Ha.out.up E.h)
      replace HK1 := Lib.hid (Kept.up HK1.out E.h)
      replace HB := hbu HB E.h
      replace HZS := sz HZS E.h.size
      obtain ⟨w8, hq9⟩ : ∃ W9 : World, E.w = W9 := ⟨_, rfl⟩
      rw [hq9] at Hr Hs Ha HK1 HB HZS ⊢
      clear hq9 E c1 c2 c3
      have c1 := Ha.out.cell (wlV_get M k (by rw [HAL.out]; exact hk8))
      have f9_a := Ha.out.frozen
      obtain ⟨w9, hq9, hg9, hz9, hx9⟩ := put1 Ha k (.int .u32 (u.toNat : Int)) _ rfl
      replace Hr := Lib.hid (Hr.out.grown hg9.out (sne (by have g0 := HZS.out; omega)))
      replace Hs := Lib.hid (Hs.out.grown hg9.out (sne (by have g0 := HZS.out; omega)))
      replace HK1 := Lib.hid (Kept.grown HK1.out hg9.out (fun q9 e9 => by obtain rfl := Option.some.inj e9; exact Or.inr (rfl)))
      replace HB := hbg HB hg9 (by have g0 := HZS.out; omega)
      replace HZS := sz HZS hz9.out
      replace Ha := hx9
      clear hx9 hg9 hz9
      replace Ha := Lib.hid Ha.out.wset
      go_wp2_with fail
      clear hq9 f9_a c1 g1 g2
      have HQ := Ha
      rw [← HSS.out] at HQ
      exact ⟨⟨k + 1, by omega, by go_num, HQ, HK1⟩, by simp [intOf]; omega⟩
     ·have hk' : k = 8 := by omega
      subst hk'
      rw [HPE.out] at Ha
      have HR := Lib.hid (pressB_len h m n false)
      obtain ⟨R, hR⟩ : ∃ R, pressB h m n false = R := ⟨_, rfl⟩
      rw [hR] at Ha HR
      have HRE := Lib.hid hR
      clear hR
      have HRI := Lib.hid (show (Tryz.prog.info? 270).map (·.size) = some (wlV R).length by rw [wlV_len, HR.out]; exact info8)
      have HRZ := Lib.hid (show (wlV R).length = (wlV (zw 8)).length by rw [wlV_len, wlV_len, HR.out]; rfl)
      obtain ⟨w5, hq5, hg5, hz5, hr5⟩ := puts Hr 0 (wlV R) (wlV R) (putL_all _ _ HRZ.out)
      have HB5 := hbg HB hg5 (by omega)
      go_wp2_with (first | refine wpList_load_mid rfl 270 (.tmp 4) rfl w.heap.size 0 rfl (wlV R) _ Ha.out.range Tryz.underlying270 rfl HRI.out ?_ | refine wpList_store_mid rfl 270 (.tmp 8) (.tmp 70) rfl (w.heap.size + 2) 0 (wlV R).toArray rfl rfl (Hr.out.there (by simp [HRZ.out])) (by simpa using HRI.out) (all_oneCell_toArray (wl_one R)) ?_)
      rw [hq5]
      exact ret_arr Tryz.results206 hr5.out _ rfl Tryz.underlying270 rfl HRI.out rfl ⟨by rw [HRE.out], HB5.out⟩
end Go.Proofs.YtjmeakfjfpnciaaGreat
namespace Go.Proofs.YtjmeakfjfpnciaaGreat
open Go.RowKit Go.Lib
def foldC (h : WL) (n : Nat) (hb : List UInt8) (k : Nat) : List Value := wlV h ++ ([.int .u64 (n : Int)] ++ (byteCells hb ++ [.int .i64 (k : Int)]))
section
variable {h : WL} {n k : Nat} {hb : List UInt8}
theorem foldC_len (hh : h.length = 8) (hl : hb.length = 64) : (foldC h n hb k).length = 74 := by
 unfold foldC; simp [wlV_len, hh, hl, byteCells_length]
theorem foldC_n (hh : h.length = 8) : (foldC h n hb k)[8]? = some (.int .u64 (n : Int)) := by
 unfold foldC
 rw [List.getElem?_append_right (by rw [wlV_len, hh]; exact Nat.le_refl _), wlV_len, hh]
 rfl
theorem foldC_k (hh : h.length = 8) (hl : hb.length = 64) : (foldC h n hb k)[73]? = some (.int .i64 (k : Int)) := by
 unfold foldC
 rw [List.getElem?_append_right (by rw [wlV_len, hh]; decide), wlV_len, hh, List.getElem?_append_right (by simp), List.getElem?_append_right (by rw [byteCells_length, hl]; simp), byteCells_length, hl]
 rfl
theorem foldC_setn (hh : h.length = 8) (m : Nat) : (foldC h n hb k).set 8 (.int .u64 (m : Int)) = foldC h m hb k := by
 unfold foldC
 rw [List.set_append_right _ _ (by rw [wlV_len, hh]; exact Nat.le_refl _), wlV_len, hh]
 rfl
theorem foldC_setk (hh : h.length = 8) (hl : hb.length = 64) (m : Nat) : (foldC h n hb k).set 73 (.int .i64 (m : Int)) = foldC h n hb m := by
 unfold foldC
 rw [List.set_append_right _ _ (by rw [wlV_len, hh]; decide), wlV_len, hh, List.set_append_right _ _ (by simp), List.set_append_right _ _ (by rw [byteCells_length, hl]; simp), byteCells_length, hl]
 rfl
theorem foldC_puth (hh : h.length = 8) (h' : WL) (hh' : h'.length = 8) : putL (foldC h n hb k) 0 (wlV h') = foldC h' n hb k := by
 rw [putL_eq _ _ _ (by unfold foldC; simp [wlV_len, hh, hh']), List.take_zero, List.nil_append, wlV_len, hh', Nat.zero_add]
 unfold foldC
 rw [List.drop_append_of_le_length (by rw [wlV_len, hh]; exact Nat.le_refl _), List.drop_eq_nil_of_le (by rw [wlV_len, hh]; exact Nat.le_refl _), List.nil_append]
theorem byteCells_app (a b : List UInt8) : byteCells (a ++ b) = byteCells a ++ byteCells b := by unfold byteCells; rw [List.map_append]
theorem byteCells_take (a : List UInt8) (j : Nat) : byteCells (a.take j) = (byteCells a).take j := by unfold byteCells; rw [List.map_take]
theorem byteCells_drop (a : List UInt8) (j : Nat) : byteCells (a.drop j) = (byteCells a).drop j := by unfold byteCells; rw [List.map_drop]
theorem foldC_putb (hh : h.length = 8) (hl : hb.length = 64) (j : Nat) (t : List UInt8) (ht : j + t.length ≤ 64) : putL (foldC h n hb k) (9 + j) (byteCells t) = foldC h n (hb.take j ++ t ++ hb.drop (j + t.length)) k := by
 have hw : (wlV h).length = 8 := by rw [wlV_len, hh]
 have hc : (byteCells hb).length = 64 := by rw [byteCells_length, hl]
 rw [putL_eq _ _ _ (by rw [foldC_len hh hl, byteCells_length]; omega), byteCells_length]
 unfold foldC
 rw [byteCells_app, byteCells_app, byteCells_take, byteCells_drop]
 generalize wlV h = H at *
 generalize byteCells hb = X at *
 generalize byteCells t = Y at *
 have e1 : (H ++ ([Value.int .u64 (n : Int)] ++ (X ++ [Value.int .i64 (k : Int)]))).take (9 + j) = H ++ ([.int .u64 (n : Int)] ++ X.take j) := by
  rw [List.take_append, List.take_of_length_le (by omega), hw, show 9 + j - 8 = j + 1 by omega, List.take_append, List.take_of_length_le (by simp), List.length_singleton, show j + 1 - 1 = j by omega, List.take_append_of_le_length (by omega)]
 have e2 : (H ++ ([Value.int .u64 (n : Int)] ++ (X ++ [Value.int .i64 (k : Int)]))).drop (9 + j + t.length) = X.drop (j + t.length) ++ [Value.int .i64 (k : Int)] := by
  rw [List.drop_append, List.drop_eq_nil_of_le (by omega), List.nil_append, hw, show 9 + j + t.length - 8 = j + t.length + 1 by omega, List.drop_append, List.drop_eq_nil_of_le (by simp), List.nil_append, List.length_singleton, show j + t.length + 1 - 1 = j + t.length by omega, List.drop_append_of_le_length (by omega)]
 rw [e1, e2]
 simp
theorem foldC_h {W : World} {b : Nat} {t : TypeId} (hx : Bx W b t (foldC h n hb k)) : W.rangeAt b 0 (wlV h) := hx.part (as1 := []) rfl
theorem foldC_b {W : World} {b : Nat} {t : TypeId} (hh : h.length = 8) (hx : Bx W b t (foldC h n hb k)) : W.rangeAt b 9 (byteCells hb) :=
 Bx.part (as1 := wlV h ++ [.int .u64 (n : Int)]) (bs := [.int .i64 (k : Int)]) (by unfold foldC at hx; simpa using hx) (by simp [wlV_len, hh])
end
def FoldAt (W : World) (b : Nat) (s : List UInt8) : Prop := ∃ h n hb k, Bx W b 273 (foldC h n hb k) ∧ h.length = 8 ∧ Fold s h n hb k ∧ (s = [] ∨ 0 < k)
end Go.Proofs.YtjmeakfjfpnciaaGreat
namespace Go.Proofs.YtjmeakfjfpnciaaGreat
open Go.RowKit Go.Lib
theorem info64 : (Tryz.prog.info? 271).map (·.size) = some 64 := by kernel_rfl
theorem infoB : (Tryz.prog.info? 5).map (·.size) = some 1 := by kernel_rfl
theorem byte_cell (l : List UInt8) (i : Nat) (h : i < l.length) : (byteCells l)[i]? = some (.int .u8 ((l.getD i 0).toNat : Int)) := by unfold byteCells; simp [List.getD, h]
theorem word_or (l : List UInt8) (k : Nat) (h64 : k < 64) : bits BinOp.or IntKind.u32 ((((wordsB l k).getD (k / 4) 0).toNat : Nat) : Int) (((l.getD k 0).toNat * 256 ^ (k % 4) : Nat) : Int) = (((wordsB l k).getD (k / 4) 0 + BitVec.ofNat 32 ((l.getD k 0).toNat * 256 ^ (k % 4))).toNat : Int) := by
 rw [wordsB_get _ _ _ (by omega)]
 have hb := (l.getD k 0).toNat_lt
 have hr : k % 4 = 0 ∨ k % 4 = 1 ∨ k % 4 = 2 ∨ k % 4 = 3 := by omega
 have h0 := byteW_lt l k (4 * (k / 4))
 have h1 := byteW_lt l k (4 * (k / 4) + 1)
 have h2 := byteW_lt l k (4 * (k / 4) + 2)
 have hz : ∀ j, k ≤ j → byteW l k j = 0 := fun j hj => by unfold byteW; rw [if_neg (by omega)]
 have hlt : (wordB l k (k / 4)).toNat < 256 ^ (k % 4) := by
  unfold wordB
  rw [BitVec.toNat_ofNat]
  rcases hr with hr | hr | hr | hr
  ·rw [hr, hz _ (by omega), hz _ (by omega), hz _ (by omega), hz _ (by omega)]; decide
  ·rw [hr, hz (4 * (k / 4) + 1) (by omega), hz (4 * (k / 4) + 2) (by omega), hz (4 * (k / 4) + 3) (by omega)]
   simp only [Nat.reducePow]; omega
  ·rw [hr, hz (4 * (k / 4) + 2) (by omega), hz (4 * (k / 4) + 3) (by omega)]
   simp only [Nat.reducePow]; omega
  ·rw [hr, hz (4 * (k / 4) + 3) (by omega)]
   simp only [Nat.reducePow]; omega
 generalize wordB l k (k / 4) = W at *
 generalize (l.getD k 0).toNat = c at *
 have hc : c * 256 ^ (k % 4) < 4294967296 := by rcases hr with hr | hr | hr | hr <;> rw [hr] <;> simp only [Nat.reducePow] <;> omega
 have hW := W.isLt
 rw [bits_or _ _ hW hc, BitVec.toNat_add, BitVec.toNat_ofNat, Nat.mod_eq_of_lt hc]
 have e : W.toNat ||| c * 256 ^ (k % 4) = W.toNat + c * 256 ^ (k % 4) := by
  rw [show 256 ^ (k % 4) = 2 ^ (8 * (k % 4)) by rw [Nat.pow_mul], Nat.or_comm, ← Nat.shiftLeft_eq, ← Nat.shiftLeft_add_eq_or_of_lt (by rwa [Nat.pow_mul]), Nat.add_comm]
 rw [e, Nat.mod_eq_of_lt (a := W.toNat + c * 256 ^ (k % 4))]
 rcases hr with hr | hr | hr | hr <;> rw [hr] at hlt ⊢ <;> simp only [Nat.reducePow] at * <;> omega
theorem word_or2 (l : List UInt8) (k : Nat) (h64 : k < 64) : bits BinOp.or IntKind.u32 (((wordsB l k).getD (k / 4) 0).toNat : Int) (((l.getD k 0).toNat : Int) * 2 ^ (8 * (k % 4)) % 4294967296) = (((wordsB l k).getD (k / 4) 0 + BitVec.ofNat 32 ((l.getD k 0).toNat * 256 ^ (k % 4))).toNat : Int) := by
 rw [← word_or l k h64]
 congr 1
 have hb := (l.getD k 0).toNat_lt
 have hr : k % 4 = 0 ∨ k % 4 = 1 ∨ k % 4 = 2 ∨ k % 4 = 3 := by omega
 generalize (l.getD k 0).toNat = c at *
 rcases hr with hr | hr | hr | hr <;> rw [hr] <;> simp <;> omega
theorem words_any (h : WL) (n : Nat) (hb : List UInt8) (k : Nat) (hh : h.length = 8) (hl : hb.length = 64) (b : Nat) (w : World) (hx : Bx w b 273 (foldC h n hb k)) :
  Calls Tryz.prog 199 #[.pointer (some ⟨b, 0, none⟩)] w fun e w' => e = .returned (.agg (wlV (wordsB hb 64)).toArray) ∧ Below w.heap.size w w' := by
 have HL := Lib.hid hl
 have HI := Lib.hid (show (Tryz.prog.info? 271).map (·.size) = some (byteCells hb).length by rw [byteCells_length, hl]; exact info64)
 have hz : (#[.int .u32 0, .int .u32 0, .int .u32 0, .int .u32 0, .int .u32 0, .int .u32 0, .int .u32 0, .int .u32 0, .int .u32 0, .int .u32 0, .int .u32 0, .int .u32 0, .int .u32 0, .int .u32 0, .int .u32 0, .int .u32 0] : Array Value) = (wlV (wordsB hb 0)).toArray := by rw [wordsB_zero]; rfl
 have HH := Lib.hid hh
 have Hf := Lib.hid hx
 clear hl hh hx
 go_enter Tryz.func199, Tryz.ntmps199
 go_upto_region 1 with (fail)
 obtain ⟨w1, hq1, hb9, hz9, Hr⟩ := new1 w 288 (wlV (wordsB hb 0))
 rw [hq1]
 clear hq1
 replace Hf := Lib.hid (Hf.out.up hb9)
 have HB := Lib.hid hb9
 have HZS := hz9
 clear hb9 hz9
 go_wp2_with (refine wpList_load_mid rfl 271 (.tmp 7) rfl b 9 rfl (byteCells hb) _ (foldC_b HH.out Hf.out) Tryz.underlying271 rfl HI.out ?_)
 clear hz HI Hf
 have HK := Lib.hid (Kept.refl (fun q9 => q9 = w.heap.size) w1)
 go_loopw [9] (fun c wr => ∃ j : Nat, j ≤ 64 ∧ c = .int .i64 j ∧ Hid (Bx wr w.heap.size 288 (wlV (wordsB hb j))) ∧ Hid (Below w.heap.size w wr)) (fun c _ => 64 - (RowKit.intOf c).toNat)
 case atStart => exact ⟨0, by omega, rfl, Hr, HB⟩
 case round =>
  obtain ⟨j, hj, rfl, HQ, HB2⟩ := hrel
  clear HK HB Hr
  have HB := HB2
  have Hr := HQ
  clear HB2 HQ
  have HWL := Lib.hid (wordsB_len hb j)
  by_cases hj6 : j < 64
  ·have hix := fun W => run_index_arr (P := Tryz.prog) W 271 5 .u8 64 (byteCells hb) j _ (byte_cell hb j (by rw [HL.out]; exact hj6)) Tryz.underlying271 (by rw [byteCells_length, HL.out]) infoB Tryz.underlying5
   have hs := wordsB_succ hb j hj6
   have ho := word_or2 hb j hj6
   have c1 := wl_cell Hr.out (j / 4) (by rw [HWL.out]; omega)
   have a1 : (0 : Int) ≤ ((j / 4 : Nat) : Int) := by omega
   have a2 : ((j / 4 : Nat) : Int) < 16 := by omega
   obtain ⟨Z, hZ⟩ : ∃ Z, (wordsB hb j).getD (j / 4) 0 + BitVec.ofNat 32 ((hb.getD j 0).toNat * 256 ^ (j % 4)) = Z := ⟨_, rfl⟩
   rw [hZ] at ho hs
   have HS := Lib.hid hs
   clear hs hZ
   generalize hb.getD j 0 = cb at *
   generalize (wordsB hb j).getD (j / 4) 0 = X at *
   have hcb := cb.toNat_lt
   have a3 : (0 : Int) ≤ 8 * ((j : Int) % 4) := by omega
   have a4 : 8 * ((j : Int) % 4) ≤ 24 := by omega
   go_wp2_with fail
   refine wp_region_otail 12 (by kernel_rfl) (by kernel_rfl) ?_
   simp only [List.take_succ_cons, List.take_zero, List.drop_succ_cons, List.drop_zero]
   have hov_w_heap_size := fun (E : Over wr) o => E.cell (b := w.heap.size) o Hr.out.lt
   repeat (go_big_quiet_step (first | fail))
   all_goals (try unfold elV limbV)
   repeat (go_big_quiet_step (first | fail))
   all_goals (try unfold elV limbV)
   repeat (go_big_quiet_step (first | fail))
   all_goals (try unfold ciphV)
   refine wpQuiet_nil ?_
   rintro _ ⟨E, rfl⟩
   clear hov_w_heap_size
   replace Hr := Lib.hid (Hr.out.up E.h)
   replace HB := hbu HB E.h
   replace HZS := sz HZS E.h.size
   obtain ⟨w2, hq9⟩ : ∃ W9 : World, E.w = W9 := ⟨_, rfl⟩
   rw [hq9] at Hr HB HZS ⊢
   clear hq9 E c1
   have c1 := Hr.out.cell (wlV_get (wordsB hb j) (j / 4) (by rw [HWL.out]; omega))
   have f3_r := Hr.out.frozen
   obtain ⟨w3, hq3, hg9, hz9, hx9⟩ := put1 Hr (j / 4) (.int .u32 (Z.toNat : Int)) _ rfl
   replace HB := hbg HB hg9 (by have g0 := HZS.out; omega)
   replace HZS := sz HZS hz9.out
   replace Hr := hx9
   clear hx9 hg9 hz9
   replace Hr := Lib.hid Hr.out.wset
   rw [← HS.out] at Hr
   go_wp2_with fail
   clear hq3 f3_r c1 ho hix
   go_roundw
   case rel => exact ⟨j + 1, by omega, by go_num, Hr, HB⟩
   case measure => simp [RowKit.intOf]; omega
  ·have hj' : j = 64 := by omega
   subst hj'
   have HWI := Lib.hid (show (Tryz.prog.info? 288).map (·.size) = some (wlV (wordsB hb 64)).length by rw [wlV_len, HWL.out]; exact info16)
   obtain ⟨V, hV⟩ : ∃ V, wordsB hb 64 = V := ⟨_, rfl⟩
   rw [hV] at Hr HWI HWL
   have HVE := Lib.hid hV
   clear hV
   obtain ⟨w5, hq5, hg5, hz5, hr5⟩ := puts Hr 0 (wlV V) (wlV V) (putL_all _ _ rfl)
   have HB5 := hbg HB hg5 (by omega)
   go_wp2_with (first | refine wpList_load_mid rfl 288 (.tmp 2) rfl w.heap.size 0 rfl (wlV V) _ Hr.out.range Tryz.underlying288 rfl HWI.out ?_ | refine wpList_store_mid rfl 288 (.tmp 2) (.tmp 26) rfl w.heap.size 0 (wlV V).toArray rfl rfl (Hr.out.there (by simp)) (by simpa using HWI.out) (all_oneCell_toArray (wl_one V)) ?_)
   rw [hq5]
   exact ret_arr Tryz.results199 hr5.out _ rfl Tryz.underlying288 rfl HWI.out rfl ⟨by rw [HVE.out], HB5.out⟩
end Go.Proofs.YtjmeakfjfpnciaaGreat
namespace Go.Proofs.YtjmeakfjfpnciaaGreat
open Go.RowKit Go.Lib
def z64 : List UInt8 := List.replicate 64 0
def begC (h : WL) : List Value := foldC h 0 z64 0
theorem infoF : (Tryz.prog.info? 273).map (·.size) = some 74 := by kernel_rfl
theorem foldC_one (h : WL) (n : Nat) (hb : List UInt8) (k : Nat) : ∀ v ∈ foldC h n hb k, v.oneCell' = true := fun v hv => by
 unfold foldC at hv
 simp only [List.mem_append, List.mem_singleton] at hv
 rcases hv with hv | rfl | hv | rfl
 ·exact wl_one h v hv
 ·rfl
 ·exact byteCells_one hb v hv
 ·rfl
theorem begin_any (w : World) : Calls Tryz.prog 186 #[.string ⟨#[]⟩] w fun e w' => e = .returned (.agg (foldC h0B 0 z64 0).toArray) ∧ Below w.heap.size w w' := by
 have HI := Lib.hid (show (Tryz.prog.info? 273).map (·.size) = some (begC startV).length from infoF)
 have HZ := Lib.hid (show (begC (zw 8)).length = (begC startV).length from rfl)
 go_enter Tryz.func186, Tryz.ntmps186
 go_upto_region 1 with (fail)
 have hz0 : Tryz.zeroCells273 = (begC (zw 8)).toArray := by kernel_rfl
 rw [hz0]
 have hs : (wlV startV).toArray = #[.int .u32 1779033703, .int .u32 3144134277, .int .u32 1013904242, .int .u32 2773480762, .int .u32 1359893119, .int .u32 2600822924, .int .u32 528734635, .int .u32 1541459225] := rfl
 obtain ⟨w1, hq1, hb9, hz9, Hr⟩ := new1 w 273 (begC (zw 8))
 rw [hq1]
 clear hq1
 have HB := Lib.hid hb9
 have HZS := hz9
 clear hb9 hz9
 go_wp2_with fail
 refine (start_any w1).mono ?_
 rintro e w2 ⟨rfl, hb9⟩
 replace Hr := Lib.hid (Hr.out.up hb9)
 replace HB := hbu HB hb9
 replace HZS := sz HZS hb9.size
 clear hb9
 have hln : (begC (zw 8)).length = 74 := rfl
 rw [hs]
 go_upto_region 2 with (refine wpList_store_new rfl 273 273 (.tmp 3) (.tmp 5) rfl (begC (zw 8)) (begC startV) rfl rfl HI.out HZ.out (foldC_one _ _ _ _) ?_)
 obtain ⟨w3, hq3, hb9, hz9, Hf⟩ := new1 w2 273 (begC startV)
 rw [hq3]
 clear hq3
 replace Hr := Lib.hid (Hr.out.up hb9)
 replace HB := hbu HB hb9
 replace HZS := sz HZS hz9.out
 clear hb9 hz9 hs hln
 have c0 : w3.cell? ⟨w2.heap.size, 0, none⟩ = some (.int .u32 1779033703) := Hf.out.cell rfl
 have hx0 : bits BinOp.xor IntKind.u32 1779033703 16842784 = 1795745351 := by decide
 have f4_f := Hf.out.frozen
 obtain ⟨w4, hq4, hg9, hz9, hx9⟩ := put1 Hf 0 (.int .u32 1795745351) _ rfl
 replace Hr := Lib.hid (Hr.out.grown hg9.out (sne (by have g0 := HZS.out; omega)))
 replace HB := hbg HB hg9 (by have g0 := HZS.out; omega)
 replace HZS := sz HZS hz9.out
 replace Hf := hx9
 clear hx9 hg9 hz9
 replace Hf := Lib.hid (show Bx w4 w2.heap.size 273 (foldC h0B 0 z64 0) from Hf.out)
 have HI2 := Lib.hid (show (Tryz.prog.info? 273).map (·.size) = some (foldC h0B 0 z64 0).length from infoF)
 obtain ⟨w5, hq5, hg5, hz5, hr5⟩ := puts Hr 0 (foldC h0B 0 z64 0) (foldC h0B 0 z64 0) (putL_all _ _ rfl)
 have HB5 := hbg HB hg5 (by omega)
 go_wp2_with (first | refine wpList_load_mid rfl 273 (.tmp 3) rfl w2.heap.size 0 rfl (foldC h0B 0 z64 0) _ Hf.out.range Tryz.underlying273 rfl HI2.out ?_ | refine wpList_store_mid rfl 273 (.tmp 2) (.tmp 25) rfl w.heap.size 0 (foldC h0B 0 z64 0).toArray rfl rfl (Hr.out.there (by simp; decide)) (by simpa using HI2.out) (all_oneCell_toArray (foldC_one _ _ _ _)) ?_)
 rw [hq5]
 exact ret_arr Tryz.results186 hr5.out _ rfl Tryz.underlying273 rfl HI2.out rfl ⟨rfl, HB5.out⟩
theorem byte_int (m : Nat) : (((UInt8.ofNat (m % 256)).toNat : Nat) : Int) = (m : Int) % 256 := by
 rw [UInt8.toNat_ofNat_of_lt' (by have := Nat.mod_lt m (show 0 < 256 by decide); exact this)]; omega
theorem four_any (n : Nat) (hn : n < 9223372036854775808) (w : World) : Calls Tryz.prog 178 #[.int .i64 (n : Int)] w fun e w' => e = .returned (.string (fourS n)) ∧ Below w.heap.size w w' := by
 go_enter Tryz.func178, Tryz.ntmps178
 obtain ⟨w1, hq1, hb9, hz9, Hr⟩ := new1 w 5 [.int .u8 ((n : Int) / 16777216 % 256), .int .u8 ((n : Int) / 65536 % 256), .int .u8 ((n : Int) / 256 % 256), .int .u8 ((n : Int) % 256)]
 have HB := Lib.hid hb9
 have HZS := hz9
 clear hb9 hz9
 have r_ := Hr.out.c4
 have hcv := run_convert_bytes_arg (P := Tryz.prog) w1 173 5 Tryz.underlying173 Tryz.underlying5 w.heap.size 0 4 4 [(n : Int) / 16777216 % 256, (n : Int) / 65536 % 256, (n : Int) / 256 % 256, (n : Int) % 256] rfl (fun i hi => by
  rcases (show i = 0 ∨ i = 1 ∨ i = 2 ∨ i = 3 by omega) with rfl | rfl | rfl | rfl
  ·exact Hr.out.cell (i := 0) rfl
  ·exact Hr.out.cell (i := 1) rfl
  ·exact Hr.out.cell (i := 2) rfl
  ·exact Hr.out.cell (i := 3) rfl) 9 Tryz.underlying9
 go_wp2_with fail
 clear hq1
 go_ret
 exact ⟨rfl, HB.out⟩
end Go.Proofs.YtjmeakfjfpnciaaGreat
namespace Go.Proofs.YtjmeakfjfpnciaaGreat
open Go.RowKit Go.Lib
theorem bytesOf_len (x : ByteArray) : (bytesOf x).length = x.size := by unfold bytesOf; rw [Array.length_toList]; rfl
def strLen : Value → Nat
 | .string y => y.size
 | _ => 0
theorem foldC_lay {h : WL} {n k : Nat} {hb : List UInt8} (hh : h.length = 8) (hl : hb.length = 64) (j : Nat) (y : ByteArray) (m : Nat) (hm : ((bytesOf y).take (64 - j)).length = m) (hj : j + m ≤ 64) : putL (foldC h n hb k) (9 + j) ((byteCells y.data.toList).take (64 - j)) = foldC h n (hb.take j ++ (bytesOf y).take (64 - j) ++ hb.drop (j + m)) k := by
 subst hm
 rw [← byteCells_take]
 exact foldC_putb hh hl j ((bytesOf y).take (64 - j)) hj
theorem bytesOf_drop (y : ByteArray) (m : Nat) : bytesOf (y.extract m y.size) = (bytesOf y).drop m := Lib.extract_to_end y m
theorem take_min (y : ByteArray) (m k : Nat) (h : Nat.min y.size k = m) : (bytesOf y).take k = (bytesOf y).take m := by
 rw [← h, List.take_eq_take_iff, bytesOf_len]
 show min k y.size = min (min y.size k) y.size
 omega
theorem take_any (b : Nat) (s : List UInt8) (x : ByteArray) (hsz : s.length + x.size < 4611686018427387904) (w : World) (hF : FoldAt w b s) :
  Calls Tryz.prog 187 #[.pointer (some ⟨b, 0, none⟩), .string x] w fun e w' => e = .returned (.tuple #[]) ∧ FoldAt w' b (s ++ bytesOf x) ∧ Kept (fun q => q = b) w w' := by
 have HF0 := Lib.hid hF
 have HSZ := Lib.hid hsz
 clear hF hsz
 go_enter Tryz.func187, Tryz.ntmps187
 go_wp2_with fail
 go_loopw [1] (fun c wr => ∃ (y : ByteArray) (t : List UInt8), c = .string y ∧ Hid (t ++ bytesOf y = bytesOf x) ∧ Hid (FoldAt wr b (s ++ t)) ∧ Hid (Kept (fun q9 => q9 = b) w wr)) (fun c _ => strLen c)
 case atStart => exact ⟨x, [], rfl, rfl, by rw [List.append_nil]; exact HF0, Lib.hid (Kept.refl _ _)⟩
 case round =>
  obtain ⟨y, t, rfl, HT, HQ, HK⟩ := hrel
  clear HF0
  by_cases hy : 0 < y.size
  ·obtain ⟨h, n, hb, k, hx, hh, hf, h0⟩ := HQ.out
   have Hf := Lib.hid hx
   clear hx h0 HQ
   have hn : n < 4611686018427387904 := by
    have h1 := hf.sum
    have h2 := congrArg List.length HT.out
    have h3 := HSZ.out
    rw [List.length_append] at h1 h2
    rw [bytesOf_len, bytesOf_len] at h2
    omega
   by_cases hk : k = 64
   ·have hke : ((k : Int) == 64) = true := by rw [hk]; rfl
    have HL8 := Lib.hid hh
    have HHB := Lib.hid hf.len
    have HPR := Lib.hid (show Fold (s ++ t) (pressB h (wordsB hb 64) (n + 64) false) (n + 64) hb 0 from (hk ▸ hf).press)
    have HRL := Lib.hid (pressB_len h (wordsB hb 64) (n + 64) false)
    clear hh hf hk
    have c73 := Hf.out.cell (foldC_k HL8.out HHB.out)
    have c8 := Hf.out.cell (foldC_n HL8.out)
    have f1_f := Hf.out.frozen
    obtain ⟨w1, hq1, hg9, hz9, hx9⟩ := put1 Hf 8 (.int .u64 ((n : Int) + 64)) _ rfl
    replace HK := Lib.hid (Kept.grown HK.out hg9.out (fun q9 e9 => by obtain rfl := Option.some.inj e9; exact Or.inr (rfl)))
    have HZS := hz9
    replace Hf := hx9
    clear hx9 hg9 hz9
    go_wp2_with fail
    clear hq1 f1_f c73 c8
    have Hf2 := Lib.hid (show Bx w1 b 273 (foldC h (n + 64) hb k) from by have h9 := Hf.out; rwa [show ((n : Int) + 64) = ((n + 64 : Nat) : Int) from by omega, foldC_setn HL8.out] at h9)
    clear Hf
    have Hf := Hf2
    clear Hf2
    have hN : n + 64 < 18446744073709551616 := by omega
    have hN2 : n + 64 < 4611686018427387904 + 64 := by omega
    generalize n + 64 = N at *
    have c8 := Hf.out.cell (foldC_n HL8.out)
    have HPC := Lib.hid (fun w => Press_any h (wordsB hb 64) HL8.out (wordsB_len _ _) N hN false w)
    have HWC := Lib.hid (fun w hx => words_any h N hb k HL8.out HHB.out b w hx)
    have HI8 := Lib.hid (show (Tryz.prog.info? 270).map (·.size) = some (wlV h).length by rw [wlV_len, HL8.out]; exact info8)
    obtain ⟨R, hR⟩ : ∃ R, pressB h (wordsB hb 64) N false = R := ⟨_, rfl⟩
    rw [hR] at HPR HRL HPC
    clear hR
    generalize wordsB hb 64 = M at *
    refine wp_region_otail 14 (by kernel_rfl) (by kernel_rfl) ?_
    simp only [List.take_succ_cons, List.take_zero, List.drop_succ_cons, List.drop_zero]
    have hov_b := fun (E : Over w1) o => E.cell (b := b) o Hf.out.lt
    repeat (first | (refine wpQuiet_load rfl 270 (.tmp 23) rfl b 0 rfl (wlV h) _ (fun _ ⟨E, e⟩ => e ▸ foldC_h (Hf.out.up E.h)) Tryz.underlying270 rfl HI8.out ?_; simp only [Act.put, List.setIfInBounds_toArray, List.set_cons_succ, List.set_cons_zero]) | go_big_quiet_step (first | (go_at_call 199; exact calls_over (HWC.out _ (Hf.out.up (Over.h _)))) | (go_at_call 198; exact calls_over (HPC.out _))))
    all_goals (try unfold elV limbV)
    repeat (first | (refine wpQuiet_load rfl 270 (.tmp 23) rfl b 0 rfl (wlV h) _ (fun _ ⟨E, e⟩ => e ▸ foldC_h (Hf.out.up E.h)) Tryz.underlying270 rfl HI8.out ?_; simp only [Act.put, List.setIfInBounds_toArray, List.set_cons_succ, List.set_cons_zero]) | go_big_quiet_step (first | (go_at_call 199; exact calls_over (HWC.out _ (Hf.out.up (Over.h _)))) | (go_at_call 198; exact calls_over (HPC.out _))))
    all_goals (try unfold elV limbV)
    repeat (first | (refine wpQuiet_load rfl 270 (.tmp 23) rfl b 0 rfl (wlV h) _ (fun _ ⟨E, e⟩ => e ▸ foldC_h (Hf.out.up E.h)) Tryz.underlying270 rfl HI8.out ?_; simp only [Act.put, List.setIfInBounds_toArray, List.set_cons_succ, List.set_cons_zero]) | go_big_quiet_step (first | (go_at_call 199; exact calls_over (HWC.out _ (Hf.out.up (Over.h _)))) | (go_at_call 198; exact calls_over (HPC.out _))))
    all_goals (try unfold ciphV)
    refine wpQuiet_nil ?_
    rintro _ ⟨E, rfl⟩
    clear hov_b
    replace Hf := Lib.hid (Hf.out.up E.h)
    replace HK := Lib.hid (Kept.up HK.out E.h)
    replace HZS := sz HZS E.h.size
    obtain ⟨w2, hq9⟩ : ∃ W9 : World, E.w = W9 := ⟨_, rfl⟩
    rw [hq9] at Hf HK HZS ⊢
    clear hq9 E c8 HPC HWC HI8
    have HRI := Lib.hid (show (Tryz.prog.info? 270).map (·.size) = some (wlV R).length by rw [wlV_len, HRL.out]; exact info8)
    obtain ⟨w5, hq5, hg9, hz9, hx9⟩ := puts Hf 0 (wlV R) _ (foldC_puth HL8.out R HRL.out)
    refine wpList_store_mid rfl 270 (.tmp 33) (.tmp 31) rfl b 0 (wlV R).toArray rfl rfl (Hf.out.there (by rw [foldC_len HL8.out HHB.out, List.size_toArray, wlV_len, HRL.out]; decide)) (by simpa using HRI.out) (all_oneCell_toArray (wl_one R)) ?_
    rw [List.toList_toArray, hq5]
    replace HK := Lib.hid (Kept.grown HK.out hg9.out (fun q9 e9 => by obtain rfl := Option.some.inj e9; exact Or.inr (rfl)))
    replace HZS := sz HZS hz9.out
    replace Hf := hx9
    clear hx9 hg9 hz9 HL8 hq5
    have c73 := Hf.out.cell (foldC_k HRL.out HHB.out)
    have f3_f := Hf.out.frozen
    obtain ⟨w3, hq3, hg9, hz9, hx9⟩ := put1 Hf 73 (.int .i64 0) _ rfl
    replace HK := Lib.hid (Kept.grown HK.out hg9.out (fun q9 e9 => by obtain rfl := Option.some.inj e9; exact Or.inr (rfl)))
    replace HZS := sz HZS hz9.out
    replace Hf := hx9
    clear hx9 hg9 hz9
    go_upto_region 5 with (fail)
    clear c73
    have Hf2 := Lib.hid (show Bx w3 b 273 (foldC R N hb 0) from by have h9 := Hf.out; rwa [show (0 : Int) = ((0 : Nat) : Int) from rfl, foldC_setk HRL.out HHB.out] at h9)
    clear Hf hke
    have Hf := Hf2
    clear Hf2
    have hh := HRL.out
    have hf := HPR.out
    clear HPR HHB HRL HRI
    obtain ⟨z, hz0⟩ : ∃ z : Nat, z = 0 := ⟨0, rfl⟩
    rw [← hz0] at Hf hf
    have hk6 : z < 64 := by omega
    clear hz0
    have HL8 := Lib.hid hh
    have HF := Lib.hid hf
    have HHB := Lib.hid hf.len
    clear hh hf
    have c73 := Hf.out.cell (foldC_k HL8.out HHB.out)
    have k1 : (0 : Int) ≤ (z : Int) := by omega
    have k2 : (z : Int) ≤ 64 := by omega
    go_wp2_with fail
    clear hq3 f3_f
    refine wp_region_otail 9 (by kernel_rfl) (by kernel_rfl) ?_
    simp only [List.take_succ_cons, List.take_zero, List.drop_succ_cons, List.drop_zero]
    have hov_b := fun (E : Over w3) o => E.cell (b := b) o Hf.out.lt
    repeat (go_big_quiet_step (first | fail))
    all_goals (try unfold elV limbV)
    repeat (go_big_quiet_step (first | fail))
    all_goals (try unfold elV limbV)
    repeat (go_big_quiet_step (first | fail))
    all_goals (try unfold ciphV)
    refine wpQuiet_nil ?_
    rintro _ ⟨E, rfl⟩
    clear hov_b
    replace Hf := Lib.hid (Hf.out.up E.h)
    replace HK := Lib.hid (Kept.up HK.out E.h)
    replace HZS := sz HZS E.h.size
    obtain ⟨w4, hq9⟩ : ∃ W9 : World, E.w = W9 := ⟨_, rfl⟩
    rw [hq9] at Hf HK HZS ⊢
    clear hq9 E c73 k1 k2
    obtain ⟨m, hm⟩ : ∃ m, Nat.min y.size (64 - z) = m := ⟨_, rfl⟩
    have hm1 : m ≤ y.size := hm ▸ Nat.min_le_left _ _
    have hm2 : m ≤ 64 - z := hm ▸ Nat.min_le_right _ _
    have hm3 : 0 < m := by rw [← hm]; exact Nat.lt_min.2 ⟨hy, by omega⟩
    have HTL := Lib.hid (show ((bytesOf y).take (64 - z)).length = m by rw [List.length_take, bytesOf_len]; exact (Nat.min_comm _ _).trans hm)
    have HPB := Lib.hid (foldC_lay (n := N) (k := z) HL8.out HHB.out z y m HTL.out (by omega))
    have HFL := Lib.hid (HF.out.lay ((bytesOf y).take (64 - z)) (by rw [HTL.out]; omega))
    rw [HTL.out] at HFL
    generalize hb.take z ++ (bytesOf y).take (64 - z) ++ hb.drop (z + m) = hb2 at *
    have HHB0 := HHB
    clear HF HHB
    refine wpList_copyS rfl (.tmp 44) (.tmp 45) 173 9 rfl 5 Tryz.underlying173 infoB b (9 + z) (64 - z) (64 - z) y rfl rfl (foldC R N hb z) 273 Hf.out (by rw [foldC_len HL8.out HHB0.out]; omega) _ HPB.out ?_
    intro wc hg9 hz9 hx9
    replace HK := Lib.hid (Kept.grown HK.out hg9.out (fun q9 e9 => by obtain rfl := Option.some.inj e9; exact Or.inr (rfl)))
    replace HZS := sz HZS hz9.out
    replace Hf := hx9
    clear hx9 hg9 hz9
    rw [hm]
    have HM := Lib.hid hm
    clear hm
    have HHB := Lib.hid HFL.out.len
    have c73 := Hf.out.cell (foldC_k HL8.out HHB.out)
    have k3 : (z : Int) + (m : Int) ≤ 64 := by omega
    have f5_f := Hf.out.frozen
    obtain ⟨w5, hq5, hg9, hz9, hx9⟩ := put1 Hf 73 (.int .i64 ((z : Int) + (m : Int))) _ rfl
    replace HK := Lib.hid (Kept.grown HK.out hg9.out (fun q9 e9 => by obtain rfl := Option.some.inj e9; exact Or.inr (rfl)))
    replace HZS := sz HZS hz9.out
    replace Hf := hx9
    clear hx9 hg9 hz9
    go_wp2_with fail
    clear hq5 f5_f c73
    have HY := Lib.hid (show t ++ ((bytesOf y).take (64 - z)) ++ bytesOf (y.extract m y.size) = bytesOf x from by
     rw [bytesOf_drop y m, take_min y m (64 - z) HM.out, List.append_assoc, List.take_append_drop, HT.out])
    refine ⟨⟨_, t ++ (bytesOf y).take (64 - z), rfl, HY, Lib.hid ⟨R, N, hb2, z + m, ?_, HL8.out, ?_, Or.inr (by omega)⟩, HK⟩, ?_⟩
    ·have h9 := Hf.out
     rwa [← Int.natCast_add, foldC_setk HL8.out HHB.out] at h9
    ·rw [← List.append_assoc]; exact HFL.out
    ·show (y.extract m y.size).size < y.size
     simp
     omega
   ·have hk6 : k < 64 := by have := hf.le; omega
    have hke : ((k : Int) == 64) = false := by simp; omega
    have HL8 := Lib.hid hh
    have HF := Lib.hid hf
    have HHB := Lib.hid hf.len
    clear hh hf
    have c73 := Hf.out.cell (foldC_k HL8.out HHB.out)
    have k1 : (0 : Int) ≤ (k : Int) := by omega
    have k2 : (k : Int) ≤ 64 := by omega
    go_wp2_with fail
    refine wp_region_otail 9 (by kernel_rfl) (by kernel_rfl) ?_
    simp only [List.take_succ_cons, List.take_zero, List.drop_succ_cons, List.drop_zero]
    have hov_b := fun (E : Over wr) o => E.cell (b := b) o Hf.out.lt
    repeat (go_big_quiet_step (first | fail))
    all_goals (try unfold elV limbV)
    repeat (go_big_quiet_step (first | fail))
    all_goals (try unfold elV limbV)
    repeat (go_big_quiet_step (first | fail))
    all_goals (try unfold ciphV)
    refine wpQuiet_nil ?_
    rintro _ ⟨E, rfl⟩
    clear hov_b
    replace Hf := Lib.hid (Hf.out.up E.h)
    replace HK := Lib.hid (Kept.up HK.out E.h)
    have HZS := Lib.hid E.h.size
    obtain ⟨w1, hq9⟩ : ∃ W9 : World, E.w = W9 := ⟨_, rfl⟩
    rw [hq9] at Hf HK HZS ⊢
    clear hq9 E c73 k1 k2
    obtain ⟨m, hm⟩ : ∃ m, Nat.min y.size (64 - k) = m := ⟨_, rfl⟩
    have hm1 : m ≤ y.size := hm ▸ Nat.min_le_left _ _
    have hm2 : m ≤ 64 - k := hm ▸ Nat.min_le_right _ _
    have hm3 : 0 < m := by rw [← hm]; exact Nat.lt_min.2 ⟨hy, by omega⟩
    have HTL := Lib.hid (show ((bytesOf y).take (64 - k)).length = m by rw [List.length_take, bytesOf_len]; exact (Nat.min_comm _ _).trans hm)
    have HPB := Lib.hid (foldC_lay (n := n) (k := k) HL8.out HHB.out k y m HTL.out (by omega))
    have HFL := Lib.hid (HF.out.lay ((bytesOf y).take (64 - k)) (by rw [HTL.out]; omega))
    rw [HTL.out] at HFL
    generalize hb.take k ++ (bytesOf y).take (64 - k) ++ hb.drop (k + m) = hb2 at *
    have HHB0 := HHB
    clear HF HHB
    refine wpList_copyS rfl (.tmp 44) (.tmp 45) 173 9 rfl 5 Tryz.underlying173 infoB b (9 + k) (64 - k) (64 - k) y rfl rfl (foldC h n hb k) 273 Hf.out (by rw [foldC_len HL8.out HHB0.out]; omega) _ HPB.out ?_
    intro wc hg9 hz9 hx9
    replace HK := Lib.hid (Kept.grown HK.out hg9.out (fun q9 e9 => by obtain rfl := Option.some.inj e9; exact Or.inr (rfl)))
    replace HZS := sz HZS hz9.out
    replace Hf := hx9
    clear hx9 hg9 hz9
    rw [hm]
    have HM := Lib.hid hm
    clear hm
    have HHB := Lib.hid HFL.out.len
    have c73 := Hf.out.cell (foldC_k HL8.out HHB.out)
    have k3 : (k : Int) + (m : Int) ≤ 64 := by omega
    have f2_f := Hf.out.frozen
    obtain ⟨w2, hq2, hg9, hz9, hx9⟩ := put1 Hf 73 (.int .i64 ((k : Int) + (m : Int))) _ rfl
    replace HK := Lib.hid (Kept.grown HK.out hg9.out (fun q9 e9 => by obtain rfl := Option.some.inj e9; exact Or.inr (rfl)))
    replace HZS := sz HZS hz9.out
    replace Hf := hx9
    clear hx9 hg9 hz9
    go_wp2_with fail
    clear hq2 f2_f c73
    have HY := Lib.hid (show t ++ ((bytesOf y).take (64 - k)) ++ bytesOf (y.extract m y.size) = bytesOf x from by
     rw [bytesOf_drop y m, take_min y m (64 - k) HM.out, List.append_assoc, List.take_append_drop, HT.out])
    refine ⟨⟨_, t ++ (bytesOf y).take (64 - k), rfl, HY, Lib.hid ⟨h, n, hb2, k + m, ?_, HL8.out, ?_, Or.inr (by omega)⟩, HK⟩, ?_⟩
    ·have h9 := Hf.out
     rwa [← Int.natCast_add, foldC_setk HL8.out HHB.out] at h9
    ·rw [← List.append_assoc]; exact HFL.out
    ·show (y.extract m y.size).size < y.size
     simp
     omega
  ·have hy0 : y.size = 0 := by omega
   have hyn : bytesOf y = [] := List.eq_nil_of_length_eq_zero (by rw [bytesOf_len]; exact hy0)
   have hyd : (y.size : Int) = 0 := by omega
   have HE := Lib.hid (show t = bytesOf x from by have h9 := HT.out; rwa [hyn, List.append_nil] at h9)
   clear hyn hy0 hy HT
   go_wp2_with fail
   go_end0
   exact ⟨rfl, HE.out ▸ HQ.out, HK.out⟩
end Go.Proofs.YtjmeakfjfpnciaaGreat
namespace Go.Proofs.YtjmeakfjfpnciaaGreat
open Go.RowKit Go.Lib
theorem zeroB (w : World) : (zeroValue 5).run Tryz.prog w = .ok (.int .u8 0) w := by kernel_rfl
theorem clear_cells (m : Nat) : List.replicate m (Value.int .u8 0) = byteCells (List.replicate m 0) := by unfold byteCells; rw [List.map_replicate]; rfl
theorem foldC_clear {h : WL} {n k : Nat} {hb : List UInt8} (hh : h.length = 8) (hl : hb.length = 64) (hk : k ≤ 64) : putL (foldC h n hb k) (9 + k) (List.replicate (64 - k) (Value.int .u8 0)) = foldC h n (hb.take k ++ List.replicate (64 - k) 0) k := by
 rw [clear_cells, foldC_putb hh hl k _ (by rw [List.length_replicate]; omega), List.length_replicate, List.drop_eq_nil_of_le (by omega), List.append_nil]
theorem clear_len {hb : List UInt8} {k : Nat} (hl : hb.length = 64) (hk : k ≤ 64) : (hb.take k ++ List.replicate (64 - k) 0).length = 64 := by simp [hl]; omega
theorem out_snoc (R : WL) (i : Nat) (hi : i < R.length) : byteCells (outB (R.take (i + 1))) = byteCells (outB (R.take i)) ++ [.int .u8 (((R.getD i 0).toNat : Int) % 256), .int .u8 (((R.getD i 0).toNat : Int) / 256 % 256), .int .u8 (((R.getD i 0).toNat : Int) / 65536 % 256), .int .u8 (((R.getD i 0).toNat : Int) / 16777216)] := by
 have e0 : R[i] = R.getD i 0 := by simp [List.getD, hi]
 rw [List.take_succ_eq_append_getElem hi, e0]
 unfold outB
 rw [List.flatMap_append, byteCells_app]
 congr 1
 generalize R.getD i 0 = X
 have e : ∀ m : Nat, Value.int .u8 ((UInt8.ofNat (m % 256)).toNat : Int) = .int .u8 ((m : Int) % 256) := fun m => by rw [byte_int]
 have hX := X.isLt
 simp only [List.flatMap_cons, List.flatMap_nil, List.append_nil, byteCells, List.map_cons, List.map_nil, e]
 rw [show ((X.toNat / 16777216 : Nat) : Int) % 256 = (X.toNat : Int) / 16777216 by omega]
 rfl
theorem out_str (s : List UInt8) : strOfNums ((digB s).map fun b => (b.toNat : Int)) = digS s := by
 unfold strOfNums digS
 rw [List.map_map]
 congr 2
 conv => rhs; rw [← List.map_id (digB s)]
 apply List.map_congr_left
 intro x _
 simp
theorem out_take8 (R : WL) (h : R.length = 8) : R.take 8 = R := List.take_of_length_le (by omega)
theorem row_byte {N : Nat} {w : World} {g n c : Nat} {l : List UInt8} (h : RowO N w 5 1 (.slice (some ⟨g, 0, none⟩) n c) n (byteCells l)) (i : Nat) (hi : i < l.length) : w.cell? ⟨g, 0 + i, none⟩ = some (.int .u8 ((l.map fun b => (b.toNat : Int)).getD i 0)) := by
 obtain ⟨b, o, e, _, hc⟩ := h.sl.at i (by rw [byteCells_length]; exact hi)
 cases e
 rw [hc]
 unfold byteCells
 simp [List.getD, hi]
theorem end_any (b : Nat) (s : List UInt8) (hsz : s.length < 4611686018427387904) (w : World) (hF : FoldAt w b s) :
  Calls Tryz.prog 188 #[.pointer (some ⟨b, 0, none⟩)] w fun e w' => e = .returned (.string (digS s)) ∧ Kept (fun q => q = b) w w' := by
 obtain ⟨h, n, hb, k, hx, hh, hf, h0⟩ := hF
 have HLB := Lib.hid hx.lt
 have Hf := Lib.hid hx
 have HL8 := Lib.hid hh
 have HHB := Lib.hid hf.len
 have HFN := Lib.hid (hf.fin h0)
 have hk6 : k ≤ 64 := hf.le
 have hn : n + k < 4611686018427387904 := by have := hf.sum; omega
 clear hh hf h0 hsz hx
 go_enter Tryz.func188, Tryz.ntmps188
 go_wp2_with fail
 have HZS := HLB
 have HK := Lib.hid (Kept.refl (fun q9 => q9 = b) w)
 have c73 := Hf.out.cell (foldC_k HL8.out HHB.out)
 have c8 := Hf.out.cell (foldC_n HL8.out)
 refine wp_region_otail 12 (by kernel_rfl) (by kernel_rfl) ?_
 simp only [List.take_succ_cons, List.take_zero, List.drop_succ_cons, List.drop_zero]
 have hov_b := fun (E : Over w) o => E.cell (b := b) o Hf.out.lt
 repeat (go_big_quiet_step (first | fail))
 all_goals (try unfold elV limbV)
 repeat (go_big_quiet_step (first | fail))
 all_goals (try unfold elV limbV)
 repeat (go_big_quiet_step (first | fail))
 all_goals (try unfold ciphV)
 refine wpQuiet_nil ?_
 rintro _ ⟨E, rfl⟩
 clear hov_b
 replace Hf := Lib.hid (Hf.out.up E.h)
 replace HK := Lib.hid (Kept.up HK.out E.h)
 replace HZS := sz HZS E.h.size
 obtain ⟨w1, hq9⟩ : ∃ W9 : World, E.w = W9 := ⟨_, rfl⟩
 rw [hq9] at Hf HK HZS ⊢
 clear hq9 E c73 c8
 have c8 := Hf.out.cell (foldC_n HL8.out)
 have f2_f := Hf.out.frozen
 obtain ⟨w2, hq2, hg9, hz9, hx9⟩ := put1 Hf 8 (.int .u64 ((n : Int) + (k : Int))) _ rfl
 replace HK := Lib.hid (Kept.grown HK.out hg9.out (fun q9 e9 => by obtain rfl := Option.some.inj e9; exact Or.inr (rfl)))
 replace HZS := sz HZS hz9.out
 replace Hf := hx9
 clear hx9 hg9 hz9
 go_wp2_with fail
 clear hq2 f2_f c8
 have Hf2 := Lib.hid (show Bx w2 b 273 (foldC h (n + k) hb k) from by have h9 := Hf.out; rwa [← Int.natCast_add, foldC_setn HL8.out] at h9)
 clear Hf
 have Hf := Hf2
 clear Hf2
 generalize n + k = N at *
 have c73 := Hf.out.cell (foldC_k HL8.out HHB.out)
 have HCL := Lib.hid (foldC_clear (n := N) HL8.out HHB.out hk6)
 have HB2 := Lib.hid (clear_len HHB.out hk6)
 generalize hb.take k ++ List.replicate (64 - k) 0 = hb2 at *
 by_cases hk : k = 64
 ·subst hk
  refine wp_region_otail 8 (by kernel_rfl) (by kernel_rfl) ?_
  simp only [List.take_succ_cons, List.take_zero, List.drop_succ_cons, List.drop_zero]
  have hov_b := fun (E : Over w2) o => E.cell (b := b) o Hf.out.lt
  repeat (go_big_quiet_step (first | fail))
  all_goals (try unfold elV limbV)
  repeat (go_big_quiet_step (first | fail))
  all_goals (try unfold elV limbV)
  repeat (go_big_quiet_step (first | fail))
  all_goals (try unfold ciphV)
  refine wpQuiet_nil ?_
  rintro _ ⟨E, rfl⟩
  clear hov_b
  replace Hf := Lib.hid (Hf.out.up E.h)
  replace HK := Lib.hid (Kept.up HK.out E.h)
  replace HZS := sz HZS E.h.size
  obtain ⟨w3, hq9⟩ : ∃ W9 : World, E.w = W9 := ⟨_, rfl⟩
  rw [hq9] at Hf HK HZS ⊢
  clear hq9 E c73
  refine wpList_clearB rfl (.tmp 25) 173 rfl 5 (.int .u8 0) Tryz.underlying173 zeroB rfl rfl b 9 0 0 rfl (foldC h N hb 64) 273 Hf.out (by rw [foldC_len HL8.out HHB.out]; omega) _ rfl ?_
  intro wc hg9 hz9 hx9
  replace HK := Lib.hid (Kept.grown HK.out hg9.out (fun q9 e9 => by obtain rfl := Option.some.inj e9; exact Or.inr (rfl)))
  replace HZS := sz HZS hz9.out
  replace Hf := hx9
  clear hx9 hg9 hz9
  obtain ⟨k, hk⟩ : ∃ k : Nat, k = 64 := ⟨64, rfl⟩
  have Hf2 := Lib.hid (show Bx wc b 273 (foldC h N hb2 k) from by rw [hk]; have e : foldC h N hb 64 = foldC h N hb2 64 := HCL.out; rw [← e]; exact Hf.out)
  clear Hf
  have Hf := Hf2
  clear Hf2 HCL
  have HCL := HB2
  go_wp2_with fail
  have c8 := Hf.out.cell (foldC_n HL8.out)
  have HPC := Lib.hid (fun w => Press_any h (wordsB hb2 64) HL8.out (wordsB_len _ _) N (by omega) true w)
  have HWC := Lib.hid (fun w hx => words_any h N hb2 k HL8.out HB2.out b w hx)
  have HI8 := Lib.hid (show (Tryz.prog.info? 270).map (·.size) = some (wlV h).length by rw [wlV_len, HL8.out]; exact info8)
  rw [HFN.out] at HPC
  have HRL := Lib.hid (digW_len s)
  obtain ⟨R, hR⟩ : ∃ R, digW s = R := ⟨_, rfl⟩
  have HRE := Lib.hid hR
  rw [hR] at HPC HRL
  clear hR HFN HCL
  generalize wordsB hb2 64 = M at *
  go_simp
  refine wp_region_otail 14 (by kernel_rfl) (by kernel_rfl) ?_
  simp only [List.take_succ_cons, List.take_zero, List.drop_succ_cons, List.drop_zero]
  have hov_b := fun (E : Over wc) o => E.cell (b := b) o Hf.out.lt
  repeat (first | (refine wpQuiet_load rfl 270 (.tmp 29) rfl b 0 rfl (wlV h) _ (fun _ ⟨E, e⟩ => e ▸ foldC_h (Hf.out.up E.h)) Tryz.underlying270 rfl HI8.out ?_; simp only [Act.put, List.setIfInBounds_toArray, List.set_cons_succ, List.set_cons_zero]) | go_big_quiet_step (first | (go_at_call 199; exact calls_over (HWC.out _ (Hf.out.up (Over.h _)))) | (go_at_call 198; exact calls_over (HPC.out _))))
  all_goals (try unfold elV limbV)
  repeat (first | (refine wpQuiet_load rfl 270 (.tmp 29) rfl b 0 rfl (wlV h) _ (fun _ ⟨E, e⟩ => e ▸ foldC_h (Hf.out.up E.h)) Tryz.underlying270 rfl HI8.out ?_; simp only [Act.put, List.setIfInBounds_toArray, List.set_cons_succ, List.set_cons_zero]) | go_big_quiet_step (first | (go_at_call 199; exact calls_over (HWC.out _ (Hf.out.up (Over.h _)))) | (go_at_call 198; exact calls_over (HPC.out _))))
  all_goals (try unfold elV limbV)
  repeat (first | (refine wpQuiet_load rfl 270 (.tmp 29) rfl b 0 rfl (wlV h) _ (fun _ ⟨E, e⟩ => e ▸ foldC_h (Hf.out.up E.h)) Tryz.underlying270 rfl HI8.out ?_; simp only [Act.put, List.setIfInBounds_toArray, List.set_cons_succ, List.set_cons_zero]) | go_big_quiet_step (first | (go_at_call 199; exact calls_over (HWC.out _ (Hf.out.up (Over.h _)))) | (go_at_call 198; exact calls_over (HPC.out _))))
  all_goals (try unfold ciphV)
  refine wpQuiet_nil ?_
  rintro _ ⟨E, rfl⟩
  clear hov_b
  replace Hf := Lib.hid (Hf.out.up E.h)
  replace HK := Lib.hid (Kept.up HK.out E.h)
  replace HZS := sz HZS E.h.size
  obtain ⟨w4, hq9⟩ : ∃ W9 : World, E.w = W9 := ⟨_, rfl⟩
  rw [hq9] at Hf HK HZS ⊢
  clear hq9 E c8 HPC HWC HI8
  have HRI := Lib.hid (show (Tryz.prog.info? 270).map (·.size) = some (wlV R).length by rw [wlV_len, HRL.out]; exact info8)
  obtain ⟨wz5, hq5, hg9, hz9, hx9⟩ := puts Hf 0 (wlV R) _ (foldC_puth HL8.out R HRL.out)
  refine wpList_store_mid rfl 270 (.tmp 39) (.tmp 37) rfl b 0 (wlV R).toArray rfl rfl (Hf.out.there (by rw [foldC_len HL8.out HB2.out, List.size_toArray, wlV_len, HRL.out]; decide)) (by simpa using HRI.out) (all_oneCell_toArray (wl_one R)) ?_
  rw [List.toList_toArray, hq5]
  replace HK := Lib.hid (Kept.grown HK.out hg9.out (fun q9 e9 => by obtain rfl := Option.some.inj e9; exact Or.inr (rfl)))
  replace HZS := sz HZS hz9.out
  replace Hf := hx9
  clear hx9 hg9 hz9 HL8 hq5
  obtain ⟨i9, hi9, hz90, hz91, hz92⟩ := info_parts infoByte
  go_wp2_with (at_make; refine wpList_make_own _ rfl _ _ 173 rfl (wz5.heap.size) 5 i9 _ 1 Tryz.underlying173 hi9 hz90 hz91 _ _ _ (32) rfl rfl ?c1 ?c2 ?c3 ?c4 ?_)
  case c1 => rfl
  case c2 => rw [hz92]; omega
  case c3 => unfold maxLen; omega
  case c4 => have g0 := HZS.out; omega
  intro w5 hown9 hg9
  have hb9 : Below wz5.heap.size wz5 w5 := (Below.refl _ _).grown hg9 (Nat.le_refl _) (fun q hq => by cases hq)
  replace Hf := Lib.hid (Hf.out.up hb9)
  replace HK := Lib.hid (Kept.up HK.out hb9)
  replace HZS := sz HZS hb9.size
  have Hr : Hid (RowO (wz5.heap.size) w5 5 1 (.slice (some ⟨wz5.heap.size, 0, none⟩) 0 (32)) 0 []) := Lib.hid hown9
  clear hb9 hown9 hg9 hi9 hz90 hz91 hz92
  go_wp2_with (refine wpList_load_mid rfl 270 (.tmp 43) rfl b 0 rfl (wlV R) _ (foldC_h Hf.out) Tryz.underlying270 rfl HRI.out ?_)
  go_loopw [45, 3] (fun c v wr => ∃ i g cap : Nat, i ≤ 8 ∧ c = .int .i64 i ∧ v = .slice (some ⟨g, 0, none⟩) (4 * i) cap ∧ Hid (RowO wz5.heap.size wr 5 1 (.slice (some ⟨g, 0, none⟩) (4 * i) cap) (4 * i) (byteCells (outB (R.take i)))) ∧ Hid (Kept (fun q9 => q9 = b) w wr)) (fun c _ _ => 8 - (RowKit.intOf c).toNat)
  case atStart => exact ⟨0, _, _, by omega, rfl, rfl, Hr, HK⟩
  case round =>
   obtain ⟨i, g, cap, hi, rfl, rfl, HQ, HK1⟩ := hrel
   clear HK Hr Hf
   have HK := HK1
   have Hr := HQ
   clear HK1 HQ
   have HSW := Lib.hid HK.out.size
   have HSM := Lib.hid (Hr.out.lt g rfl)
   replace HZS := sz HZS HSW.out
   replace HZS := sz HZS HSM.out
   by_cases hi8 : i < 8
   ·have hix := fun W => run_index_arr (P := Tryz.prog) W 270 269 .u32 8 (wlV R) i _ (wlV_get R i (by rw [HRL.out]; exact hi8)) Tryz.underlying270 (by rw [wlV_len, HRL.out]) infoW Tryz.underlying269
    have HON := Lib.hid (out_snoc R i (by rw [HRL.out]; exact hi8))
    have hX := (R.getD i 0).isLt
    generalize R.getD i 0 = X at *
    go_upto_region 8 with (fail)
    clear hix
    obtain ⟨i9, hi9, hz90, hz91, hz92⟩ := info_parts infoByte
    go_wp2_with (at_builtin; refine wpList_pushM (wz5.heap.size) wr (by have g0 := HZS.out; omega) rfl _ _ 173 rfl 5 i9 _ 1 1 4 Tryz.underlying173 hi9 hz90 hz91 hz92 rfl (by omega) (by omega) ((.slice (some ⟨g, 0, none⟩) (4 * i) cap)) ((4 * i)) ((byteCells (outB (R.take i)))) rfl Hr.out _ _ _ rfl rfl rfl (by simp [Value.oneCell']) (by omega) (by unfold maxLen; omega) ?_)
    intro g6 c6 w6 hown9 hg9
    replace HK := Lib.hid (Kept.grown HK.out hg9 (fun q hq => Or.inl (Nat.le_trans (show w.heap.size ≤ wz5.heap.size by have g0 := HZS.out; omega) (Hr.out.lt q hq).1)))
    replace HZS := sz HZS hg9.size
    clear Hr
    have Hr := Lib.hid hown9
    clear hown9 hg9 hi9 hz90 hz91 hz92
    have HQ := Lib.hid (Hr.out.eq (ys := byteCells (outB (R.take (i + 1)))) (m := 4 * (i + 1)) (by rw [HON.out]) rfl)
    go_wp2_with fail
    go_roundw
    case rel => exact ⟨i + 1, _, _, by omega, by go_num, rfl, HQ, HK⟩
    case measure => simp [RowKit.intOf]; omega
   ·have hi8' : i = 8 := by omega
    subst hi8'
    have HQ := Hr.out
    rw [out_take8 R HRL.out, show outB R = digB s by rw [← HRE.out]; rfl] at HQ
    have hcv := run_convert_bytes_arg (P := Tryz.prog) wr 173 5 Tryz.underlying173 Tryz.underlying5 g 0 32 cap ((digB s).map fun b => (b.toNat : Int)) (by rw [List.length_map, digB_len]) (fun j hj => row_byte HQ j (by rw [digB_len]; exact hj)) 9 Tryz.underlying9
    rw [out_str] at hcv
    clear HQ
    go_wp2_with fail
    go_ret
    exact ⟨rfl, HK.out⟩
 ·have k1 : (0 : Int) ≤ (k : Int) := by omega
  have k2 : (k : Int) ≤ 64 := by omega
  have k3 : k < 64 := by omega
  refine wp_region_otail 8 (by kernel_rfl) (by kernel_rfl) ?_
  simp only [List.take_succ_cons, List.take_zero, List.drop_succ_cons, List.drop_zero]
  have hov_b := fun (E : Over w2) o => E.cell (b := b) o Hf.out.lt
  repeat (go_big_quiet_step (first | fail))
  all_goals (try unfold elV limbV)
  repeat (go_big_quiet_step (first | fail))
  all_goals (try unfold elV limbV)
  repeat (go_big_quiet_step (first | fail))
  all_goals (try unfold ciphV)
  refine wpQuiet_nil ?_
  rintro _ ⟨E, rfl⟩
  clear hov_b
  replace Hf := Lib.hid (Hf.out.up E.h)
  replace HK := Lib.hid (Kept.up HK.out E.h)
  replace HZS := sz HZS E.h.size
  obtain ⟨w3, hq9⟩ : ∃ W9 : World, E.w = W9 := ⟨_, rfl⟩
  rw [hq9] at Hf HK HZS ⊢
  clear hq9 E c73 k1 k2
  refine wpList_clearB rfl (.tmp 25) 173 rfl 5 (.int .u8 0) Tryz.underlying173 zeroB rfl rfl b (9 + k) (64 - k) (64 - k) rfl (foldC h N hb k) 273 Hf.out (by rw [foldC_len HL8.out HHB.out]; omega) _ HCL.out ?_
  intro wc hg9 hz9 hx9
  replace HK := Lib.hid (Kept.grown HK.out hg9.out (fun q9 e9 => by obtain rfl := Option.some.inj e9; exact Or.inr (rfl)))
  replace HZS := sz HZS hz9.out
  replace Hf := hx9
  clear hx9 hg9 hz9
  go_wp2_with fail
  have c8 := Hf.out.cell (foldC_n HL8.out)
  have HPC := Lib.hid (fun w => Press_any h (wordsB hb2 64) HL8.out (wordsB_len _ _) N (by omega) true w)
  have HWC := Lib.hid (fun w hx => words_any h N hb2 k HL8.out HB2.out b w hx)
  have HI8 := Lib.hid (show (Tryz.prog.info? 270).map (·.size) = some (wlV h).length by rw [wlV_len, HL8.out]; exact info8)
  rw [HFN.out] at HPC
  have HRL := Lib.hid (digW_len s)
  obtain ⟨R, hR⟩ : ∃ R, digW s = R := ⟨_, rfl⟩
  have HRE := Lib.hid hR
  rw [hR] at HPC HRL
  clear hR HFN HCL
  generalize wordsB hb2 64 = M at *
  go_simp
  refine wp_region_otail 14 (by kernel_rfl) (by kernel_rfl) ?_
  simp only [List.take_succ_cons, List.take_zero, List.drop_succ_cons, List.drop_zero]
  have hov_b := fun (E : Over wc) o => E.cell (b := b) o Hf.out.lt
  repeat (first | (refine wpQuiet_load rfl 270 (.tmp 29) rfl b 0 rfl (wlV h) _ (fun _ ⟨E, e⟩ => e ▸ foldC_h (Hf.out.up E.h)) Tryz.underlying270 rfl HI8.out ?_; simp only [Act.put, List.setIfInBounds_toArray, List.set_cons_succ, List.set_cons_zero]) | go_big_quiet_step (first | (go_at_call 199; exact calls_over (HWC.out _ (Hf.out.up (Over.h _)))) | (go_at_call 198; exact calls_over (HPC.out _))))
  all_goals (try unfold elV limbV)
  repeat (first | (refine wpQuiet_load rfl 270 (.tmp 29) rfl b 0 rfl (wlV h) _ (fun _ ⟨E, e⟩ => e ▸ foldC_h (Hf.out.up E.h)) Tryz.underlying270 rfl HI8.out ?_; simp only [Act.put, List.setIfInBounds_toArray, List.set_cons_succ, List.set_cons_zero]) | go_big_quiet_step (first | (go_at_call 199; exact calls_over (HWC.out _ (Hf.out.up (Over.h _)))) | (go_at_call 198; exact calls_over (HPC.out _))))
  all_goals (try unfold elV limbV)
  repeat (first | (refine wpQuiet_load rfl 270 (.tmp 29) rfl b 0 rfl (wlV h) _ (fun _ ⟨E, e⟩ => e ▸ foldC_h (Hf.out.up E.h)) Tryz.underlying270 rfl HI8.out ?_; simp only [Act.put, List.setIfInBounds_toArray, List.set_cons_succ, List.set_cons_zero]) | go_big_quiet_step (first | (go_at_call 199; exact calls_over (HWC.out _ (Hf.out.up (Over.h _)))) | (go_at_call 198; exact calls_over (HPC.out _))))
  all_goals (try unfold ciphV)
  refine wpQuiet_nil ?_
  rintro _ ⟨E, rfl⟩
  clear hov_b
  replace Hf := Lib.hid (Hf.out.up E.h)
  replace HK := Lib.hid (Kept.up HK.out E.h)
  replace HZS := sz HZS E.h.size
  obtain ⟨w4, hq9⟩ : ∃ W9 : World, E.w = W9 := ⟨_, rfl⟩
  rw [hq9] at Hf HK HZS ⊢
  clear hq9 E c8 HPC HWC HI8
  have HRI := Lib.hid (show (Tryz.prog.info? 270).map (·.size) = some (wlV R).length by rw [wlV_len, HRL.out]; exact info8)
  obtain ⟨wz5, hq5, hg9, hz9, hx9⟩ := puts Hf 0 (wlV R) _ (foldC_puth HL8.out R HRL.out)
  refine wpList_store_mid rfl 270 (.tmp 39) (.tmp 37) rfl b 0 (wlV R).toArray rfl rfl (Hf.out.there (by rw [foldC_len HL8.out HB2.out, List.size_toArray, wlV_len, HRL.out]; decide)) (by simpa using HRI.out) (all_oneCell_toArray (wl_one R)) ?_
  rw [List.toList_toArray, hq5]
  replace HK := Lib.hid (Kept.grown HK.out hg9.out (fun q9 e9 => by obtain rfl := Option.some.inj e9; exact Or.inr (rfl)))
  replace HZS := sz HZS hz9.out
  replace Hf := hx9
  clear hx9 hg9 hz9 HL8 hq5
  obtain ⟨i9, hi9, hz90, hz91, hz92⟩ := info_parts infoByte
  go_wp2_with (at_make; refine wpList_make_own _ rfl _ _ 173 rfl (wz5.heap.size) 5 i9 _ 1 Tryz.underlying173 hi9 hz90 hz91 _ _ _ (32) rfl rfl ?c1 ?c2 ?c3 ?c4 ?_)
  case c1 => rfl
  case c2 => rw [hz92]; omega
  case c3 => unfold maxLen; omega
  case c4 => have g0 := HZS.out; omega
  intro w5 hown9 hg9
  have hb9 : Below wz5.heap.size wz5 w5 := (Below.refl _ _).grown hg9 (Nat.le_refl _) (fun q hq => by cases hq)
  replace Hf := Lib.hid (Hf.out.up hb9)
  replace HK := Lib.hid (Kept.up HK.out hb9)
  replace HZS := sz HZS hb9.size
  have Hr : Hid (RowO (wz5.heap.size) w5 5 1 (.slice (some ⟨wz5.heap.size, 0, none⟩) 0 (32)) 0 []) := Lib.hid hown9
  clear hb9 hown9 hg9 hi9 hz90 hz91 hz92
  go_wp2_with (refine wpList_load_mid rfl 270 (.tmp 43) rfl b 0 rfl (wlV R) _ (foldC_h Hf.out) Tryz.underlying270 rfl HRI.out ?_)
  go_loopw [45, 3] (fun c v wr => ∃ i g cap : Nat, i ≤ 8 ∧ c = .int .i64 i ∧ v = .slice (some ⟨g, 0, none⟩) (4 * i) cap ∧ Hid (RowO wz5.heap.size wr 5 1 (.slice (some ⟨g, 0, none⟩) (4 * i) cap) (4 * i) (byteCells (outB (R.take i)))) ∧ Hid (Kept (fun q9 => q9 = b) w wr)) (fun c _ _ => 8 - (RowKit.intOf c).toNat)
  case atStart => exact ⟨0, _, _, by omega, rfl, rfl, Hr, HK⟩
  case round =>
   obtain ⟨i, g, cap, hi, rfl, rfl, HQ, HK1⟩ := hrel
   clear HK Hr Hf
   have HK := HK1
   have Hr := HQ
   clear HK1 HQ
   have HSW := Lib.hid HK.out.size
   have HSM := Lib.hid (Hr.out.lt g rfl)
   replace HZS := sz HZS HSW.out
   replace HZS := sz HZS HSM.out
   by_cases hi8 : i < 8
   ·have hix := fun W => run_index_arr (P := Tryz.prog) W 270 269 .u32 8 (wlV R) i _ (wlV_get R i (by rw [HRL.out]; exact hi8)) Tryz.underlying270 (by rw [wlV_len, HRL.out]) infoW Tryz.underlying269
    have HON := Lib.hid (out_snoc R i (by rw [HRL.out]; exact hi8))
    have hX := (R.getD i 0).isLt
    generalize R.getD i 0 = X at *
    go_upto_region 8 with (fail)
    clear hix
    obtain ⟨i9, hi9, hz90, hz91, hz92⟩ := info_parts infoByte
    go_wp2_with (at_builtin; refine wpList_pushM (wz5.heap.size) wr (by have g0 := HZS.out; omega) rfl _ _ 173 rfl 5 i9 _ 1 1 4 Tryz.underlying173 hi9 hz90 hz91 hz92 rfl (by omega) (by omega) ((.slice (some ⟨g, 0, none⟩) (4 * i) cap)) ((4 * i)) ((byteCells (outB (R.take i)))) rfl Hr.out _ _ _ rfl rfl rfl (by simp [Value.oneCell']) (by omega) (by unfold maxLen; omega) ?_)
    intro g6 c6 w6 hown9 hg9
    replace HK := Lib.hid (Kept.grown HK.out hg9 (fun q hq => Or.inl (Nat.le_trans (show w.heap.size ≤ wz5.heap.size by have g0 := HZS.out; omega) (Hr.out.lt q hq).1)))
    replace HZS := sz HZS hg9.size
    clear Hr
    have Hr := Lib.hid hown9
    clear hown9 hg9 hi9 hz90 hz91 hz92
    have HQ := Lib.hid (Hr.out.eq (ys := byteCells (outB (R.take (i + 1)))) (m := 4 * (i + 1)) (by rw [HON.out]) rfl)
    go_wp2_with fail
    go_roundw
    case rel => exact ⟨i + 1, _, _, by omega, by go_num, rfl, HQ, HK⟩
    case measure => simp [RowKit.intOf]; omega
   ·have hi8' : i = 8 := by omega
    subst hi8'
    have HQ := Hr.out
    rw [out_take8 R HRL.out, show outB R = digB s by rw [← HRE.out]; rfl] at HQ
    have hcv := run_convert_bytes_arg (P := Tryz.prog) wr 173 5 Tryz.underlying173 Tryz.underlying5 g 0 32 cap ((digB s).map fun b => (b.toNat : Int)) (by rw [List.length_map, digB_len]) (fun j hj => row_byte HQ j (by rw [digB_len]; exact hj)) 9 Tryz.underlying9
    rw [out_str] at hcv
    clear HQ
    go_wp2_with fail
    go_ret
    exact ⟨rfl, HK.out⟩
end Go.Proofs.YtjmeakfjfpnciaaGreat
