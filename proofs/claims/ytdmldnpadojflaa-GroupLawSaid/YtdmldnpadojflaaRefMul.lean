/- The document's numbers: Times, two, Kind. No condition. -/
import Derived.Test.YtdmldnpadojflaaRefNum
namespace Go.Proofs.Ytdmldnpadojflaa
open Go.RowKit

def rowT (a b i : Nat) : Nat := (a % DD ^ i) * b
theorem rowT_zero (a b : Nat) : rowT a b 0 = 0 := by simp [rowT, Nat.mod_one]
theorem rowT_succ (a b i : Nat) : rowT a b (i + 1) = rowT a b i + dg DD a i * (b * DD ^ i) := by
  unfold rowT
  rw [dg_mod_succ, Nat.add_mul]
  congr 1
  rw [Nat.mul_comm (DD ^ i), Nat.mul_assoc, Nat.mul_comm (DD ^ i) b]
theorem rowT_lt (a b i : Nat) : rowT a b i < DD ^ (i + dl b) := by
  have h1 := Nat.mod_lt a (Nat.pow_pos (n := i) (show 0 < DD by decide))
  have h2 := lt_dl b
  unfold rowT
  rw [Nat.pow_add]
  rcases Nat.eq_zero_or_pos b with rfl | hb
  · rw [Nat.mul_zero]; exact Nat.mul_pos (Nat.pow_pos (by decide)) (Nat.pow_pos (by decide))
  · exact Nat.lt_of_lt_of_le (Nat.mul_lt_mul_of_pos_right h1 hb) (Nat.mul_le_mul_left _ (Nat.le_of_lt h2))
theorem rowT_all (a b : Nat) : rowT a b (dl a) = a * b := by unfold rowT; rw [Nat.mod_eq_of_lt (lt_dl a)]

theorem dg_shift (b i j : Nat) : dg DD (b * DD ^ i) (i + j) = dg DD b j := by
  unfold dg
  rw [Nat.pow_add, ← Nat.div_div_eq_div_mul, Nat.mul_div_cancel _ (Nat.pow_pos (by decide))]

/-- The row while a digit is multiplied. -/
def rowM (a b i j K : Nat) : List Nat := (List.range K).map fun p => if p < i + j then dg DD (rowT a b (i + 1)) p else dg DD (rowT a b i) p

theorem dg_mod_lt (n p i : Nat) (h : p < i) : dg DD n p = dg DD (n % DD ^ i) p := by
  unfold dg
  have e : DD ^ i = DD ^ p * (DD * DD ^ (i - p - 1)) := by rw [← Nat.pow_succ', ← Nat.pow_add]; congr 1; omega
  rw [e, Nat.mod_mul_right_div_self, Nat.mod_mul_right_mod]
theorem rowM_zero (a b i K : Nat) : rowM a b i 0 K = digsTo (rowT a b i) K := by
  unfold rowM digsTo
  refine List.map_congr_left fun p _ => ?_
  split
  · rename_i h
    rw [rowT_succ, dg_mod_lt _ p i (by omega), ← Nat.mul_assoc, Nat.mul_comm _ (DD ^ i), Nat.add_mul_mod_self_left, ← dg_mod_lt _ p i (by omega)]
  · rfl
theorem rowM_at (a b i j K : Nat) (h : i + j < K) : ((rowM a b i j K).map dV)[i + j]? = some (.int .i64 (dg DD (rowT a b i) (i + j) : Int)) := by
  simp [rowM, h, dV]
theorem rowM_set (a b i j K : Nat) : ((rowM a b i j K).map dV).set (i + j) (.int .i64 (dg DD (rowT a b (i + 1)) (i + j) : Int)) = (rowM a b i (j + 1) K).map dV := by
  rw [show (Value.int .i64 (dg DD (rowT a b (i + 1)) (i + j) : Int)) = dV (dg DD (rowT a b (i + 1)) (i + j)) from rfl, ← List.map_set]
  congr 1
  refine List.ext_getElem (by simp [rowM]) (fun p h1 h2 => ?_)
  rw [List.getElem_set]
  simp only [rowM, List.getElem_map, List.getElem_range]
  by_cases h : i + j = p
  · subst h; rw [if_pos rfl, if_pos (by omega)]
  · rw [if_neg h]
    by_cases h3 : p < i + j
    · rw [if_pos h3, if_pos (by omega)]
    · rw [if_neg h3, if_neg (by omega)]
theorem rowM_end (a b i K : Nat) : rowM a b i (dl b + 1) K = digsTo (rowT a b (i + 1)) K := by
  unfold rowM digsTo
  refine List.map_congr_left fun p _ => ?_
  split
  · rfl
  · rename_i h
    rw [dg_above (by decide) _ _ p (rowT_lt a b i) (by omega), dg_above (by decide) _ _ p (rowT_lt a b (i + 1)) (by omega)]
theorem up_start (a b i p : Nat) : mcB DD (rowT a b i) (b * DD ^ i) p i = 0 := by
  unfold mcB
  rw [Nat.mul_mod_left, Nat.mul_zero, Nat.add_zero]
  exact Nat.div_eq_of_lt (Nat.mod_lt _ (Nat.pow_pos (by decide)))
theorem up_end (a b i : Nat) : mcB DD (rowT a b i) (b * DD ^ i) (dg DD a i) (i + dl b) = dg DD (rowT a b (i + 1)) (i + dl b) := by
  have h := mcB_dig (B := DD) (by decide) (rowT a b i) (b * DD ^ i) (dg DD a i) (i + dl b)
  rw [dg_shift, dg_nought b (dl b) (Nat.le_refl _), Nat.mul_zero, Nat.add_zero, dg_zero _ _ (rowT_lt a b i), Nat.zero_add, ← rowT_succ] at h
  rw [← h]
  exact (Nat.mod_eq_of_lt (Nat.lt_of_le_of_lt (mcB_le (by decide) _ _ _ _) (dg_lt (by decide) _ _))).symm

theorem zeros_made (K : Nat) : (madeCells #[Value.int .i64 0] K).toList = (digsTo 0 K).map dV := by
  refine List.ext_getElem (by simp [madeCells, digsTo]) (fun i h1 h2 => by simp [madeCells, digsTo, Nat.mod_one, dV, dg])

set_option maxHeartbeats 2000000 in
theorem refTimes_any (a b : Nat) (aa ab : Option Addr) (ca cb : Nat) (hla : dl a ≤ 1048576) (hlb : dl b ≤ 1048576) (w : World) (hA : NumAt w aa a) (hB : NumAt w ab b) :
    Calls Try.prog 61 #[.slice aa (dl a) ca, .slice ab (dl b) cb] w fun e w' => NumR w e w' (a * b) := by
  obtain ⟨i0, hi, hz0, hz1, hz2⟩ := info_parts infoInt3
  have HA := Lib.hid hA
  have HB := Lib.hid hB
  clear hA hB
  obtain ⟨K, hK⟩ : ∃ K, dl a + dl b = K := ⟨_, rfl⟩
  have hK1 : (dl a : Int) + (dl b : Int) = (K : Int) := by omega
  go_enter Try.func61, Try.ntmps61
  go_wp2_with (at_make; refine wpList_make_full _ rfl _ _ 23 rfl 0 3 i0 (.int .i64 0) 1 Try.underlying23 hi hz0 hz1 _ _ _ _ K rfl rfl ?c1 ?c2 ?c3 ?c4 ?c5 ?_)
  case c1 => rfl
  case c2 => rfl
  case c3 => rw [hz2]; omega
  case c4 => unfold maxLen; omega
  case c5 => omega
  intro w1 hown hgrow
  have e0 : digsTo 0 K = digsTo (rowT a b 0) K := by rw [rowT_zero]
  rw [zeros_made, e0] at hown
  clear e0
  have HO1 := Lib.hid hown
  have HB1 : Hid (Below w.heap.size w w1) := (Below.refl _ _).grown hgrow (Nat.le_refl _) (by simp)
  have HK := Lib.hid hK
  have hKs : K ≤ 2097152 := by omega
  have hlaK : dl a ≤ K := by omega
  clear hown hgrow hi hz0 hz1 hz2 hK hK1
  go_wp2_with fail
  go_loopw [6, 7, 8, 9] (fun x _ _ _ wr => ∃ i : Nat, i ≤ dl a ∧ x = .int .i64 i ∧ Hid (wr.ownsRow 0 3 1 (.slice (some ⟨w.heap.size, 0, none⟩) K K) K ((digsTo (rowT a b i) K).map dV)) ∧ Hid (Below w.heap.size w wr)) (fun x _ _ _ _ => dl a - (intOf x).toNat)
  case atStart => exact ⟨0, Nat.zero_le _, rfl, HO1.out, HB1.out⟩
  case round =>
    clear HO1 HB1
    obtain ⟨i, hi, rfl, HO, HN⟩ := hrel
    by_cases hil : i < dl a
    · obtain ⟨W2, rfl⟩ : ∃ W2 : World, W2 = wr := ⟨_, rfl⟩
      obtain ⟨b1, o1, rfl, hb1, hcell1⟩ := HA.out.all (by omega)
      have hx1 := hcell1 i hil
      have HX1 := Lib.hid hx1
      have hda : dg DD a i < 65536 := dg_lt (B := DD) (by decide) a i
      clear hcell1 hx1
      go_wp2_with fail
      go_loopw [7, 8, 9] (fun c x _ wr => ∃ j : Nat, j ≤ dl b ∧ x = .int .i64 j ∧ c = .int .i64 (mcB DD (rowT a b i) (b * DD ^ i) (dg DD a i) (i + j) : Nat) ∧ Hid (wr.ownsRow 0 3 1 (.slice (some ⟨w.heap.size, 0, none⟩) K K) K ((rowM a b i j K).map dV)) ∧ Hid (Below w.heap.size w wr)) (fun _ x _ _ => dl b - (intOf x).toNat)
      case atStart => exact ⟨0, Nat.zero_le _, rfl, by rw [Nat.add_zero, up_start]; rfl, by show World.ownsRow _ _ _ _ _ _ _; rw [rowM_zero]; exact HO.out, HN.out⟩
      case round =>
        clear HO HN
        obtain ⟨j, hj, rfl, rfl, HO, HN⟩ := hrel
        have hsz := HN.out.size
        have hlw := (HO.out.lt w.heap.size (by simp [Value.ownBlock])).2
        have hc1 := mcB_le (B := DD) (by decide) (rowT a b i) (b * DD ^ i) (dg DD a i) (i + j)
        by_cases hjl : j < dl b
        · obtain ⟨b2, o2, rfl, hb2, hcell2⟩ := HB.out.all (by omega)
          have hx2 := hcell2 j hjl
          have hdb : dg DD b j < 65536 := dg_lt (B := DD) (by decide) b j
          have hdt : dg DD (rowT a b i) (i + j) < 65536 := dg_lt (B := DD) (by decide) _ _
          have hKij : i + j < K := by have := HK.out; omega
          have hdig := mcB_dig (B := DD) (by decide) (rowT a b i) (b * DD ^ i) (dg DD a i) (i + j)
          have hsuc := mcB_succ (B := DD) (by decide) (rowT a b i) (b * DD ^ i) (dg DD a i) (i + j)
          rw [dg_shift, ← rowT_succ] at hdig
          rw [dg_shift] at hsuc
          have hx3 := HO.out.cellAt (i + j) (by omega)
          rw [rowM_at a b i j K hKij] at hx3
          have hf3 := HO.out.frozenAt (i + j)
          have HS := Lib.hid (HO.out.stored (i + j) (.int .i64 (dg DD (rowT a b (i + 1)) (i + j) : Int)))
          have hx1' : wr.cell? ⟨b1, o1 + i, none⟩ = some (.int .i64 (dg DD a i : Int)) := by rw [HN.out.cell (p := ⟨b1, o1 + i, none⟩) hb1]; exact HX1.out
          have hx2' : wr.cell? ⟨b2, o2 + j, none⟩ = some (.int .i64 (dg DD b j : Int)) := by rw [HN.out.cell (p := ⟨b2, o2 + j, none⟩) hb2]; exact hx2
          have hprod : dg DD a i * dg DD b j ≤ 65535 * 65535 := Nat.mul_le_mul (by omega) (by omega)
          have hpi : (dg DD a i : Int) * (dg DD b j : Int) = ((dg DD a i * dg DD b j : Nat) : Int) := by simp
          clear hx2 hcell2
          generalize hT1 : dg DD (rowT a b (i + 1)) (i + j) = d1 at *
          generalize dg DD (rowT a b i) (i + j) = d0 at *
          generalize mcB DD (rowT a b i) (b * DD ^ i) (dg DD a i) (i + j) = c at *
          generalize hc2 : mcB DD (rowT a b i) (b * DD ^ i) (dg DD a i) (i + j + 1) = c2 at *
          generalize hpp : dg DD a i * dg DD b j = pr at *
          have HDIG := Lib.hid hdig
          have HSUC := Lib.hid hsuc
          have HC2 := Lib.hid hc2
          have HPI := Lib.hid hpi
          have HT1 := Lib.hid hT1
          generalize dg DD a i = da at *
          generalize dg DD b j = db at *
          clear hdig hsuc hc2 hT1 hpp
          have hm1 : ((d0 : Int) + (pr : Int) + (c : Int)) % 65536 = (d1 : Int) := by have h := HDIG.out; have h2 : (DD : Nat) = 65536 := rfl; rw [h2] at h; omega
          have hd1 : ((d0 : Int) + (pr : Int) + (c : Int)) / 65536 = (c2 : Int) := by have h := HSUC.out; have h2 : (DD : Nat) = 65536 := rfl; rw [h2] at h; omega
          go_wp2_with fail
          refine wp_region_over (by kernel_rfl) (by kernel_rfl) ?_
          have hov1 := fun (E : Over wr) o => E.cell (b := b1) o (by omega)
          have hov2 := fun (E : Over wr) o => E.cell (b := b2) o (by omega)
          have hov3 := fun (E : Over wr) o => E.cell (b := w.heap.size) o hlw
          repeat (go_big_quiet_step (fail))
          refine wpQuiet_nil ?_
          rintro _ ⟨E, rfl⟩
          have HOE := Lib.hid (HO.out.kept (below_grown E.h) (Or.inr (by simp [Value.ownBlock])))
          have HNE := Lib.hid (HN.out.trans (E.h.mono hsz))
          clear hov1 hov2 hov3 hx1' hx2' hx3 hf3 HS
          obtain ⟨w5, hw5⟩ : ∃ W9 : World, E.w = W9 := ⟨_, rfl⟩
          rw [hw5] at HOE HNE ⊢
          clear hw5 E
          have hx3 := HOE.out.cellAt (i + j) (by omega)
          rw [rowM_at a b i j K hKij] at hx3
          have hf3 := HOE.out.frozenAt (i + j)
          have hst := (HOE.out.stored (i + j) (.int .i64 (dg DD (rowT a b (i + 1)) (i + j) : Int))).1
          rw [rowM_set, HT1.out] at hst
          have HS := Lib.hid hst
          have HSB := Lib.hid (HNE.out.setCell (p := ⟨w.heap.size, i + j, none⟩) (Nat.le_refl _) (.int .i64 (d1 : Int)))
          clear hst
          go_wp2_with fail
          go_roundw
          case rel => exact ⟨j + 1, by omega, by go_num, by first | (rw [hd1, ← HC2.out]; rfl) | (rw [← HC2.out]; rfl), HS.out, HSB.out⟩
          case measure => simp [intOf]; omega
        · have hjb : j = dl b := by omega
          subst hjb
          have hKij : i + dl b < K := by have := HK.out; omega
          have hx3 := HO.out.cellAt (i + dl b) (by omega)
          rw [rowM_at a b i (dl b) K hKij] at hx3
          have hf3 := HO.out.frozenAt (i + dl b)
          have hst := (HO.out.stored (i + dl b) (.int .i64 (dg DD (rowT a b (i + 1)) (i + dl b) : Int))).1
          rw [rowM_set, rowM_end, ← up_end] at hst
          have HS := Lib.hid hst
          have HSB := Lib.hid (HN.out.setCell (p := ⟨w.heap.size, i + dl b, none⟩) (Nat.le_refl _) (.int .i64 (mcB DD (rowT a b i) (b * DD ^ i) (dg DD a i) (i + dl b) : Nat)))
          clear hst
          go_wp2_with fail
          go_roundw
          case rel => exact ⟨i + 1, by omega, by go_num, HS.out, HSB.out⟩
          case measure => simp [intOf]; omega
    · have hia : i = dl a := by omega
      subst hia
      rw [rowT_all] at HO
      have hlt : a * b < DD ^ K := by
        have h := rowT_lt a b (dl a)
        rw [rowT_all, HK.out] at h
        exact h
      have HLT := Lib.hid hlt
      clear hlt
      go_wp2_with fail
      refine (trim_own HO.out HLT.out (by omega)).mono ?_
      rintro e w' ⟨a', cap', rfl, hN, _, rfl⟩
      have HNN := Lib.hid hN
      clear hN
      go_wp2_with fail
      go_ret
      exact ⟨a', cap', rfl, HNN.out, HN.out⟩

set_option maxHeartbeats 1000000 in
theorem refTwo_any (k : Nat) (hk : k ≤ 255) (w : World) : Calls Try.prog 60 #[.int .i64 (k : Int)] w fun e w' => NumR w e w' (2 ^ k) := by
  have hdl : ∀ i, i ≤ k → dl (2 ^ i) ≤ 1048576 := fun i hi => by
    refine Nat.le_trans (dl_of_lt (2 ^ i) 16 ?_) (by decide)
    show 2 ^ i < (2 ^ 16) ^ 16
    rw [← Nat.pow_mul]
    exact Nat.pow_lt_pow_right (by omega) (by omega)
  have HDL := Lib.hid hdl
  clear hdl
  go_enter Try.func60, Try.ntmps60
  go_wp2_with fail
  refine (refOf_any 1 (by omega) w).mono ?_
  rintro e w1 ⟨a1, c1, rfl, hn1, hb1⟩
  have HN1 := Lib.hid hn1
  have HB1 := Lib.hid hb1
  clear hn1 hb1
  go_wp2_with fail
  go_loopw [3, 4] (fun u x wr => ∃ (i : Nat) (a : Option Addr) (c : Nat), i ≤ k ∧ x = .int .i64 i ∧ u = .slice a (dl (2 ^ i)) c ∧ Hid (NumAt wr a (2 ^ i)) ∧ Hid (Below w.heap.size w wr)) (fun _ x _ => k - (intOf x).toNat)
  case atStart => exact ⟨0, a1, c1, Nat.zero_le _, rfl, by rw [Nat.pow_zero], HN1.out, HB1.out⟩
  case round =>
    clear HN1 HB1
    obtain ⟨i, a, c, hi, rfl, rfl, HN, HB⟩ := hrel
    by_cases hik : i < k
    · have h1 := HDL.out i hi
      go_wp2_with fail
      refine (refPlus_any (2 ^ i) (2 ^ i) a a c c h1 h1 wr HN.out HN.out).mono ?_
      rintro e w2 ⟨a2, c2, rfl, hn2, hb2⟩
      rw [← Nat.two_mul, ← Nat.pow_succ'] at hn2 ⊢
      have HN2 := Lib.hid hn2
      have HB2 := Lib.hid (below_up HB.out hb2)
      clear hn2 hb2
      go_wp2_with fail
      go_roundw
      case rel => exact ⟨i + 1, a2, c2, by omega, by go_num, rfl, HN2.out, HB2.out⟩
      case measure => simp [intOf]; omega
    · have hik2 : i = k := by omega
      subst hik2
      go_wp2_with fail
      go_ret
      exact ⟨a, c, rfl, HN.out, HB.out⟩

end Go.Proofs.Ytdmldnpadojflaa
