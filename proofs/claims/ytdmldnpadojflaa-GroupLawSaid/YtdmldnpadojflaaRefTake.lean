/- The document's numbers: what is taken off; what is left of a modulus. No condition. -/
import Derived.Test.YtdmldnpadojflaaRefCmp
import Derived.Deep.LoopGhost
namespace Go.Proofs.Ytdmldnpadojflaa
open Go.RowKit

/-- A row of K cells of which the first i are written. -/
def rowZ (n i K : Nat) : List Nat := (List.range K).map fun p => if p < i then dg DD n p else 0
theorem rowZ_zero (n K : Nat) : rowZ n 0 K = digsTo 0 K := by
  unfold rowZ digsTo
  refine List.map_congr_left fun p _ => ?_
  simp [dg]
theorem rowZ_at (n i K : Nat) (h : i < K) : ((rowZ n i K).map dV)[i]? = some (.int .i64 0) := by
  simp [rowZ, h, dV]
theorem rowZ_set (n i K : Nat) : ((rowZ n i K).map dV).set i (.int .i64 (dg DD n i : Int)) = (rowZ n (i + 1) K).map dV := by
  rw [show (Value.int .i64 (dg DD n i : Int)) = dV (dg DD n i) from rfl, ← List.map_set]
  congr 1
  refine List.ext_getElem (by simp [rowZ]) (fun p h1 h2 => ?_)
  rw [List.getElem_set]
  simp only [rowZ, List.getElem_map, List.getElem_range]
  by_cases h : i = p
  · subst h; rw [if_pos rfl, if_pos (by omega)]
  · rw [if_neg h]
    by_cases h3 : p < i
    · rw [if_pos h3, if_pos (by omega)]
    · rw [if_neg h3, if_neg (by omega)]
theorem rowZ_end (n K : Nat) : rowZ n K K = digsTo n K := by
  unfold rowZ digsTo
  refine List.map_congr_left fun p hp => ?_
  rw [if_pos (by simpa using hp)]

/-- What stands in a digit when something is taken off. -/
theorem take_digit (r s n i : Nat) : (dg DD (r + n * s) i : Int) - (mcB DD r s n i : Int) - (n : Int) * (dg DD s i : Int) = (dg DD r i : Int) - 65536 * (mcB DD r s n (i + 1) : Int) := by
  have h1 := mcB_dig (B := DD) (by decide) r s n i
  have h2 := mcB_succ (B := DD) (by decide) r s n i
  have h3 := Nat.div_add_mod (dg DD r i + n * dg DD s i + mcB DD r s n i) DD
  rw [h1, h2] at h3
  have h4 : (n : Int) * (dg DD s i : Int) = ((n * dg DD s i : Nat) : Int) := by simp
  rw [h4]
  have h5 : 65536 * mcB DD r s n (i + 1) + dg DD (r + n * s) i = dg DD r i + n * dg DD s i + mcB DD r s n i := h3
  omega


set_option maxHeartbeats 2000000 in
theorem refTake_any (a b n k R : Nat) (aa ab : Option Addr) (ca cb : Nat) (hla : dl a ≤ 1048576) (hlb : dl b ≤ 1048576) (hn : n ≤ 1099511627776) (hk : k ≤ 1048576) (hR : a = R + n * (b * DD ^ k)) (w : World) (hA : NumAt w aa a) (hB : NumAt w ab b) :
    Calls Try.prog 87 #[.slice aa (dl a) ca, .slice ab (dl b) cb, .int .i64 (n : Int), .int .i64 (k : Int)] w fun e w' => NumR w e w' R := by
  obtain ⟨i0, hi, hz0, hz1, hz2⟩ := info_parts infoInt3
  have HA := Lib.hid hA
  have HB := Lib.hid hB
  have HR := Lib.hid hR
  clear hA hB hR
  go_enter Try.func87, Try.ntmps87
  go_wp2_with (at_make; refine wpList_make_full _ rfl _ _ 23 rfl 0 3 i0 (.int .i64 0) 1 Try.underlying23 hi hz0 hz1 _ _ _ _ (dl a) rfl rfl ?c1 ?c2 ?c3 ?c4 ?c5 ?_)
  case c1 => rfl
  case c2 => rfl
  case c3 => rw [hz2]; omega
  case c4 => unfold maxLen; omega
  case c5 => omega
  intro w1 hown hgrow
  rw [zeros_made, ← rowZ_zero R] at hown
  have HO1 := Lib.hid hown
  have HB1 : Hid (Below w.heap.size w w1) := (Below.refl _ _).grown hgrow (Nat.le_refl _) (by simp)
  clear hown hgrow hi hz0 hz1 hz2
  go_wp2_with fail
  go_loopw [10, 11, 12] (fun c x _ wr => ∃ i : Nat, i ≤ dl a ∧ x = .int .i64 i ∧ c = .int .i64 (mcB DD R (b * DD ^ k) n i : Nat) ∧ Hid (wr.ownsRow 0 3 1 (.slice (some ⟨w.heap.size, 0, none⟩) (dl a) (dl a)) (dl a) ((rowZ R i (dl a)).map dV)) ∧ Hid (Below w.heap.size w wr)) (fun _ x _ _ => dl a - (intOf x).toNat)
  case atStart => exact ⟨0, Nat.zero_le _, rfl, by rw [mcB_zero]; rfl, HO1.out, HB1.out⟩
  case round =>
    clear HO1 HB1
    obtain ⟨i, hi, rfl, rfl, HO, HN⟩ := hrel
    by_cases hil : i < dl a
    · obtain ⟨b1, o1, rfl, hb1, hcell1⟩ := HA.out.all (by omega)
      have hx1 : wr.cell? ⟨b1, o1 + i, none⟩ = some (.int .i64 (dg DD a i : Int)) := by rw [HN.out.cell (p := ⟨b1, o1 + i, none⟩) hb1]; exact hcell1 _ hil
      have hda : dg DD a i < 65536 := dg_lt (B := DD) (by decide) _ _
      have hdr : dg DD R i < 65536 := dg_lt (B := DD) (by decide) _ _
      have hc1 := mcB_le (B := DD) (by decide) R (b * DD ^ k) n i
      have hc2 := mcB_le (B := DD) (by decide) R (b * DD ^ k) n (i + 1)
      have htd := take_digit R (b * DD ^ k) n i
      rw [← HR.out] at htd
      have hx3 := HO.out.cellAt i (by omega)
      rw [rowZ_at R i (dl a) hil] at hx3
      have hf3 := HO.out.frozenAt i
      generalize mcB DD R (b * DD ^ k) n i = c at *
      generalize hcc : mcB DD R (b * DD ^ k) n (i + 1) = c2 at *
      have HC2 : Hid (mcB DD R (b * DD ^ k) n (i + 1) = c2) := hcc
      clear hcell1 hcc
      by_cases hik : k ≤ i ∧ i - k < dl b
      · obtain ⟨hik1, hik2⟩ := hik
        obtain ⟨b2, o2, rfl, hb2, hcell2⟩ := HB.out.all (by omega)
        have hx2 : wr.cell? ⟨b2, o2 + (i - k), none⟩ = some (.int .i64 (dg DD b (i - k) : Int)) := by rw [HN.out.cell (p := ⟨b2, o2 + (i - k), none⟩) hb2]; exact hcell2 _ hik2
        have hdb : dg DD b (i - k) < 65536 := dg_lt (B := DD) (by decide) _ _
        have hsh := dg_shift b k (i - k)
        rw [show k + (i - k) = i by omega] at hsh
        rw [hsh] at htd
        have hidx : (i : Int) - (k : Int) = ((i - k : Nat) : Int) := by omega
        clear hcell2 hsh
        generalize dg DD b (i - k) = db at *
        generalize hda' : dg DD a i = da at *
        have hprod : n * db ≤ 1099511627776 * 65535 := Nat.mul_le_mul hn (by omega)
        have hpi : (n : Int) * (db : Int) = ((n * db : Nat) : Int) := by simp
        rw [hpi] at htd
        generalize hpr : n * db = pr at *
        have HDA := Lib.hid hda'
        have HPR := Lib.hid hpr
        clear hda' hpr
        have hkI : (k : Int) ≤ (i : Int) := by omega
        have hst := (HO.out.stored i (.int .i64 (dg DD R i : Int))).1
        rw [rowZ_set] at hst
        have HS := Lib.hid hst
        have HSB := Lib.hid (HN.out.setCell (p := ⟨w.heap.size, i, none⟩) (Nat.le_refl _) (.int .i64 (dg DD R i : Int)))
        clear hst
        obtain ⟨d, hd⟩ : ∃ d : Int, (da : Int) - (c : Int) - (pr : Int) = d := ⟨_, rfl⟩
        rw [hd] at htd
        have hdlo : -72057594037927936 ≤ d := by omega
        have hdhi : d ≤ 65535 := by omega
        by_cases hneg : 0 < c2
        · have hd2 : d < 0 := by omega
          have hdn : (65535 - d) / 65536 = (c2 : Int) := by omega
          have hds : d + (c2 : Int) * 65536 = (dg DD R i : Int) := by omega
          have HTD := Lib.hid htd
          clear htd
          go_wp2_with fail
          go_roundw
          case rel => exact ⟨i + 1, by omega, by go_num, by first | rw [hdn, HC2.out] | rw [HC2.out], HS.out, HSB.out⟩
          case measure => simp [intOf]; omega
        · have hc0 : c2 = 0 := by omega
          have hd2 : ¬ d < 0 := by omega
          have hds : d = (dg DD R i : Int) := by omega
          have HC0 := Lib.hid hc0
          have HDS := Lib.hid hds
          have HTD := Lib.hid htd
          rw [← hds] at HS HSB
          clear hc0 hds htd
          go_wp2_with fail
          go_roundw
          case rel => exact ⟨i + 1, by omega, by go_num, by rw [HC2.out, HC0.out]; rfl, HS.out, HSB.out⟩
          case measure => simp [intOf]; omega
      · have h0 : dg DD (b * DD ^ k) i = 0 := by
          rcases Nat.lt_or_ge i k with h | h
          · unfold dg
            have e : DD ^ k = DD ^ i * (DD * DD ^ (k - i - 1)) := by rw [← Nat.pow_succ', ← Nat.pow_add]; congr 1; omega
            rw [e, Nat.mul_left_comm, Nat.mul_div_cancel_left _ (Nat.pow_pos (by decide)), Nat.mul_left_comm, Nat.mul_mod_right]
          · have hsh := dg_shift b k (i - k)
            rw [show k + (i - k) = i by omega] at hsh
            rw [hsh]
            exact dg_nought b _ (by omega)
        rw [h0] at htd
        have htd2 : (dg DD a i : Int) - (c : Int) = (dg DD R i : Int) - 65536 * (c2 : Int) := by simpa using htd
        clear h0 htd
        have htd := htd2
        clear htd2
        generalize hda' : dg DD a i = da at *
        have HDA := Lib.hid hda'
        clear hda'
        by_cases hik1 : k ≤ i
        · have hik2 : ¬ i - k < dl b := fun h => hik ⟨hik1, h⟩
          have hidx : (i : Int) - (k : Int) = ((i - k : Nat) : Int) := by omega
          clear hik
          have hst := (HO.out.stored i (.int .i64 (dg DD R i : Int))).1
          rw [rowZ_set] at hst
          have HS := Lib.hid hst
          have HSB := Lib.hid (HN.out.setCell (p := ⟨w.heap.size, i, none⟩) (Nat.le_refl _) (.int .i64 (dg DD R i : Int)))
          clear hst
          obtain ⟨d, hd⟩ : ∃ d : Int, (da : Int) - (c : Int) = d := ⟨_, rfl⟩
          rw [hd] at htd
          have hdlo : -72057594037927936 ≤ d := by omega
          have hdhi : d ≤ 65535 := by omega
          by_cases hneg : 0 < c2
          · have hd2 : d < 0 := by omega
            have hdn : (65535 - d) / 65536 = (c2 : Int) := by omega
            have hds : d + (c2 : Int) * 65536 = (dg DD R i : Int) := by omega
            have HTD := Lib.hid htd
            clear htd
            go_wp2_with fail
            go_roundw
            case rel => exact ⟨i + 1, by omega, by go_num, by first | rw [hdn, HC2.out] | rw [HC2.out], HS.out, HSB.out⟩
            case measure => simp [intOf]; omega
          · have hc0 : c2 = 0 := by omega
            have hd2 : ¬ d < 0 := by omega
            have hds : d = (dg DD R i : Int) := by omega
            have HC0 := Lib.hid hc0
            have HDS := Lib.hid hds
            have HTD := Lib.hid htd
            rw [← hds] at HS HSB
            clear hc0 hds htd
            go_wp2_with fail
            go_roundw
            case rel => exact ⟨i + 1, by omega, by go_num, by rw [HC2.out, HC0.out]; rfl, HS.out, HSB.out⟩
            case measure => simp [intOf]; omega
        · clear hik
          have hst := (HO.out.stored i (.int .i64 (dg DD R i : Int))).1
          rw [rowZ_set] at hst
          have HS := Lib.hid hst
          have HSB := Lib.hid (HN.out.setCell (p := ⟨w.heap.size, i, none⟩) (Nat.le_refl _) (.int .i64 (dg DD R i : Int)))
          clear hst
          obtain ⟨d, hd⟩ : ∃ d : Int, (da : Int) - (c : Int) = d := ⟨_, rfl⟩
          rw [hd] at htd
          have hdlo : -72057594037927936 ≤ d := by omega
          have hdhi : d ≤ 65535 := by omega
          by_cases hneg : 0 < c2
          · have hd2 : d < 0 := by omega
            have hdn : (65535 - d) / 65536 = (c2 : Int) := by omega
            have hds : d + (c2 : Int) * 65536 = (dg DD R i : Int) := by omega
            have HTD := Lib.hid htd
            clear htd
            go_wp2_with fail
            go_roundw
            case rel => exact ⟨i + 1, by omega, by go_num, by first | rw [hdn, HC2.out] | rw [HC2.out], HS.out, HSB.out⟩
            case measure => simp [intOf]; omega
          · have hc0 : c2 = 0 := by omega
            have hd2 : ¬ d < 0 := by omega
            have hds : d = (dg DD R i : Int) := by omega
            have HC0 := Lib.hid hc0
            have HDS := Lib.hid hds
            have HTD := Lib.hid htd
            rw [← hds] at HS HSB
            clear hc0 hds htd
            go_wp2_with fail
            go_roundw
            case rel => exact ⟨i + 1, by omega, by go_num, by rw [HC2.out, HC0.out]; rfl, HS.out, HSB.out⟩
            case measure => simp [intOf]; omega
    · have hia : i = dl a := by omega
      subst hia
      rw [rowZ_end] at HO
      have hlt : R < DD ^ dl a := Nat.lt_of_le_of_lt (by have := HR.out; omega) (lt_dl a)
      have HLT := Lib.hid hlt
      clear hlt
      go_wp2_with fail
      refine (trim_own HO.out HLT.out (by omega)).mono ?_
      rintro e w' ⟨a', cap', rfl, hN, _, rfl⟩
      have HNN := Lib.hid hN
      clear hN
      go_wp2_with fail
      go_ret
      exact ⟨a', cap', rfl, HNN.out, HN.out⟩

end Go.Proofs.Ytdmldnpadojflaa
