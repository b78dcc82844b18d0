/- Texts of this seat, one behind the other: what SigmaEithers leans on. No condition beyond those that each names. -/
import Derived.Test.YtdlnnkbigeiilaaGreatZSigmaEithers2
import Derived.Deep.LoopGhost
import Derived.WalkKit
import Derived.Test.YtdlnnkbigeiilaaGreatProg
import Derived.IntWalk
import Derived.Deep.QuietTactic
import Derived.RegionTactic
import Derived.Outline
import Derived.Deep.MidRow
import Derived.Deep.WholeRow
import Derived.Laws.CopyOwn
import Derived.Lib.BufferWrite
import Derived.BigQuiet
import Derived.Lib.SliceRun
import Derived.LoopTactic

set_option maxRecDepth 100000
set_option maxHeartbeats 4000000
set_option linter.unusedVariables false
set_option linter.unusedSimpArgs false
namespace Go.Proofs.YtdlnnkbigeiilaaGreat
open Go.RowKit
theorem refCompare_len (a b : Nat) (aa ab : Option Addr) (ca cb : Nat) (h : dl a ≠ dl b) (w : World) :
  Calls Tryz.prog 63 #[.slice aa (dl a) ca, .slice ab (dl b) cb] w fun e w' => e = .returned (.int .i64 (cmpI a b)) ∧ Below w.heap.size w w' := by
 rcases Nat.lt_or_ge (dl a) (dl b) with h1 | h1
 ·have HC : Hid (cmpI a b = -1) := by show _ = _; unfold cmpI; rw [if_pos (lt_of_dl a b h1)]
  have hne : ((dl a : Int) != (dl b : Int)) = true := by simp; omega
  clear h
  go_enter Tryz.func63, Tryz.ntmps63
  go_wp2_with fail
  go_ret
  exact ⟨ret_int HC.out.symm, Below.refl _ _⟩
 ·have h2 : dl b < dl a := by omega
  have h3 := lt_of_dl b a h2
  have HC : Hid (cmpI a b = 1) := by show _ = _; unfold cmpI; rw [if_neg (by omega), if_pos h3]
  have hne : ((dl a : Int) != (dl b : Int)) = true := by simp; omega
  have h4 : ¬ dl a < dl b := by omega
  clear h h1 h3
  go_enter Tryz.func63, Tryz.ntmps63
  go_wp2_with fail
  go_ret
  exact ⟨ret_int HC.out.symm, Below.refl _ _⟩
theorem refCompare_same (a b : Nat) (aa ab : Option Addr) (ca cb L : Nat) (ha : dl a = L) (hb : dl b = L) (hL : L ≤ 1048576) (w : World) (hA : NumAt w aa a) (hB : NumAt w ab b) :
  Calls Tryz.prog 63 #[.slice aa L ca, .slice ab L cb] w fun e w' => e = .returned (.int .i64 (cmpI a b)) ∧ Below w.heap.size w w' := by
 have HDA := Lib.hid ha
 have HDB := Lib.hid hb
 have HA := Lib.hid hA
 have HB := Lib.hid hB
 clear ha hb hA hB
 have hne : ((L : Int) != (L : Int)) = false := by simp
 go_enter Tryz.func63, Tryz.ntmps63
 go_wp2_with fail
 go_loopw [5] (fun x wr => ∃ j : Nat, j ≤ L ∧ x = .int .i64 ((j : Int) - 1) ∧ Hid (a / DD ^ j = b / DD ^ j) ∧ Hid (Below w.heap.size w wr)) (fun x _ => (intOf x + 1).toNat)
 case atStart => exact ⟨L, Nat.le_refl _, rfl, by
  show _ = _
  have h1 := lt_dl a
  have h2 := lt_dl b
  rw [HDA.out] at h1
  rw [HDB.out] at h2
  rw [Nat.div_eq_of_lt h1, Nat.div_eq_of_lt h2], Below.refl _ _⟩
 case round =>
  obtain ⟨j, hj, hi, HE, HN⟩ := hrel
  rcases Nat.eq_zero_or_pos j with rfl | hjp
  ·subst hi
   go_wp2_with fail
   go_ret
   have h := HE.out
   rw [Nat.pow_zero, Nat.div_one, Nat.div_one] at h
   exact ⟨ret_int (by unfold cmpI; rw [if_neg (by omega), if_neg (by omega)]), HN.out⟩
  ·obtain ⟨p, rfl⟩ : ∃ p, j = p + 1 := ⟨j - 1, by omega⟩
   have ei : ((p + 1 : Nat) : Int) - 1 = (p : Int) := by omega
   rw [ei] at hi
   subst hi
   clear ei hjp
   obtain ⟨b1, o1, rfl, hb1, hcell1⟩ := HA.out.all (by rw [HDA.out]; omega)
   obtain ⟨b2, o2, rfl, hb2, hcell2⟩ := HB.out.all (by rw [HDB.out]; omega)
   have hx1 : wr.cell? ⟨b1, o1 + p, none⟩ = some (.int .i64 (dg DD a p : Int)) := by rw [HN.out.cell (p := ⟨b1, o1 + p, none⟩) hb1]; exact hcell1 _ (by rw [HDA.out]; omega)
   have hx2 : wr.cell? ⟨b2, o2 + p, none⟩ = some (.int .i64 (dg DD b p : Int)) := by rw [HN.out.cell (p := ⟨b2, o2 + p, none⟩) hb2]; exact hcell2 _ (by rw [HDB.out]; omega)
   clear hcell1 hcell2
   rcases Nat.lt_trichotomy (dg DD a p) (dg DD b p) with hd | hd | hd
   ·have hcmp : Hid (a < b) := lt_of_dg a b p HE.out hd
    have hd1 : ((dg DD a p : Int) != (dg DD b p : Int)) = true := by simp; omega
    go_wp2_with fail
    go_quiet (fail)
    go_wp2_with fail
    go_quiet (fail)
    go_wp2_with fail
    go_ret
    exact ⟨ret_int (by unfold cmpI; rw [if_pos hcmp.out]), by first | exact below_drewN (below_drewN HN.out _) _ | exact below_drewN HN.out _⟩
   ·have HE2 := Lib.hid (same_of_dg a b p HE.out hd)
    have hd1 : ((dg DD a p : Int) != (dg DD b p : Int)) = false := by simp; omega
    have hd2 : ¬ dg DD a p < dg DD b p := by omega
    have hd3 : ¬ dg DD b p < dg DD a p := by omega
    clear hd
    go_wp2_with fail
    go_quiet (fail)
    go_wp2_with fail
    go_roundw
    case rel => exact ⟨p, by omega, rfl, HE2.out, below_drewN HN.out _⟩
    case measure => first | (simp [intOf]; done) | (simp [intOf]; omega)
   ·have hcmp : Hid (b < a) := lt_of_dg b a p HE.out.symm hd
    have hd1 : ((dg DD a p : Int) != (dg DD b p : Int)) = true := by simp; omega
    have hd2 : ¬ dg DD a p < dg DD b p := by omega
    go_wp2_with fail
    go_quiet (fail)
    go_wp2_with fail
    go_quiet (fail)
    go_wp2_with fail
    go_ret
    exact ⟨ret_int (by have := hcmp.out; unfold cmpI; rw [if_neg (by omega), if_pos this]), by first | exact below_drewN (below_drewN HN.out _) _ | exact below_drewN HN.out _⟩
theorem refCompare_any (a b : Nat) (aa ab : Option Addr) (ca cb : Nat) (hla : dl a ≤ 1048576) (w : World) (hA : NumAt w aa a) (hB : NumAt w ab b) :
  Calls Tryz.prog 63 #[.slice aa (dl a) ca, .slice ab (dl b) cb] w fun e w' => e = .returned (.int .i64 (cmpI a b)) ∧ Below w.heap.size w w' := by
 by_cases h : dl a = dl b
 ·have h1 := refCompare_same a b aa ab ca cb (dl a) rfl h.symm hla w hA hB
  rw [← h]
  exact h1
 ·exact refCompare_len a b aa ab ca cb h w
theorem refRead_any (s : ByteArray) (hs : s.size ≤ 1048576) (w : World) :
  Calls Tryz.prog 61 #[.string s] w fun e w' => NumR w e w' (numOf s) := by
 obtain ⟨i0, hi, hz0, hz1, hz2⟩ := info_parts infoInt3
 obtain ⟨K, hK⟩ : ∃ K, (s.size + 1) / 2 = K := ⟨_, rfl⟩
 have hK1 : ((s.size : Int) + 1) / 2 = (K : Int) := by omega
 go_enter Tryz.func61, Tryz.ntmps61
 go_wp2_with (at_make; refine wpList_make_full _ rfl _ _ 84 rfl 0 3 i0 (.int .i64 0) 1 Tryz.underlying84 hi hz0 hz1 _ _ _ _ K rfl rfl ?c1 ?c2 ?c3 ?c4 ?c5 ?_)
 case c1 => exact hK1
 case c2 => exact hK1
 case c3 => rw [hz2]; omega
 case c4 => unfold maxLen; omega
 case c5 => omega
 intro w1 hown hgrow
 have e0 : digsTo 0 K = digsTo (numTo s 0) K := by rw [numTo_zero]
 rw [zeros_made, e0] at hown
 have HO1 := Lib.hid hown
 have HB1 : Hid (Below w.heap.size w w1) := (Below.refl _ _).grown hgrow (Nat.le_refl _) (by simp)
 have HK := Lib.hid hK
 have hKs : K ≤ 1048576 := by omega
 clear hown hgrow hi hz0 hz1 hz2 e0 hK hK1
 go_wp2_with fail
 go_loopw [4, 5] (fun x _ wr => ∃ k : Nat, k ≤ s.size ∧ x = .int .i64 k ∧ Hid (wr.ownsRow 0 3 1 (.slice (some ⟨w.heap.size, 0, none⟩) K K) K ((digsTo (numTo s k) K).map dV)) ∧ Hid (Below w.heap.size w wr)) (fun x _ _ => s.size - (intOf x).toNat)
 case atStart => exact ⟨0, Nat.zero_le _, rfl, HO1.out, HB1.out⟩
 case round =>
  clear HO1 HB1
  obtain ⟨k, hk, rfl, HO, HN⟩ := hrel
  by_cases hkl : k < s.size
  ·have hkK : k / 2 < K := by have := HK.out; omega
   have hx := HO.out.cellAt (k / 2) (by omega)
   have hxv : ((digsTo (numTo s k) K).map dV)[k / 2]? = some (.int .i64 (dg DD (numTo s k) (k / 2) : Int)) := by simp [digsTo, hkK, dV]
   rw [hxv] at hx
   have hf := HO.out.frozenAt (k / 2)
   have hidx : (s.size : Int) - 1 - (k : Int) = ((s.size - 1 - k : Nat) : Int) := by omega
   have hlt : s.size - 1 - k < s.size := by omega
   have hc256 := (s[s.size - 1 - k]'hlt).toNat_lt
   have hdlt : dg DD (numTo s k) (k / 2) < 65536 := dg_lt (B := DD) (by decide) _ _
   have HNS := Lib.hid (numTo_succ s k hkl)
   clear hxv
   generalize hcc : (s[s.size - 1 - k]'hlt).toNat = c at *
   have hk1 : k % 2 = 0 ∨ k % 2 = 1 := by omega
   rcases hk1 with hk1 | hk1
   ·have hodd : ((k : Int) % 2 == 1) = false := by simp; omega
    have HK1 := Lib.hid hk1
    clear hk1
    have hput := digsTo_put (numTo s k) c k K (numTo_lt s k hk) hc256
    rw [← HNS.out, HK1.out, Nat.pow_zero, Nat.mul_one] at hput
    have hst := (HO.out.stored (k / 2) (.int .i64 ((dg DD (numTo s k) (k / 2) : Int) + (c : Int)))).1
    rw [show (Value.int .i64 ((dg DD (numTo s k) (k / 2) : Int) + (c : Int))) = dV (dg DD (numTo s k) (k / 2) + c) from by unfold dV; congr 1, ← List.map_set, hput] at hst
    have HS := Lib.hid hst
    have HSB := Lib.hid (HN.out.setCell (p := ⟨w.heap.size, k / 2, none⟩) (Nat.le_refl _) (.int .i64 ((dg DD (numTo s k) (k / 2) : Int) + (c : Int))))
    clear hst hput
    go_wp2_with fail
    go_roundw
    case rel => exact ⟨k + 1, by omega, by go_num, HS.out, HSB.out⟩
    case measure => simp [intOf]; omega
   ·have hodd : ((k : Int) % 2 == 1) = true := by simp; omega
    have HK1 := Lib.hid hk1
    clear hk1
    have hput := digsTo_put (numTo s k) c k K (numTo_lt s k hk) hc256
    rw [← HNS.out, HK1.out, Nat.pow_one] at hput
    have hst := (HO.out.stored (k / 2) (.int .i64 ((dg DD (numTo s k) (k / 2) : Int) + (c : Int) * 256))).1
    rw [show (Value.int .i64 ((dg DD (numTo s k) (k / 2) : Int) + (c : Int) * 256)) = dV (dg DD (numTo s k) (k / 2) + c * 256) from by unfold dV; congr 1, ← List.map_set, hput] at hst
    have HS := Lib.hid hst
    have HSB := Lib.hid (HN.out.setCell (p := ⟨w.heap.size, k / 2, none⟩) (Nat.le_refl _) (.int .i64 ((dg DD (numTo s k) (k / 2) : Int) + (c : Int) * 256)))
    clear hst hput
    go_wp2_with fail
    go_roundw
    case rel => exact ⟨k + 1, by omega, by go_num, HS.out, HSB.out⟩
    case measure => simp [intOf]; omega
  ·have hks : k = s.size := by omega
   subst hks
   rw [numTo_all] at HO
   have hlt : numOf s < DD ^ K := by
    have h := numL_lt s.data.toList
    have e : s.data.toList.length = s.size := rfl
    rw [e] at h
    refine Nat.lt_of_lt_of_le h ?_
    show 256 ^ s.size ≤ (256 ^ 2) ^ K
    rw [← Nat.pow_mul]
    exact Nat.pow_le_pow_right (by omega) (by have := HK.out; omega)
   have HLT := Lib.hid hlt
   clear hlt
   go_wp2_with fail
   refine (trim_own HO.out HLT.out (by omega)).mono ?_
   rintro e w' ⟨a', cap', rfl, hN, _, rfl⟩
   have HNN := Lib.hid hN
   clear hN
   go_wp2_with fail
   go_ret
   exact ⟨a', cap', rfl, HNN.out, HN.out⟩
end Go.Proofs.YtdlnnkbigeiilaaGreat
namespace Go.Proofs.YtdlnnkbigeiilaaGreat
open Go.RowKit
def rowZ (n i K : Nat) : List Nat := (List.range K).map fun p => if p < i then dg DD n p else 0
theorem rowZ_zero (n K : Nat) : rowZ n 0 K = digsTo 0 K := by
 unfold rowZ digsTo
 refine List.map_congr_left fun p _ => ?_
 simp [dg]
theorem rowZ_at (n i K : Nat) (h : i < K) : ((rowZ n i K).map dV)[i]? = some (.int .i64 0) := by
 simp [rowZ, h, dV]
theorem rowZ_set (n i K : Nat) : ((rowZ n i K).map dV).set i (.int .i64 (dg DD n i : Int)) = (rowZ n (i + 1) K).map dV := by
 rw [show (Value.int .i64 (dg DD n i : Int)) = dV (dg DD n i) from rfl, ← List.map_set]
 congr 1
 refine List.ext_getElem (by simp [rowZ]) (fun p h1 h2 => ?_)
 rw [List.getElem_set]
 simp only [rowZ, List.getElem_map, List.getElem_range]
 by_cases h : i = p
 ·subst h; rw [if_pos rfl, if_pos (by omega)]
 ·rw [if_neg h]
  by_cases h3 : p < i
  ·rw [if_pos h3, if_pos (by omega)]
  ·rw [if_neg h3, if_neg (by omega)]
theorem rowZ_end (n K : Nat) : rowZ n K K = digsTo n K := by
 unfold rowZ digsTo
 refine List.map_congr_left fun p hp => ?_
 rw [if_pos (by simpa using hp)]
theorem take_digit (r s n i : Nat) : (dg DD (r + n * s) i : Int) - (mcB DD r s n i : Int) - (n : Int) * (dg DD s i : Int) = (dg DD r i : Int) - 65536 * (mcB DD r s n (i + 1) : Int) := by
 have h1 := mcB_dig (B := DD) (by decide) r s n i
 have h2 := mcB_succ (B := DD) (by decide) r s n i
 have h3 := Nat.div_add_mod (dg DD r i + n * dg DD s i + mcB DD r s n i) DD
 rw [h1, h2] at h3
 have h4 : (n : Int) * (dg DD s i : Int) = ((n * dg DD s i : Nat) : Int) := by simp
 rw [h4]
 have h5 : 65536 * mcB DD r s n (i + 1) + dg DD (r + n * s) i = dg DD r i + n * dg DD s i + mcB DD r s n i := h3
 omega
theorem refTake_new (a b n k R : Nat) (aa ab : Option Addr) (ca cb : Nat) (hla : dl a ≤ 1048576) (hlb : dl b ≤ 1048576) (hn : n ≤ 1099511627776) (hk : k ≤ 1048576) (hR : a = R + n * (b * DD ^ k)) (w : World) (hA : NumAt w aa a) (hB : NumAt w ab b) :
  Calls Tryz.prog 150 #[.slice aa (dl a) ca, .slice ab (dl b) cb, .int .i64 (n : Int), .int .i64 (k : Int)] w fun e w' => NumN w e w' R := by
 obtain ⟨i0, hi, hz0, hz1, hz2⟩ := info_parts infoInt3
 have HA := Lib.hid hA
 have HB := Lib.hid hB
 have HR := Lib.hid hR
 clear hA hB hR
 go_enter Tryz.func150, Tryz.ntmps150
 go_wp2_with (at_make; refine wpList_make_full _ rfl _ _ 84 rfl 0 3 i0 (.int .i64 0) 1 Tryz.underlying84 hi hz0 hz1 _ _ _ _ (dl a) rfl rfl ?c1 ?c2 ?c3 ?c4 ?c5 ?_)
 case c1 => rfl
 case c2 => rfl
 case c3 => rw [hz2]; omega
 case c4 => unfold maxLen; omega
 case c5 => omega
 intro w1 hown hgrow
 rw [zeros_made, ← rowZ_zero R] at hown
 have HO1 := Lib.hid hown
 have HB1 : Hid (Below w.heap.size w w1) := (Below.refl _ _).grown hgrow (Nat.le_refl _) (by simp)
 clear hown hgrow hi hz0 hz1 hz2
 go_wp2_with fail
 go_loopw [10, 11, 12] (fun c x _ wr => ∃ i : Nat, i ≤ dl a ∧ x = .int .i64 i ∧ c = .int .i64 (mcB DD R (b * DD ^ k) n i : Nat) ∧ Hid (wr.ownsRow 0 3 1 (.slice (some ⟨w.heap.size, 0, none⟩) (dl a) (dl a)) (dl a) ((rowZ R i (dl a)).map dV)) ∧ Hid (Below w.heap.size w wr)) (fun _ x _ _ => dl a - (intOf x).toNat)
 case atStart => exact ⟨0, Nat.zero_le _, rfl, by rw [mcB_zero]; rfl, HO1.out, HB1.out⟩
 case round =>
  clear HO1 HB1
  obtain ⟨i, hi, rfl, rfl, HO, HN⟩ := hrel
  by_cases hil : i < dl a
  ·obtain ⟨b1, o1, rfl, hb1, hcell1⟩ := HA.out.all (by omega)
   have hx1 : wr.cell? ⟨b1, o1 + i, none⟩ = some (.int .i64 (dg DD a i : Int)) := by rw [HN.out.cell (p := ⟨b1, o1 + i, none⟩) hb1]; exact hcell1 _ hil
   have hda : dg DD a i < 65536 := dg_lt (B := DD) (by decide) _ _
   have hdr : dg DD R i < 65536 := dg_lt (B := DD) (by decide) _ _
   have hc1 := mcB_le (B := DD) (by decide) R (b * DD ^ k) n i
   have hc2 := mcB_le (B := DD) (by decide) R (b * DD ^ k) n (i + 1)
   have htd := take_digit R (b * DD ^ k) n i
   rw [← HR.out] at htd
   have hx3 := HO.out.cellAt i (by omega)
   rw [rowZ_at R i (dl a) hil] at hx3
   have hf3 := HO.out.frozenAt i
   generalize mcB DD R (b * DD ^ k) n i = c at *
   generalize hcc : mcB DD R (b * DD ^ k) n (i + 1) = c2 at *
   have HC2 : Hid (mcB DD R (b * DD ^ k) n (i + 1) = c2) := hcc
   clear hcell1 hcc
   by_cases hik : k ≤ i ∧ i - k < dl b
   ·obtain ⟨hik1, hik2⟩ := hik
    obtain ⟨b2, o2, rfl, hb2, hcell2⟩ := HB.out.all (by omega)
    have hx2 : wr.cell? ⟨b2, o2 + (i - k), none⟩ = some (.int .i64 (dg DD b (i - k) : Int)) := by rw [HN.out.cell (p := ⟨b2, o2 + (i - k), none⟩) hb2]; exact hcell2 _ hik2
    have hdb : dg DD b (i - k) < 65536 := dg_lt (B := DD) (by decide) _ _
    have hsh := dg_shift b k (i - k)
    rw [show k + (i - k) = i by omega] at hsh
    rw [hsh] at htd
    have hidx : (i : Int) - (k : Int) = ((i - k : Nat) : Int) := by omega
    clear hcell2 hsh
    generalize dg DD b (i - k) = db at *
    generalize hda' : dg DD a i = da at *
    have hprod : n * db ≤ 1099511627776 * 65535 := Nat.mul_le_mul hn (by omega)
    have hpi : (n : Int) * (db : Int) = ((n * db : Nat) : Int) := by simp
    rw [hpi] at htd
    generalize hpr : n * db = pr at *
    have HDA := Lib.hid hda'
    have HPR := Lib.hid hpr
    clear hda' hpr
    have hkI : (k : Int) ≤ (i : Int) := by omega
    have hst := (HO.out.stored i (.int .i64 (dg DD R i : Int))).1
    rw [rowZ_set] at hst
    have HS := Lib.hid hst
    have HSB := Lib.hid (HN.out.setCell (p := ⟨w.heap.size, i, none⟩) (Nat.le_refl _) (.int .i64 (dg DD R i : Int)))
    clear hst
    obtain ⟨d, hd⟩ : ∃ d : Int, (da : Int) - (c : Int) - (pr : Int) = d := ⟨_, rfl⟩
    rw [hd] at htd
    have hdlo : -72057594037927936 ≤ d := by omega
    have hdhi : d ≤ 65535 := by omega
    by_cases hneg : 0 < c2
    ·have hd2 : d < 0 := by omega
     have hdn : (65535 - d) / 65536 = (c2 : Int) := by omega
     have hds : d + (c2 : Int) * 65536 = (dg DD R i : Int) := by omega
     have HTD := Lib.hid htd
     clear htd
     go_wp2_with fail
     go_roundw
     case rel => exact ⟨i + 1, by omega, by go_num, by first | rw [hdn, HC2.out] | rw [HC2.out], HS.out, HSB.out⟩
     case measure => simp [intOf]; omega
    ·have hc0 : c2 = 0 := by omega
     have hd2 : ¬ d < 0 := by omega
     have hds : d = (dg DD R i : Int) := by omega
     have HC0 := Lib.hid hc0
     have HDS := Lib.hid hds
     have HTD := Lib.hid htd
     rw [← hds] at HS HSB
     clear hc0 hds htd
     go_wp2_with fail
     go_roundw
     case rel => exact ⟨i + 1, by omega, by go_num, by rw [HC2.out, HC0.out]; rfl, HS.out, HSB.out⟩
     case measure => simp [intOf]; omega
   ·have h0 : dg DD (b * DD ^ k) i = 0 := by
     rcases Nat.lt_or_ge i k with h | h
     ·unfold dg
      have e : DD ^ k = DD ^ i * (DD * DD ^ (k - i - 1)) := by rw [← Nat.pow_succ', ← Nat.pow_add]; congr 1; omega
      rw [e, Nat.mul_left_comm, Nat.mul_div_cancel_left _ (Nat.pow_pos (by decide)), Nat.mul_left_comm, Nat.mul_mod_right]
     ·have hsh := dg_shift b k (i - k)
      rw [show k + (i - k) = i by omega] at hsh
      rw [hsh]
      exact dg_nought b _ (by omega)
    rw [h0] at htd
    have htd2 : (dg DD a i : Int) - (c : Int) = (dg DD R i : Int) - 65536 * (c2 : Int) := by simpa using htd
    clear h0 htd
    have htd := htd2
    clear htd2
    generalize hda' : dg DD a i = da at *
    have HDA := Lib.hid hda'
    clear hda'
    by_cases hik1 : k ≤ i
    ·have hik2 : ¬ i - k < dl b := fun h => hik ⟨hik1, h⟩
     have hidx : (i : Int) - (k : Int) = ((i - k : Nat) : Int) := by omega
     clear hik
     have hst := (HO.out.stored i (.int .i64 (dg DD R i : Int))).1
     rw [rowZ_set] at hst
     have HS := Lib.hid hst
     have HSB := Lib.hid (HN.out.setCell (p := ⟨w.heap.size, i, none⟩) (Nat.le_refl _) (.int .i64 (dg DD R i : Int)))
     clear hst
     obtain ⟨d, hd⟩ : ∃ d : Int, (da : Int) - (c : Int) = d := ⟨_, rfl⟩
     rw [hd] at htd
     have hdlo : -72057594037927936 ≤ d := by omega
     have hdhi : d ≤ 65535 := by omega
     by_cases hneg : 0 < c2
     ·have hd2 : d < 0 := by omega
      have hdn : (65535 - d) / 65536 = (c2 : Int) := by omega
      have hds : d + (c2 : Int) * 65536 = (dg DD R i : Int) := by omega
      have HTD := Lib.hid htd
      clear htd
      go_wp2_with fail
      go_roundw
      case rel => exact ⟨i + 1, by omega, by go_num, by first | rw [hdn, HC2.out] | rw [HC2.out], HS.out, HSB.out⟩
      case measure => simp [intOf]; omega
     ·have hc0 : c2 = 0 := by omega
      have hd2 : ¬ d < 0 := by omega
      have hds : d = (dg DD R i : Int) := by omega
      have HC0 := Lib.hid hc0
      have HDS := Lib.hid hds
      have HTD := Lib.hid htd
      rw [← hds] at HS HSB
      clear hc0 hds htd
      go_wp2_with fail
      go_roundw
      case rel => exact ⟨i + 1, by omega, by go_num, by rw [HC2.out, HC0.out]; rfl, HS.out, HSB.out⟩
      case measure => simp [intOf]; omega
    ·clear hik
     have hst := (HO.out.stored i (.int .i64 (dg DD R i : Int))).1
     rw [rowZ_set] at hst
     have HS := Lib.hid hst
     have HSB := Lib.hid (HN.out.setCell (p := ⟨w.heap.size, i, none⟩) (Nat.le_refl _) (.int .i64 (dg DD R i : Int)))
     clear hst
     obtain ⟨d, hd⟩ : ∃ d : Int, (da : Int) - (c : Int) = d := ⟨_, rfl⟩
     rw [hd] at htd
     have hdlo : -72057594037927936 ≤ d := by omega
     have hdhi : d ≤ 65535 := by omega
     by_cases hneg : 0 < c2
     ·have hd2 : d < 0 := by omega
      have hdn : (65535 - d) / 65536 = (c2 : Int) := by omega
      have hds : d + (c2 : Int) * 65536 = (dg DD R i : Int) := by omega
      have HTD := Lib.hid htd
      clear htd
      go_wp2_with fail
      go_roundw
      case rel => exact ⟨i + 1, by omega, by go_num, by first | rw [hdn, HC2.out] | rw [HC2.out], HS.out, HSB.out⟩
      case measure => simp [intOf]; omega
     ·have hc0 : c2 = 0 := by omega
      have hd2 : ¬ d < 0 := by omega
      have hds : d = (dg DD R i : Int) := by omega
      have HC0 := Lib.hid hc0
      have HDS := Lib.hid hds
      have HTD := Lib.hid htd
      rw [← hds] at HS HSB
      clear hc0 hds htd
      go_wp2_with fail
      go_roundw
      case rel => exact ⟨i + 1, by omega, by go_num, by rw [HC2.out, HC0.out]; rfl, HS.out, HSB.out⟩
      case measure => simp [intOf]; omega
  ·have hia : i = dl a := by omega
   subst hia
   rw [rowZ_end] at HO
   have hlt : R < DD ^ dl a := Nat.lt_of_le_of_lt (by have := HR.out; omega) (lt_dl a)
   have HLT := Lib.hid hlt
   clear hlt
   go_wp2_with fail
   refine (trim_own HO.out HLT.out (by omega)).mono ?_
   rintro e w' ⟨a', cap', rfl, hN, hnew, rfl⟩
   have HNN := Lib.hid hN
   have HNEW := Lib.hid (show ∀ q o, a' = some ⟨q, o, none⟩ → w.heap.size ≤ q from fun q o h => by have h9 : some w.heap.size = some q := hnew q o h; have h8 := Option.some.inj h9; omega)
   clear hN hnew
   go_wp2_with fail
   go_ret
   exact ⟨a', cap', rfl, HNN.out, HNEW.out, HN.out⟩
theorem refTake_any (a b n k R : Nat) (aa ab : Option Addr) (ca cb : Nat) (hla : dl a ≤ 1048576) (hlb : dl b ≤ 1048576) (hn : n ≤ 1099511627776) (hk : k ≤ 1048576) (hR : a = R + n * (b * DD ^ k)) (w : World) (hA : NumAt w aa a) (hB : NumAt w ab b) :
  Calls Tryz.prog 150 #[.slice aa (dl a) ca, .slice ab (dl b) cb, .int .i64 (n : Int), .int .i64 (k : Int)] w fun e w' => NumR w e w' R :=
 (refTake_new a b n k R aa ab ca cb hla hlb hn hk hR w hA hB).mono fun _ _ h => h.r
end Go.Proofs.YtdlnnkbigeiilaaGreat
namespace Go.Proofs.YtdlnnkbigeiilaaGreat
open Go.RowKit
theorem top_div (n : Nat) (h : n ≠ 0) : n / DD ^ (dl n - 1) = dg DD n (dl n - 1) := by
 have h2 := lt_dl n
 have hp := dl_pos n h
 have e : DD ^ dl n = DD ^ (dl n - 1) * DD := by rw [← Nat.pow_succ]; congr 1; omega
 unfold dg
 rw [Nat.mod_eq_of_lt (Nat.div_lt_of_lt_mul (by rw [← e]; exact h2))]
theorem top_lt (m : Nat) (h : m ≠ 0) : m < (dg DD m (dl m - 1) + 1) * DD ^ (dl m - 1) := by
 have h1 := top_div m h
 have h2 := Nat.div_add_mod m (DD ^ (dl m - 1))
 have h3 := Nat.mod_lt m (Nat.pow_pos (n := dl m - 1) (show 0 < DD by decide))
 rw [h1] at h2
 rw [Nat.add_mul, Nat.one_mul, Nat.mul_comm (dg DD m (dl m - 1))]
 omega
theorem quo_step (A m x q e : Nat) (hm : m ≠ 0) (hx : x * DD ^ e ≤ A) (hq : q = x / (dg DD m (dl m - 1) + 1)) (he : dl m - 1 ≤ e) : q * (m * DD ^ (e - (dl m - 1))) ≤ A := by
 have h1 := top_lt m hm
 have h2 : q * (dg DD m (dl m - 1) + 1) ≤ x := by rw [hq]; exact Nat.div_mul_le_self _ _
 have h3 : DD ^ e = DD ^ (dl m - 1) * DD ^ (e - (dl m - 1)) := by rw [← Nat.pow_add]; congr 1; omega
 generalize dg DD m (dl m - 1) + 1 = t at *
 generalize DD ^ (dl m - 1) = P at *
 generalize DD ^ (e - (dl m - 1)) = S at *
 calc q * (m * S) ≤ q * (t * P * S) := Nat.mul_le_mul_left _ (Nat.mul_le_mul_right _ (Nat.le_of_lt h1))
  _ = q * t * (P * S) := by rw [Nat.mul_assoc t, Nat.mul_assoc q]
  _ ≤ x * (P * S) := Nat.mul_le_mul_right _ h2
  _ = x * DD ^ e := by rw [h3]
  _ ≤ A := hx
theorem mod_one (A m : Nat) (hA : A ≠ 0) (hm : m ≠ 0) (hle : dl m ≤ dl A) : dg DD A (dl A - 1) / (dg DD m (dl m - 1) + 1) * (m * DD ^ (dl A - dl m)) ≤ A := by
 have h := quo_step A m (dg DD A (dl A - 1)) _ (dl A - 1) hm (by rw [← top_div A hA]; exact Nat.div_mul_le_self _ _) rfl (by omega)
 have := dl_pos m hm
 rwa [show dl A - 1 - (dl m - 1) = dl A - dl m by omega] at h
theorem mod_two (A m : Nat) (hA : A ≠ 0) (hm : m ≠ 0) (hle : dl m < dl A) : (dg DD A (dl A - 1) * DD + dg DD A (dl A - 2)) / (dg DD m (dl m - 1) + 1) * (m * DD ^ (dl A - dl m - 1)) ≤ A := by
 have hp := dl_pos m hm
 have h2 := dg_div (B := DD) A (dl A - 2)
 rw [show dl A - 2 + 1 = dl A - 1 by omega, top_div A hA, Nat.mul_comm] at h2
 have h := quo_step A m (dg DD A (dl A - 1) * DD + dg DD A (dl A - 2)) _ (dl A - 2) hm (by rw [← h2]; exact Nat.div_mul_le_self _ _) rfl (by omega)
 rwa [show dl A - 2 - (dl m - 1) = dl A - dl m - 1 by omega] at h
theorem take_mod (A m n s : Nat) (h : n * (m * s) ≤ A) : (A - n * (m * s)) % m = A % m := by
 have e : A = (A - n * (m * s)) + m * (n * s) := by rw [show m * (n * s) = n * (m * s) by rw [Nat.mul_left_comm]]; omega
 rw [← Nat.add_mul_mod_self_left (A - n * (m * s)) m (n * s), ← e]
def NumM (w : World) (aa : Option Addr) (e : Ending) (w' : World) (n : Nat) : Prop := ∃ a cap, e = .returned (.slice a (dl n) cap) ∧ NumAt w' a n ∧ (a = aa ∨ ∀ q o, a = some ⟨q, o, none⟩ → w.heap.size ≤ q) ∧ Below w.heap.size w w'
theorem NumM.r {w w' : World} {aa : Option Addr} {e : Ending} {n : Nat} (h : NumM w aa e w' n) : NumR w e w' n := let ⟨a, c, h1, h2, _, h4⟩ := h; ⟨a, c, h1, h2, h4⟩
theorem refMod_new (a m : Nat) (aa am : Option Addr) (ca cm : Nat) (hla : dl a ≤ 1048576) (hm0 : 0 < m) (w : World) (hA : NumAt w aa a) (hM : NumAt w am m) :
  Calls Tryz.prog 110 #[.slice aa (dl a) ca, .slice am (dl m) cm] w fun e w' => NumM w aa e w' (a % m) := by
 have HA := Lib.hid hA
 have HMM := Lib.hid hM
 clear hA hM
 go_enter Tryz.func110, Tryz.ntmps110
 go_wp2_with fail
 go_loopg [0, 5, 6] a (fun g v _ _ wr => ∃ (A : Nat) (a1 : Option Addr) (c1 : Nat), g = A ∧ v = .slice a1 (dl A) c1 ∧ Hid (A % m = a % m) ∧ A ≤ a ∧ Hid (NumAt wr a1 A) ∧ Hid (a1 = aa ∨ ∀ q o, a1 = some ⟨q, o, none⟩ → w.heap.size ≤ q) ∧ Hid (Below w.heap.size w wr))
 case atStart => exact ⟨a, aa, ca, rfl, rfl, rfl, Nat.le_refl _, HA.out, Or.inl rfl, Below.refl _ _⟩
 case round =>
  obtain ⟨A, a1, c1, hg, rfl, HM, hAa, HN, HFA, HB⟩ := hrel
  obtain ⟨G9, hG9⟩ : ∃ G9, gk = G9 := ⟨_, rfl⟩
  rw [hG9] at hg
  subst hg
  subst hG9
  obtain ⟨A, rfl⟩ : ∃ A, A = gk := ⟨_, rfl⟩
  clear HA
  have hdA := dl_mono _ _ hAa
  go_wp2_with fail
  refine (refCompare_any A m a1 am c1 cm (by omega) wr HN.out (HMM.out.up HB.out)).mono ?_
  rintro e w2 ⟨rfl, hb2⟩
  have HB2 := Lib.hid (below_up HB.out hb2)
  have HN2 := Lib.hid (HN.out.up hb2)
  have HMM2 := Lib.hid (HMM.out.up HB2.out)
  clear hb2 HN HB
  by_cases hlt : A < m
  ·have hc : cmpI A m = -1 := by unfold cmpI; rw [if_pos hlt]
   rw [hc]
   clear hc
   have HRES : Hid (A = a % m) := by show _ = _; rw [← HM.out, Nat.mod_eq_of_lt hlt]
   go_wp2_with fail
   go_ret
   exact ⟨a1, c1, by rw [← HRES.out]; rfl, by rw [← HRES.out]; exact HN2.out, HFA.out, HB2.out⟩
  ·have hle : m ≤ A := by omega
   have HLEM := Lib.hid hle
   obtain ⟨c, hc, hc0⟩ : ∃ c, cmpI A m = c ∧ 0 ≤ c := ⟨_, rfl, by unfold cmpI; rw [if_neg hlt]; split <;> omega⟩
   rw [hc]
   clear hc hlt hle
   have hA0 : A ≠ 0 := by have := HLEM.out; omega
   have hm1 : m ≠ 0 := by omega
   have hlm := dl_mono _ _ HLEM.out
   have hpA := dl_pos A hA0
   have hpm := dl_pos m hm1
   have htA := dl_top A hA0
   have h1 := mod_one A m hA0 hm1 hlm
   have hdA : dg DD A (dl A - 1) < 65536 := dg_lt (B := DD) (by decide) _ _
   have hdA2 : dg DD A (dl A - 2) < 65536 := dg_lt (B := DD) (by decide) _ _
   have hdm : dg DD m (dl m - 1) < 65536 := dg_lt (B := DD) (by decide) _ _
   have H2 : Hid (dl m < dl A → (dg DD A (dl A - 1) * DD + dg DD A (dl A - 2)) / (dg DD m (dl m - 1) + 1) * (m * DD ^ (dl A - dl m - 1)) ≤ A) := fun h => mod_two A m hA0 hm1 h
   obtain ⟨b1, o1, rfl, hb1, hcell1⟩ := HN2.out.all hpA
   obtain ⟨b2, o2, rfl, hb2, hcell2⟩ := HMM2.out.all hpm
   have hx1 := hcell1 (dl A - 1) (by omega)
   have hx2 := hcell2 (dl m - 1) (by omega)
   have hx3 : dl m < dl A → w2.cell? ⟨b1, o1 + (dl A - 2), none⟩ = some (.int .i64 (dg DD A (dl A - 2) : Int)) := fun h => hcell1 (dl A - 2) (by omega)
   have HX3 := Lib.hid hx3
   have hi1 : (dl A : Int) - 1 = ((dl A - 1 : Nat) : Int) := by omega
   have hi2 : (dl m : Int) - 1 = ((dl m - 1 : Nat) : Int) := by omega
   have hi3 : (dl A : Int) - (dl m : Int) = ((dl A - dl m : Nat) : Int) := by omega
   have H1 := Lib.hid h1
   clear hcell1 hcell2 hx3 h1
   generalize hat : dg DD A (dl A - 1) = at1 at *
   generalize han : dg DD A (dl A - 2) = an1 at *
   generalize hmt : dg DD m (dl m - 1) = mt1 at *
   have HAT := Lib.hid hat
   have HAN := Lib.hid han
   have HMT := Lib.hid hmt
   clear hat han hmt
   obtain ⟨q, hq⟩ : ∃ q, at1 / (mt1 + 1) = q := ⟨_, rfl⟩
   have hqI : (at1 : Int) / ((mt1 : Int) + 1) = (q : Int) := by rw [← hq]; simp
   have hq9 : q ≤ 65535 := by rw [← hq]; exact Nat.le_trans (Nat.div_le_self _ _) (by omega)
   have H1' := H1.out
   rw [hq] at H1'
   have HLE1 := Lib.hid H1'
   clear H1' H1 hq
   go_wp2_with fail
   go_quiet (fail)
   have HN3 := Lib.hid (HN2.out.up (below_drewN (Below.refl _ w2) nq))
   have HMM3 := Lib.hid (HMM2.out.up (below_drewN (Below.refl _ w2) nq))
   have HB3 := Lib.hid (below_drewN HB2.out nq)
   by_cases hq0 : q = 0
   ·subst hq0
    by_cases hk0 : dl m < dl A
    ·have hx3 := HX3.out hk0
     have h2 := H2.out hk0
     have hkp : 0 < dl A - dl m := by omega
     have hi4 : (dl A : Int) - 2 = ((dl A - 2 : Nat) : Int) := by omega
     have hi5 : ((dl A - dl m : Nat) : Int) - 1 = ((dl A - dl m - 1 : Nat) : Int) := by omega
     obtain ⟨q2, hq2⟩ : ∃ q2, (at1 * DD + an1) / (mt1 + 1) = q2 := ⟨_, rfl⟩
     rw [hq2] at h2
     have hqI2 : ((at1 : Int) * 65536 + (an1 : Int)) / ((mt1 : Int) + 1) = (q2 : Int) := by rw [← hq2]; simp
     have hq29 : q2 ≤ 4294967295 := by rw [← hq2]; exact Nat.le_trans (Nat.div_le_self _ _) (by show at1 * 65536 + an1 ≤ _; omega)
     have hq21 : 1 ≤ q2 := by rw [← hq2]; exact (Nat.le_div_iff_mul_le (by omega)).2 (by show 1 * (mt1 + 1) ≤ at1 * 65536 + an1; omega)
     have hq20 : ((q2 : Int) == 0) = false := by simp; omega
     have HLE := Lib.hid h2
     clear h2 hq2 HLE1
     go_wp2_with fail
     go_quiet (fail)
     have hsub : A - q2 * (m * DD ^ (dl A - dl m - 1)) < A := by
      have h1 : 0 < q2 * (m * DD ^ (dl A - dl m - 1)) := Nat.mul_pos (by omega) (Nat.mul_pos (by omega) (Nat.pow_pos (by decide)))
      omega
     have HSUB := Lib.hid hsub
     have HTM := Lib.hid (take_mod A m (q2) (DD ^ (dl A - dl m - 1)) HLE.out)
     clear hsub
     go_wp2_with fail
     refine (refTake_new A m (q2) (dl A - dl m - 1) (A - q2 * (m * DD ^ (dl A - dl m - 1))) _ _ _ _ (by omega) (by omega) (by omega) (by omega) (by have := HLE.out; omega) _ (NumAt.up HN2.out (below_drewN (Below.refl _ w2) _)) (NumAt.up HMM2.out (below_drewN (Below.refl _ w2) _))).mono ?_
     rintro e w4 ⟨a4, c4, rfl, hn4, hf4, hb4⟩
     have HN4 := Lib.hid hn4
     have HB4 := Lib.hid (below_up (below_drewN HB2.out _) hb4)
     have HF4 := Lib.hid (show ∀ q o, a4 = some ⟨q, o, none⟩ → w.heap.size ≤ q from fun q o h => Nat.le_trans (Below.size (below_drewN HB2.out _)) (hf4 q o h))
     clear hn4 hb4 hf4
     go_wp2_with fail
     go_roundg (A - q2 * (m * DD ^ (dl A - dl m - 1)))
     case measure => exact HSUB.out
     case rel => exact ⟨_, a4, c4, rfl, by first | rfl | rw [Nat.one_mul], by rw [HTM.out]; exact HM.out, Nat.le_trans (Nat.le_of_lt HSUB.out) hAa, HN4.out, Or.inr HF4.out, HB4.out⟩
    ·have hk00 : dl A - dl m = 0 := by omega
     have hkp : ¬ 0 < dl A - dl m := by omega
     have HLE : Hid (1 * (m * DD ^ (dl A - dl m)) ≤ A) := by
      show _ ≤ _
      rw [hk00, Nat.pow_zero, Nat.mul_one, Nat.one_mul]
      exact HLEM.out
     have hkI : ¬ (0 : Int) < ((dl A - dl m : Nat) : Int) := by omega
     clear hk00 HLE1
     have hsub : A - 1 * (m * DD ^ (dl A - dl m)) < A := by
      have h1 : 0 < 1 * (m * DD ^ (dl A - dl m)) := Nat.mul_pos (by omega) (Nat.mul_pos (by omega) (Nat.pow_pos (by decide)))
      omega
     have HSUB := Lib.hid hsub
     have HTM := Lib.hid (take_mod A m (1) (DD ^ (dl A - dl m)) HLE.out)
     clear hsub
     go_wp2_with fail
     refine (refTake_new A m (1) (dl A - dl m) (A - 1 * (m * DD ^ (dl A - dl m))) _ _ _ _ (by omega) (by omega) (by omega) (by omega) (by have := HLE.out; omega) _ HN3.out HMM3.out).mono ?_
     rintro e w4 ⟨a4, c4, rfl, hn4, hf4, hb4⟩
     have HN4 := Lib.hid hn4
     have HB4 := Lib.hid (below_up HB3.out hb4)
     have HF4 := Lib.hid (show ∀ q o, a4 = some ⟨q, o, none⟩ → w.heap.size ≤ q from fun q o h => Nat.le_trans (Below.size HB3.out) (hf4 q o h))
     clear hn4 hb4 hf4
     go_wp2_with fail
     go_roundg (A - 1 * (m * DD ^ (dl A - dl m)))
     case measure => exact HSUB.out
     case rel => exact ⟨_, a4, c4, rfl, by first | rfl | rw [Nat.one_mul], by rw [HTM.out]; exact HM.out, Nat.le_trans (Nat.le_of_lt HSUB.out) hAa, HN4.out, Or.inr HF4.out, HB4.out⟩
   ·have hq1 : ((q : Int) == 0) = false := by simp; omega
    have HLE := HLE1
    clear HLE1
    have hsub : A - q * (m * DD ^ (dl A - dl m)) < A := by
     have h1 : 0 < q * (m * DD ^ (dl A - dl m)) := Nat.mul_pos (by omega) (Nat.mul_pos (by omega) (Nat.pow_pos (by decide)))
     omega
    have HSUB := Lib.hid hsub
    have HTM := Lib.hid (take_mod A m (q) (DD ^ (dl A - dl m)) HLE.out)
    clear hsub
    go_wp2_with fail
    refine (refTake_new A m (q) (dl A - dl m) (A - q * (m * DD ^ (dl A - dl m))) _ _ _ _ (by omega) (by omega) (by omega) (by omega) (by have := HLE.out; omega) _ HN3.out HMM3.out).mono ?_
    rintro e w4 ⟨a4, c4, rfl, hn4, hf4, hb4⟩
    have HN4 := Lib.hid hn4
    have HB4 := Lib.hid (below_up HB3.out hb4)
    have HF4 := Lib.hid (show ∀ q o, a4 = some ⟨q, o, none⟩ → w.heap.size ≤ q from fun q o h => Nat.le_trans (Below.size HB3.out) (hf4 q o h))
    clear hn4 hb4 hf4
    go_wp2_with fail
    go_roundg (A - q * (m * DD ^ (dl A - dl m)))
    case measure => exact HSUB.out
    case rel => exact ⟨_, a4, c4, rfl, by first | rfl | rw [Nat.one_mul], by rw [HTM.out]; exact HM.out, Nat.le_trans (Nat.le_of_lt HSUB.out) hAa, HN4.out, Or.inr HF4.out, HB4.out⟩
theorem refMod_any (a m : Nat) (aa am : Option Addr) (ca cm : Nat) (hla : dl a ≤ 1048576) (hm0 : 0 < m) (w : World) (hA : NumAt w aa a) (hM : NumAt w am m) :
  Calls Tryz.prog 110 #[.slice aa (dl a) ca, .slice am (dl m) cm] w fun e w' => NumR w e w' (a % m) :=
 (refMod_new a m aa am ca cm hla hm0 w hA hM).mono fun _ _ h => h.r
end Go.Proofs.YtdlnnkbigeiilaaGreat
namespace Go.Proofs.YtdlnnkbigeiilaaGreat
open Go.RowKit
def bitAt (n k : Nat) : Nat := n / 2 ^ k % 2
def bitsTo (n L t : Nat) : List Nat := (List.range t).map fun s => bitAt n (L - 1 - s)
theorem bitsTo_succ (n L t : Nat) : bitsTo n L (t + 1) = bitsTo n L t ++ [bitAt n (L - 1 - t)] := by simp [bitsTo, List.range_succ]
theorem bit_dg (n i j : Nat) (hj : j ≤ 15) : dg DD n i / 2 ^ (15 - j) % 2 = bitAt n (16 * i + (15 - j)) := by
 unfold dg bitAt
 have hb : DD = 2 ^ 16 := rfl
 rw [hb, ← Nat.pow_mul]
 have e : (2 : Nat) ^ 16 = 2 ^ (15 - j) * (2 * 2 ^ j) := by
  rw [← Nat.pow_succ', ← Nat.pow_add]; congr 1; omega
 rw [e, Nat.mod_mul_right_div_self, Nat.mod_mul_right_mod, Nat.div_div_eq_div_mul, ← Nat.pow_add]
structure OwnB (W w : World) (v : Value) (n L t : Nat) : Prop where
 own : w.ownsRow 0 3 1 v t ((bitsTo n L t).map dV)
 new_ : ∀ q, v.ownBlock = some q → W.heap.size ≤ q
 below : Below W.heap.size W w
theorem OwnB.nil (W : World) (n L : Nat) : OwnB W W (.slice none 0 0) n L 0 := ⟨World.ownsRow_nil _ _ _ _, fun q h => by simp [Value.ownBlock] at h, Below.refl _ _⟩
theorem OwnB.push {W w w1 : World} {v : Value} {n L k g c : Nat} (h : OwnB W w v n L k) (hown : w1.ownsRow 0 3 1 (.slice (some ⟨g, 0, none⟩) (k + 1) c) (k + 1) ((bitsTo n L k).map dV ++ [.int .i64 (bitAt n (L - 1 - k) : Int)])) (hp : Pushed w w1 v g) : OwnB W w1 (.slice (some ⟨g, 0, none⟩) (k + 1) c) n L (k + 1) :=
 ⟨by rw [bitsTo_succ, List.map_append]; exact hown, hp.from_ h.below.size h.new_, hp.below h.below h.below.size h.new_⟩
def BitsR (n : Nat) (w : World) (e : Ending) (w' : World) : Prop := ∃ a cap, e = .returned (.slice a (16 * dl n) cap) ∧ Sl w' w'.heap.size a ((bitsTo n (16 * dl n) (16 * dl n)).map dV) ∧ Below w.heap.size w w'
theorem refBits_any (n : Nat) (an : Option Addr) (cn : Nat) (hln : dl n ≤ 65536) (w : World) (hA : NumAt w an n) :
  Calls Tryz.prog 172 #[.slice an (dl n) cn] w (BitsR n w) := by
 obtain ⟨i0, hi, hz0, hz1, hz2⟩ := info_parts infoInt3
 have HA := Lib.hid hA
 clear hA
 go_enter Tryz.func172, Tryz.ntmps172
 go_wp2_with fail
 go_loopw [3, 4, 5] (fun u x _ wr => ∃ i : Nat, i ≤ dl n ∧ x = .int .i64 ((i : Int) - 1) ∧ Hid (OwnB w wr u n (16 * dl n) (16 * (dl n - i)))) (fun _ x _ _ => (intOf x + 1).toNat)
 case atStart => exact ⟨dl n, Nat.le_refl _, rfl, by rw [Nat.sub_self]; exact OwnB.nil w _ _⟩
 case round =>
  obtain ⟨i, hin, hxi, HO⟩ := hrel
  rcases Nat.eq_zero_or_pos i with rfl | hip
  ·subst hxi
   rw [Nat.sub_zero] at HO
   go_wp2_with fail
   go_ret
   obtain ⟨a, c, rfl, _⟩ := own_form3 HO.out.own
   exact ⟨a, c, rfl, sl_of_own HO.out.own, HO.out.below⟩
  ·obtain ⟨p, rfl⟩ : ∃ p, i = p + 1 := ⟨i - 1, by omega⟩
   have ei : ((p + 1 : Nat) : Int) - 1 = (p : Int) := by omega
   rw [ei] at hxi
   subst hxi
   clear ei hip
   obtain ⟨b1, o1, rfl, hb1, hcell1⟩ := HA.out.all (by omega)
   have hx1 := hcell1 p (by omega)
   have HX1 := Lib.hid hx1
   have hdp : dg DD n p < 65536 := dg_lt (B := DD) (by decide) _ _
   clear hcell1 hx1
   obtain ⟨W2, rfl⟩ : ∃ W2 : World, W2 = wr := ⟨_, rfl⟩
   go_wp2_with fail
   go_loopw [3, 5] (fun u x wr => ∃ j : Nat, j ≤ 16 ∧ x = .int .i64 (32768 / 2 ^ j : Nat) ∧ Hid (OwnB w wr u n (16 * dl n) (16 * (dl n - (p + 1)) + j))) (fun _ x _ => (intOf x).toNat)
   case atStart => exact ⟨0, Nat.zero_le _, rfl, HO.out⟩
   case round =>
    clear HO
    obtain ⟨j, hj, rfl, HO⟩ := hrel
    by_cases hjl : j < 16
    ·have hP : 32768 / 2 ^ j = 2 ^ (15 - j) := by
      show 2 ^ 15 / 2 ^ j = _
      exact Nat.pow_div (by omega) (by omega)
     have hP2 : ((32768 / 2 ^ j : Nat) : Int) / 2 = ((32768 / 2 ^ (j + 1) : Nat) : Int) := by
      rw [Nat.pow_succ, ← Nat.div_div_eq_div_mul]; omega
     have hbit := bit_dg n p j (by omega)
     have hpos : 0 < 32768 / 2 ^ j := by rw [hP]; exact Nat.pow_pos (by omega)
     have hle : 32768 / 2 ^ j ≤ 32768 := Nat.div_le_self _ _
     have hdec : 32768 / 2 ^ (j + 1) < 32768 / 2 ^ j := by
      rw [Nat.pow_succ, ← Nat.div_div_eq_div_mul]; exact Nat.div_lt_self hpos (by decide)
     rw [← hP, show 16 * p + (15 - j) = 16 * dl n - 1 - (16 * (dl n - (p + 1)) + j) by omega] at hbit
     have hx1 : wr.cell? ⟨b1, o1 + p, none⟩ = some (.int .i64 (dg DD n p : Int)) := by rw [HO.out.below.cell (p := ⟨b1, o1 + p, none⟩) hb1]; exact HX1.out
     generalize dg DD n p = d at *
     generalize 32768 / 2 ^ j = P at *
     generalize hP1 : 32768 / 2 ^ (j + 1) = P1 at *
     have hq9 : (d : Int) / (P : Int) = ((d / P : Nat) : Int) := by simp
     have hx9l : d / P ≤ d := Nat.div_le_self _ _
     generalize hx9 : d / P = x9 at *
     have HX9 := Lib.hid hx9
     have hbI : (x9 : Int) % 2 = (bitAt n (16 * dl n - 1 - (16 * (dl n - (p + 1)) + j)) : Int) := by omega
     clear hx9
     have hHP := Lib.hid hP
     have HP1 := Lib.hid hP1
     generalize hT : 16 * (dl n - (p + 1)) + j = T at *
     have hTl : T ≤ 1048576 := by omega
     have HT := Lib.hid hT
     generalize hB : bitAt n (16 * dl n - 1 - T) = bb at *
     have HBB := Lib.hid hB
     clear hP hP1 hbit hT hB
     go_wp2_with (at_builtin; refine wpList_push wr rfl _ _ 83 rfl 3 i0 _ 1 8 Tryz.underlying83 hi hz0 hz1 hz2 rfl (by omega) u3 T ((bitsTo n (16 * dl n) T).map dV) rfl HO.out.own _ _ _ rfl rfl rfl (by simp [Value.oneCell']) (by omega) (by unfold maxLen; omega) ?_)
     intro g gc w1 hown hp
     have HO1 := Lib.hid (HO.out.push (by rw [HBB.out]; exact hown) hp)
     clear hown hp
     go_wp2_with fail
     go_roundw
     case rel => exact ⟨j + 1, by omega, by first | rw [hP2, HP1.out] | rw [HP1.out], by rw [← Nat.add_assoc, HT.out]; exact HO1.out⟩
     case measure => simp [intOf]; omega
    ·have hj16 : j = 16 := by omega
     subst hj16
     have h0 : ((32768 / 2 ^ 16 : Nat) : Int) = 0 := by decide
     rw [h0]
     clear h0
     go_wp2_with fail
     go_roundw
     case rel => exact ⟨p, by omega, rfl, by rw [show 16 * (dl n - p) = 16 * (dl n - (p + 1)) + 16 by omega]; exact HO.out⟩
     case measure => first | (simp [intOf]; done) | (simp [intOf]; omega)
theorem lt32 (x y : Nat) (hx : x < DD ^ 16) (hy : y < DD ^ 16) : dl (x * y) ≤ 1048576 := by
 refine Nat.le_trans (dl_of_lt (x * y) 32 ?_) (by decide)
 have e : DD ^ 32 = DD ^ 16 * DD ^ 16 := by rw [← Nat.pow_add]
 rw [e]
 exact Nat.lt_of_le_of_lt (Nat.mul_le_mul_left _ (Nat.le_of_lt hy)) (Nat.mul_lt_mul_of_pos_right hx (Nat.pow_pos (by decide)))
theorem lt16 (x : Nat) (hx : x < DD ^ 16) : dl x ≤ 1048576 := small_dl x hx
theorem pow_sq (a e m : Nat) : (a ^ e % m * (a ^ e % m)) % m = a ^ (2 * e) % m := by
 rw [← Nat.mul_mod, ← Nat.pow_add, Nat.two_mul]
theorem pow_one_more (a e m : Nat) : (a ^ (2 * e) % m * a) % m = a ^ (2 * e + 1) % m := by
 rw [Nat.mod_mul_mod, ← Nat.pow_succ]
theorem dl_one_of (v : Nat) (h : dl v = 1) : dg DD v 0 = v := by
 have := lt_dl v
 rw [h, Nat.pow_one] at this
 unfold dg
 rw [Nat.pow_zero, Nat.div_one, Nat.mod_eq_of_lt this]
theorem refPower_any (a n m : Nat) (aa an am : Option Addr) (ca cn cm : Nat) (ha : a < DD ^ 16) (hn : dl n ≤ 65536) (hm1 : 1 < m) (hm2 : m < DD ^ 16) (w : World) (hA : NumAt w aa a) (hN : NumAt w an n) (hM : NumAt w am m) :
  Calls Tryz.prog 155 #[.slice aa (dl a) ca, .slice an (dl n) cn, .slice am (dl m) cm] w fun e w' => NumR w e w' (a ^ n % m) := by
 have HA := Lib.hid hA
 have HNN := Lib.hid hN
 have HMM := Lib.hid hM
 have HA16 := Lib.hid ha
 have HM16 := Lib.hid hm2
 have hmp : 0 < m := by omega
 clear hA hN hM ha hm2
 go_enter Tryz.func155, Tryz.ntmps155
 go_wp2_with fail
 refine (refOf_any 1 (by omega) w).mono ?_
 rintro e9 w1 ⟨a1, c1, rfl, hn1, hb1⟩
 have HN1 := Lib.hid hn1
 have HB1 := Lib.hid hb1
 clear hn1 hb1
 go_wp2_with fail
 refine (refBits_any n an cn hn w1 (HNN.out.up HB1.out)).mono ?_
 rintro e9 w2 ⟨ab, cb, rfl, hs2, hb2⟩
 have HS := Lib.hid hs2
 have HBS := Lib.hid hb2
 have HN2 := Lib.hid (HN1.out.up hb2)
 have HB2 := Lib.hid (below_up HB1.out hb2)
 have hL : 16 * dl n ≤ 1048576 := by omega
 have HL0 : Hid (n / 2 ^ (16 * dl n) = 0) := by
  have h := lt_dl n
  have hb : DD = 2 ^ 16 := rfl
  rw [hb, ← Nat.pow_mul] at h
  exact Nat.div_eq_of_lt h
 clear hs2 hb2 HN1 HB1
 have HA := Lib.hid (HA.out.up HB2.out)
 have HMM := Lib.hid (HMM.out.up HB2.out)
 generalize hLL : 16 * dl n = L at *
 clear hLL
 have hzw2 := HB2.out.size
 go_wp2_with fail
 go_loopw [7, 9, 14] (fun u _ x wr => ∃ (t v : Nat) (a1 : Option Addr) (c1 : Nat), t ≤ L ∧ x = .int .i64 t ∧ u = .slice a1 (dl v) c1 ∧ Hid (v = a ^ (n / 2 ^ (L - t)) % m) ∧ Hid (NumAt wr a1 v) ∧ Hid (Below w2.heap.size w2 wr)) (fun _ _ x _ => L - (intOf x).toNat)
 case atStart => exact ⟨0, 1, a1, c1, Nat.zero_le _, rfl, rfl, by show _ = _; rw [Nat.sub_zero, HL0.out, Nat.pow_zero, Nat.mod_eq_of_lt hm1], HN2.out, Below.refl _ _⟩
 case round =>
  clear HN2
  obtain ⟨t, v, a1, c1, ht, rfl, rfl, HV, HN, HBW⟩ := hrel
  have HB := HBW
  by_cases htl : t < L
  ·obtain ⟨b3, o3, rfl, hb3, hc3⟩ := (HS.out.up HBW.out).at t (by simp [bitsTo]; omega)
   have hcell : wr.cell? ⟨b3, o3 + t, none⟩ = some (.int .i64 (bitAt n (L - 1 - t) : Int)) := by
    rw [hc3]
    simp [bitsTo, dV]
   have hbb : bitAt n (L - 1 - t) = 0 ∨ bitAt n (L - 1 - t) = 1 := by unfold bitAt; omega
   have he1 : n / 2 ^ (L - (t + 1)) = 2 * (n / 2 ^ (L - t)) + bitAt n (L - 1 - t) := by
    unfold bitAt
    rw [show L - t = L - 1 - t + 1 by omega, show L - (t + 1) = L - 1 - t by omega, Nat.pow_succ, ← Nat.div_div_eq_div_mul]
    omega
   have HE1 := Lib.hid he1
   clear hc3 he1
   generalize bitAt n (L - 1 - t) = bb at *
   generalize n / 2 ^ (L - t) = e at *
   obtain rfl := HV.out
   clear HV
   by_cases hv1 : a ^ e % m = 1
   ·have hd1 : dl (a ^ e % m) = 1 := by rw [hv1]; rfl
    obtain ⟨b4, o4, rfl, hb4, hcell4⟩ := HN.out.all (by omega)
    have hx4 := hcell4 0 (by omega)
    rw [dl_one_of _ hd1, hv1, Nat.add_zero] at hx4
    have hne : ((dl (a ^ e % m) : Int) != 1) = false := by rw [hd1]; rfl
    have hdpos : (0 : Int) < (dl (a ^ e % m) : Int) := by omega
    have HNq : Hid (NumAt wr (some ⟨b4, o4, none⟩) (a ^ (2 * e) % m)) := by
     show NumAt _ _ _
     rw [← pow_sq, hv1, Nat.mul_one, Nat.mod_eq_of_lt hm1, ← hv1]
     exact HN.out
    have HDq : Hid (dl (a ^ e % m) = dl (a ^ (2 * e) % m)) := by
     show _ = _
     rw [← pow_sq, hv1, Nat.mul_one, Nat.mod_eq_of_lt hm1]
    clear hv1 hd1 hcell4
    rw [HDq.out] at hne hdpos ⊢
    clear HDq HN
    have HN := HNq
    clear HNq
    rcases hbb with hb0 | hb0
    ·have hbf : ((bb : Int) == 1) = false := by rw [hb0]; rfl
     have HRES : Hid (a ^ (2 * e) % m = a ^ (2 * e + bb) % m) := by show _ = _; rw [hb0]; rfl
     clear hb0
     go_wp2_with fail
     go_roundw
     case rel => exact ⟨t + 1, a ^ (2 * e) % m, (some ⟨b4, o4, none⟩), c1, by omega, by go_num, rfl, by rw [HE1.out]; exact HRES.out, HN.out, HB.out⟩
     case measure => simp [intOf]; omega
    ·have hbf : ((bb : Int) == 1) = true := by rw [hb0]; rfl
     have HRES : Hid (a ^ (2 * e + 1) % m = a ^ (2 * e + bb) % m) := by show _ = _; rw [hb0]
     clear hb0
     go_wp2_with fail
     refine (refTimes_any (a ^ (2 * e) % m) a (some ⟨b4, o4, none⟩) aa c1 ca (lt16 _ (Nat.lt_trans (Nat.mod_lt _ hmp) HM16.out)) (lt16 _ HA16.out) wr HN.out (HA.out.up HB.out)).mono ?_
     rintro e9 w7 ⟨a7, c7, rfl, hn7, hb7⟩
     have HN7 := Lib.hid hn7
     have HB7 := Lib.hid (below_up HB.out hb7)
     clear hn7 hb7
     go_wp2_with fail
     refine (refMod_any (a ^ (2 * e) % m * a) m a7 am c7 cm (lt32 _ _ (Nat.lt_trans (Nat.mod_lt _ hmp) HM16.out) HA16.out) hmp w7 HN7.out (HMM.out.up HB7.out)).mono ?_
     rintro e9 w8 ⟨a8, c8, rfl, hn8, hb8⟩
     rw [pow_one_more] at hn8 ⊢
     have HN8 := Lib.hid hn8
     have HB8 := Lib.hid (below_up HB7.out hb8)
     clear hn8 hb8
     go_wp2_with fail
     go_roundw
     case rel => exact ⟨t + 1, _, a8, c8, by omega, by go_num, rfl, by rw [HE1.out]; exact HRES.out, HN8.out, HB8.out⟩
     case measure => simp [intOf]; omega
   ·by_cases hd1 : dl (a ^ e % m) = 1
    ·obtain ⟨b4, o4, rfl, hb4, hcell4⟩ := HN.out.all (by omega)
     have hx4 := hcell4 0 (by omega)
     rw [dl_one_of _ hd1, Nat.add_zero] at hx4
     have hne : ((dl (a ^ e % m) : Int) != 1) = false := by rw [hd1]; rfl
     have hdpos : (0 : Int) < (dl (a ^ e % m) : Int) := by omega
     have hv2 : ((a : Int) ^ e % (m : Int) != 1) = true := by rw [bne_iff_ne]; intro h; apply hv1; exact_mod_cast h
     clear hcell4 hv1 hd1
     go_wp2_with fail
     refine (refTimes_any (a ^ e % m) (a ^ e % m) (some ⟨b4, o4, none⟩) (some ⟨b4, o4, none⟩) c1 c1 (lt16 _ (Nat.lt_trans (Nat.mod_lt _ hmp) HM16.out)) (lt16 _ (Nat.lt_trans (Nat.mod_lt _ hmp) HM16.out)) wr HN.out HN.out).mono ?_
     rintro e9 w4 ⟨a4, c4, rfl, hn4, hb4⟩
     have HN4 := Lib.hid hn4
     have HB4 := Lib.hid (below_up HB.out hb4)
     clear hn4 hb4
     go_wp2_with fail
     refine (refMod_any (a ^ e % m * (a ^ e % m)) m a4 am c4 cm (lt32 _ _ (Nat.lt_trans (Nat.mod_lt _ hmp) HM16.out) (Nat.lt_trans (Nat.mod_lt _ hmp) HM16.out)) hmp w4 HN4.out (HMM.out.up HB4.out)).mono ?_
     rintro e9 w5 ⟨a5, c5, rfl, hn5, hb5⟩
     rw [pow_sq] at hn5 ⊢
     have HN5 := Lib.hid hn5
     have HB5 := Lib.hid (below_up HB4.out hb5)
     clear hn5 hb5
     rcases hbb with hb0 | hb0
     ·have hbf : ((bb : Int) == 1) = false := by rw [hb0]; rfl
      have HRES : Hid (a ^ (2 * e) % m = a ^ (2 * e + bb) % m) := by show _ = _; rw [hb0]; rfl
      clear hb0
      go_wp2_with fail
      go_roundw
      case rel => exact ⟨t + 1, a ^ (2 * e) % m, a5, c5, by omega, by go_num, rfl, by rw [HE1.out]; exact HRES.out, HN5.out, HB5.out⟩
      case measure => simp [intOf]; omega
     ·have hbf : ((bb : Int) == 1) = true := by rw [hb0]; rfl
      have HRES : Hid (a ^ (2 * e + 1) % m = a ^ (2 * e + bb) % m) := by show _ = _; rw [hb0]
      clear hb0
      go_wp2_with fail
      refine (refTimes_any (a ^ (2 * e) % m) a a5 aa c5 ca (lt16 _ (Nat.lt_trans (Nat.mod_lt _ hmp) HM16.out)) (lt16 _ HA16.out) w5 HN5.out (HA.out.up HB5.out)).mono ?_
      rintro e9 w7 ⟨a7, c7, rfl, hn7, hb7⟩
      have HN7 := Lib.hid hn7
      have HB7 := Lib.hid (below_up HB5.out hb7)
      clear hn7 hb7
      go_wp2_with fail
      refine (refMod_any (a ^ (2 * e) % m * a) m a7 am c7 cm (lt32 _ _ (Nat.lt_trans (Nat.mod_lt _ hmp) HM16.out) HA16.out) hmp w7 HN7.out (HMM.out.up HB7.out)).mono ?_
      rintro e9 w8 ⟨a8, c8, rfl, hn8, hb8⟩
      rw [pow_one_more] at hn8 ⊢
      have HN8 := Lib.hid hn8
      have HB8 := Lib.hid (below_up HB7.out hb8)
      clear hn8 hb8
      go_wp2_with fail
      go_roundw
      case rel => exact ⟨t + 1, _, a8, c8, by omega, by go_num, rfl, by rw [HE1.out]; exact HRES.out, HN8.out, HB8.out⟩
      case measure => simp [intOf]; omega
    ·have hne : ((dl (a ^ e % m) : Int) != 1) = true := by simp; omega
     clear hd1 hv1
     go_wp2_with fail
     refine (refTimes_any (a ^ e % m) (a ^ e % m) a1 a1 c1 c1 (lt16 _ (Nat.lt_trans (Nat.mod_lt _ hmp) HM16.out)) (lt16 _ (Nat.lt_trans (Nat.mod_lt _ hmp) HM16.out)) wr HN.out HN.out).mono ?_
     rintro e9 w4 ⟨a4, c4, rfl, hn4, hb4⟩
     have HN4 := Lib.hid hn4
     have HB4 := Lib.hid (below_up HB.out hb4)
     clear hn4 hb4
     go_wp2_with fail
     refine (refMod_any (a ^ e % m * (a ^ e % m)) m a4 am c4 cm (lt32 _ _ (Nat.lt_trans (Nat.mod_lt _ hmp) HM16.out) (Nat.lt_trans (Nat.mod_lt _ hmp) HM16.out)) hmp w4 HN4.out (HMM.out.up HB4.out)).mono ?_
     rintro e9 w5 ⟨a5, c5, rfl, hn5, hb5⟩
     rw [pow_sq] at hn5 ⊢
     have HN5 := Lib.hid hn5
     have HB5 := Lib.hid (below_up HB4.out hb5)
     clear hn5 hb5
     rcases hbb with hb0 | hb0
     ·have hbf : ((bb : Int) == 1) = false := by rw [hb0]; rfl
      have HRES : Hid (a ^ (2 * e) % m = a ^ (2 * e + bb) % m) := by show _ = _; rw [hb0]; rfl
      clear hb0
      go_wp2_with fail
      go_roundw
      case rel => exact ⟨t + 1, a ^ (2 * e) % m, a5, c5, by omega, by go_num, rfl, by rw [HE1.out]; exact HRES.out, HN5.out, HB5.out⟩
      case measure => simp [intOf]; omega
     ·have hbf : ((bb : Int) == 1) = true := by rw [hb0]; rfl
      have HRES : Hid (a ^ (2 * e + 1) % m = a ^ (2 * e + bb) % m) := by show _ = _; rw [hb0]
      clear hb0
      go_wp2_with fail
      refine (refTimes_any (a ^ (2 * e) % m) a a5 aa c5 ca (lt16 _ (Nat.lt_trans (Nat.mod_lt _ hmp) HM16.out)) (lt16 _ HA16.out) w5 HN5.out (HA.out.up HB5.out)).mono ?_
      rintro e9 w7 ⟨a7, c7, rfl, hn7, hb7⟩
      have HN7 := Lib.hid hn7
      have HB7 := Lib.hid (below_up HB5.out hb7)
      clear hn7 hb7
      go_wp2_with fail
      refine (refMod_any (a ^ (2 * e) % m * a) m a7 am c7 cm (lt32 _ _ (Nat.lt_trans (Nat.mod_lt _ hmp) HM16.out) HA16.out) hmp w7 HN7.out (HMM.out.up HB7.out)).mono ?_
      rintro e9 w8 ⟨a8, c8, rfl, hn8, hb8⟩
      rw [pow_one_more] at hn8 ⊢
      have HN8 := Lib.hid hn8
      have HB8 := Lib.hid (below_up HB7.out hb8)
      clear hn8 hb8
      go_wp2_with fail
      go_roundw
      case rel => exact ⟨t + 1, _, a8, c8, by omega, by go_num, rfl, by rw [HE1.out]; exact HRES.out, HN8.out, HB8.out⟩
      case measure => simp [intOf]; omega
  ·have htL : t = L := by omega
   subst htL
   rw [Nat.sub_self, Nat.pow_zero, Nat.div_one] at HV
   obtain rfl := HV.out
   go_wp2_with fail
   go_ret
   exact ⟨a1, c1, rfl, HN.out, below_up HB2.out HBW.out⟩
end Go.Proofs.YtdlnnkbigeiilaaGreat
namespace Go.Proofs.YtdlnnkbigeiilaaGreat
open Go.RowKit
def gR (sz q p : Nat) (aq ap : Option Addr) (cq cp : Nat) : List Value := [.int .i64 (sz : Int), .slice aq (dl q) cq, .slice ap (dl p) cp]
theorem take_minus (a b R : Nat) (h : a = R + b) : a = R + 1 * (b * DD ^ 0) := by rw [Nat.pow_zero, Nat.mul_one, Nat.one_mul]; exact h
theorem refMinus_any (a b R : Nat) (aa ab : Option Addr) (ca cb : Nat) (hla : dl a ≤ 1048576) (hlb : dl b ≤ 1048576) (hR : a = R + b) (w : World) (hA : NumAt w aa a) (hB : NumAt w ab b) :
  Calls Tryz.prog 128 #[.slice aa (dl a) ca, .slice ab (dl b) cb] w fun e w' => NumR w e w' R := by
 have hT : Calls Tryz.prog 150 #[.slice aa (dl a) ca, .slice ab (dl b) cb, .int .i64 1, .int .i64 0] w fun e w' => NumR w e w' R := refTake_any a b 1 0 R aa ab ca cb hla hlb (by omega) (by omega) (take_minus a b R hR) w hA hB
 have HT := Lib.hid hT
 clear hT hR hA hB
 go_enter Tryz.func128, Tryz.ntmps128
 go_wp2_with fail
 refine HT.out.mono ?_
 rintro e w1 ⟨a1, c1, rfl, hn1, hb1⟩
 have HN1 := Lib.hid hn1
 have HB1 := Lib.hid hb1
 clear hn1 hb1
 go_wp2_with fail
 go_ret
 exact ⟨a1, c1, rfl, HN1.out, HB1.out⟩
theorem plus_dl (a b : Nat) (ha : a < DD ^ 16) (hb : b < DD ^ 16) : dl (a + b) ≤ 1048576 := by
 refine Nat.le_trans (dl_of_lt (a + b) 17 ?_) (by decide)
 have : DD ^ 17 = DD ^ 16 * 65536 := Nat.pow_succ ..
 omega
theorem refAdd_new (a b sz q p : Nat) (aa ab aq ap : Option Addr) (ca cb cq cp : Nat) (ha : a < DD ^ 16) (hb : b < DD ^ 16) (hq : 0 < q) (w : World) (hA : NumAt w aa a) (hB : NumAt w ab b) (hQ : NumAt w aq q) :
  Calls Tryz.prog 60 #[.agg #[.int .i64 (sz : Int), .slice aq (dl q) cq, .slice ap (dl p) cp], .slice aa (dl a) ca, .slice ab (dl b) cb] w fun e w' => NumN w e w' ((a + b) % q) := by
 have HA := Lib.hid hA
 have HBB := Lib.hid hB
 have HQ := Lib.hid hQ
 clear hA hB hQ
 go_enter Tryz.func60, Tryz.ntmps60
 have hzz : Bx (w.alloc (.cells #[.int .i64 (sz : Int), .slice aq (dl q) cq, .slice ap (dl p) cp] 86)) w.heap.size 86 (gR sz q p aq ap cq cp) := Bx.new w _ _ _ rfl
 have hbz : Below w.heap.size w (w.alloc (.cells #[.int .i64 (sz : Int), .slice aq (dl q) cq, .slice ap (dl p) cp] 86)) := (Below.refl w.heap.size w).alloc (Nat.le_refl _) _
 obtain ⟨W2, hW2⟩ : ∃ W9 : World, (w.alloc (.cells #[.int .i64 (sz : Int), .slice aq (dl q) cq, .slice ap (dl p) cp] 86)) = W9 := ⟨_, rfl⟩
 rw [hW2] at hzz hbz
 have HZ := Lib.hid hzz
 have HBZ := Lib.hid hbz
 have hz_0 := HZ.out.cell (i := 0) rfl
 have hz_1 := HZ.out.cell (i := 1) rfl
 have hz_2 := HZ.out.cell (i := 2) rfl
 have hzl := HZ.out.lt
 clear hzz hbz
 go_wp2_with fail
 have HW0 : Hid (Below W2.heap.size W2 W2.drew) := (Below.refl _ _).drew
 refine wp_region_tree (fun w' => ∃ E : Over W2, w' = E.w) (.qs [0, 1, 3, 4] (.a 2 (.a 5 (.q 6 .done)))) (by kernel_rfl) (by kernel_rfl) (fun _ _ d _ _ h => by cases d <;> exact h) ⟨⟨_, HW0.out⟩, rfl⟩ ?_
 have hov := fun (E : Over W2) o => E.cell (b := w.heap.size) o hzl
 simp only [Tree.qs]
 repeat (refine tree_q rfl rfl ?_; go_big_quiet_step (fail); refine wpQuiet_nil ?_)
 refine tree_a rfl (fun K hK => ?_)
 go_simp
 refine (refPlus_new a b aa ab ca cb (small_dl a ha) (small_dl b hb) _ (HA.out.up (below_up HBZ.out HW0.out)) (HBB.out.up (below_up HBZ.out HW0.out))).mono ?_
 rintro e w4 ⟨a4, c4, rfl, hn9, hf9, hb9⟩
 have HN4 := Lib.hid hn9
 have HFR4 := Lib.hid hf9
 have HW4 := Lib.hid (below_up HW0.out hb9)
 clear hn9 hf9 hb9
 refine hK _ _ ⟨⟨⟨w4, HW4.out⟩, rfl⟩, ?_⟩
 clear hK K
 refine tree_a rfl (fun K hK => ?_)
 go_simp
 refine (refMod_new (a + b) q a4 aq c4 cq (plus_dl a b ha hb) hq w4 HN4.out (HQ.out.up (below_up HBZ.out HW4.out))).mono ?_
 rintro e w5 ⟨a5, c5, rfl, hn9, hf9, hb9⟩
 have HN5 := Lib.hid hn9
 have HFR5 := Lib.hid hf9
 have HW5 := Lib.hid (below_up HW4.out hb9)
 clear hn9 hf9 hb9
 refine hK _ _ ⟨⟨⟨w5, HW5.out⟩, rfl⟩, ?_⟩
 clear hK K
 refine tree_q rfl rfl ?_
 go_big_quiet_step (fail)
 refine wpQuiet_nil ?_
 refine tree_end ?_
 have HF := Lib.hid (below_up HBZ.out HW5.out)
 clear hov
 go_wp2_with fail
 go_ret
 exact ⟨a5, c5, rfl, HN5.out, fun x o h => by
  have h1 := HBZ.out.size
  have h2 := HW4.out.size
  rcases HFR5.out with h9 | h9
  ·exact Nat.le_trans h1 (HFR4.out x o (h9 ▸ h))
  ·exact Nat.le_trans h1 (Nat.le_trans h2 (h9 x o h)), HF.out⟩
theorem refAdd_any (a b sz q p : Nat) (aa ab aq ap : Option Addr) (ca cb cq cp : Nat) (ha : a < DD ^ 16) (hb : b < DD ^ 16) (hq : 0 < q) (w : World) (hA : NumAt w aa a) (hB : NumAt w ab b) (hQ : NumAt w aq q) :
  Calls Tryz.prog 60 #[.agg #[.int .i64 (sz : Int), .slice aq (dl q) cq, .slice ap (dl p) cp], .slice aa (dl a) ca, .slice ab (dl b) cb] w fun e w' => NumR w e w' ((a + b) % q) :=
 (refAdd_new a b sz q p aa ab aq ap ca cb cq cp ha hb hq w hA hB hQ).mono fun _ _ h => h.r
theorem refMul_any (a b sz q p : Nat) (aa ab aq ap : Option Addr) (ca cb cq cp : Nat) (ha : a < DD ^ 16) (hb : b < DD ^ 16) (hq : 0 < q) (w : World) (hA : NumAt w aa a) (hB : NumAt w ab b) (hQ : NumAt w aq q) :
  Calls Tryz.prog 126 #[.agg #[.int .i64 (sz : Int), .slice aq (dl q) cq, .slice ap (dl p) cp], .slice aa (dl a) ca, .slice ab (dl b) cb] w fun e w' => NumR w e w' (a * b % q) := by
 have HA := Lib.hid hA
 have HBB := Lib.hid hB
 have HQ := Lib.hid hQ
 clear hA hB hQ
 go_enter Tryz.func126, Tryz.ntmps126
 have hzz : Bx (w.alloc (.cells #[.int .i64 (sz : Int), .slice aq (dl q) cq, .slice ap (dl p) cp] 86)) w.heap.size 86 (gR sz q p aq ap cq cp) := Bx.new w _ _ _ rfl
 have hbz : Below w.heap.size w (w.alloc (.cells #[.int .i64 (sz : Int), .slice aq (dl q) cq, .slice ap (dl p) cp] 86)) := (Below.refl w.heap.size w).alloc (Nat.le_refl _) _
 obtain ⟨W2, hW2⟩ : ∃ W9 : World, (w.alloc (.cells #[.int .i64 (sz : Int), .slice aq (dl q) cq, .slice ap (dl p) cp] 86)) = W9 := ⟨_, rfl⟩
 rw [hW2] at hzz hbz
 have HZ := Lib.hid hzz
 have HBZ := Lib.hid hbz
 have hz_0 := HZ.out.cell (i := 0) rfl
 have hz_1 := HZ.out.cell (i := 1) rfl
 have hz_2 := HZ.out.cell (i := 2) rfl
 have hzl := HZ.out.lt
 clear hzz hbz
 go_wp2_with fail
 have HW0 : Hid (Below W2.heap.size W2 W2.drew) := (Below.refl _ _).drew
 refine wp_region_tree (fun w' => ∃ E : Over W2, w' = E.w) (.qs [0, 1, 3, 4] (.a 2 (.a 5 (.q 6 .done)))) (by kernel_rfl) (by kernel_rfl) (fun _ _ d _ _ h => by cases d <;> exact h) ⟨⟨_, HW0.out⟩, rfl⟩ ?_
 have hov := fun (E : Over W2) o => E.cell (b := w.heap.size) o hzl
 simp only [Tree.qs]
 repeat (refine tree_q rfl rfl ?_; go_big_quiet_step (fail); refine wpQuiet_nil ?_)
 refine tree_a rfl (fun K hK => ?_)
 go_simp
 refine (refTimes_any a b aa ab ca cb (small_dl a ha) (small_dl b hb) _ (HA.out.up (below_up HBZ.out HW0.out)) (HBB.out.up (below_up HBZ.out HW0.out))).mono ?_
 rintro e w4 ⟨a4, c4, rfl, hn9, hb9⟩
 have HN4 := Lib.hid hn9
 have HW4 := Lib.hid (below_up HW0.out hb9)
 clear hn9 hb9
 refine hK _ _ ⟨⟨⟨w4, HW4.out⟩, rfl⟩, ?_⟩
 clear hK K
 refine tree_a rfl (fun K hK => ?_)
 go_simp
 refine (refMod_any (a * b) q a4 aq c4 cq (lt32 a b ha hb) hq w4 HN4.out (HQ.out.up (below_up HBZ.out HW4.out))).mono ?_
 rintro e w5 ⟨a5, c5, rfl, hn9, hb9⟩
 have HN5 := Lib.hid hn9
 have HW5 := Lib.hid (below_up HW4.out hb9)
 clear hn9 hb9
 refine hK _ _ ⟨⟨⟨w5, HW5.out⟩, rfl⟩, ?_⟩
 clear hK K
 refine tree_q rfl rfl ?_
 go_big_quiet_step (fail)
 refine wpQuiet_nil ?_
 refine tree_end ?_
 have HF := Lib.hid (below_up HBZ.out HW5.out)
 clear hov
 go_wp2_with fail
 go_ret
 exact ⟨a5, c5, rfl, HN5.out, HF.out⟩
theorem refSub_any (a b sz q p : Nat) (aa ab aq ap : Option Addr) (ca cb cq cp : Nat) (ha : a < DD ^ 16) (hb : b ≤ q) (hq : 0 < q) (hq2 : q < DD ^ 16) (w : World) (hA : NumAt w aa a) (hB : NumAt w ab b) (hQ : NumAt w aq q) :
  Calls Tryz.prog 77 #[.agg #[.int .i64 (sz : Int), .slice aq (dl q) cq, .slice ap (dl p) cp], .slice aa (dl a) ca, .slice ab (dl b) cb] w fun e w' => NumR w e w' ((a + q - b) % q) := by
 have hb2 : b < DD ^ 16 := Nat.lt_of_le_of_lt hb hq2
 have HA := Lib.hid hA
 have HBB := Lib.hid hB
 have HQ := Lib.hid hQ
 clear hA hB hQ
 go_enter Tryz.func77, Tryz.ntmps77
 have hzz : Bx (w.alloc (.cells #[.int .i64 (sz : Int), .slice aq (dl q) cq, .slice ap (dl p) cp] 86)) w.heap.size 86 (gR sz q p aq ap cq cp) := Bx.new w _ _ _ rfl
 have hbz : Below w.heap.size w (w.alloc (.cells #[.int .i64 (sz : Int), .slice aq (dl q) cq, .slice ap (dl p) cp] 86)) := (Below.refl w.heap.size w).alloc (Nat.le_refl _) _
 obtain ⟨W2, hW2⟩ : ∃ W9 : World, (w.alloc (.cells #[.int .i64 (sz : Int), .slice aq (dl q) cq, .slice ap (dl p) cp] 86)) = W9 := ⟨_, rfl⟩
 rw [hW2] at hzz hbz
 have HZ := Lib.hid hzz
 have HBZ := Lib.hid hbz
 have hz_0 := HZ.out.cell (i := 0) rfl
 have hz_1 := HZ.out.cell (i := 1) rfl
 have hz_2 := HZ.out.cell (i := 2) rfl
 have hzl := HZ.out.lt
 clear hzz hbz
 go_wp2_with fail
 have HW0 : Hid (Below W2.heap.size W2 W2.drew) := (Below.refl _ _).drew
 refine wp_region_tree (fun w' => ∃ E : Over W2, w' = E.w) (.qs [0, 1, 2, 4, 6, 7] (.a 3 (.a 5 (.a 8 (.q 9 .done))))) (by kernel_rfl) (by kernel_rfl) (fun _ _ d _ _ h => by cases d <;> exact h) ⟨⟨_, HW0.out⟩, rfl⟩ ?_
 have hov := fun (E : Over W2) o => E.cell (b := w.heap.size) o hzl
 simp only [Tree.qs]
 repeat (refine tree_q rfl rfl ?_; go_big_quiet_step (fail); refine wpQuiet_nil ?_)
 refine tree_a rfl (fun K hK => ?_)
 go_simp
 refine (refPlus_any a q aa aq ca cq (small_dl a ha) (small_dl q hq2) _ (HA.out.up (below_up HBZ.out HW0.out)) (HQ.out.up (below_up HBZ.out HW0.out))).mono ?_
 rintro e w4 ⟨a4, c4, rfl, hn9, hb9⟩
 have HN4 := Lib.hid hn9
 have HW4 := Lib.hid (below_up HW0.out hb9)
 clear hn9 hb9
 refine hK _ _ ⟨⟨⟨w4, HW4.out⟩, rfl⟩, ?_⟩
 clear hK K
 refine tree_a rfl (fun K hK => ?_)
 go_simp
 refine (refMinus_any (a + q) b (a + q - b) a4 ab c4 cb (plus_dl a q ha hq2) (small_dl b hb2) (by omega) w4 HN4.out (HBB.out.up (below_up HBZ.out HW4.out))).mono ?_
 rintro e w5 ⟨a5, c5, rfl, hn9, hb9⟩
 have HN5 := Lib.hid hn9
 have HW5 := Lib.hid (below_up HW4.out hb9)
 clear hn9 hb9
 refine hK _ _ ⟨⟨⟨w5, HW5.out⟩, rfl⟩, ?_⟩
 clear hK K
 refine tree_a rfl (fun K hK => ?_)
 go_simp
 refine (refMod_any (a + q - b) q a5 aq c5 cq (Nat.le_trans (dl_mono _ _ (Nat.sub_le _ _)) (plus_dl a q ha hq2)) hq w5 HN5.out (HQ.out.up (below_up HBZ.out HW5.out))).mono ?_
 rintro e w6 ⟨a6, c6, rfl, hn9, hb9⟩
 have HN6 := Lib.hid hn9
 have HW6 := Lib.hid (below_up HW5.out hb9)
 clear hn9 hb9
 refine hK _ _ ⟨⟨⟨w6, HW6.out⟩, rfl⟩, ?_⟩
 clear hK K
 refine tree_q rfl rfl ?_
 go_big_quiet_step (fail)
 refine wpQuiet_nil ?_
 refine tree_end ?_
 have HF := Lib.hid (below_up HBZ.out HW6.out)
 clear hov
 go_wp2_with fail
 go_ret
 exact ⟨a6, c6, rfl, HN6.out, HF.out⟩
end Go.Proofs.YtdlnnkbigeiilaaGreat
namespace Go.Proofs.YtdlnnkbigeiilaaGreat
open Go.RowKit
def lowR (q p x : Nat) : Nat := if q < x then p - x else x
theorem refLow_any (x sz q p : Nat) (ax aq ap : Option Addr) (cx cq cp : Nat) (hx : x ≤ p) (hp : p < DD ^ 16) (w : World) (hX : NumAt w ax x) (hQ : NumAt w aq q) (hP : NumAt w ap p) :
  Calls Tryz.prog 153 #[.agg #[.int .i64 (sz : Int), .slice aq (dl q) cq, .slice ap (dl p) cp], .slice ax (dl x) cx] w fun e w' => NumR w e w' (lowR q p x) := by
 have hx2 : x < DD ^ 16 := Nat.lt_of_le_of_lt hx hp
 have HX := Lib.hid hX
 have HQ := Lib.hid hQ
 have HP := Lib.hid hP
 clear hX hQ hP
 go_enter Tryz.func153, Tryz.ntmps153
 have hzz : Bx (w.alloc (.cells #[.int .i64 (sz : Int), .slice aq (dl q) cq, .slice ap (dl p) cp] 86)) w.heap.size 86 (gR sz q p aq ap cq cp) := Bx.new w _ _ _ rfl
 have hbz : Below w.heap.size w (w.alloc (.cells #[.int .i64 (sz : Int), .slice aq (dl q) cq, .slice ap (dl p) cp] 86)) := (Below.refl w.heap.size w).alloc (Nat.le_refl _) _
 obtain ⟨W2, hW2⟩ : ∃ W9 : World, (w.alloc (.cells #[.int .i64 (sz : Int), .slice aq (dl q) cq, .slice ap (dl p) cp] 86)) = W9 := ⟨_, rfl⟩
 rw [hW2] at hzz hbz
 have HZ := Lib.hid hzz
 have HBZ := Lib.hid hbz
 have hz_0 := HZ.out.cell (i := 0) rfl
 have hz_1 := HZ.out.cell (i := 1) rfl
 have hz_2 := HZ.out.cell (i := 2) rfl
 have hzl := HZ.out.lt
 clear hzz hbz
 go_wp2_with fail
 refine (refCompare_any x q ax aq cx cq (small_dl x hx2) W2 (HX.out.up HBZ.out) (HQ.out.up HBZ.out)).mono ?_
 rintro e w3 ⟨rfl, hb3⟩
 have HB3 := Lib.hid (below_up HBZ.out hb3)
 have HZ3 := Lib.hid (HZ.out.up hb3)
 clear hb3 hz_0 hz_1 hz_2 hzl HZ
 have hz_2 := HZ3.out.cell (i := 2) rfl
 by_cases hlow : q < x
 ·have HCI : Hid (cmpI x q = 1) := by show _ = _; unfold cmpI; rw [if_neg (by omega), if_pos hlow]
  have HL : Hid (p - x = lowR q p x) := by show _ = _; unfold lowR; rw [if_pos hlow]
  rw [HCI.out]
  go_wp2_with fail
  refine (refMinus_any p x (p - x) ap ax cp cx (small_dl p hp) (small_dl x hx2) (by omega) w3 (HP.out.up HB3.out) (HX.out.up HB3.out)).mono ?_
  rintro e w4 ⟨a4, c4, rfl, hn4, hb4⟩
  rw [HL.out] at hn4 ⊢
  have HN4 := Lib.hid hn4
  have HB4 := Lib.hid (below_up HB3.out hb4)
  clear hn4 hb4
  go_wp2_with fail
  go_ret
  exact ⟨a4, c4, rfl, HN4.out, HB4.out⟩
 ·have HL : Hid (x = lowR q p x) := by show _ = _; unfold lowR; rw [if_neg hlow]
  have hci : (decide (cmpI x q > 0)) = false := by unfold cmpI; simp only [decide_eq_false_iff_not]; split <;> simp <;> omega
  generalize cmpI x q = ci at *
  go_wp2_with fail
  go_ret
  exact ⟨ax, cx, by rw [← HL.out]; rfl, by rw [← HL.out]; exact HX.out.up HB3.out, HB3.out⟩
theorem refProduct_any (a b sz q p : Nat) (aa ab aq ap : Option Addr) (ca cb cq cp : Nat) (ha : a < DD ^ 16) (hb : b < DD ^ 16) (hp0 : 0 < p) (hp : p < DD ^ 16) (w : World) (hA : NumAt w aa a) (hB : NumAt w ab b) (hQ : NumAt w aq q) (hP : NumAt w ap p) :
  Calls Tryz.prog 116 #[.agg #[.int .i64 (sz : Int), .slice aq (dl q) cq, .slice ap (dl p) cp], .slice aa (dl a) ca, .slice ab (dl b) cb] w fun e w' => NumR w e w' (lowR q p (a * b % p)) := by
 have HA := Lib.hid hA
 have HBB := Lib.hid hB
 have HQ := Lib.hid hQ
 have HP := Lib.hid hP
 clear hA hB hQ hP
 go_enter Tryz.func116, Tryz.ntmps116
 have hzz : Bx (w.alloc (.cells #[.int .i64 (sz : Int), .slice aq (dl q) cq, .slice ap (dl p) cp] 86)) w.heap.size 86 (gR sz q p aq ap cq cp) := Bx.new w _ _ _ rfl
 have hbz : Below w.heap.size w (w.alloc (.cells #[.int .i64 (sz : Int), .slice aq (dl q) cq, .slice ap (dl p) cp] 86)) := (Below.refl w.heap.size w).alloc (Nat.le_refl _) _
 obtain ⟨W2, hW2⟩ : ∃ W9 : World, (w.alloc (.cells #[.int .i64 (sz : Int), .slice aq (dl q) cq, .slice ap (dl p) cp] 86)) = W9 := ⟨_, rfl⟩
 rw [hW2] at hzz hbz
 have HZ := Lib.hid hzz
 have HBZ := Lib.hid hbz
 have hz_0 := HZ.out.cell (i := 0) rfl
 have hz_1 := HZ.out.cell (i := 1) rfl
 have hz_2 := HZ.out.cell (i := 2) rfl
 have hzl := HZ.out.lt
 clear hzz hbz
 go_wp2_with fail
 have HW0 : Hid (Below W2.heap.size W2 W2.drew) := (Below.refl _ _).drew
 refine wp_region_tree (fun w' => ∃ E : Over W2, w' = E.w) (.qs [0, 1, 2, 4, 5] (.a 3 (.a 6 (.a 7 (.q 8 .done))))) (by kernel_rfl) (by kernel_rfl) (fun _ _ d _ _ h => by cases d <;> exact h) ⟨⟨_, HW0.out⟩, rfl⟩ ?_
 have hov := fun (E : Over W2) o => E.cell (b := w.heap.size) o hzl
 simp only [Tree.qs]
 repeat (refine tree_q rfl rfl ?_; go_big_quiet_step (fail); refine wpQuiet_nil ?_)
 refine tree_a rfl (fun K hK => ?_)
 go_simp
 refine (refTimes_any a b aa ab ca cb (small_dl a ha) (small_dl b hb) _ (HA.out.up (below_up HBZ.out HW0.out)) (HBB.out.up (below_up HBZ.out HW0.out))).mono ?_
 rintro e w4 ⟨a4, c4, rfl, hn9, hb9⟩
 have HN4 := Lib.hid hn9
 have HW4 := Lib.hid (below_up HW0.out hb9)
 clear hn9 hb9
 refine hK _ _ ⟨⟨⟨w4, HW4.out⟩, rfl⟩, ?_⟩
 clear hK K
 refine tree_a rfl (fun K hK => ?_)
 go_simp
 refine (refMod_any (a * b) p a4 ap c4 cp (lt32 a b ha hb) hp0 w4 HN4.out (HP.out.up (below_up HBZ.out HW4.out))).mono ?_
 rintro e w5 ⟨a5, c5, rfl, hn9, hb9⟩
 have HN5 := Lib.hid hn9
 have HW5 := Lib.hid (below_up HW4.out hb9)
 clear hn9 hb9
 refine hK _ _ ⟨⟨⟨w5, HW5.out⟩, rfl⟩, ?_⟩
 clear hK K
 refine tree_a rfl (fun K hK => ?_)
 go_simp
 refine (refLow_any (a * b % p) sz q p a5 aq ap c5 cq cp (Nat.le_of_lt (Nat.mod_lt _ hp0)) hp w5 HN5.out (HQ.out.up (below_up HBZ.out HW5.out)) (HP.out.up (below_up HBZ.out HW5.out))).mono ?_
 rintro e w6 ⟨a6, c6, rfl, hn9, hb9⟩
 have HN6 := Lib.hid hn9
 have HW6 := Lib.hid (below_up HW5.out hb9)
 clear hn9 hb9
 refine hK _ _ ⟨⟨⟨w6, HW6.out⟩, rfl⟩, ?_⟩
 clear hK K
 refine tree_q rfl rfl ?_
 go_big_quiet_step (fail)
 refine wpQuiet_nil ?_
 refine tree_end ?_
 have HF := Lib.hid (below_up HBZ.out HW6.out)
 clear hov
 go_wp2_with fail
 go_ret
 exact ⟨a6, c6, rfl, HN6.out, HF.out⟩
theorem refPow_any (a n sz q p : Nat) (aa an aq ap : Option Addr) (ca cn cq cp : Nat) (ha : a < DD ^ 16) (hn : dl n ≤ 65536) (hp0 : 1 < p) (hp : p < DD ^ 16) (w : World) (hA : NumAt w aa a) (hN : NumAt w an n) (hQ : NumAt w aq q) (hP : NumAt w ap p) :
  Calls Tryz.prog 131 #[.agg #[.int .i64 (sz : Int), .slice aq (dl q) cq, .slice ap (dl p) cp], .slice aa (dl a) ca, .slice an (dl n) cn] w fun e w' => NumR w e w' (lowR q p (a ^ n % p)) := by
 have HA := Lib.hid hA
 have HNN := Lib.hid hN
 have HQ := Lib.hid hQ
 have HP := Lib.hid hP
 clear hA hN hQ hP
 go_enter Tryz.func131, Tryz.ntmps131
 have hzz : Bx (w.alloc (.cells #[.int .i64 (sz : Int), .slice aq (dl q) cq, .slice ap (dl p) cp] 86)) w.heap.size 86 (gR sz q p aq ap cq cp) := Bx.new w _ _ _ rfl
 have hbz : Below w.heap.size w (w.alloc (.cells #[.int .i64 (sz : Int), .slice aq (dl q) cq, .slice ap (dl p) cp] 86)) := (Below.refl w.heap.size w).alloc (Nat.le_refl _) _
 obtain ⟨W2, hW2⟩ : ∃ W9 : World, (w.alloc (.cells #[.int .i64 (sz : Int), .slice aq (dl q) cq, .slice ap (dl p) cp] 86)) = W9 := ⟨_, rfl⟩
 rw [hW2] at hzz hbz
 have HZ := Lib.hid hzz
 have HBZ := Lib.hid hbz
 have hz_0 := HZ.out.cell (i := 0) rfl
 have hz_1 := HZ.out.cell (i := 1) rfl
 have hz_2 := HZ.out.cell (i := 2) rfl
 have hzl := HZ.out.lt
 clear hzz hbz
 go_wp2_with fail
 have HW0 : Hid (Below W2.heap.size W2 W2.drew) := (Below.refl _ _).drew
 refine wp_region_tree (fun w' => ∃ E : Over W2, w' = E.w) (.qs [0, 1, 2, 3, 4] (.a 5 (.a 6 (.q 7 .done)))) (by kernel_rfl) (by kernel_rfl) (fun _ _ d _ _ h => by cases d <;> exact h) ⟨⟨_, HW0.out⟩, rfl⟩ ?_
 have hov := fun (E : Over W2) o => E.cell (b := w.heap.size) o hzl
 simp only [Tree.qs]
 repeat (refine tree_q rfl rfl ?_; go_big_quiet_step (fail); refine wpQuiet_nil ?_)
 refine tree_a rfl (fun K hK => ?_)
 go_simp
 refine (refPower_any a n p aa an ap ca cn cp ha hn hp0 hp _ (HA.out.up (below_up HBZ.out HW0.out)) (HNN.out.up (below_up HBZ.out HW0.out)) (HP.out.up (below_up HBZ.out HW0.out))).mono ?_
 rintro e w4 ⟨a4, c4, rfl, hn9, hb9⟩
 have HN4 := Lib.hid hn9
 have HW4 := Lib.hid (below_up HW0.out hb9)
 clear hn9 hb9
 refine hK _ _ ⟨⟨⟨w4, HW4.out⟩, rfl⟩, ?_⟩
 clear hK K
 refine tree_a rfl (fun K hK => ?_)
 go_simp
 refine (refLow_any (a ^ n % p) sz q p a4 aq ap c4 cq cp (Nat.le_of_lt (Nat.mod_lt _ (by omega))) hp w4 HN4.out (HQ.out.up (below_up HBZ.out HW4.out)) (HP.out.up (below_up HBZ.out HW4.out))).mono ?_
 rintro e w5 ⟨a5, c5, rfl, hn9, hb9⟩
 have HN5 := Lib.hid hn9
 have HW5 := Lib.hid (below_up HW4.out hb9)
 clear hn9 hb9
 refine hK _ _ ⟨⟨⟨w5, HW5.out⟩, rfl⟩, ?_⟩
 clear hK K
 refine tree_q rfl rfl ?_
 go_big_quiet_step (fail)
 refine wpQuiet_nil ?_
 refine tree_end ?_
 have HF := Lib.hid (below_up HBZ.out HW5.out)
 clear hov
 go_wp2_with fail
 go_ret
 exact ⟨a5, c5, rfl, HN5.out, HF.out⟩
end Go.Proofs.YtdlnnkbigeiilaaGreat
namespace Go.Proofs.YtdlnnkbigeiilaaGreat
open Go.RowKit
def isSc (q sz : Nat) (s : ByteArray) : Bool := decide (s.size = sz) && decide (numOf s < q)
def isEl (q sz : Nat) (s : ByteArray) : Bool := decide (s.size = sz) && decide (0 < numOf s) && decide (numOf s ≤ q)
theorem cmpI_lt (a b : Nat) : decide (cmpI a b < 0) = decide (a < b) := by unfold cmpI; split; · simp [*]
                                                                           ·split <;> simp <;> omega
theorem cmpI_le (a b : Nat) : decide (cmpI a b ≤ 0) = decide (a ≤ b) := by
 unfold cmpI
 split
 ·simp; omega
 ·split <;> simp <;> omega
theorem numOf_16 (s : ByteArray) (hs : s.size ≤ 32) : numOf s < DD ^ 16 := numOf_lt s hs
theorem refIsScalar_any (s : ByteArray) (sz q p : Nat) (aq ap : Option Addr) (cq cp : Nat) (hsz : sz ≤ 32) (w : World) (hQ : NumAt w aq q) :
  Calls Tryz.prog 58 #[.agg #[.int .i64 (sz : Int), .slice aq (dl q) cq, .slice ap (dl p) cp], .string s] w fun e w' => e = .returned (.bool (isSc q sz s)) ∧ Below w.heap.size w w' := by
 have HQ := Lib.hid hQ
 clear hQ
 by_cases hl : s.size = sz
 ·have HR : Hid (isSc q sz s = decide (numOf s < q)) := by show _ = _; unfold isSc; simp [hl]
  have hn := numOf_16 s (by omega)
  have hd : ((s.size : Int) == (sz : Int)) = true := by rw [hl]; simp
  have hss : s.size ≤ 1048576 := by omega
  clear hl
  go_enter Tryz.func58, Tryz.ntmps58
  have hzz : Bx (w.alloc (.cells #[.int .i64 (sz : Int), .slice aq (dl q) cq, .slice ap (dl p) cp] 86)) w.heap.size 86 (gR sz q p aq ap cq cp) := Bx.new w _ _ _ rfl
  have hbz : Below w.heap.size w (w.alloc (.cells #[.int .i64 (sz : Int), .slice aq (dl q) cq, .slice ap (dl p) cp] 86)) := (Below.refl w.heap.size w).alloc (Nat.le_refl _) _
  obtain ⟨W2, hW2⟩ : ∃ W9 : World, (w.alloc (.cells #[.int .i64 (sz : Int), .slice aq (dl q) cq, .slice ap (dl p) cp] 86)) = W9 := ⟨_, rfl⟩
  rw [hW2] at hzz hbz
  have HZ := Lib.hid hzz
  have HBZ := Lib.hid hbz
  have hz_0 := HZ.out.cell (i := 0) rfl
  have hz_1 := HZ.out.cell (i := 1) rfl
  have hz_2 := HZ.out.cell (i := 2) rfl
  have hzl := HZ.out.lt
  clear hzz hbz
  go_wp2_with fail
  have HW0 : Hid (Below W2.heap.size W2 W2.drew) := (Below.refl _ _).drew
  refine wp_region_tree (fun w' => ∃ E : Over W2, w' = E.w) (.qs [0, 1, 2, 3, 4, 5, 6, 8, 9] (.a 7 (.a 10 (.q 11 (.q 12 (.q 13 .done)))))) (by kernel_rfl) (by kernel_rfl) (fun _ _ d _ _ h => by cases d <;> exact h) ⟨⟨_, HW0.out⟩, rfl⟩ ?_
  have hov := fun (E : Over W2) o => E.cell (b := w.heap.size) o hzl
  simp only [Tree.qs]
  repeat (refine tree_q rfl rfl ?_; go_big_quiet_step (fail); refine wpQuiet_nil ?_)
  refine tree_a rfl (fun K hK => ?_)
  go_simp
  refine (refRead_any s hss _).mono ?_
  rintro e w4 ⟨a4, c4, rfl, hn9, hb9⟩
  have HN4 := Lib.hid hn9
  have HW4 := Lib.hid (below_up HW0.out hb9)
  clear hn9 hb9
  refine hK _ _ ⟨⟨⟨w4, HW4.out⟩, rfl⟩, ?_⟩
  clear hK K
  refine tree_a rfl (fun K hK => ?_)
  go_simp
  refine (refCompare_any (numOf s) q a4 aq c4 cq (small_dl _ hn) w4 HN4.out (HQ.out.up (below_up HBZ.out HW4.out))).mono ?_
  rintro e w5 ⟨rfl, hb9⟩
  have HW5 := Lib.hid (below_up HW4.out hb9)
  clear hb9
  refine hK _ _ ⟨⟨⟨w5, HW5.out⟩, rfl⟩, ?_⟩
  clear hK K
  repeat (refine tree_q rfl rfl ?_; go_big_quiet_step (fail); refine wpQuiet_nil ?_)
  refine tree_end ?_
  have HF := Lib.hid (below_up HBZ.out HW5.out)
  clear hov
  go_wp2_with fail
  go_ret
  exact ⟨by rw [HR.out, ← cmpI_lt]; rfl, HF.out⟩
 ·have HR : Hid (isSc q sz s = false) := by show _ = _; unfold isSc; simp [hl]
  have hd : ((s.size : Int) == (sz : Int)) = false := by simp; omega
  clear hl
  go_enter Tryz.func58, Tryz.ntmps58
  have hzz : Bx (w.alloc (.cells #[.int .i64 (sz : Int), .slice aq (dl q) cq, .slice ap (dl p) cp] 86)) w.heap.size 86 (gR sz q p aq ap cq cp) := Bx.new w _ _ _ rfl
  have hbz : Below w.heap.size w (w.alloc (.cells #[.int .i64 (sz : Int), .slice aq (dl q) cq, .slice ap (dl p) cp] 86)) := (Below.refl w.heap.size w).alloc (Nat.le_refl _) _
  obtain ⟨W2, hW2⟩ : ∃ W9 : World, (w.alloc (.cells #[.int .i64 (sz : Int), .slice aq (dl q) cq, .slice ap (dl p) cp] 86)) = W9 := ⟨_, rfl⟩
  rw [hW2] at hzz hbz
  have HZ := Lib.hid hzz
  have HBZ := Lib.hid hbz
  have hz_0 := HZ.out.cell (i := 0) rfl
  have hz_1 := HZ.out.cell (i := 1) rfl
  have hz_2 := HZ.out.cell (i := 2) rfl
  have hzl := HZ.out.lt
  clear hzz hbz
  go_wp2_with fail
  go_quiet (fail)
  go_wp2_with fail
  go_ret
  exact ⟨by rw [HR.out]; rfl, below_up HBZ.out (below_drewN (Below.refl _ _) _)⟩
theorem refIsElem_any (s : ByteArray) (sz q p : Nat) (aq ap : Option Addr) (cq cp : Nat) (hsz : sz ≤ 32) (w : World) (hQ : NumAt w aq q) :
  Calls Tryz.prog 125 #[.agg #[.int .i64 (sz : Int), .slice aq (dl q) cq, .slice ap (dl p) cp], .string s] w fun e w' => e = .returned (.bool (isEl q sz s)) ∧ Below w.heap.size w w' := by
 have HQ := Lib.hid hQ
 clear hQ
 by_cases hl : s.size = sz
 ·have hn := numOf_16 s (by omega)
  have hd : ((s.size : Int) == (sz : Int)) = true := by rw [hl]; simp
  have hss : s.size ≤ 1048576 := by omega
  by_cases h0 : 0 < numOf s
  ·have HR : Hid (isEl q sz s = decide (numOf s ≤ q)) := by show _ = _; unfold isEl; simp [hl, h0]
   have hdl := dl_pos _ (Nat.ne_of_gt h0)
   have hdd : decide ((dl (numOf s) : Int) > 0) = true := by simp; omega
   clear hl h0
   go_enter Tryz.func125, Tryz.ntmps125
   have hzz : Bx (w.alloc (.cells #[.int .i64 (sz : Int), .slice aq (dl q) cq, .slice ap (dl p) cp] 86)) w.heap.size 86 (gR sz q p aq ap cq cp) := Bx.new w _ _ _ rfl
   have hbz : Below w.heap.size w (w.alloc (.cells #[.int .i64 (sz : Int), .slice aq (dl q) cq, .slice ap (dl p) cp] 86)) := (Below.refl w.heap.size w).alloc (Nat.le_refl _) _
   obtain ⟨W2, hW2⟩ : ∃ W9 : World, (w.alloc (.cells #[.int .i64 (sz : Int), .slice aq (dl q) cq, .slice ap (dl p) cp] 86)) = W9 := ⟨_, rfl⟩
   rw [hW2] at hzz hbz
   have HZ := Lib.hid hzz
   have HBZ := Lib.hid hbz
   have hz_0 := HZ.out.cell (i := 0) rfl
   have hz_1 := HZ.out.cell (i := 1) rfl
   have hz_2 := HZ.out.cell (i := 2) rfl
   have hzl := HZ.out.lt
   clear hzz hbz
   go_wp2_with fail
   have HW0 : Hid (Below W2.heap.size W2 W2.drew) := (Below.refl _ _).drew
   refine wp_region_tree (fun w' => ∃ E : Over W2, w' = E.w) (.qs [0, 1, 2, 3, 4, 5, 6] (.a 7 (.q 8 (.q 9 (.q 10 (.q 11 (.q 12 (.q 14 (.q 15 (.a 13 (.a 16 (.q 17 (.q 18 (.q 19 .done)))))))))))))) (by kernel_rfl) (by kernel_rfl) (fun _ _ d _ _ h => by cases d <;> exact h) ⟨⟨_, HW0.out⟩, rfl⟩ ?_
   have hov := fun (E : Over W2) o => E.cell (b := w.heap.size) o hzl
   simp only [Tree.qs]
   repeat (refine tree_q rfl rfl ?_; go_big_quiet_step (fail); refine wpQuiet_nil ?_)
   refine tree_a rfl (fun K hK => ?_)
   go_simp
   refine (refRead_any s hss _).mono ?_
   rintro e w4 ⟨a4, c4, rfl, hn9, hb9⟩
   have HN4 := Lib.hid hn9
   have HW4 := Lib.hid (below_up HW0.out hb9)
   clear hn9 hb9
   refine hK _ _ ⟨⟨⟨w4, HW4.out⟩, rfl⟩, ?_⟩
   clear hK K
   repeat (refine tree_q rfl rfl ?_; go_big_quiet_step (fail); refine wpQuiet_nil ?_)
   refine tree_a rfl (fun K hK => ?_)
   go_simp
   refine (refRead_any s hss _).mono ?_
   rintro e w5 ⟨a5, c5, rfl, hn9, hb9⟩
   have HN5 := Lib.hid hn9
   have HW5 := Lib.hid (below_up HW4.out hb9)
   clear hn9 hb9
   refine hK _ _ ⟨⟨⟨w5, HW5.out⟩, rfl⟩, ?_⟩
   clear hK K
   refine tree_a rfl (fun K hK => ?_)
   go_simp
   refine (refCompare_any (numOf s) q a5 aq c5 cq (small_dl _ hn) w5 HN5.out (HQ.out.up (below_up HBZ.out HW5.out))).mono ?_
   rintro e w6 ⟨rfl, hb9⟩
   have HW6 := Lib.hid (below_up HW5.out hb9)
   clear hb9
   refine hK _ _ ⟨⟨⟨w6, HW6.out⟩, rfl⟩, ?_⟩
   clear hK K
   repeat (refine tree_q rfl rfl ?_; go_big_quiet_step (fail); refine wpQuiet_nil ?_)
   refine tree_end ?_
   have HF := Lib.hid (below_up HBZ.out HW6.out)
   clear hov
   go_wp2_with fail
   go_ret
   exact ⟨by rw [HR.out, ← cmpI_le]; rfl, HF.out⟩
  ·have HR : Hid (isEl q sz s = false) := by show _ = _; unfold isEl; simp [h0]
   have h00 : numOf s = 0 := by omega
   have hdl : dl (numOf s) = 0 := by rw [h00]; rfl
   clear hl h0 h00
   go_enter Tryz.func125, Tryz.ntmps125
   have hzz : Bx (w.alloc (.cells #[.int .i64 (sz : Int), .slice aq (dl q) cq, .slice ap (dl p) cp] 86)) w.heap.size 86 (gR sz q p aq ap cq cp) := Bx.new w _ _ _ rfl
   have hbz : Below w.heap.size w (w.alloc (.cells #[.int .i64 (sz : Int), .slice aq (dl q) cq, .slice ap (dl p) cp] 86)) := (Below.refl w.heap.size w).alloc (Nat.le_refl _) _
   obtain ⟨W2, hW2⟩ : ∃ W9 : World, (w.alloc (.cells #[.int .i64 (sz : Int), .slice aq (dl q) cq, .slice ap (dl p) cp] 86)) = W9 := ⟨_, rfl⟩
   rw [hW2] at hzz hbz
   have HZ := Lib.hid hzz
   have HBZ := Lib.hid hbz
   have hz_0 := HZ.out.cell (i := 0) rfl
   have hz_1 := HZ.out.cell (i := 1) rfl
   have hz_2 := HZ.out.cell (i := 2) rfl
   have hzl := HZ.out.lt
   clear hzz hbz
   go_wp2_with fail
   have HW0 : Hid (Below W2.heap.size W2 W2.drew) := (Below.refl _ _).drew
   refine wp_region_tree (fun w' => ∃ E : Over W2, w' = E.w) (.qs [0, 1, 2, 3, 4, 5, 6] (.a 7 (.q 8 (.q 9 (.q 10 (.q 11 (.q 12 (.q 14 (.q 15 (.a 13 (.a 16 (.q 17 (.q 18 (.q 19 .done)))))))))))))) (by kernel_rfl) (by kernel_rfl) (fun _ _ d _ _ h => by cases d <;> exact h) ⟨⟨_, HW0.out⟩, rfl⟩ ?_
   have hov := fun (E : Over W2) o => E.cell (b := w.heap.size) o hzl
   simp only [Tree.qs]
   repeat (refine tree_q rfl rfl ?_; go_big_quiet_step (fail); refine wpQuiet_nil ?_)
   refine tree_a rfl (fun K hK => ?_)
   go_simp
   refine (refRead_any s hss _).mono ?_
   rintro e w4 ⟨a4, c4, rfl, hn9, hb9⟩
   have HN4 := Lib.hid hn9
   have HW4 := Lib.hid (below_up HW0.out hb9)
   clear hn9 hb9
   refine hK _ _ ⟨⟨⟨w4, HW4.out⟩, rfl⟩, ?_⟩
   clear hK K
   repeat (refine tree_q rfl rfl ?_; go_big_quiet_step (fail); refine wpQuiet_nil ?_)
   refine tree_a rfl (fun K hK => ?_)
   go_simp
   refine hK _ _ ⟨⟨⟨w4, HW4.out⟩, rfl⟩, ?_⟩
   clear hK K
   refine tree_a rfl (fun K hK => ?_)
   go_simp
   refine hK _ _ ⟨⟨⟨w4, HW4.out⟩, rfl⟩, ?_⟩
   clear hK K
   repeat (refine tree_q rfl rfl ?_; go_big_quiet_step (fail); refine wpQuiet_nil ?_)
   refine tree_end ?_
   have HF := Lib.hid (below_up HBZ.out HW4.out)
   clear hov
   go_wp2_with fail
   go_ret
   exact ⟨by rw [HR.out]; rfl, HF.out⟩
 ·have HR : Hid (isEl q sz s = false) := by show _ = _; unfold isEl; simp [hl]
  have hd : ((s.size : Int) == (sz : Int)) = false := by simp; omega
  clear hl
  go_enter Tryz.func125, Tryz.ntmps125
  have hzz : Bx (w.alloc (.cells #[.int .i64 (sz : Int), .slice aq (dl q) cq, .slice ap (dl p) cp] 86)) w.heap.size 86 (gR sz q p aq ap cq cp) := Bx.new w _ _ _ rfl
  have hbz : Below w.heap.size w (w.alloc (.cells #[.int .i64 (sz : Int), .slice aq (dl q) cq, .slice ap (dl p) cp] 86)) := (Below.refl w.heap.size w).alloc (Nat.le_refl _) _
  obtain ⟨W2, hW2⟩ : ∃ W9 : World, (w.alloc (.cells #[.int .i64 (sz : Int), .slice aq (dl q) cq, .slice ap (dl p) cp] 86)) = W9 := ⟨_, rfl⟩
  rw [hW2] at hzz hbz
  have HZ := Lib.hid hzz
  have HBZ := Lib.hid hbz
  have hz_0 := HZ.out.cell (i := 0) rfl
  have hz_1 := HZ.out.cell (i := 1) rfl
  have hz_2 := HZ.out.cell (i := 2) rfl
  have hzl := HZ.out.lt
  clear hzz hbz
  go_wp2_with fail
  go_quiet (fail)
  go_wp2_with fail
  go_ret
  exact ⟨by rw [HR.out]; rfl, below_up HBZ.out (below_drewN (Below.refl _ _) _)⟩
end Go.Proofs.YtdlnnkbigeiilaaGreat
namespace Go.Proofs.YtdlnnkbigeiilaaGreat
open Go.RowKit
def ReadR (ok : Bool) (v : Value) (w : World) (e : Ending) (w' : World) : Prop := ∃ x : Nat, e = .returned (.tuple #[limbV x, .bool ok]) ∧ Below w.heap.size w w' ∧ (ok = true → limbV x = v)
theorem gScalar_any (G : GP) (ok : G.Ok) (gb : Nat) (s : ByteArray) (w : World) (hG : GroupAt w gb G) :
  Calls Tryz.prog 37 #[.pointer (some ⟨gb, 0, none⟩), .string s] w (ReadR (isSc G.q.m G.size s) (scV G (numOf s)) w) := by
 have no : isSc G.q.m G.size s = false → ∀ e w', (e = .returned (.tuple #[limbV 0, .bool false]) ∧ Below w.heap.size w w') → ReadR (isSc G.q.m G.size s) (scV G (numOf s)) w e w' := fun h e w' ⟨h1, h2⟩ => ⟨0, by rw [h]; exact h1, h2, fun hc => by rw [h] at hc; cases hc⟩
 by_cases h32 : 32 < s.size
 ·exact (gScalar_long G ok gb s h32 w hG).mono (no (by have := ok.size_le; unfold isSc; simp; omega))
 by_cases hl : s.size = G.size
 ·rcases Nat.lt_trichotomy (numOf s) G.q.m with hc | hc | hc
  ·refine (gScalar_yes G ok gb s hl hc w hG).mono ?_
   rintro e w' ⟨h1, h2⟩
   exact ⟨mont G.q.m (numOf s), by rw [show isSc G.q.m G.size s = true by unfold isSc; simp [hl, hc]]; exact h1, h2, fun _ => rfl⟩
  ·exact (gScalar_eq G ok gb s hl hc w hG).mono (no (by unfold isSc; simp; omega))
  ·exact (gScalar_gt G ok gb s hl hc w hG).mono (no (by unfold isSc; simp; omega))
 ·exact (gScalar_len G ok gb s (by omega) hl w hG).mono (no (by unfold isSc; simp [hl]))
theorem gElem_any (G : GP) (ok : G.Ok) (gb : Nat) (s : ByteArray) (w : World) (hG : GroupAt w gb G) :
  Calls Tryz.prog 137 #[.pointer (some ⟨gb, 0, none⟩), .string s] w (ReadR (isEl G.q.m G.size s) (elV G (numOf s)) w) := by
 have no : isEl G.q.m G.size s = false → ∀ e w', (e = .returned (.tuple #[limbV 0, .bool false]) ∧ Below w.heap.size w w') → ReadR (isEl G.q.m G.size s) (elV G (numOf s)) w e w' := fun h e w' ⟨h1, h2⟩ => ⟨0, by rw [h]; exact h1, h2, fun hc => by rw [h] at hc; cases hc⟩
 by_cases h32 : 32 < s.size
 ·exact (gElem_long G ok gb s h32 w hG).mono (no (by have := ok.size_le; unfold isEl; simp; omega))
 by_cases hl : s.size = G.size
 ·by_cases h0 : numOf s = 0
  ·exact (gElem_zero G ok gb s hl h0 w hG).mono (no (by unfold isEl; simp [h0]))
  rcases Nat.lt_trichotomy (numOf s) G.q.m with hc | hc | hc
  ·refine (gElem_lt G ok gb s hl (by omega) hc w hG).mono ?_
   rintro e w' ⟨h1, h2⟩
   exact ⟨mont G.p.m (numOf s), by rw [show isEl G.q.m G.size s = true by unfold isEl; simp [hl]; omega]; exact h1, h2, fun _ => rfl⟩
  ·refine (gElem_eq G ok gb s hl (by omega) hc w hG).mono ?_
   rintro e w' ⟨h1, h2⟩
   exact ⟨mont G.p.m (numOf s), by rw [show isEl G.q.m G.size s = true by unfold isEl; simp [hl]; omega]; exact h1, h2, fun _ => rfl⟩
  ·exact (gElem_gt G ok gb s hl hc w hG).mono (no (by unfold isEl; simp; omega))
 ·exact (gElem_len G ok gb s (by omega) hl w hG).mono (no (by unfold isEl; simp [hl]))
end Go.Proofs.YtdlnnkbigeiilaaGreat
namespace Go.Proofs.YtdlnnkbigeiilaaGreat
open Go.RowKit
def ReadM (b : Bool) (m : Nat) (w : World) (e : Ending) (w' : World) : Prop := ∃ x : Nat, e = .returned (.tuple #[limbV x, .bool b]) ∧ Below w.heap.size w w' ∧ (b = true → x = m)
theorem ReadR.m {b : Bool} {m : Nat} {w w' : World} {e : Ending} (h : ReadR b (limbV m) w e w') : ReadM b m w e w' := by
 obtain ⟨x, h1, h2, h3⟩ := h
 cases b with
 | true => exact ⟨m, by rw [h1, h3 rfl], h2, fun _ => rfl⟩
 | false => exact ⟨x, h1, h2, fun h => by cases h⟩
theorem gScalar_m (G : GP) (ok : G.Ok) (gb : Nat) (s : ByteArray) (b : Bool) (hb : isSc G.q.m G.size s = b) (w : World) (hG : GroupAt w gb G) :
  Calls Tryz.prog 37 #[.pointer (some ⟨gb, 0, none⟩), .string s] w (ReadM b (mont G.q.m (numOf s)) w) := by
 subst hb
 exact (gScalar_any G ok gb s w hG).mono fun e w' h => ReadR.m h
theorem gElem_m (G : GP) (ok : G.Ok) (gb : Nat) (s : ByteArray) (b : Bool) (hb : isEl G.q.m G.size s = b) (w : World) (hG : GroupAt w gb G) :
  Calls Tryz.prog 137 #[.pointer (some ⟨gb, 0, none⟩), .string s] w (ReadM b (mont G.p.m (numOf s)) w) := by
 subst hb
 exact (gElem_any G ok gb s w hG).mono fun e w' h => ReadR.m h
end Go.Proofs.YtdlnnkbigeiilaaGreat
namespace Go.Proofs.YtdlnnkbigeiilaaGreat
open Go.RowKit
end Go.Proofs.YtdlnnkbigeiilaaGreat
namespace Go.Proofs.YtdlnnkbigeiilaaGreat
open Go.RowKit
end Go.Proofs.YtdlnnkbigeiilaaGreat
namespace Go.Proofs.YtdlnnkbigeiilaaGreat
open Go.RowKit
end Go.Proofs.YtdlnnkbigeiilaaGreat
namespace Go.Proofs.YtdlnnkbigeiilaaGreat
def PM (p x y : Nat) : Prop := (p : Int) ∣ (x : Int) - y ∨ (p : Int) ∣ (x : Int) + y
theorem PM.refl (p x : Nat) : PM p x x := Or.inl ⟨0, by omega⟩
theorem PM.of_mod {p x y : Nat} (h : x % p = y % p) : PM p x y := Or.inl (by
 have h1 := Nat.div_add_mod x p
 have h2 := Nat.div_add_mod y p
 refine ⟨(x / p : Nat) - (y / p : Nat), ?_⟩
 have e1 : (x : Int) = p * (x / p : Nat) + (x % p : Nat) := by exact_mod_cast h1.symm
 have e2 : (y : Int) = p * (y / p : Nat) + (y % p : Nat) := by exact_mod_cast h2.symm
 rw [e1, e2, h]
 generalize ((x / p : Nat) : Int) = a
 generalize ((y / p : Nat) : Int) = b
 grind)
theorem PM.symm {p x y : Nat} (h : PM p x y) : PM p y x := by
 rcases h with ⟨c, h⟩ | ⟨c, h⟩
 ·exact Or.inl ⟨-c, by grind⟩
 ·exact Or.inr ⟨c, by grind⟩
theorem PM.trans {p x y z : Nat} (h : PM p x y) (g : PM p y z) : PM p x z := by
 rcases h with ⟨c, h⟩ | ⟨c, h⟩ <;> rcases g with ⟨d, g⟩ | ⟨d, g⟩
 ·exact Or.inl ⟨c + d, by grind⟩
 ·exact Or.inr ⟨c + d, by grind⟩
 ·exact Or.inr ⟨c - d, by grind⟩
 ·exact Or.inl ⟨c - d, by grind⟩
theorem PM.mul {p x y u v : Nat} (h : PM p x y) (g : PM p u v) : PM p (x * u) (y * v) := by
 have e1 : ((x * u : Nat) : Int) = x * u := by simp
 have e2 : ((y * v : Nat) : Int) = y * v := by simp
 unfold PM
 rw [e1, e2]
 rcases h with ⟨c, h⟩ | ⟨c, h⟩ <;> rcases g with ⟨d, g⟩ | ⟨d, g⟩
 ·exact Or.inl ⟨c * u + y * d, by grind⟩
 ·exact Or.inr ⟨c * u + y * d, by grind⟩
 ·exact Or.inr ⟨c * u - y * d, by grind⟩
 ·exact Or.inl ⟨c * u - y * d, by grind⟩
theorem PM.mod (p x : Nat) : PM p (x % p) x := PM.of_mod (Nat.mod_mod _ _)
theorem lowR_pm (q p x : Nat) (hx : x < p) : PM p (lowR q p x) x := by
 unfold lowR
 split
 ·exact Or.inr ⟨1, by omega⟩
 ·exact PM.refl _ _
theorem lowR_leq {q p x : Nat} (hp : p = 2 * q + 1) (hx : x < p) : lowR q p x ≤ q := by
 unfold lowR
 split <;> omega
theorem lowR_fix {q p x : Nat} (hx : x ≤ q) : lowR q p x = x := by
 unfold lowR
 rw [if_neg (by omega)]
theorem low_unique {q p x y : Nat} (hp : p = 2 * q + 1) (hx : x ≤ q) (hy : y ≤ q) (h : PM p x y) : x = y := by
 rcases h with h | h
 ·have := Int.eq_zero_of_dvd_of_natAbs_lt_natAbs h (by omega)
  omega
 ·have := Int.eq_zero_of_dvd_of_natAbs_lt_natAbs h (by omega)
  omega
theorem low_eq {q p x y : Nat} (_hq : 0 < q) (hp : p = 2 * q + 1) (h : PM p x y) : lowR q p (x % p) = lowR q p (y % p) := by
 have hx := Nat.mod_lt x (show 0 < p by omega)
 have hy := Nat.mod_lt y (show 0 < p by omega)
 exact low_unique hp (lowR_leq hp hx) (lowR_leq hp hy) ((((lowR_pm q p _ hx).trans (PM.mod p x)).trans h).trans (((lowR_pm q p _ hy).trans (PM.mod p y)).symm))
theorem pm_low {q p : Nat} (hp : 0 < p) (x : Nat) : PM p (lowR q p (x % p)) x := (lowR_pm q p _ (Nat.mod_lt x hp)).trans (PM.mod p x)
end Go.Proofs.YtdlnnkbigeiilaaGreat
namespace Go.Proofs.YtdlnnkbigeiilaaGreat
open Go.RowKit
theorem numL_inj : ∀ l m : List UInt8, l.length = m.length → numL l = numL m → l = m
 | [], [], _, _ => rfl
 | [], _ :: _, h, _ => by simp at h
 | _ :: _, [], h, _ => by simp at h
 | a :: l, b :: m, h, e => by
  have hl : l.length = m.length := by simpa using h
  have h1 := numL_lt l
  have h2 := numL_lt m
  simp only [numL] at e
  rw [hl] at e h1
  have hP : 0 < 256 ^ m.length := Nat.pow_pos (by decide)
  have hd := congrArg (· / 256 ^ m.length) e
  have hm := congrArg (· % 256 ^ m.length) e
  simp only [Nat.mul_comm _ (256 ^ m.length), Nat.mul_add_div hP, Nat.mul_add_mod, Nat.div_eq_of_lt h1, Nat.div_eq_of_lt h2, Nat.mod_eq_of_lt h1, Nat.mod_eq_of_lt h2, Nat.add_zero] at hd hm
  rw [numL_inj l m hl hm, UInt8.toNat_inj.1 hd]
theorem numOf_inj {s t : ByteArray} (h : s.size = t.size) (e : numOf s = numOf t) : s = t := by
 have h1 := numL_inj s.data.toList t.data.toList (by simpa using h) e
 cases s; cases t
 simp at h1
 rw [h1]
theorem text_numOf (s : ByteArray) : textS (numOf s) s.size = s := by
 refine numOf_inj (textS_size _ _) ?_
 rw [numOf_textS]
 exact Nat.mod_eq_of_lt (by have := numL_lt s.data.toList; simpa [numOf] using this)
def T (G : GP) (n : Nat) : ByteArray := textS n G.size
theorem T_num {G : GP} (_ok : G.Ok) {n : Nat} (h : n ≤ G.q.m) (hne : G.q.m < 256 ^ G.size) : numOf (T G n) = n := by
 unfold T
 rw [numOf_textS]
 exact Nat.mod_eq_of_lt (by omega)
theorem grp_fits (k : Nat) (h1 : 1 ≤ k) (h3 : k ≤ 3) : (grp k).q.m < 256 ^ (grp k).size := by
 obtain rfl | rfl | rfl : k = 1 ∨ k = 2 ∨ k = 3 := by omega
 all_goals decide
end Go.Proofs.YtdlnnkbigeiilaaGreat
namespace Go.Proofs.YtdlnnkbigeiilaaGreat
open Go.RowKit
def Lw (q p v : Nat) : Nat := lowR q p (v % p)
section
variable {q p : Nat} (hq : 0 < q) (hp : p = 2 * q + 1)
include hq hp
theorem Lw_eq {x y : Nat} (h : PM p x y) : Lw q p x = Lw q p y := low_eq hq hp h
omit hq in
theorem Lw_pm (x : Nat) : PM p (Lw q p x) x := pm_low (by omega) x
omit hq in
theorem Lw_le (x : Nat) : Lw q p x ≤ q := lowR_leq hp (Nat.mod_lt _ (by omega))
omit hq in
theorem Lw_fix {x : Nat} (h : x ≤ q) : Lw q p x = x := by
 unfold Lw
 rw [Nat.mod_eq_of_lt (by omega), lowR_fix h]
omit hq in
end
end Go.Proofs.YtdlnnkbigeiilaaGreat
namespace Go.Proofs.YtdlnnkbigeiilaaGreat
open Go.RowKit
section
variable {G : GP}
theorem lowN_eq (ok : G.Ok) {x y : Nat} (h : PM G.p.m x y) : lowN G x = lowN G y := low_eq ok.q.pos ok.twice h
theorem lowN_pm (ok : G.Ok) (x : Nat) : PM G.p.m (lowN G x) x := Lw_pm ok.twice x
theorem lowN_le (ok : G.Ok) (x : Nat) : lowN G x ≤ G.q.m := Lw_le ok.twice x
theorem lowN_16 (ok : G.Ok) (x : Nat) : lowN G x < DD ^ 16 := Nat.lt_of_le_of_lt (lowN_le ok x) ok.q.lt4
theorem lowN_mul (ok : G.Ok) (x y : Nat) : lowN G (lowN G x * lowN G y) = lowN G (x * y) := lowN_eq ok (PM.mul (lowN_pm ok x) (lowN_pm ok y))
theorem lowN_fix (ok : G.Ok) {x : Nat} (h : x ≤ G.q.m) : lowN G x = x := Lw_fix ok.twice h
structure RG (W : World) (G : GP) (aq ap : Option Addr) : Prop where
 q : NumAt W aq G.q.m
 p : NumAt W ap G.p.m
theorem RG.up {W W' : World} {aq ap : Option Addr} (h : RG W G aq ap) (hb : Below W.heap.size W W') : RG W' G aq ap := ⟨h.q.up hb, h.p.up hb⟩
variable {aq ap : Option Addr} {cq cp : Nat}
theorem rProd (ok : G.Ok) {a b : Nat} {aa ab : Option Addr} {ca cb : Nat} (ha : a < DD ^ 16) (hb : b < DD ^ 16) (w : World) (hG : RG w G aq ap) (hA : NumAt w aa a) (hB : NumAt w ab b) :
  Calls Tryz.prog 116 #[.agg #[.int .i64 (G.size : Int), .slice aq (dl G.q.m) cq, .slice ap (dl G.p.m) cp], .slice aa (dl a) ca, .slice ab (dl b) cb] w fun e w' => NumR w e w' (lowN G (a * b)) :=
 refProduct_any a b G.size G.q.m G.p.m aa ab aq ap ca cb cq cp ha hb ok.p.pos ok.p.lt4 w hA hB hG.q hG.p
theorem rPow (ok : G.Ok) {a n : Nat} {aa an : Option Addr} {ca cn : Nat} (ha : a < DD ^ 16) (hn : dl n ≤ 65536) (w : World) (hG : RG w G aq ap) (hA : NumAt w aa a) (hN : NumAt w an n) :
  Calls Tryz.prog 131 #[.agg #[.int .i64 (G.size : Int), .slice aq (dl G.q.m) cq, .slice ap (dl G.p.m) cp], .slice aa (dl a) ca, .slice an (dl n) cn] w fun e w' => NumR w e w' (lowN G (a ^ n)) :=
 refPow_any a n G.size G.q.m G.p.m aa an aq ap ca cn cq cp ha hn (by have := ok.twice; have := ok.q.pos; omega) ok.p.lt4 w hA hN hG.q hG.p
theorem rIsSc (ok : G.Ok) (s : ByteArray) (w : World) (hG : RG w G aq ap) :
  Calls Tryz.prog 58 #[.agg #[.int .i64 (G.size : Int), .slice aq (dl G.q.m) cq, .slice ap (dl G.p.m) cp], .string s] w fun e w' => e = .returned (.bool (isSc G.q.m G.size s)) ∧ Below w.heap.size w w' :=
 refIsScalar_any s G.size G.q.m G.p.m aq ap cq cp ok.size_le w hG.q
theorem rIsEl (ok : G.Ok) (s : ByteArray) (w : World) (hG : RG w G aq ap) :
  Calls Tryz.prog 125 #[.agg #[.int .i64 (G.size : Int), .slice aq (dl G.q.m) cq, .slice ap (dl G.p.m) cp], .string s] w fun e w' => e = .returned (.bool (isEl G.q.m G.size s)) ∧ Below w.heap.size w w' :=
 refIsElem_any s G.size G.q.m G.p.m aq ap cq cp ok.size_le w hG.q
theorem rAdd (ok : G.Ok) {a b : Nat} {aa ab : Option Addr} {ca cb : Nat} (ha : a < DD ^ 16) (hb : b < DD ^ 16) (w : World) (hG : RG w G aq ap) (hA : NumAt w aa a) (hB : NumAt w ab b) :
  Calls Tryz.prog 60 #[.agg #[.int .i64 (G.size : Int), .slice aq (dl G.q.m) cq, .slice ap (dl G.p.m) cp], .slice aa (dl a) ca, .slice ab (dl b) cb] w fun e w' => NumR w e w' ((a + b) % G.q.m) :=
 refAdd_any a b G.size G.q.m G.p.m aa ab aq ap ca cb cq cp ha hb ok.q.pos w hA hB hG.q
theorem rAdd_new (ok : G.Ok) {a b : Nat} {aa ab : Option Addr} {ca cb : Nat} (ha : a < DD ^ 16) (hb : b < DD ^ 16) (w : World) (hG : RG w G aq ap) (hA : NumAt w aa a) (hB : NumAt w ab b) :
  Calls Tryz.prog 60 #[.agg #[.int .i64 (G.size : Int), .slice aq (dl G.q.m) cq, .slice ap (dl G.p.m) cp], .slice aa (dl a) ca, .slice ab (dl b) cb] w fun e w' => NumN w e w' ((a + b) % G.q.m) :=
 refAdd_new a b G.size G.q.m G.p.m aa ab aq ap ca cb cq cp ha hb ok.q.pos w hA hB hG.q
theorem rMul (ok : G.Ok) {a b : Nat} {aa ab : Option Addr} {ca cb : Nat} (ha : a < DD ^ 16) (hb : b < DD ^ 16) (w : World) (hG : RG w G aq ap) (hA : NumAt w aa a) (hB : NumAt w ab b) :
  Calls Tryz.prog 126 #[.agg #[.int .i64 (G.size : Int), .slice aq (dl G.q.m) cq, .slice ap (dl G.p.m) cp], .slice aa (dl a) ca, .slice ab (dl b) cb] w fun e w' => NumR w e w' (a * b % G.q.m) :=
 refMul_any a b G.size G.q.m G.p.m aa ab aq ap ca cb cq cp ha hb ok.q.pos w hA hB hG.q
theorem rSub (ok : G.Ok) {a b : Nat} {aa ab : Option Addr} {ca cb : Nat} (ha : a < DD ^ 16) (hb : b ≤ G.q.m) (w : World) (hG : RG w G aq ap) (hA : NumAt w aa a) (hB : NumAt w ab b) :
  Calls Tryz.prog 77 #[.agg #[.int .i64 (G.size : Int), .slice aq (dl G.q.m) cq, .slice ap (dl G.p.m) cp], .slice aa (dl a) ca, .slice ab (dl b) cb] w fun e w' => NumR w e w' ((a + (G.q.m - b)) % G.q.m) :=
 by have h := refSub_any a b G.size G.q.m G.p.m aa ab aq ap ca cb cq cp ha hb ok.q.pos ok.q.lt4 w hA hB hG.q
    rwa [Nat.add_sub_assoc hb] at h
theorem rText (ok : G.Ok) {n : Nat} {an : Option Addr} {cn : Nat} (hn : n < DD ^ 16) (w : World) (hN : NumAt w an n) :
  Calls Tryz.prog 49 #[.slice an (dl n) cn, .int .i64 (G.size : Int)] w fun e w' => e = .returned (.string (textS n G.size)) ∧ Below w.heap.size w w' :=
 refText_any n G.size an cn (small_dl n hn) (by have := ok.size_le; omega) w hN
end
end Go.Proofs.YtdlnnkbigeiilaaGreat
namespace Go.Proofs.YtdlnnkbigeiilaaGreat
open Go.RowKit
structure ClaimA where
 ab : Option Addr
 cb : Nat
 bases : List ByteArray
 ai : Option Addr
 ci : Nat
 images : List ByteArray
def ClaimA.cells (c : ClaimA) : List Value := [.slice c.ab c.bases.length c.cb, .slice c.ai c.images.length c.ci]
theorem ClaimA.cells_len (c : ClaimA) : c.cells.length = 2 := rfl
structure ClaimA.At (w : World) (c : ClaimA) : Prop where
 b : Sl w w.heap.size c.ab (c.bases.map Value.string)
 i : Sl w w.heap.size c.ai (c.images.map Value.string)
theorem ClaimA.At.up {w w' : World} {c : ClaimA} (h : c.At w) (hb : Below w.heap.size w w') : c.At w' := ⟨h.b.up hb, h.i.up hb⟩
structure ClaimsAt (w : World) (a : Option Addr) (l : List ClaimA) : Prop where
 s : Sl w w.heap.size a (l.flatMap ClaimA.cells)
 e : ∀ c ∈ l, ClaimA.At w c
theorem ClaimsAt.up {w w' : World} {a : Option Addr} {l : List ClaimA} (h : ClaimsAt w a l) (hb : Below w.heap.size w w') : ClaimsAt w' a l := ⟨h.s.up hb, fun c hc => (h.e c hc).up hb⟩
theorem ClaimsAt.one {w : World} {a : Option Addr} {l : List ClaimA} (h : ClaimsAt w a l) (i : Nat) (hi : i < l.length) : ClaimA.At w l[i] := h.e _ (List.getElem_mem hi)
def cLong (c : ClaimA) : Bool := decide (8 < c.bases.length) || decide (8 < c.images.length)
def cForm (c : ClaimA) : Bool := decide (c.bases.length = 0) || decide (c.bases.length ≠ c.images.length)
def shapeE (l : List ClaimA) : Nat := if (decide (64 < l.length) || l.any cLong) = true then 3 else if (decide (l.length = 0) || l.any cForm) = true then 2 else 0
def cElems (G : GP) (c : ClaimA) : Bool := c.bases.all (isEl G.q.m G.size) && c.images.all (isEl G.q.m G.size)
def wrongE (G : GP) (l : List ClaimA) : Nat := if shapeE l ≠ 0 then shapeE l else if l.all (cElems G) = true then 0 else 7
def scE (G : GP) (n : Nat) (l : List ByteArray) : Nat := if l.length = n then if l.all (isSc G.q.m G.size) = true then 0 else 6 else 2
theorem shape_ok {l : List ClaimA} (h : shapeE l = 0) : 0 < l.length ∧ l.length ≤ 64 ∧ ∀ c ∈ l, 0 < c.bases.length ∧ c.bases.length ≤ 8 ∧ c.images.length = c.bases.length := by
 unfold shapeE at h
 split at h
 ·cases h
 ·rename_i h1
  split at h
  ·cases h
  ·rename_i h2
   simp only [Bool.or_eq_true, decide_eq_true_eq, List.any_eq_true, not_or, not_exists, not_and] at h1 h2
   refine ⟨by omega, by omega, fun c hc => ?_⟩
   have h3 := h1.2 c hc
   have h4 := h2.2 c hc
   unfold cLong at h3
   unfold cForm at h4
   simp only [Bool.or_eq_true, decide_eq_true_eq, not_or, ne_eq, Decidable.not_not] at h3 h4
   omega
theorem wrong_ok {G : GP} {l : List ClaimA} (h : wrongE G l = 0) : shapeE l = 0 ∧ l.all (cElems G) = true := by
 unfold wrongE at h
 split at h
 ·rename_i h1; exact absurd h h1
 ·rename_i h1
  split at h
  ·rename_i h2; exact ⟨by omega, h2⟩
  ·cases h
structure RowA where
 a : Option Addr
 c : Nat
 l : List ByteArray
def RowA.cells (r : RowA) : List Value := [.slice r.a r.l.length r.c]
def RowA.Ok (r : RowA) : Prop := (r.a = none → r.c = 0) ∧ r.l.length ≤ r.c
theorem RowA.cells_len (r : RowA) : r.cells.length = 1 := rfl
def RowA.At (w : World) (r : RowA) : Prop := Sl w w.heap.size r.a (r.l.map Value.string)
structure RowsAt (w : World) (a : Option Addr) (l : List RowA) : Prop where
 s : Sl w w.heap.size a (l.flatMap RowA.cells)
 e : ∀ r ∈ l, RowA.At w r
theorem RowA.At.up {w w' : World} {r : RowA} (h : r.At w) (hb : Below w.heap.size w w') : r.At w' := Sl.up h hb
theorem RowsAt.up {w w' : World} {a : Option Addr} {l : List RowA} (h : RowsAt w a l) (hb : Below w.heap.size w w') : RowsAt w' a l := ⟨h.s.up hb, fun c hc => (h.e c hc).up hb⟩
theorem RowsAt.one {w : World} {a : Option Addr} {l : List RowA} (h : RowsAt w a l) (i : Nat) (hi : i < l.length) : RowA.At w l[i] := h.e _ (List.getElem_mem hi)
end Go.Proofs.YtdlnnkbigeiilaaGreat
namespace Go.Proofs.YtdlnnkbigeiilaaGreat
structure Stp where
 a : Nat
 o : Nat
 m : Option Nat
 t : Nat
deriving DecidableEq
abbrev WL := List (BitVec 32)
def rotB (x : BitVec 32) (n : Nat) : BitVec 32 := BitVec.ofNat 32 (x.toNat / 2 ^ n + x.toNat % 2 ^ n * 2 ^ (32 - n))
def stepB (m v : WL) (s : Stp) : WL :=
 v.set s.a (if s.t = 0 then (v.getD s.a 0 + v.getD s.o 0) + (match s.m with | some k => m.getD k 0 | none => 0) else rotB (v.getD s.a 0 ^^^ v.getD s.o 0) s.t)
def ordL : List (List Nat) := [[0,1,2,3,4,5,6,7,8,9,10,11,12,13,14,15],[14,10,4,8,9,15,13,6,1,12,0,2,11,7,5,3],[11,8,12,0,5,2,15,13,10,14,3,6,7,1,9,4],[7,9,3,1,13,12,11,14,2,6,5,10,4,0,15,8],[9,0,5,7,2,4,10,15,14,1,11,12,6,8,3,13],
 [2,12,6,10,0,11,8,3,4,13,7,5,15,14,1,9],[12,5,1,15,14,13,4,10,0,7,6,3,9,2,8,11],[13,11,7,14,12,1,3,9,5,0,15,4,8,6,2,10],[6,15,14,9,11,3,0,8,12,2,13,7,1,4,10,5],[10,2,8,4,7,6,1,5,15,11,9,14,3,12,13,0]]
def ordN (r i : Nat) : Nat := (ordL.getD r []).getD i 0
def cA (i : Nat) : Nat := i % 4
def cB (i : Nat) : Nat := 4 + (i % 4 + i / 4) % 4
def cC (i : Nat) : Nat := 8 + (i % 4 + 2 * (i / 4)) % 4
def cD (i : Nat) : Nat := 12 + (i % 4 + 3 * (i / 4)) % 4
def quartL (i x y : Nat) : List Stp := [⟨cA i, cB i, some x, 0⟩, ⟨cD i, cA i, none, 16⟩, ⟨cC i, cD i, none, 0⟩, ⟨cB i, cC i, none, 12⟩, ⟨cA i, cB i, some y, 0⟩, ⟨cD i, cA i, none, 8⟩, ⟨cC i, cD i, none, 0⟩, ⟨cB i, cC i, none, 7⟩]
def quartB (m v : WL) (r i : Nat) : WL := (quartL i (ordN r (2 * i)) (ordN r (2 * i + 1))).foldl (stepB m) v
def rowL (r : Nat) : List Stp := (List.range 8).flatMap fun i => quartL i (ordN r (2 * i)) (ordN r (2 * i + 1))
def allL : List Stp := (List.range 10).flatMap rowL
def stirB (v m : WL) : WL := allL.foldl (stepB m) v
theorem stepB_len (m v : WL) (s : Stp) : (stepB m v s).length = v.length := by unfold stepB; rw [List.length_set]
theorem steps_len (m : WL) : ∀ (l : List Stp) (v : WL), (l.foldl (stepB m) v).length = v.length
 | [], _ => rfl
 | s :: l, v => by rw [List.foldl_cons, steps_len m l, stepB_len]
theorem stirB_len (v m : WL) : (stirB v m).length = v.length := steps_len _ _ _
def halfB (m : WL) (r i : Nat) (v : WL) : WL := ((List.range i).flatMap fun i => quartL i (ordN r (2 * i)) (ordN r (2 * i + 1))).foldl (stepB m) v
def roundsB (m : WL) (r : Nat) (v : WL) : WL := ((List.range r).flatMap rowL).foldl (stepB m) v
theorem halfB_succ (m : WL) (r i : Nat) (v : WL) : halfB m r (i + 1) v = quartB m (halfB m r i v) r i := by
 unfold halfB quartB
 rw [List.range_succ, List.flatMap_append, List.foldl_append]
 simp
theorem roundsB_succ (m : WL) (r : Nat) (v : WL) : roundsB m (r + 1) v = halfB m r 8 (roundsB m r v) := by
 unfold roundsB halfB
 rw [List.range_succ, List.flatMap_append, List.foldl_append]
 simp [rowL]
theorem roundsB_all (m : WL) (v : WL) : roundsB m 10 v = stirB v m := rfl
theorem halfB_len (m : WL) (r i : Nat) (v : WL) : (halfB m r i v).length = v.length := steps_len _ _ _
theorem roundsB_len (m : WL) (r : Nat) (v : WL) : (roundsB m r v).length = v.length := steps_len _ _ _
theorem quart_words (m v : WL) (r i : Nat) (hv : v.length = 16) (a b c d x y : BitVec 32)
  (ha : v.getD (cA i) 0 = a) (hb : v.getD (cB i) 0 = b) (hc : v.getD (cC i) 0 = c) (hd : v.getD (cD i) 0 = d) (hx : m.getD (ordN r (2 * i)) 0 = x) (hy : m.getD (ordN r (2 * i + 1)) 0 = y) :
  let a1 := a + b + x
  let d1 := rotB (d ^^^ a1) 16
  let c1 := c + d1
  let b1 := rotB (b ^^^ c1) 12
  let a2 := a1 + b1 + y
  let d2 := rotB (d1 ^^^ a2) 8
  let c2 := c1 + d2
  let b2 := rotB (b1 ^^^ c2) 7
  quartB m v r i = (((((((v.set (cA i) a1).set (cD i) d1).set (cC i) c1).set (cB i) b1).set (cA i) a2).set (cD i) d2).set (cC i) c2).set (cB i) b2 := by
 intro a1 d1 c1 b1 a2 d2 c2 b2
 have hA : cA i < 4 := by unfold cA; omega
 have hB : 4 ≤ cB i ∧ cB i < 8 := by unfold cB; omega
 have hC : 8 ≤ cC i ∧ cC i < 12 := by unfold cC; omega
 have hD : 12 ≤ cD i ∧ cD i < 16 := by unfold cD; omega
 unfold quartB quartL
 generalize cA i = A at *
 generalize cB i = B at *
 generalize cC i = C at *
 generalize cD i = D at *
 simp only [List.foldl_cons, List.foldl_nil]
 have gs : ∀ (l : WL) (k : Nat) (u : BitVec 32), k < l.length → (l.set k u).getD k 0 = u := fun l k u h => by simp [List.getD, h]
 have gn : ∀ (l : WL) (k j : Nat) (u : BitVec 32), k ≠ j → (l.set k u).getD j 0 = l.getD j 0 := fun l k j u h => by simp [List.getD, List.getElem?_set_ne h]
 have e1 : stepB m v ⟨A, B, some (ordN r (2 * i)), 0⟩ = v.set A a1 := by unfold stepB; simp only [if_pos, ha, hb, hx]; rfl
 rw [e1]
 have e2 : stepB m (v.set A a1) ⟨D, A, none, 16⟩ = (v.set A a1).set D d1 := by
  unfold stepB; rw [if_neg (by simp), gn _ A D _ (by omega), gs _ A _ (by omega), hd]
 rw [e2]
 have e3 : stepB m ((v.set A a1).set D d1) ⟨C, D, none, 0⟩ = ((v.set A a1).set D d1).set C c1 := by
  unfold stepB; rw [if_pos rfl, gn _ D C _ (by omega), gn _ A C _ (by omega), gs _ D _ (by simp; omega), hc]; simp [c1]
 rw [e3]
 have e4 : stepB m (((v.set A a1).set D d1).set C c1) ⟨B, C, none, 12⟩ = (((v.set A a1).set D d1).set C c1).set B b1 := by
  unfold stepB; rw [if_neg (by simp), gn _ C B _ (by omega), gn _ D B _ (by omega), gn _ A B _ (by omega), gs _ C _ (by simp; omega), hb]
 rw [e4]
 have e5 : stepB m ((((v.set A a1).set D d1).set C c1).set B b1) ⟨A, B, some (ordN r (2 * i + 1)), 0⟩ = ((((v.set A a1).set D d1).set C c1).set B b1).set A a2 := by
  unfold stepB; rw [if_pos rfl, gn _ B A _ (by omega), gn _ C A _ (by omega), gn _ D A _ (by omega), gs _ A _ (by omega), gs _ B _ (by simp; omega)]; rw [show (match (some (ordN r (2 * i + 1)) : Option Nat) with | some k => m.getD k 0 | none => 0) = y from hy]
 rw [e5]
 have e6 : stepB m (((((v.set A a1).set D d1).set C c1).set B b1).set A a2) ⟨D, A, none, 8⟩ = (((((v.set A a1).set D d1).set C c1).set B b1).set A a2).set D d2 := by
  unfold stepB; rw [if_neg (by simp), gn _ A D _ (by omega), gn _ B D _ (by omega), gn _ C D _ (by omega), gs _ D _ (by simp; omega), gs _ A _ (by simp; omega)]
 rw [e6]
 have e7 : stepB m ((((((v.set A a1).set D d1).set C c1).set B b1).set A a2).set D d2) ⟨C, D, none, 0⟩ = ((((((v.set A a1).set D d1).set C c1).set B b1).set A a2).set D d2).set C c2 := by
  unfold stepB; rw [if_pos rfl, gn _ D C _ (by omega), gn _ A C _ (by omega), gn _ B C _ (by omega), gs _ C _ (by simp; omega), gs _ D _ (by simp; omega)]; simp [c2]
 rw [e7]
 unfold stepB; rw [if_neg (by simp), gn _ C B _ (by omega), gn _ D B _ (by omega), gn _ A B _ (by omega), gs _ B _ (by simp; omega), gs _ C _ (by simp; omega)]
def rot1 (x : BitVec 32) : BitVec 32 := BitVec.ofNat 32 (x.toNat / 2 + x.toNat % 2 * 2147483648)
def rotI : Nat → BitVec 32 → BitVec 32
 | 0, x => x
 | n + 1, x => rot1 (rotI n x)
theorem rotI_nat (x : BitVec 32) : ∀ n, n ≤ 16 → (rotI n x).toNat = x.toNat / 2 ^ n + x.toNat % 2 ^ n * 2 ^ (32 - n) := by
 have hx := x.isLt
 have key : ∀ (y : BitVec 32) (z : Nat), y.toNat = z → (rot1 y).toNat = z / 2 + z % 2 * 2147483648 := fun y z h => by
  have := y.isLt
  unfold rot1
  rw [BitVec.toNat_ofNat, h, Nat.mod_eq_of_lt]
  omega
 have h0 : (rotI 0 x).toNat = x.toNat / 2 ^ 0 + x.toNat % 2 ^ 0 * 2 ^ (32 - 0) := by simp [rotI]; omega
 intro n hn
 have st : ∀ n, n < 16 → (rotI n x).toNat = x.toNat / 2 ^ n + x.toNat % 2 ^ n * 2 ^ (32 - n) → (rotI (n + 1) x).toNat = x.toNat / 2 ^ (n + 1) + x.toNat % 2 ^ (n + 1) * 2 ^ (32 - (n + 1)) := by
  intro n hn h
  have h1 := key _ _ h
  show (rot1 (rotI n x)).toNat = _
  rw [h1]
  have hc : n = 0 ∨ n = 1 ∨ n = 2 ∨ n = 3 ∨ n = 4 ∨ n = 5 ∨ n = 6 ∨ n = 7 ∨ n = 8 ∨ n = 9 ∨ n = 10 ∨ n = 11 ∨ n = 12 ∨ n = 13 ∨ n = 14 ∨ n = 15 := by omega
  clear h h1 key h0
  generalize x.toNat = X at *
  rcases hc with rfl | rfl | rfl | rfl | rfl | rfl | rfl | rfl | rfl | rfl | rfl | rfl | rfl | rfl | rfl | rfl <;> simp <;> omega
 induction n with
 | zero => exact h0
 | succ n ih => exact st n (by omega) (ih (by omega))
theorem rotI_eq (x : BitVec 32) (n : Nat) (h : n ≤ 16) : rotI n x = rotB x n := by
 apply BitVec.eq_of_toNat_eq
 have e := rotI_nat x n h
 unfold rotB
 rw [BitVec.toNat_ofNat, ← e, Nat.mod_eq_of_lt (rotI n x).isLt]
theorem rot_or (x : BitVec 32) (n : Nat) (h0 : n = 16 ∨ n = 12 ∨ n = 8 ∨ n = 7) : (x >>> n) ||| (x <<< (32 - n)) = rotB x n := by
 apply BitVec.eq_of_toNat_eq
 have hx := x.isLt
 unfold rotB
 rw [BitVec.toNat_or, BitVec.toNat_ushiftRight, BitVec.toNat_shiftLeft, BitVec.toNat_ofNat, Nat.or_comm]
 have e : x.toNat <<< (32 - n) % 2 ^ 32 = (x.toNat % 2 ^ n) <<< (32 - n) := by
  rw [Nat.shiftLeft_eq, Nat.shiftLeft_eq]
  generalize x.toNat = X at *
  rcases h0 with rfl | rfl | rfl | rfl <;> omega
 rw [e, ← Nat.shiftLeft_add_eq_or_of_lt (by rw [Nat.shiftRight_eq_div_pow]; generalize x.toNat = X at *; rcases h0 with rfl | rfl | rfl | rfl <;> omega), Nat.shiftRight_eq_div_pow, Nat.shiftLeft_eq]
 generalize x.toNat = X at *
 rcases h0 with rfl | rfl | rfl | rfl <;> omega
def startB : WL := [0x6a09e667, 0xbb67ae85, 0x3c6ef372, 0xa54ff53a, 0x510e527f, 0x9b05688c, 0x1f83d9ab, 0x5be0cd19]
def preB (h : WL) (n : Nat) (last : Bool) : WL :=
 let v := (h ++ startB).set 12 (startB.getD 4 0 ^^^ BitVec.ofNat 32 n)
 let v := v.set 13 (startB.getD 5 0 ^^^ BitVec.ofNat 32 (n / 4294967296))
 if last then v.set 14 (~~~ startB.getD 6 0) else v
def mixB (h w : WL) (k : Nat) : WL := (List.range 8).map fun i => if i < k then h.getD i 0 ^^^ w.getD i 0 ^^^ w.getD (i + 8) 0 else h.getD i 0
def pressB (h m : WL) (n : Nat) (last : Bool) : WL := mixB h (stirB (preB h n last) m) 8
theorem mixB_len (h w : WL) (k : Nat) : (mixB h w k).length = 8 := by unfold mixB; simp
theorem pressB_len (h m : WL) (n : Nat) (last : Bool) : (pressB h m n last).length = 8 := mixB_len _ _ _
theorem mixB_at (h w : WL) (k i : Nat) (hi : i < (mixB h w k).length) : (mixB h w k)[i] = if i < k then h.getD i 0 ^^^ w.getD i 0 ^^^ w.getD (i + 8) 0 else h.getD i 0 := by simp only [mixB, List.getElem_map, List.getElem_range]
theorem mixB_zero (h w : WL) (hh : h.length = 8) : mixB h w 0 = h := by
 apply List.ext_getElem (by rw [mixB_len, hh])
 intro i h1 h2
 rw [mixB_at, if_neg (by omega)]
 simp [List.getD, List.getElem?_eq_getElem h2]
theorem mixB_succ (h w : WL) (k : Nat) : mixB h w (k + 1) = (mixB h w k).set k (h.getD k 0 ^^^ w.getD k 0 ^^^ w.getD (k + 8) 0) := by
 apply List.ext_getElem (by rw [List.length_set, mixB_len, mixB_len])
 intro i h1 h2
 rw [List.getElem_set, mixB_at, mixB_at]
 by_cases e : k = i
 ·subst e; rw [if_pos (by omega), if_pos rfl]
 ·rw [if_neg e]
  by_cases e2 : i < k
  ·rw [if_pos e2, if_pos (by omega)]
  ·rw [if_neg e2, if_neg (by omega)]
def byteW (l : List UInt8) (k j : Nat) : Nat := if j < k then (l.getD j 0).toNat else 0
def wordB (l : List UInt8) (k j : Nat) : BitVec 32 := BitVec.ofNat 32 (byteW l k (4 * j) + byteW l k (4 * j + 1) * 256 + byteW l k (4 * j + 2) * 65536 + byteW l k (4 * j + 3) * 16777216)
def wordsB (l : List UInt8) (k : Nat) : WL := (List.range 16).map (wordB l k)
theorem wordsB_len (l : List UInt8) (k : Nat) : (wordsB l k).length = 16 := by unfold wordsB; simp
theorem byteW_lt (l : List UInt8) (k j : Nat) : byteW l k j < 256 := by
 unfold byteW
 split
 ·exact (l.getD j 0).toNat_lt
 ·omega
theorem wordsB_zero (l : List UInt8) : wordsB l 0 = List.replicate 16 0 := by
 unfold wordsB
 rw [List.map_congr_left (g := fun _ => (0 : BitVec 32)) (fun j _ => by unfold wordB byteW; simp)]
 rfl
theorem wordsB_at (l : List UInt8) (k j : Nat) (hj : j < (wordsB l k).length) : (wordsB l k)[j] = wordB l k j := by simp only [wordsB, List.getElem_map, List.getElem_range]
theorem wordsB_get (l : List UInt8) (k j : Nat) (h : j < 16) : (wordsB l k).getD j 0 = wordB l k j := by
 unfold wordsB
 simp [List.getD, h]
theorem wordsB_succ (l : List UInt8) (k : Nat) (hk : k < 64) : wordsB l (k + 1) = (wordsB l k).set (k / 4) ((wordsB l k).getD (k / 4) 0 + BitVec.ofNat 32 ((l.getD k 0).toNat * 256 ^ (k % 4))) := by
 apply List.ext_getElem (by rw [List.length_set, wordsB_len, wordsB_len])
 intro j h1 h2
 have hj : j < 16 := by rwa [wordsB_len] at h1
 rw [List.getElem_set]
 simp only [wordsB_get l k (k / 4) (show k / 4 < 16 by omega)]
 rw [wordsB_at, wordsB_at]
 by_cases e : k / 4 = j
 ·rw [if_pos e, e]
  unfold wordB
  rw [← BitVec.ofNat_add]
  congr 1
  have hr : k % 4 = 0 ∨ k % 4 = 1 ∨ k % 4 = 2 ∨ k % 4 = 3 := by omega
  unfold byteW
  rcases hr with hr | hr | hr | hr
  ·obtain rfl : k = 4 * j := by omega
   rw [hr]
   simp only [Nat.reducePow]
   (repeat' split) <;> omega
  ·obtain rfl : k = 4 * j + 1 := by omega
   rw [hr]
   simp only [Nat.reducePow]
   (repeat' split) <;> omega
  ·obtain rfl : k = 4 * j + 2 := by omega
   rw [hr]
   simp only [Nat.reducePow]
   (repeat' split) <;> omega
  ·obtain rfl : k = 4 * j + 3 := by omega
   rw [hr]
   simp only [Nat.reducePow]
   (repeat' split) <;> omega
 ·rw [if_neg e]
  unfold wordB
  congr 1
  have key : ∀ i, i ≠ k → byteW l (k + 1) i = byteW l k i := fun i hi => by
   unfold byteW
   by_cases h : i < k
   ·rw [if_pos h, if_pos (by omega)]
   ·rw [if_neg h, if_neg (by omega)]
  rw [key _ (by omega), key _ (by omega), key _ (by omega), key _ (by omega)]
theorem wordsB_congr (l l' : List UInt8) (k k' : Nat) (h : ∀ j, j < 64 → byteW l k j = byteW l' k' j) : wordsB l k = wordsB l' k' := by
 unfold wordsB
 apply List.map_congr_left
 intro j hj
 have hj := List.mem_range.1 hj
 unfold wordB
 rw [h _ (by omega), h _ (by omega), h _ (by omega), h _ (by omega)]
def h0B : WL := startB.set 0 0x6b08e647
def pieceB (s : List UInt8) (k : Nat) : List UInt8 := (s.drop (64 * k)).take 64
def allB (s : List UInt8) : Nat → WL
 | 0 => h0B
 | k + 1 => pressB (allB s k) (wordsB (pieceB s k) 64) (64 * (k + 1)) false
def lastB (s : List UInt8) : Nat := (s.length - 1) / 64
def digW (s : List UInt8) : WL := pressB (allB s (lastB s)) (wordsB (pieceB s (lastB s)) 64) s.length true
theorem allB_len (s : List UInt8) : ∀ k, (allB s k).length = 8
 | 0 => rfl
 | _ + 1 => pressB_len _ _ _ _
theorem digW_len (s : List UInt8) : (digW s).length = 8 := pressB_len _ _ _ _
theorem pieceB_append (s t : List UInt8) (k : Nat) (h : 64 * (k + 1) ≤ s.length) : pieceB (s ++ t) k = pieceB s k := by
 unfold pieceB
 rw [List.drop_append_of_le_length (by omega), List.take_append_of_le_length (by rw [List.length_drop]; omega)]
theorem allB_append (s t : List UInt8) : ∀ k, 64 * k ≤ s.length → allB (s ++ t) k = allB s k
 | 0, _ => rfl
 | k + 1, h => by unfold allB; rw [allB_append s t k (by omega), pieceB_append s t k h]
def outB (w : WL) : List UInt8 := w.flatMap fun x => [UInt8.ofNat (x.toNat % 256), UInt8.ofNat (x.toNat / 256 % 256), UInt8.ofNat (x.toNat / 65536 % 256), UInt8.ofNat (x.toNat / 16777216 % 256)]
theorem outB_len (w : WL) : (outB w).length = 4 * w.length := by
 unfold outB
 induction w with
 | nil => rfl
 | cons x w ih => rw [List.flatMap_cons, List.length_append, ih, List.length_cons]; simp; omega
def digB (s : List UInt8) : List UInt8 := outB (digW s)
theorem digB_len (s : List UInt8) : (digB s).length = 32 := by unfold digB; rw [outB_len, digW_len]
def fourL (n : Nat) : List UInt8 := [UInt8.ofNat (n / 16777216 % 256), UInt8.ofNat (n / 65536 % 256), UInt8.ofNat (n / 256 % 256), UInt8.ofNat (n % 256)]
def bytesOf (s : ByteArray) : List UInt8 := s.data.toList
def pfxL (s : ByteArray) : List UInt8 := fourL s.size ++ bytesOf s
def joinL (label : ByteArray) (ps : List ByteArray) : List UInt8 := pfxL label ++ ps.flatMap pfxL
def digS (s : List UInt8) : ByteArray := ⟨(digB s).toArray⟩
def tagS (label : ByteArray) (ps : List ByteArray) : ByteArray := digS (joinL label ps)
def fourS (n : Nat) : ByteArray := ⟨(fourL n).toArray⟩
theorem digS_size (s : List UInt8) : (digS s).size = 32 := by
 show (digB s).toArray.size = 32
 rw [List.size_toArray, digB_len]
theorem tagS_size (l : ByteArray) (ps : List ByteArray) : (tagS l ps).size = 32 := digS_size _
theorem fourS_size (n : Nat) : (fourS n).size = 4 := rfl
structure Fold (s : List UInt8) (h : WL) (n : Nat) (hb : List UInt8) (k : Nat) : Prop where
 le : k ≤ 64
 sum : n + k = s.length
 mod : n % 64 = 0
 hs : h = allB s (n / 64)
 held : hb.take k = s.drop n
 len : hb.length = 64
theorem Fold.nil (hb : List UInt8) (h : hb.length = 64) : Fold [] h0B 0 hb 0 := ⟨by omega, rfl, rfl, rfl, rfl, h⟩
theorem Fold.press {s : List UInt8} {h : WL} {n : Nat} {hb : List UInt8} (f : Fold s h n hb 64) : Fold s (pressB h (wordsB hb 64) (n + 64) false) (n + 64) hb 0 := by
 obtain ⟨_, h1, h2, h3, h4, h5⟩ := f
 refine ⟨by omega, by omega, by omega, ?_, by rw [List.take_zero, List.drop_eq_nil_of_le (by omega)], h5⟩
 obtain ⟨q, rfl⟩ : ∃ q, n = 64 * q := ⟨n / 64, by omega⟩
 have e : (64 * q + 64) / 64 = q + 1 := by omega
 have e2 : 64 * q / 64 = q := by omega
 rw [e]
 rw [e2] at h3
 rw [h3]
 show _ = pressB (allB s q) (wordsB (pieceB s q) 64) (64 * (q + 1)) false
 have e3 : pieceB s q = hb := by
  unfold pieceB
  rw [← h4, List.take_take, Nat.min_self, List.take_of_length_le (by omega)]
 rw [e3, show 64 * (q + 1) = 64 * q + 64 by omega]
theorem Fold.lay {s : List UInt8} {h : WL} {n : Nat} {hb : List UInt8} {k : Nat} (f : Fold s h n hb k) (t : List UInt8) (ht : k + t.length ≤ 64) : Fold (s ++ t) h n (hb.take k ++ t ++ hb.drop (k + t.length)) (k + t.length) := by
 obtain ⟨h0, h1, h2, h3, h4, h5⟩ := f
 have hk : (hb.take k).length = k := by rw [List.length_take]; omega
 refine ⟨ht, by rw [List.length_append]; omega, h2, ?_, ?_, ?_⟩
 ·rw [allB_append _ _ _ (by omega)]; exact h3
 ·rw [List.take_append_of_le_length (by rw [List.length_append, hk]; exact Nat.le_refl _), List.take_of_length_le (by rw [List.length_append, hk]; exact Nat.le_refl _), List.drop_append_of_le_length (by omega), h4]
 ·simp; omega
theorem Fold.fin {s : List UInt8} {h : WL} {n : Nat} {hb : List UInt8} {k : Nat} (f : Fold s h n hb k) (h0 : s = [] ∨ 0 < k) : pressB h (wordsB (hb.take k ++ List.replicate (64 - k) 0) 64) (n + k) true = digW s := by
 obtain ⟨hk, h1, h2, h3, h4, h5⟩ := f
 unfold digW
 have e1 : n / 64 = lastB s := by
  unfold lastB
  rcases h0 with rfl | h0
  ·have : n = 0 := by simp at h1; omega
   subst this; rfl
  ·omega
 have e2 : n = 64 * lastB s := by omega
 rw [h3, e1, h1]
 congr 1
 apply wordsB_congr
 intro j hj
 unfold byteW
 rw [if_pos hj, if_pos hj, h4]
 congr 1
 unfold pieceB
 rw [← e2]
 have e3 : (s.drop n).length = k := by rw [List.length_drop]; omega
 rw [List.take_of_length_le (by omega)]
 unfold List.getD
 by_cases h : j < k
 ·rw [List.getElem?_append_left (by omega)]
 ·rw [List.getElem?_append_right (by omega), List.getElem?_eq_none (l := s.drop n) (by omega), List.getElem?_replicate]
  split <;> rfl
end Go.Proofs.YtdlnnkbigeiilaaGreat
namespace Go.Proofs.YtdlnnkbigeiilaaGreat
open Go.RowKit
theorem wrap32_nat (n : Nat) : IntKind.u32.wrap (n : Int) = ((n % 4294967296 : Nat) : Int) := by
 simp [IntKind.wrap, IntKind.signed, IntKind.bits]
theorem bv_of (x : BitVec 32) : BitVec.ofInt 32 (x.toNat : Int) = x := by apply BitVec.eq_of_toNat_eq; simp
theorem wrap_bv (x : BitVec 32) : IntKind.u32.wrap (x.toNat : Int) = (x.toNat : Int) := by
 have := x.isLt
 rw [wrap32_nat, Nat.mod_eq_of_lt (by omega)]
theorem bits_xor (a b : BitVec 32) : bits BinOp.xor IntKind.u32 (a.toNat : Int) (b.toNat : Int) = ((a ^^^ b).toNat : Int) := by
 show IntKind.u32.wrap ((BitVec.ofInt 32 (a.toNat : Int) ^^^ BitVec.ofInt 32 (b.toNat : Int) : BitVec 32).toNat : Int) = _
 rw [bv_of, bv_of, wrap_bv]
theorem bits_not (a : BitVec 32) : bits BinOp.xor IntKind.u32 4294967295 (a.toNat : Int) = ((~~~ a).toNat : Int) := by
 have e : (4294967295 : Int) = ((4294967295#32).toNat : Int) := rfl
 rw [e, bits_xor, BitVec.not_def, show (4294967295#32) = BitVec.allOnes 32 from rfl]
theorem bits_or (a b : Nat) (ha : a < 4294967296) (hb : b < 4294967296) : bits BinOp.or IntKind.u32 (a : Int) (b : Int) = ((a ||| b : Nat) : Int) := by
 show IntKind.u32.wrap ((BitVec.ofInt 32 (a : Int) ||| BitVec.ofInt 32 (b : Int) : BitVec 32).toNat : Int) = _
 have e : ∀ n : Nat, BitVec.ofInt 32 (n : Int) = BitVec.ofNat 32 n := fun n => by apply BitVec.eq_of_toNat_eq; simp
 rw [e, e, wrap_bv, BitVec.toNat_or, BitVec.toNat_ofNat, BitVec.toNat_ofNat, Nat.mod_eq_of_lt (show a < 2 ^ 32 from ha), Nat.mod_eq_of_lt (show b < 2 ^ 32 from hb)]
theorem add32 (a b : BitVec 32) : ((a.toNat : Int) + (b.toNat : Int)) % 4294967296 = ((a + b).toNat : Int) := by
 rw [BitVec.toNat_add]; omega
def wlV (l : WL) : List Value := l.map fun x => .int .u32 (x.toNat : Int)
theorem wlV_len (l : WL) : (wlV l).length = l.length := List.length_map _
theorem wlV_get (l : WL) (i : Nat) (h : i < l.length) : (wlV l)[i]? = some (.int .u32 ((l.getD i 0).toNat : Int)) := by
 unfold wlV
 simp [List.getD, h]
theorem wlV_set (l : WL) (i : Nat) (x : BitVec 32) : (wlV l).set i (.int .u32 (x.toNat : Int)) = wlV (l.set i x) := by
 unfold wlV
 rw [List.map_set]
end Go.Proofs.YtdlnnkbigeiilaaGreat
namespace Go.Proofs.YtdlnnkbigeiilaaGreat
open Go.RowKit
theorem step_pushR {P : Program} (N : Nat) (w0 : World) (hN : N ≤ w0.heap.size) {ops : Array Oper} {o : Oper} {a : Act} {K : Act → World → Prop} {Q : Exit → Act → World → Prop} {E : Prop} (hgd : o.guard = none) (s x : Operand) (t : TypeId)
  (ho : o.op = .call { callee := .builtin .append, args := #[s, x], argTypes := #[t, t] })
  (e : TypeId) (i : TypeInfo) (z : Value) (size bytes : Nat) (ht : P.underlying t = some (.slice e)) (hi : P.info? e = some i) (hz : i.zero = some z)
  (hsize : i.size = size) (hby : i.bytes = bytes) (hzs : z.cells.size = size) (hsz : 0 < size)
  (v : Value) (n : Nat) (xs : List Value) (hs : a.eval s = v) (hown : RowO N w0 e size v n xs)
  (news : Array Value) (e2 : TypeId) (b : Nat) (hb : w0.heap.size = b) (hx : a.eval x = .slice (some ⟨b, 0, none⟩) 1 1) (hl : news.size = size) (h1 : ∀ u ∈ news.toList, u.oneCell' = true)
  (h63 : (n + 1) * bytes ≤ 140737488355328) (hn : n + 1 ≤ maxLen)
  (h : ∀ g cap w', RowO N w' e size (.slice (some ⟨g, 0, none⟩) (n + 1) cap) (n + 1) (xs ++ news.toList) → w0.grownBy w' v.ownBlock → K (a.put o.dst (.slice (some ⟨g, 0, none⟩) (n + 1) cap)) w') :
  if Region.wanted o (yielded ops a.tmps) = true then Oper.wp P o a (w0.alloc (.cells news e2)) K Q else E := by
 subst hb
 refine step_append_lies _ hgd s x t ho N e i z size bytes ht hi hz hsize hby hzs hsz v n xs hs (World.ownsRow.alloc hown _) ⟨w0.heap.size, 0, none⟩ 1 1 news.toList hx (by simpa using hl)
  (World.news_of_block (heap_alloc_new w0 _)) h1 (by omega) hn h63 (by simp; omega) _ rfl ?_
 intro g cap w' hown' hg _ _
 refine h g cap w' hown' ⟨hg.os, hg.tape, hg.output, ?_, ?_⟩
 ·have := hg.size; simp at this; omega
 ·intro k hk hne
  rw [hg.block k (by simp; omega) hne]
  exact Below.heap_alloc _ _ _ hk
end Go.Proofs.YtdlnnkbigeiilaaGreat
namespace Go.Proofs.YtdlnnkbigeiilaaGreat
open Go.RowKit
structure Kept (P : Nat → Prop) (w0 w : World) : Prop where
 os : w.os = w0.os
 tape : w.tape = w0.tape
 output : w.output = w0.output
 size : w0.heap.size ≤ w.heap.size
 block : ∀ q, q < w0.heap.size → ¬ P q → w.heap[q]? = w0.heap[q]?
section
variable {P : Nat → Prop} {b c n gb : Nat} {w0 w w1 : World} {r : Option Nat} {t : TypeId} {cs : List Value} {G : GP}
theorem Kept.refl (P : Nat → Prop) (w : World) : Kept P w w := ⟨rfl, rfl, rfl, Nat.le_refl _, fun _ _ _ => rfl⟩
theorem Kept.grown (h : Kept P w0 w) (hg : w.grownBy w1 r) (hr : ∀ q, r = some q → w0.heap.size ≤ q ∨ P q) : Kept P w0 w1 :=
 ⟨hg.os.trans h.os, hg.tape.trans h.tape, hg.output.trans h.output, Nat.le_trans h.size hg.size, fun q hq hne => (hg.block q (Nat.lt_of_lt_of_le hq h.size) (fun e => by
  rcases hr q e.symm with h1 | h1
  ·omega
  ·exact hne h1)).trans (h.block q hq hne)⟩
theorem Kept.up (h : Kept P w0 w) (hb : Below w.heap.size w w1) : Kept P w0 w1 := h.grown (below_grown hb) (fun q e => by cases e)
theorem Kept.set (h : Kept P w0 w) (hp : P b) (i : Nat) (v : Value) : Kept P w0 (w.setCell ⟨b, i, none⟩ v) := h.grown (grown_set w b i v) (fun _ e => Or.inr ((Option.some.inj e) ▸ hp))
theorem Kept.trans {w2 : World} (h : Kept P w0 w) (h1 : Kept P w w2) : Kept P w0 w2 :=
 ⟨h1.os.trans h.os, h1.tape.trans h.tape, h1.output.trans h.output, Nat.le_trans h.size h1.size, fun q hq hne => (h1.block q (Nat.lt_of_lt_of_le hq h.size) hne).trans (h.block q hq hne)⟩
theorem Sl.kept {a : Option Addr} (h : Sl w0 w0.heap.size a cs) (hk : Kept P w0 w) (hne : ∀ x, a = some x → ¬ P x.block) : Sl w w.heap.size a cs := by
 rcases h with h | ⟨q, off, rfl, hq, hc⟩
 ·exact Or.inl h
 ·refine Or.inr ⟨q, off, rfl, Nat.lt_of_lt_of_le hq hk.size, fun i v hv => ?_⟩
  rw [cell_of_block (hk.block q hq (hne _ rfl))]
  exact hc i v hv
theorem Bx.keptP (h : Bx w0 b t cs) (hk : Kept P w0 w) (hne : ¬ P b) : Bx w b t cs := (hk.block b h.lt hne).trans h
theorem GroupAt.keptP (h : GroupAt w0 gb G) (hk : Kept P w0 w) (hne : ¬ P gb) : GroupAt w gb G := by
 have hc := cell_of_block (hk.block gb h.lt hne)
 have hl := hk.size
 exact ⟨Nat.lt_of_lt_of_le h.lt hl, by rw [hc]; exact h.kind, by rw [hc]; exact h.size, ⟨Nat.lt_of_lt_of_le h.p.lt hl, fun i x hx => by rw [hc]; exact h.p.cell i x hx⟩, ⟨Nat.lt_of_lt_of_le h.q.lt hl, fun i x hx => by rw [hc]; exact h.q.cell i x hx⟩⟩
theorem Below.keptP {W : World} (h : Below n W w0) (hk : Kept P w0 w) (hn : n ≤ w0.heap.size) (hp : ∀ q, P q → n ≤ q) : Below n W w := by
 refine ⟨hk.os.trans h.os, hk.tape.trans h.tape, hk.output.trans h.output, Nat.le_trans h.size hk.size, fun q hq => ?_⟩
 rw [hk.block q (by omega) (fun e => by have := hp q e; omega)]
 exact h.block q hq
theorem Sl.lt {a : Option Addr} {B : Nat} (h : Sl w B a cs) (h0 : cs ≠ []) (x : Addr) (hx : a = some x) : x.block < B := by
 rcases h with h | ⟨q, off, rfl, hq, _⟩
 ·exact absurd h h0
 ·cases hx; exact hq
end
theorem wpList_pushF {P : Program} (N : Nat) (w0 : World) (hN : N ≤ w0.heap.size) {ops : Array Oper} {rest : List Oper} {o : Oper} {a : Act} {Q : Exit → Act → World → Prop} (hgd : o.guard = none) (s x : Operand) (t : TypeId)
  (ho : o.op = .call { callee := .builtin .append, args := #[s, x], argTypes := #[t, t] })
  (e : TypeId) (i : TypeInfo) (z : Value) (size bytes : Nat) (ht : P.underlying t = some (.slice e)) (hi : P.info? e = some i) (hz : i.zero = some z)
  (hsize : i.size = size) (hby : i.bytes = bytes) (hzs : z.cells.size = size) (hsz : 0 < size)
  (v : Value) (n : Nat) (xs : List Value) (hs : a.eval s = v) (hown : RowO N w0 e size v n xs)
  (news : Array Value) (e2 : TypeId) (b : Nat) (hb : w0.heap.size = b) (hx : a.eval x = .slice (some ⟨b, 0, none⟩) 1 1) (hl : news.size = size) (h1 : ∀ u ∈ news.toList, u.oneCell' = true)
  (h63 : (n + 1) * bytes ≤ 140737488355328) (hn : n + 1 ≤ maxLen)
  (h : ∀ g cap w', RowO N w' e size (.slice (some ⟨g, 0, none⟩) (n + 1) cap) (n + 1) (xs ++ news.toList) → w0.grownBy w' v.ownBlock → (v.ownBlock = some g ∨ w0.heap.size ≤ g) → wpList P ops Q rest (a.put o.dst (.slice (some ⟨g, 0, none⟩) (n + 1) cap)) w') :
  wpList P ops Q (o :: rest) a (w0.alloc (.cells news e2)) := by
 subst hb
 refine wpList_append_lies _ hgd s x t ho N e i z size bytes ht hi hz hsize hby hzs hsz v n xs hs (World.ownsRow.alloc hown _) ⟨w0.heap.size, 0, none⟩ 1 1 news.toList hx (by simpa using hl)
  (World.news_of_block (heap_alloc_new w0 _)) h1 (by omega) hn h63 (by simp; omega) _ rfl ?_
 intro g cap w' hown' hg hf _
 refine h g cap w' hown' ⟨hg.os, hg.tape, hg.output, ?_, ?_⟩ ?_
 ·have := hg.size; simp at this; omega
 ·intro k hk hne
  rw [hg.block k (by simp; omega) hne]
  exact Below.heap_alloc _ _ _ hk
 ·rcases hf with h9 | h9
  ·exact Or.inl h9
  ·right; rw [h9]; simp
theorem step_pushF {P : Program} (N : Nat) (w0 : World) (hN : N ≤ w0.heap.size) {ops : Array Oper} {o : Oper} {a : Act} {K : Act → World → Prop} {Q : Exit → Act → World → Prop} {E : Prop} (hgd : o.guard = none) (s x : Operand) (t : TypeId)
  (ho : o.op = .call { callee := .builtin .append, args := #[s, x], argTypes := #[t, t] })
  (e : TypeId) (i : TypeInfo) (z : Value) (size bytes : Nat) (ht : P.underlying t = some (.slice e)) (hi : P.info? e = some i) (hz : i.zero = some z)
  (hsize : i.size = size) (hby : i.bytes = bytes) (hzs : z.cells.size = size) (hsz : 0 < size)
  (v : Value) (n : Nat) (xs : List Value) (hs : a.eval s = v) (hown : RowO N w0 e size v n xs)
  (news : Array Value) (e2 : TypeId) (b : Nat) (hb : w0.heap.size = b) (hx : a.eval x = .slice (some ⟨b, 0, none⟩) 1 1) (hl : news.size = size) (h1 : ∀ u ∈ news.toList, u.oneCell' = true)
  (h63 : (n + 1) * bytes ≤ 140737488355328) (hn : n + 1 ≤ maxLen)
  (h : ∀ g cap w', RowO N w' e size (.slice (some ⟨g, 0, none⟩) (n + 1) cap) (n + 1) (xs ++ news.toList) → w0.grownBy w' v.ownBlock → (v.ownBlock = some g ∨ w0.heap.size ≤ g) → K (a.put o.dst (.slice (some ⟨g, 0, none⟩) (n + 1) cap)) w') :
  if Region.wanted o (yielded ops a.tmps) = true then Oper.wp P o a (w0.alloc (.cells news e2)) K Q else E := by
 subst hb
 refine step_append_lies _ hgd s x t ho N e i z size bytes ht hi hz hsize hby hzs hsz v n xs hs (World.ownsRow.alloc hown _) ⟨w0.heap.size, 0, none⟩ 1 1 news.toList hx (by simpa using hl)
  (World.news_of_block (heap_alloc_new w0 _)) h1 (by omega) hn h63 (by simp; omega) _ rfl ?_
 intro g cap w' hown' hg hf _
 refine h g cap w' hown' ⟨hg.os, hg.tape, hg.output, ?_, ?_⟩ ?_
 ·have := hg.size; simp at this; omega
 ·intro k hk hne
  rw [hg.block k (by simp; omega) hne]
  exact Below.heap_alloc _ _ _ hk
 ·rcases hf with h9 | h9
  ·exact Or.inl h9
  ·right; rw [h9]; simp
end Go.Proofs.YtdlnnkbigeiilaaGreat
namespace Go.Proofs.YtdlnnkbigeiilaaGreat
open Go.RowKit
theorem turn_nat (x : BitVec 32) (n : Nat) (h0 : n = 16 ∨ n = 12 ∨ n = 8 ∨ n = 7) : x.toNat / 2 ^ n ||| x.toNat * 2 ^ (32 - n) % 4294967296 = (rotB x n).toNat := by
 rw [← rot_or x n h0, BitVec.toNat_or, BitVec.toNat_ushiftRight, BitVec.toNat_shiftLeft, Nat.shiftRight_eq_div_pow, Nat.shiftLeft_eq]
theorem turn_any (x : BitVec 32) (n : Nat) (h0 : n = 16 ∨ n = 12 ∨ n = 8 ∨ n = 7) (w : World) : Calls Tryz.prog 189 #[.int .u32 (x.toNat : Int), .int .i64 (n : Int)] w fun e w' => e = .returned (.int .u32 ((rotB x n).toNat : Int)) ∧ Below w.heap.size w w' := by
 have hx := x.isLt
 have ht := turn_nat x n h0
 have HB := Lib.hid (bits_or (x.toNat / 2 ^ n) (x.toNat * 2 ^ (32 - n) % 4294967296) (Nat.lt_of_le_of_lt (Nat.div_le_self _ _) hx) (Nat.mod_lt _ (by decide)))
 rw [ht] at HB
 have HBo := HB.out
 clear ht HB
 rcases h0 with rfl | rfl | rfl | rfl <;> simp at HBo
 all_goals
  go_enter Tryz.func189, Tryz.ntmps189
  go_wp2_with fail
  refine wp_region_over (by kernel_rfl) (by kernel_rfl) ?_
  repeat (go_big_quiet_step (first | fail))
  all_goals (try unfold elV limbV)
  repeat (go_big_quiet_step (first | fail))
  all_goals (try unfold elV limbV)
  repeat (go_big_quiet_step (first | fail))
  all_goals (try unfold ciphV)
  refine wpQuiet_nil ?_
  rintro _ ⟨E, rfl⟩
  have HB := Lib.hid E.h
  have HZS := Lib.hid E.h.size
  obtain ⟨w1, hq9⟩ : ∃ W9 : World, E.w = W9 := ⟨_, rfl⟩
  rw [hq9] at HB HZS ⊢
  clear hq9 E
  go_wp2_with fail
  go_ret
  exact ⟨rfl, HB.out⟩
def ordB : ByteArray := ⟨#[48, 49, 50, 51, 52, 53, 54, 55, 56, 57, 97, 98, 99, 100, 101, 102, 101, 97, 52, 56, 57, 102, 100, 54, 49, 99, 48, 50, 98, 55, 53, 51, 98, 56, 99, 48, 53, 50, 102, 100, 97, 101, 51, 54, 55, 49, 57, 52, 55, 57, 51, 49, 100, 99, 98, 101, 50, 54, 53, 97, 52, 48, 102, 56, 57, 48, 53, 55, 50, 52, 97, 102, 101, 49, 98, 99, 54, 56, 51, 100, 50, 99, 54, 97, 48, 98, 56, 51, 52, 100, 55, 53, 102, 101, 49, 57, 99, 53, 49, 102, 101, 100, 52, 97, 48, 55, 54, 51, 57, 50, 56, 98, 100, 98, 55, 101, 99, 49, 51, 57, 53, 48, 102, 52, 56, 54, 50, 97, 54, 102, 101, 57, 98, 51, 48, 56, 99, 50, 100, 55, 49, 52, 97, 53, 97, 50, 56, 52, 55, 54, 49, 53, 102, 98, 57, 101, 51, 99, 100, 48]⟩
theorem ord_tab : ∀ k : Fin 160, (ordB.data.getD k.1 0).toNat = if ordN (k.1 / 16) (k.1 % 16) < 10 then 48 + ordN (k.1 / 16) (k.1 % 16) else 87 + ordN (k.1 / 16) (k.1 % 16) := by decide +kernel
theorem ord_lt : ∀ k : Fin 160, ordN (k.1 / 16) (k.1 % 16) < 16 := by decide +kernel
theorem ordN_lt {r i : Nat} (hr : r < 10) (hi : i < 16) : ordN r i < 16 := by
 have h := ord_lt ⟨16 * r + i, by omega⟩
 simp only at h
 rwa [show (16 * r + i) / 16 = r by omega, show (16 * r + i) % 16 = i by omega] at h
theorem place_at {r i : Nat} (hr : r < 10) (hi : i < 16) (h : 16 * r + i < ordB.size) : (ordB[16 * r + i].toNat : Int) = if ordN r i < 10 then 48 + (ordN r i : Int) else 87 + (ordN r i : Int) := by
 have h1 := ord_tab ⟨16 * r + i, by omega⟩
 simp only at h1
 rw [show (16 * r + i) / 16 = r by omega, show (16 * r + i) % 16 = i by omega] at h1
 have e : ordB[16 * r + i] = ordB.data.getD (16 * r + i) 0 := by
  show ordB.data[16 * r + i]'h = _
  unfold Array.getD
  exact (dif_pos h).symm
 rw [e, h1]
 split <;> simp
theorem place_lo {r i : Nat} (hr : r < 10) (hi : i < 16) (h : 16 * r + i < ordB.size) (hc : (ordB[16 * r + i].toNat : Int) < 97) : ((ordB[16 * r + i].toNat : Int) - 48) % 256 = (ordN r i : Int) := by
 rw [place_at hr hi h] at *
 have := ordN_lt hr hi
 split at * <;> omega
theorem place_hi {r i : Nat} (hr : r < 10) (hi : i < 16) (h : 16 * r + i < ordB.size) (hc : 97 ≤ (ordB[16 * r + i].toNat : Int)) : ((ordB[16 * r + i].toNat : Int) - 97) % 256 + 10 = (ordN r i : Int) := by
 rw [place_at hr hi h] at *
 have := ordN_lt hr hi
 split at * <;> omega
theorem place_any (r i : Nat) (hr : r < 10) (hi : i < 16) (w : World) : Calls Tryz.prog 185 #[.int .i64 (r : Int), .int .i64 (i : Int)] w fun e w' => e = .returned (.int .i64 (ordN r i : Int)) ∧ Below w.heap.size w w' := by
 go_enter Tryz.func185, Tryz.ntmps185
 go_wp2_with fail
 ·go_ret
  exact ⟨ret_int (place_hi hr hi (show 16 * r + i < 160 by omega) (by assumption)), Below.refl _ _⟩
 ·go_ret
  exact ⟨ret_int (place_lo hr hi (show 16 * r + i < 160 by omega) (by assumption)), Below.refl _ _⟩
theorem corners_any (pb i : Nat) (hi : i < 8) (w : World) : Calls Tryz.prog 188 #[.pointer (some ⟨pb, 0, none⟩), .int .i64 (i : Int)] w fun e w' => e = .returned (.tuple #[.pointer (some ⟨pb, cA i, none⟩), .pointer (some ⟨pb, cB i, none⟩), .pointer (some ⟨pb, cC i, none⟩), .pointer (some ⟨pb, cD i, none⟩)]) ∧ Below w.heap.size w w' := by
 have h8 : i = 0 ∨ i = 1 ∨ i = 2 ∨ i = 3 ∨ i = 4 ∨ i = 5 ∨ i = 6 ∨ i = 7 := by omega
 clear hi
 rcases h8 with rfl | rfl | rfl | rfl | rfl | rfl | rfl | rfl
 all_goals
  go_enter Tryz.func188, Tryz.ntmps188
  go_wp2_with fail
  refine wp_region_over (by kernel_rfl) (by kernel_rfl) ?_
  repeat (go_big_quiet_step (first | fail))
  all_goals (try unfold elV limbV)
  repeat (go_big_quiet_step (first | fail))
  all_goals (try unfold elV limbV)
  repeat (go_big_quiet_step (first | fail))
  all_goals (try unfold ciphV)
  refine wpQuiet_nil ?_
  rintro _ ⟨E, rfl⟩
  have HB := Lib.hid E.h
  have HZS := Lib.hid E.h.size
  obtain ⟨w1, hq9⟩ : ∃ W9 : World, E.w = W9 := ⟨_, rfl⟩
  rw [hq9] at HB HZS ⊢
  clear hq9 E
  go_wp2_with fail
  simp [bodyPost, results, Tryz.results188, go_sem, cA, cB, cC, cD]
  exact HB.out
structure W4 (l : WL) (A B C D : Nat) (a b c d : BitVec 32) : Prop where
 len : l.length = 16
 bd : A < 4 ∧ 4 ≤ B ∧ B < 8 ∧ 8 ≤ C ∧ C < 12 ∧ 12 ≤ D ∧ D < 16
 ha : l.getD A 0 = a
 hb : l.getD B 0 = b
 hc : l.getD C 0 = c
 hd : l.getD D 0 = d
section
variable {l : WL} {A B C D : Nat} {a b c d z : BitVec 32}
theorem W4.ca (h : W4 l A B C D a b c d) : (wlV l)[A]? = some (.int .u32 (a.toNat : Int)) := h.ha ▸ wlV_get l A (by have := h.len; have := h.bd; omega)
theorem W4.cb (h : W4 l A B C D a b c d) : (wlV l)[B]? = some (.int .u32 (b.toNat : Int)) := h.hb ▸ wlV_get l B (by have := h.len; have := h.bd; omega)
theorem W4.cc (h : W4 l A B C D a b c d) : (wlV l)[C]? = some (.int .u32 (c.toNat : Int)) := h.hc ▸ wlV_get l C (by have := h.len; have := h.bd; omega)
theorem W4.cd (h : W4 l A B C D a b c d) : (wlV l)[D]? = some (.int .u32 (d.toNat : Int)) := h.hd ▸ wlV_get l D (by have := h.len; have := h.bd; omega)
theorem set_same (l : WL) (k : Nat) (u : BitVec 32) (h : k < l.length) : (l.set k u).getD k 0 = u := by simp [List.getD, h]
theorem set_other (l : WL) (k j : Nat) (u : BitVec 32) (h : k ≠ j) : (l.set k u).getD j 0 = l.getD j 0 := by simp [List.getD, List.getElem?_set_ne h]
theorem W4.sa (h : W4 l A B C D a b c d) : W4 (l.set A z) A B C D z b c d := by
 have h1 := h.len; have h2 := h.bd
 exact ⟨by rw [List.length_set]; exact h1, h2, set_same _ _ _ (by omega), by rw [set_other _ _ _ _ (by omega)]; exact h.hb, by rw [set_other _ _ _ _ (by omega)]; exact h.hc, by rw [set_other _ _ _ _ (by omega)]; exact h.hd⟩
theorem W4.sb (h : W4 l A B C D a b c d) : W4 (l.set B z) A B C D a z c d := by
 have h1 := h.len; have h2 := h.bd
 exact ⟨by rw [List.length_set]; exact h1, h2, by rw [set_other _ _ _ _ (by omega)]; exact h.ha, set_same _ _ _ (by omega), by rw [set_other _ _ _ _ (by omega)]; exact h.hc, by rw [set_other _ _ _ _ (by omega)]; exact h.hd⟩
theorem W4.sc (h : W4 l A B C D a b c d) : W4 (l.set C z) A B C D a b z d := by
 have h1 := h.len; have h2 := h.bd
 exact ⟨by rw [List.length_set]; exact h1, h2, by rw [set_other _ _ _ _ (by omega)]; exact h.ha, by rw [set_other _ _ _ _ (by omega)]; exact h.hb, set_same _ _ _ (by omega), by rw [set_other _ _ _ _ (by omega)]; exact h.hd⟩
theorem W4.sd (h : W4 l A B C D a b c d) : W4 (l.set D z) A B C D a b c z := by
 have h1 := h.len; have h2 := h.bd
 exact ⟨by rw [List.length_set]; exact h1, h2, by rw [set_other _ _ _ _ (by omega)]; exact h.ha, by rw [set_other _ _ _ _ (by omega)]; exact h.hb, by rw [set_other _ _ _ _ (by omega)]; exact h.hc, set_same _ _ _ (by omega)⟩
theorem Bx.wset {W : World} {b i : Nat} {t : TypeId} {l : WL} {x : BitVec 32} (h : Bx W b t ((wlV l).set i (.int .u32 (x.toNat : Int)))) : Bx W b t (wlV (l.set i x)) := wlV_set l i x ▸ h
end
theorem quarter_any (m v : WL) (r i : Nat) (hi : i < 8) (hv : v.length = 16) (pb : Nat) (w : World) (hp : Bx w pb 239 (wlV v)) :
  Calls Tryz.prog 184 #[.pointer (some ⟨pb, 0, none⟩), .int .i64 (i : Int), .int .u32 ((m.getD (ordN r (2 * i)) 0).toNat : Int), .int .u32 ((m.getD (ordN r (2 * i + 1)) 0).toNat : Int)] w
   fun e w' => e = .returned (.tuple #[]) ∧ Bx w' pb 239 (wlV (quartB m v r i)) ∧ Kept (fun q => q = pb) w w' := by
 have hq := quart_words m v r i hv _ _ _ _ _ _ rfl rfl rfl rfl rfl rfl
 have HC := Lib.hid (fun w => corners_any pb i hi w)
 have HW := Lib.hid (show W4 v (cA i) (cB i) (cC i) (cD i) _ _ _ _ from ⟨hv, by unfold cA cB cC cD; omega, rfl, rfl, rfl, rfl⟩)
 generalize quartB m v r i = V at *
 generalize m.getD (ordN r (2 * i)) 0 = x at *
 generalize m.getD (ordN r (2 * i + 1)) 0 = y at *
 generalize v.getD (cA i) 0 = a at *
 generalize v.getD (cB i) 0 = b at *
 generalize v.getD (cC i) 0 = c at *
 generalize v.getD (cD i) 0 = d at *
 generalize cA i = A at *
 generalize cB i = B at *
 generalize cC i = C at *
 generalize cD i = D at *
 have HQ := Lib.hid hq
 have Hp := Lib.hid hp
 clear hp hv hi hq
 go_enter Tryz.func184, Tryz.ntmps184
 go_wp2_with fail
 have HK := Lib.hid (Kept.refl (fun q9 => q9 = pb) w)
 refine (HC.out w).mono ?_
 rintro e w1 ⟨rfl, hb9⟩
 replace Hp := Lib.hid (Hp.out.up hb9)
 replace HK := Lib.hid (Kept.up HK.out hb9)
 have HZS := Lib.hid hb9.size
 clear hb9
 go_wp2_with fail
 have g1 := add32 b x
 obtain ⟨za1, e0⟩ : ∃ z, b + x = z := ⟨_, rfl⟩
 rw [e0] at g1
 have g2 := add32 a za1
 obtain ⟨a1, e1⟩ : ∃ z, a + za1 = z := ⟨_, rfl⟩
 rw [e1] at g2
 have Eza1 := Lib.hid e0
 have Ea1 := Lib.hid e1
 clear e1 e0
 have hlp := Hp.out.lt
 have hcA := Hp.out.cell HW.out.ca
 have hcB := Hp.out.cell HW.out.cb
 have hcC := Hp.out.cell HW.out.cc
 have hcD := Hp.out.cell HW.out.cd
 refine wp_region_otail 10 (by kernel_rfl) (by kernel_rfl) ?_
 simp only [List.take_succ_cons, List.take_zero, List.drop_succ_cons, List.drop_zero]
 have hov_pb := fun (E : Over w1) o => E.cell (b := pb) o hlp
 repeat (go_big_quiet_step (first | fail))
 all_goals (try unfold elV limbV)
 repeat (go_big_quiet_step (first | fail))
 all_goals (try unfold elV limbV)
 repeat (go_big_quiet_step (first | fail))
 all_goals (try unfold ciphV)
 refine wpQuiet_nil ?_
 rintro _ ⟨E, rfl⟩
 clear hov_pb
 replace Hp := Lib.hid (Hp.out.up E.h)
 replace HK := Lib.hid (Kept.up HK.out E.h)
 replace HZS := sz HZS E.h.size
 obtain ⟨w2, hq9⟩ : ∃ W9 : World, E.w = W9 := ⟨_, rfl⟩
 rw [hq9] at Hp HK HZS ⊢
 clear hq9 E hcA hcB hcC hcD hlp
 have hcT := Hp.out.cell HW.out.ca
 have f3_p := Hp.out.frozen
 obtain ⟨w3, hq3, hg9, hz9, hx9⟩ := put1 Hp A (.int .u32 (a1.toNat : Int)) _ rfl
 replace HK := Lib.hid (Kept.grown HK.out hg9.out (fun q9 e9 => by obtain rfl := Option.some.inj e9; exact Or.inr (rfl)))
 replace HZS := sz HZS hz9.out
 replace Hp := hx9
 clear hx9 hg9 hz9
 replace Hp := Lib.hid Hp.out.wset
 replace HW := Lib.hid (HW.out.sa (z := a1))
 go_wp2_with fail
 clear hq3 f3_p hcT g1 g2
 have g1 := bits_xor d a1
 obtain ⟨zd1, e0⟩ : ∃ z, d ^^^ a1 = z := ⟨_, rfl⟩
 rw [e0] at g1
 obtain ⟨d1, e1⟩ : ∃ z, rotB zd1 16 = z := ⟨_, rfl⟩
 have HT := Lib.hid (fun w => turn_any zd1 16 (by omega) w)
 rw [e1] at HT
 have Ezd1 := Lib.hid e0
 have Ed1 := Lib.hid e1
 clear e1 e0
 have hlp := Hp.out.lt
 have hcA := Hp.out.cell HW.out.ca
 have hcB := Hp.out.cell HW.out.cb
 have hcC := Hp.out.cell HW.out.cc
 have hcD := Hp.out.cell HW.out.cd
 refine wp_region_otail 10 (by kernel_rfl) (by kernel_rfl) ?_
 simp only [List.take_succ_cons, List.take_zero, List.drop_succ_cons, List.drop_zero]
 have hov_pb := fun (E : Over w3) o => E.cell (b := pb) o hlp
 repeat (go_big_quiet_step (first | (go_at_call 189; exact calls_over (HT.out _))))
 all_goals (try unfold elV limbV)
 repeat (go_big_quiet_step (first | (go_at_call 189; exact calls_over (HT.out _))))
 all_goals (try unfold elV limbV)
 repeat (go_big_quiet_step (first | (go_at_call 189; exact calls_over (HT.out _))))
 all_goals (try unfold ciphV)
 refine wpQuiet_nil ?_
 rintro _ ⟨E, rfl⟩
 clear hov_pb
 replace Hp := Lib.hid (Hp.out.up E.h)
 replace HK := Lib.hid (Kept.up HK.out E.h)
 replace HZS := sz HZS E.h.size
 obtain ⟨w4, hq9⟩ : ∃ W9 : World, E.w = W9 := ⟨_, rfl⟩
 rw [hq9] at Hp HK HZS ⊢
 clear hq9 E hcA hcB hcC hcD hlp
 have hcT := Hp.out.cell HW.out.cd
 have f5_p := Hp.out.frozen
 obtain ⟨w5, hq5, hg9, hz9, hx9⟩ := put1 Hp D (.int .u32 (d1.toNat : Int)) _ rfl
 replace HK := Lib.hid (Kept.grown HK.out hg9.out (fun q9 e9 => by obtain rfl := Option.some.inj e9; exact Or.inr (rfl)))
 replace HZS := sz HZS hz9.out
 replace Hp := hx9
 clear hx9 hg9 hz9
 replace Hp := Lib.hid Hp.out.wset
 replace HW := Lib.hid (HW.out.sd (z := d1))
 go_wp2_with fail
 clear hq5 f5_p hcT g1 HT
 have g2 := add32 c d1
 obtain ⟨c1, e1⟩ : ∃ z, c + d1 = z := ⟨_, rfl⟩
 rw [e1] at g2
 have Ec1 := Lib.hid e1
 clear e1
 have hlp := Hp.out.lt
 have hcA := Hp.out.cell HW.out.ca
 have hcB := Hp.out.cell HW.out.cb
 have hcC := Hp.out.cell HW.out.cc
 have hcD := Hp.out.cell HW.out.cd
 refine wp_region_otail 8 (by kernel_rfl) (by kernel_rfl) ?_
 simp only [List.take_succ_cons, List.take_zero, List.drop_succ_cons, List.drop_zero]
 have hov_pb := fun (E : Over w5) o => E.cell (b := pb) o hlp
 repeat (go_big_quiet_step (first | fail))
 all_goals (try unfold elV limbV)
 repeat (go_big_quiet_step (first | fail))
 all_goals (try unfold elV limbV)
 repeat (go_big_quiet_step (first | fail))
 all_goals (try unfold ciphV)
 refine wpQuiet_nil ?_
 rintro _ ⟨E, rfl⟩
 clear hov_pb
 replace Hp := Lib.hid (Hp.out.up E.h)
 replace HK := Lib.hid (Kept.up HK.out E.h)
 replace HZS := sz HZS E.h.size
 obtain ⟨w6, hq9⟩ : ∃ W9 : World, E.w = W9 := ⟨_, rfl⟩
 rw [hq9] at Hp HK HZS ⊢
 clear hq9 E hcA hcB hcC hcD hlp
 have hcT := Hp.out.cell HW.out.cc
 have f7_p := Hp.out.frozen
 obtain ⟨w7, hq7, hg9, hz9, hx9⟩ := put1 Hp C (.int .u32 (c1.toNat : Int)) _ rfl
 replace HK := Lib.hid (Kept.grown HK.out hg9.out (fun q9 e9 => by obtain rfl := Option.some.inj e9; exact Or.inr (rfl)))
 replace HZS := sz HZS hz9.out
 replace Hp := hx9
 clear hx9 hg9 hz9
 replace Hp := Lib.hid Hp.out.wset
 replace HW := Lib.hid (HW.out.sc (z := c1))
 go_wp2_with fail
 clear hq7 f7_p hcT g2
 have g1 := bits_xor b c1
 obtain ⟨zb1, e0⟩ : ∃ z, b ^^^ c1 = z := ⟨_, rfl⟩
 rw [e0] at g1
 obtain ⟨b1, e1⟩ : ∃ z, rotB zb1 12 = z := ⟨_, rfl⟩
 have HT := Lib.hid (fun w => turn_any zb1 12 (by omega) w)
 rw [e1] at HT
 have Ezb1 := Lib.hid e0
 have Eb1 := Lib.hid e1
 clear e1 e0
 have hlp := Hp.out.lt
 have hcA := Hp.out.cell HW.out.ca
 have hcB := Hp.out.cell HW.out.cb
 have hcC := Hp.out.cell HW.out.cc
 have hcD := Hp.out.cell HW.out.cd
 refine wp_region_otail 10 (by kernel_rfl) (by kernel_rfl) ?_
 simp only [List.take_succ_cons, List.take_zero, List.drop_succ_cons, List.drop_zero]
 have hov_pb := fun (E : Over w7) o => E.cell (b := pb) o hlp
 repeat (go_big_quiet_step (first | (go_at_call 189; exact calls_over (HT.out _))))
 all_goals (try unfold elV limbV)
 repeat (go_big_quiet_step (first | (go_at_call 189; exact calls_over (HT.out _))))
 all_goals (try unfold elV limbV)
 repeat (go_big_quiet_step (first | (go_at_call 189; exact calls_over (HT.out _))))
 all_goals (try unfold ciphV)
 refine wpQuiet_nil ?_
 rintro _ ⟨E, rfl⟩
 clear hov_pb
 replace Hp := Lib.hid (Hp.out.up E.h)
 replace HK := Lib.hid (Kept.up HK.out E.h)
 replace HZS := sz HZS E.h.size
 obtain ⟨w8, hq9⟩ : ∃ W9 : World, E.w = W9 := ⟨_, rfl⟩
 rw [hq9] at Hp HK HZS ⊢
 clear hq9 E hcA hcB hcC hcD hlp
 have hcT := Hp.out.cell HW.out.cb
 have f9_p := Hp.out.frozen
 obtain ⟨w9, hq9, hg9, hz9, hx9⟩ := put1 Hp B (.int .u32 (b1.toNat : Int)) _ rfl
 replace HK := Lib.hid (Kept.grown HK.out hg9.out (fun q9 e9 => by obtain rfl := Option.some.inj e9; exact Or.inr (rfl)))
 replace HZS := sz HZS hz9.out
 replace Hp := hx9
 clear hx9 hg9 hz9
 replace Hp := Lib.hid Hp.out.wset
 replace HW := Lib.hid (HW.out.sb (z := b1))
 go_wp2_with fail
 clear hq9 f9_p hcT g1 HT
 have g1 := add32 b1 y
 obtain ⟨za2, e0⟩ : ∃ z, b1 + y = z := ⟨_, rfl⟩
 rw [e0] at g1
 have g2 := add32 a1 za2
 obtain ⟨a2, e1⟩ : ∃ z, a1 + za2 = z := ⟨_, rfl⟩
 rw [e1] at g2
 have Eza2 := Lib.hid e0
 have Ea2 := Lib.hid e1
 clear e1 e0
 have hlp := Hp.out.lt
 have hcA := Hp.out.cell HW.out.ca
 have hcB := Hp.out.cell HW.out.cb
 have hcC := Hp.out.cell HW.out.cc
 have hcD := Hp.out.cell HW.out.cd
 refine wp_region_otail 10 (by kernel_rfl) (by kernel_rfl) ?_
 simp only [List.take_succ_cons, List.take_zero, List.drop_succ_cons, List.drop_zero]
 have hov_pb := fun (E : Over w9) o => E.cell (b := pb) o hlp
 repeat (go_big_quiet_step (first | fail))
 all_goals (try unfold elV limbV)
 repeat (go_big_quiet_step (first | fail))
 all_goals (try unfold elV limbV)
 repeat (go_big_quiet_step (first | fail))
 all_goals (try unfold ciphV)
 refine wpQuiet_nil ?_
 rintro _ ⟨E, rfl⟩
 clear hov_pb
 replace Hp := Lib.hid (Hp.out.up E.h)
 replace HK := Lib.hid (Kept.up HK.out E.h)
 replace HZS := sz HZS E.h.size
 obtain ⟨w10, hq9⟩ : ∃ W9 : World, E.w = W9 := ⟨_, rfl⟩
 rw [hq9] at Hp HK HZS ⊢
 clear hq9 E hcA hcB hcC hcD hlp
 have hcT := Hp.out.cell HW.out.ca
 have f11_p := Hp.out.frozen
 obtain ⟨w11, hq11, hg9, hz9, hx9⟩ := put1 Hp A (.int .u32 (a2.toNat : Int)) _ rfl
 replace HK := Lib.hid (Kept.grown HK.out hg9.out (fun q9 e9 => by obtain rfl := Option.some.inj e9; exact Or.inr (rfl)))
 replace HZS := sz HZS hz9.out
 replace Hp := hx9
 clear hx9 hg9 hz9
 replace Hp := Lib.hid Hp.out.wset
 replace HW := Lib.hid (HW.out.sa (z := a2))
 go_wp2_with fail
 clear hq11 f11_p hcT g1 g2
 have g1 := bits_xor d1 a2
 obtain ⟨zd2, e0⟩ : ∃ z, d1 ^^^ a2 = z := ⟨_, rfl⟩
 rw [e0] at g1
 obtain ⟨d2, e1⟩ : ∃ z, rotB zd2 8 = z := ⟨_, rfl⟩
 have HT := Lib.hid (fun w => turn_any zd2 8 (by omega) w)
 rw [e1] at HT
 have Ezd2 := Lib.hid e0
 have Ed2 := Lib.hid e1
 clear e1 e0
 have hlp := Hp.out.lt
 have hcA := Hp.out.cell HW.out.ca
 have hcB := Hp.out.cell HW.out.cb
 have hcC := Hp.out.cell HW.out.cc
 have hcD := Hp.out.cell HW.out.cd
 refine wp_region_otail 10 (by kernel_rfl) (by kernel_rfl) ?_
 simp only [List.take_succ_cons, List.take_zero, List.drop_succ_cons, List.drop_zero]
 have hov_pb := fun (E : Over w11) o => E.cell (b := pb) o hlp
 repeat (go_big_quiet_step (first | (go_at_call 189; exact calls_over (HT.out _))))
 all_goals (try unfold elV limbV)
 repeat (go_big_quiet_step (first | (go_at_call 189; exact calls_over (HT.out _))))
 all_goals (try unfold elV limbV)
 repeat (go_big_quiet_step (first | (go_at_call 189; exact calls_over (HT.out _))))
 all_goals (try unfold ciphV)
 refine wpQuiet_nil ?_
 rintro _ ⟨E, rfl⟩
 clear hov_pb
 replace Hp := Lib.hid (Hp.out.up E.h)
 replace HK := Lib.hid (Kept.up HK.out E.h)
 replace HZS := sz HZS E.h.size
 obtain ⟨w12, hq9⟩ : ∃ W9 : World, E.w = W9 := ⟨_, rfl⟩
 rw [hq9] at Hp HK HZS ⊢
 clear hq9 E hcA hcB hcC hcD hlp
 have hcT := Hp.out.cell HW.out.cd
 have f13_p := Hp.out.frozen
 obtain ⟨w13, hq13, hg9, hz9, hx9⟩ := put1 Hp D (.int .u32 (d2.toNat : Int)) _ rfl
 replace HK := Lib.hid (Kept.grown HK.out hg9.out (fun q9 e9 => by obtain rfl := Option.some.inj e9; exact Or.inr (rfl)))
 replace HZS := sz HZS hz9.out
 replace Hp := hx9
 clear hx9 hg9 hz9
 replace Hp := Lib.hid Hp.out.wset
 replace HW := Lib.hid (HW.out.sd (z := d2))
 go_wp2_with fail
 clear hq13 f13_p hcT g1 HT
 have g2 := add32 c1 d2
 obtain ⟨c2, e1⟩ : ∃ z, c1 + d2 = z := ⟨_, rfl⟩
 rw [e1] at g2
 have Ec2 := Lib.hid e1
 clear e1
 have hlp := Hp.out.lt
 have hcA := Hp.out.cell HW.out.ca
 have hcB := Hp.out.cell HW.out.cb
 have hcC := Hp.out.cell HW.out.cc
 have hcD := Hp.out.cell HW.out.cd
 refine wp_region_otail 8 (by kernel_rfl) (by kernel_rfl) ?_
 simp only [List.take_succ_cons, List.take_zero, List.drop_succ_cons, List.drop_zero]
 have hov_pb := fun (E : Over w13) o => E.cell (b := pb) o hlp
 repeat (go_big_quiet_step (first | fail))
 all_goals (try unfold elV limbV)
 repeat (go_big_quiet_step (first | fail))
 all_goals (try unfold elV limbV)
 repeat (go_big_quiet_step (first | fail))
 all_goals (try unfold ciphV)
 refine wpQuiet_nil ?_
 rintro _ ⟨E, rfl⟩
 clear hov_pb
 replace Hp := Lib.hid (Hp.out.up E.h)
 replace HK := Lib.hid (Kept.up HK.out E.h)
 replace HZS := sz HZS E.h.size
 obtain ⟨w14, hq9⟩ : ∃ W9 : World, E.w = W9 := ⟨_, rfl⟩
 rw [hq9] at Hp HK HZS ⊢
 clear hq9 E hcA hcB hcC hcD hlp
 have hcT := Hp.out.cell HW.out.cc
 have f15_p := Hp.out.frozen
 obtain ⟨w15, hq15, hg9, hz9, hx9⟩ := put1 Hp C (.int .u32 (c2.toNat : Int)) _ rfl
 replace HK := Lib.hid (Kept.grown HK.out hg9.out (fun q9 e9 => by obtain rfl := Option.some.inj e9; exact Or.inr (rfl)))
 replace HZS := sz HZS hz9.out
 replace Hp := hx9
 clear hx9 hg9 hz9
 replace Hp := Lib.hid Hp.out.wset
 replace HW := Lib.hid (HW.out.sc (z := c2))
 go_wp2_with fail
 clear hq15 f15_p hcT g2
 have g1 := bits_xor b1 c2
 obtain ⟨zb2, e0⟩ : ∃ z, b1 ^^^ c2 = z := ⟨_, rfl⟩
 rw [e0] at g1
 obtain ⟨b2, e1⟩ : ∃ z, rotB zb2 7 = z := ⟨_, rfl⟩
 have HT := Lib.hid (fun w => turn_any zb2 7 (by omega) w)
 rw [e1] at HT
 have Ezb2 := Lib.hid e0
 have Eb2 := Lib.hid e1
 clear e1 e0
 have hlp := Hp.out.lt
 have hcA := Hp.out.cell HW.out.ca
 have hcB := Hp.out.cell HW.out.cb
 have hcC := Hp.out.cell HW.out.cc
 have hcD := Hp.out.cell HW.out.cd
 refine wp_region_otail 10 (by kernel_rfl) (by kernel_rfl) ?_
 simp only [List.take_succ_cons, List.take_zero, List.drop_succ_cons, List.drop_zero]
 have hov_pb := fun (E : Over w15) o => E.cell (b := pb) o hlp
 repeat (go_big_quiet_step (first | (go_at_call 189; exact calls_over (HT.out _))))
 all_goals (try unfold elV limbV)
 repeat (go_big_quiet_step (first | (go_at_call 189; exact calls_over (HT.out _))))
 all_goals (try unfold elV limbV)
 repeat (go_big_quiet_step (first | (go_at_call 189; exact calls_over (HT.out _))))
 all_goals (try unfold ciphV)
 refine wpQuiet_nil ?_
 rintro _ ⟨E, rfl⟩
 clear hov_pb
 replace Hp := Lib.hid (Hp.out.up E.h)
 replace HK := Lib.hid (Kept.up HK.out E.h)
 replace HZS := sz HZS E.h.size
 obtain ⟨w16, hq9⟩ : ∃ W9 : World, E.w = W9 := ⟨_, rfl⟩
 rw [hq9] at Hp HK HZS ⊢
 clear hq9 E hcA hcB hcC hcD hlp
 have hcT := Hp.out.cell HW.out.cb
 have f17_p := Hp.out.frozen
 obtain ⟨w17, hq17, hg9, hz9, hx9⟩ := put1 Hp B (.int .u32 (b2.toNat : Int)) _ rfl
 replace HK := Lib.hid (Kept.grown HK.out hg9.out (fun q9 e9 => by obtain rfl := Option.some.inj e9; exact Or.inr (rfl)))
 replace HZS := sz HZS hz9.out
 replace Hp := hx9
 clear hx9 hg9 hz9
 replace Hp := Lib.hid Hp.out.wset
 replace HW := Lib.hid (HW.out.sb (z := b2))
 go_wp2_with fail
 clear hq17 f17_p hcT g1 HT
 go_end0
 have h := HQ.out
 rw [BitVec.add_assoc a b x, Eza1.out, Ea1.out, Ezd1.out, Ed1.out, Ec1.out, Ezb1.out, Eb1.out, BitVec.add_assoc a1 b1 y, Eza2.out, Ea2.out, Ezd2.out, Ed2.out, Ec2.out, Ezb2.out, Eb2.out] at h
 exact ⟨rfl, h ▸ Hp.out, HK.out⟩
end Go.Proofs.YtdlnnkbigeiilaaGreat
namespace Go.Proofs.YtdlnnkbigeiilaaGreat
open Go.RowKit
def putL (cs : List Value) (o : Nat) : List Value → List Value
 | [] => cs
 | v :: vs => putL (cs.set o v) (o + 1) vs
theorem putL_eq : ∀ (vs cs : List Value) (o : Nat), o + vs.length ≤ cs.length → putL cs o vs = cs.take o ++ vs ++ cs.drop (o + vs.length)
 | [], cs, o, _ => by simp [putL]
 | v :: vs, cs, o, h => by
   rw [List.length_cons] at h
   rw [putL, putL_eq vs _ _ (by rw [List.length_set]; omega)]
   have h1 : (cs.set o v).take (o + 1) = cs.take o ++ [v] := by
    rw [List.take_succ_eq_append_getElem (by rw [List.length_set]; omega), List.take_set_of_le (Nat.le_refl _), List.getElem_set_self]
   have h2 : (cs.set o v).drop (o + 1 + vs.length) = cs.drop (o + (v :: vs).length) := by
    rw [List.drop_set_of_lt (by omega), List.length_cons, show o + 1 + vs.length = o + (vs.length + 1) by omega]
   rw [h1, h2]
   simp
theorem putL_all (cs vs : List Value) (h : vs.length = cs.length) : putL cs 0 vs = vs := by
 rw [putL_eq _ _ _ (by omega)]
 simp [h]
section
variable {W w0 w : World} {b o n : Nat} {t : TypeId} {cs vs : List Value} {P : Program}
theorem Bx.range (h : Bx W b t cs) : W.rangeAt b 0 cs := fun j v hv => by rw [Nat.zero_add]; exact h.cell hv
theorem Bx.part {as1 bs : List Value} (h : Bx W b t (as1 ++ (cs ++ bs))) (ho : as1.length = o) : W.rangeAt b o cs := fun j v hv => h.cell (by
 have hj := (List.getElem?_eq_some_iff.1 hv).1
 rw [List.getElem?_append_right (by omega), show o + j - as1.length = j by omega, List.getElem?_append_left hj, hv])
theorem Bx.there (h : Bx W b t cs) (hn : o + n ≤ cs.length) : W.there b o n := fun j hj => ⟨by rw [h.cell (List.getElem?_eq_getElem (show o + j < cs.length by omega))]; rfl, h.frozen _⟩
theorem Bx.put : ∀ (vs : List Value) {W : World} {cs : List Value} {o : Nat}, Bx W b t cs → Bx (W.setCells b o vs) b t (putL cs o vs)
 | [], _, _, _, h => h
 | v :: vs, _, _, _, h => Bx.put vs (h.set _ v)
theorem grown_put (b : Nat) : ∀ (vs : List Value) (W : World) (o : Nat), W.grownBy (W.setCells b o vs) (some b)
 | [], W, _ => ⟨rfl, rfl, rfl, Nat.le_refl _, fun _ _ _ => rfl⟩
 | v :: vs, W, o => (grown_set W b o v).trans (grown_put b vs _ _)
theorem size_put (b : Nat) : ∀ (vs : List Value) (W : World) (o : Nat), (W.setCells b o vs).heap.size = W.heap.size
 | [], _, _ => rfl
 | v :: vs, W, o => by
   show ((W.setCell ⟨b, o, none⟩ v).setCells b (o + 1) vs).heap.size = _
   rw [size_put b vs]
   simp [World.setCell]
theorem puts (h : Hid (Bx W b t cs)) (o : Nat) (vs cs' : List Value) (hc : putL cs o vs = cs') : ∃ W', W.setCells b o vs = W' ∧ Hid (W.grownBy W' (some b)) ∧ Hid (W'.heap.size = W.heap.size) ∧ Hid (Bx W' b t cs') :=
 ⟨_, rfl, Lib.hid (grown_put b vs W o), Lib.hid (size_put b vs W o), Lib.hid (hc ▸ h.out.put vs)⟩
theorem wp_store_new {op : Oper} {a : Act} {K : Act → World → Prop} {Q : Exit → Act → World → Prop} (ty t : TypeId) (x y : Operand) (ho : op.op = .store ty x y) (c c' : List Value)
  (hx : a.eval x = .pointer (some ⟨w.heap.size, 0, none⟩)) (hy : a.eval y = .agg c'.toArray) (hi : (P.info? ty).map (·.size) = some c'.length) (hc : c.length = c'.length) (h1 : ∀ v ∈ c', v.oneCell' = true)
  (h : K (a.put op.dst undef) (w.alloc (.cells c'.toArray t))) : op.wp P a (w.alloc (.cells c.toArray t)) K Q := by
 refine wp_store_mid ty x y ho w.heap.size 0 c'.toArray hx hy ?_ (by simpa using hi) (all_oneCell_toArray h1) ?_
 ·have hb : Bx (w.alloc (.cells c.toArray t)) w.heap.size t c := Bx.new w t c _ rfl
  exact hb.there (by simp; omega)
 ·have hb : Bx (w.alloc (.cells c.toArray t)) w.heap.size t c := Bx.new w t c _ rfl
  have e : (w.alloc (.cells c.toArray t)).setCells w.heap.size 0 c' = w.alloc (.cells c'.toArray t) := by
   have key : ∀ (vs c : List Value) (o : Nat), (w.alloc (.cells c.toArray t)).setCells w.heap.size o vs = w.alloc (.cells (putL c o vs).toArray t) := by
    intro vs
    induction vs with
    | nil => intro c o; rfl
    | cons v vs ih =>
     intro c o
     show ((w.alloc (.cells c.toArray t)).setCell ⟨w.heap.size, o, none⟩ v).setCells w.heap.size (o + 1) vs = _
     rw [World.setCell_alloc_at _ _ _ _ _ rfl]
     simp only [List.setIfInBounds_toArray]
     exact ih _ _
   rw [key, putL_all _ _ hc.symm]
  simp only
  rw [e]
  exact h
theorem wpList_store_new {ops : Array Oper} {rest : List Oper} {op : Oper} {a : Act} {Q : Exit → Act → World → Prop} (hgd : op.guard = none) (ty t : TypeId) (x y : Operand) (ho : op.op = .store ty x y) (c c' : List Value)
  (hx : a.eval x = .pointer (some ⟨w.heap.size, 0, none⟩)) (hy : a.eval y = .agg c'.toArray) (hi : (P.info? ty).map (·.size) = some c'.length) (hc : c.length = c'.length) (h1 : ∀ v ∈ c', v.oneCell' = true)
  (h : wpList P ops Q rest (a.put op.dst undef) (w.alloc (.cells c'.toArray t))) : wpList P ops Q (op :: rest) a (w.alloc (.cells c.toArray t)) :=
 wpList_plain hgd fun _ hK => wp_store_new ty t x y ho c c' hx hy hi hc h1 (hK _ _ h)
theorem grown_row {g : Nat} (w : World) (cs : Array Value) : w.grownBy (w.setRow g cs) (some g) :=
 ⟨rfl, rfl, rfl, by simp [World.setRow], fun k _ hk => setRow_other w g k cs (fun e => hk (by rw [e]))⟩
theorem wpList_copyB {ops : Array Oper} {rest : List Oper} {op : Oper} {a : Act} {Q : Exit → Act → World → Prop} (hgd : op.guard = none) (d s : Operand) (dT sT : TypeId)
  (ho : op.op = .call { callee := .builtin .copy, args := #[d, s], argTypes := #[dT, sT] }) (elem : TypeId) (hu : P.underlying dT = some (.slice elem)) (hsz : (P.info? elem).map (·.size) = some 1)
  (g off dLen dCap : Nat) (ad : Addr) (sLen sCap : Nat) (hd : a.eval d = .slice (some ⟨g, off, none⟩) dLen dCap) (hs : a.eval s = .slice (some ad) sLen sCap)
  (cur : List Value) (t : TypeId) (hg : Bx w g t cur) (cs : List Value) (hn : cs.length = Nat.min sLen dLen)
  (hsrc : ∀ j v, cs[j]? = some v → w.cell? (ad.add j) = some v) (hfit : off + cs.length ≤ cur.length) (h1 : ∀ v ∈ cs, v.oneCell' = true) (cs' : List Value) (hc : putL cur off cs = cs')
  (h : ∀ w', Hid (w.grownBy w' (some g)) → Hid (w'.heap.size = w.heap.size) → Hid (Bx w' g t cs') → wpList P ops Q rest (a.put op.dst (goInt cs.length)) w') : wpList P ops Q (op :: rest) a w := by
 refine wpList_copy_own hgd d s dT sT ho elem hu hsz g off dLen dCap ad sLen sCap hd hs cur.toArray t hg cs hn hsrc (by simpa using hfit) h1 ?_
 refine h _ (Lib.hid (grown_row _ _)) (Lib.hid (by simp [World.setRow])) (Lib.hid ?_)
 show (w.setRow g _).heap[g]? = _
 rw [setRow_heap w g _ _ t _ hg, ← hc, putL_eq _ _ _ hfit]
 simp
theorem run_copy_str (w : World) (dT sT ty elem : TypeId) (g o dLen dCap : Nat) (s : ByteArray) (cur : Array Value) (t : TypeId)
  (hu : P.underlying dT = some (.slice elem)) (hs : (P.info? elem).map (·.size) = some 1) (hg : w.heap[g]? = some (.cells cur t (0, 0))) (hfit : o + dLen ≤ cur.size) :
  (Builtin.copy_ #[dT, sT] ty #[.slice (some ⟨g, o, none⟩) dLen dCap, .string s]).run P w =
   .ok (goInt (Nat.min s.size dLen)) (w.setRow g (cur.toList.take o ++ (Lib.byteCells s.data.toList).take dLen ++ cur.toList.drop (o + ((Lib.byteCells s.data.toList).take dLen).length)).toArray) := by
 have hlen : ((Lib.byteCells s.data.toList).take dLen).length = Nat.min s.size dLen := by
  rw [List.length_take, Lib.byteCells_length, ← Lib.size_eq, Nat.min_comm]
 have hst := run_storeCells_at P g o t ((Lib.byteCells s.data.toList).take dLen) 0 cur w hg (by rw [hlen]; have := Nat.min_le_right s.size dLen; simp only [Nat.add_zero]; exact Nat.le_trans (Nat.add_le_add_left this _) hfit) (fun v hv => Lib.byteCells_one _ v (List.mem_of_mem_take hv))
 have htk : List.take (Nat.min s.size dLen) (List.map (fun b : UInt8 => Value.int IntKind.u8 (b.toNat : Int)) s.data.toList) = (Lib.byteCells s.data.toList).take dLen := by
  unfold Lib.byteCells
  show List.take (min s.size dLen) _ = _
  rw [Nat.min_comm, ← List.take_take, List.take_of_length_le (i := s.size) (by rw [List.length_map, ← Lib.size_eq]; exact Nat.le_refl _)]
 simp only [Nat.add_zero] at hst
 cases hq : P.info? elem with
 | none => simp [hq] at hs
 | some i =>
  simp [Builtin.copy_, run_underlying hu, Builtin.lenOf, Builtin.firstCells, sizeOf, typeInfo, hq]
  rw [htk, hst]
  simp [Result.andThen]
theorem wpList_copyS {ops : Array Oper} {rest : List Oper} {op : Oper} {a : Act} {Q : Exit → Act → World → Prop} (hgd : op.guard = none) (d s : Operand) (dT sT : TypeId)
  (ho : op.op = .call { callee := .builtin .copy, args := #[d, s], argTypes := #[dT, sT] }) (elem : TypeId) (hu : P.underlying dT = some (.slice elem)) (hsz : (P.info? elem).map (·.size) = some 1)
  (g off dLen dCap : Nat) (x : ByteArray) (hd : a.eval d = .slice (some ⟨g, off, none⟩) dLen dCap) (hs : a.eval s = .string x)
  (cur : List Value) (t : TypeId) (hg : Bx w g t cur) (hfit : off + dLen ≤ cur.length) (cs' : List Value) (hc : putL cur off ((Lib.byteCells x.data.toList).take dLen) = cs')
  (h : ∀ w', Hid (w.grownBy w' (some g)) → Hid (w'.heap.size = w.heap.size) → Hid (Bx w' g t cs') → wpList P ops Q rest (a.put op.dst (goInt (Nat.min x.size dLen))) w') : wpList P ops Q (op :: rest) a w := by
 refine wpList_plain hgd fun K hK => ?_
 have hrun := run_copy_str (P := P) w dT sT op.type elem g off dLen dCap x cur.toArray t hu hsz hg (by simpa using hfit)
 have hl : off + ((Lib.byteCells x.data.toList).take dLen).length ≤ cur.length := by rw [List.length_take]; have := Nat.min_le_left dLen (Lib.byteCells x.data.toList).length; omega
 unfold Oper.wp
 simp [execOp, ho, resolve, invoke, builtin, hd, hs, hrun, Result.andThen]
 refine hK _ _ (h _ (Lib.hid (grown_row _ _)) (Lib.hid (by simp [World.setRow])) (Lib.hid ?_))
 show (w.setRow g _).heap[g]? = _
 rw [setRow_heap w g _ _ t _ hg, ← hc, putL_eq _ _ _ hl]
 simp
theorem wpList_clearB {ops : Array Oper} {rest : List Oper} {op : Oper} {a : Act} {Q : Exit → Act → World → Prop} (hgd : op.guard = none) (x : Operand) (T : TypeId)
  (ho : op.op = .call { callee := .builtin .clear, args := #[x], argTypes := #[T] }) (e : TypeId) (z : Value) (ht : P.underlying T = some (.slice e)) (hv : ∀ w, (zeroValue e).run P w = .ok z w) (hz : z.cells = #[z]) (h1 : z.oneCell' = true)
  (g off n c : Nat) (hx : a.eval x = .slice (some ⟨g, off, none⟩) n c) (cur : List Value) (t : TypeId) (hg : Bx w g t cur) (hfit : off + n ≤ cur.length) (cs' : List Value) (hc : putL cur off (List.replicate n z) = cs')
  (h : ∀ w', Hid (w.grownBy w' (some g)) → Hid (w'.heap.size = w.heap.size) → Hid (Bx w' g t cs') → wpList P ops Q rest (a.put op.dst (.tuple #[])) w') : wpList P ops Q (op :: rest) a w := by
 refine wpList_plain hgd fun K hK => ?_
 by_cases hn : n = 0
 ·subst hn
  have hrun : (Builtin.clear_ #[T] op.type #[.slice (some ⟨g, off, none⟩) 0 c]).run P w = .ok (.tuple #[]) w := by simp [Builtin.clear_, run_underlying ht]
  unfold Oper.wp
  simp [execOp, ho, resolve, invoke, builtin, hx, hrun, Result.andThen]
  exact hK _ _ (h w (Lib.hid ⟨rfl, rfl, rfl, Nat.le_refl _, fun _ _ _ => rfl⟩) (Lib.hid rfl) (Lib.hid (hc ▸ hg)))
 ·have hrun := Lib.run_clear_slice (P := P) w T e op.type z ht hv hz h1 g off n c (by omega) (fun j hj => (hg.there hfit j hj).1) (fun j hj => (hg.there hfit j hj).2)
  unfold Oper.wp
  simp [execOp, ho, resolve, invoke, builtin, hx, hrun, Result.andThen]
  exact hK _ _ (h _ (Lib.hid (grown_put g _ w off)) (Lib.hid (size_put g _ w off)) (Lib.hid (hc ▸ hg.put _)))
theorem wpQuiet_load {ops : Array Oper} {C : World → Prop} {Q : Act → Prop} {rest : List Oper} {op : Oper} {a : Act} (hgd : op.guard = none) (ty : TypeId) (x : Operand) (ho : op.op = .load ty x)
  (b o : Nat) (hx : a.eval x = .pointer (some ⟨b, o, none⟩)) (cs : List Value) (d : TypeDesc) (hC : ∀ w, C w → w.rangeAt b o cs) (hu : P.underlying ty = some d) (hd : d.isRow = true) (hi : (P.info? ty).map (·.size) = some cs.length)
  (h : wpQuiet P ops C Q rest (a.put op.dst (.agg cs.toArray))) : wpQuiet P ops C Q (op :: rest) a := by
 refine BigFrame.wpQuiet_want (by simp [Region.wanted, hgd]) fun K hK => ⟨_, fun w hw => ?_, hK _ h⟩
 unfold Oper.quietAt execOp
 simp only [ho, hx, Instr.loadAt, Instr.sureAddr, Sem.run_bind, Sem.run_pure, Result.andThen_ok, run_loadVar_mid w b o ty cs d (hC w hw) hu hd hi]
 exact ⟨rfl, rfl⟩
end
theorem ret_arr {P : Program} {fn : Func} {R : Ending → World → Prop} {a : Act} {w : World} {p : Tmp} {ty : TypeId} (h : fn.results = #[.cell p ty]) {b : Nat} {t : TypeId} {cs : List Value} (hb : Bx w b t cs) (d : TypeDesc)
  (hp : a.tmps.getD p undef = .pointer (some ⟨b, 0, none⟩)) (hu : P.underlying ty = some d) (hd : d.isRow = true) (hi : (P.info? ty).map (·.size) = some cs.length) (ha : a.defers = []) (hR : R (.returned (.agg cs.toArray)) w) : bodyPost P fn R .ret a w :=
 bodyPost_ret (results_cell_row h a.tmps w b t cs.toArray (0, 0) d hp hb hu (by cases d <;> simp_all) (by simpa using hi)) ha hR
theorem run_index_arr {P : Program} (w : World) (t e : TypeId) (k : IntKind) (n : Nat) (cs : List Value) (i : Nat) (v : Value) (hv : cs[i]? = some v) (hu : P.underlying t = some (.array n e)) (hn : cs.length = n) (hs : (P.info? e).map (·.size) = some 1) (he : P.underlying e = some (.int k)) :
  (Instr.index t (.agg cs.toArray) (.int .i64 (i : Int))).run P w = .ok v w := by
 have hi : i < n := hn ▸ (List.getElem?_eq_some_iff.1 hv).1
 cases hq : P.info? e with
 | none => simp [hq] at hs
 | some inf =>
  have h1 : inf.size = 1 := by simpa [hq] using hs
  simp [Instr.index, asIntOf, run_underlying hu, hi, sizeOf, typeInfo, hq, h1, part, isAgg, run_underlying he, hv]
theorem wl_one (l : WL) : ∀ v ∈ wlV l, v.oneCell' = true := fun v hv => by
 unfold wlV at hv
 obtain ⟨x, _, rfl⟩ := List.mem_map.1 hv
 rfl
end Go.Proofs.YtdlnnkbigeiilaaGreat
namespace Go.Proofs.YtdlnnkbigeiilaaGreat
open Go.RowKit
def zw (n : Nat) : WL := List.replicate n 0
theorem zw_len (n : Nat) : (zw n).length = n := List.length_replicate
theorem wl_cell {W : World} {b : Nat} {t : TypeId} {l : WL} (h : Bx W b t (wlV l)) (i : Nat) (hi : i < l.length) : W.cell? ⟨b, i, none⟩ = some (.int .u32 ((l.getD i 0).toNat : Int)) := h.cell (wlV_get l i hi)
theorem info16 : (Tryz.prog.info? 230).map (·.size) = some 16 := by kernel_rfl
theorem infoPool : (Tryz.prog.info? 239).map (·.size) = some 16 := by kernel_rfl
theorem Stir_any (v m : WL) (hv : v.length = 16) (hm : m.length = 16) (w : World) :
  Calls Tryz.prog 182 #[.agg (wlV v).toArray, .agg (wlV m).toArray] w fun e w' => e = .returned (.agg (wlV (stirB v m)).toArray) ∧ Below w.heap.size w w' := by
 have HV := Lib.hid hv
 have HM := Lib.hid hm
 have HI := Lib.hid (show (Tryz.prog.info? 230).map (·.size) = some (wlV v).length by rw [wlV_len, hv]; exact info16)
 have HIP := Lib.hid (show (Tryz.prog.info? 239).map (·.size) = some (wlV v).length by rw [wlV_len, hv]; exact infoPool)
 have HZ := Lib.hid (show (wlV (zw 16)).length = (wlV v).length by rw [wlV_len, wlV_len, hv]; rfl)
 clear hv hm
 have hz : (#[.int .u32 0, .int .u32 0, .int .u32 0, .int .u32 0, .int .u32 0, .int .u32 0, .int .u32 0, .int .u32 0, .int .u32 0, .int .u32 0, .int .u32 0, .int .u32 0, .int .u32 0, .int .u32 0, .int .u32 0, .int .u32 0] : Array Value) = (wlV (zw 16)).toArray := rfl
 go_enter Tryz.func182, Tryz.ntmps182
 go_upto_region 1 with (fail)
 obtain ⟨w1, hq1, hb9, hz9, Ha, Hb, Hr⟩ := new3 w 230 (wlV v) 230 (wlV m) 230 (wlV (zw 16))
 rw [hq1]
 clear hq1
 have HB := Lib.hid hb9
 have HZS := hz9
 clear hb9 hz9
 go_upto_region 2 with (first | refine wpList_load_mid rfl 230 (.tmp 2) rfl w.heap.size 0 rfl (wlV v) _ Ha.out.range Tryz.underlying230 rfl HI.out ?_ | refine wpList_store_new rfl 239 239 (.tmp 5) (.tmp 8) rfl (wlV (zw 16)) (wlV v) rfl rfl HIP.out HZ.out (wl_one v) ?_)
 clear hz HIP HZ HI Ha
 obtain ⟨w2, hq2, hb9, hz9, Hp⟩ := new1 w1 239 (wlV v)
 rw [hq2]
 clear hq2
 replace Hb := Lib.hid (Hb.out.up hb9)
 replace Hr := Lib.hid (Hr.out.up hb9)
 replace HB := hbu HB hb9
 replace HZS := sz HZS hz9.out
 clear hb9 hz9
 have HK := Lib.hid (Kept.refl (fun q9 => q9 = w1.heap.size) w2)
 have HL0 := HB
 go_wp2_with fail
 go_loopw [9] (fun c wr => ∃ k : Nat, k ≤ 10 ∧ c = .int .i64 k ∧ Hid (Bx wr w1.heap.size 239 (wlV (roundsB m k v))) ∧ Hid (Kept (fun q9 => q9 = w1.heap.size) w2 wr)) (fun c _ => 10 - (intOf c).toNat)
 case atStart => exact ⟨0, by omega, rfl, Hp, HK⟩
 case round =>
  obtain ⟨k, hk, rfl, HQ, HK1⟩ := hrel
  clear HK
  have hg9 := HK1.out
  clear Hp
  replace Hb := Lib.hid (Hb.out.keptP hg9 (show ¬ (w.heap.size + 1 = w1.heap.size) by have g0 := HZS.out; omega))
  replace Hr := Lib.hid (Hr.out.keptP hg9 (show ¬ (w.heap.size + 2 = w1.heap.size) by have g0 := HZS.out; omega))
  replace HB := Lib.hid (Below.keptP HB.out hg9 (by have g0 := HZS.out; omega) (fun q9 h9 => (show w.heap.size ≤ _ by subst h9; have g0 := HZS.out; omega)))
  replace HZS := sz HZS (show w2.heap.size ≤ wr.heap.size from hg9.size)
  clear hg9
  have Hp := HQ
  clear HQ
  have HVL := Lib.hid (show (roundsB m k v).length = 16 by rw [roundsB_len]; exact HV.out)
  by_cases hk10 : k < 10
  ·have hdk : decide ((k : Int) < 10) = true := by simp; omega
   have hrs := Lib.hid (roundsB_succ m k v)
   generalize roundsB m k v = V at *
   obtain ⟨wo, rfl⟩ : ∃ wo : World, wo = wr := ⟨_, rfl⟩
   have HK2 := Lib.hid (Kept.refl (fun q9 => q9 = w1.heap.size) wo)
   go_wp2_with fail
   go_loopw [12] (fun c wr => ∃ i : Nat, i ≤ 8 ∧ c = .int .i64 i ∧ Hid (Bx wr w1.heap.size 239 (wlV (halfB m k i V))) ∧ Hid (Kept (fun q9 => q9 = w1.heap.size) wo wr)) (fun c _ => 8 - (intOf c).toNat)
   case atStart => exact ⟨0, by omega, rfl, Hp, HK2⟩
   case round =>
    obtain ⟨i, hi, rfl, HQ, HK3⟩ := hrel
    clear HK2
    have hg9 := HK3.out
    clear Hp
    replace Hb := Lib.hid (Hb.out.keptP hg9 (show ¬ (w.heap.size + 1 = w1.heap.size) by have g0 := HZS.out; omega))
    replace Hr := Lib.hid (Hr.out.keptP hg9 (show ¬ (w.heap.size + 2 = w1.heap.size) by have g0 := HZS.out; omega))
    replace HB := Lib.hid (Below.keptP HB.out hg9 (by have g0 := HZS.out; omega) (fun q9 h9 => (show w.heap.size ≤ _ by subst h9; have g0 := HZS.out; omega)))
    replace HZS := sz HZS (show wo.heap.size ≤ wr.heap.size from hg9.size)
    clear hg9
    have Hp := HQ
    clear HQ
    have HVI := Lib.hid (show (halfB m k i V).length = 16 by rw [halfB_len]; exact HVL.out)
    by_cases hi8 : i < 8
    ·have HS := Lib.hid (halfB_succ m k i V)
     have HQU := fun W h => quarter_any m (halfB m k i V) k i hi8 HVI.out w1.heap.size W h
     have HP1 := fun w => place_any k (2 * i) hk10 (by omega) w
     have HP2 := fun w => place_any k (2 * i + 1) hk10 (by omega) w
     have o1 : ordN k (2 * i) < 16 := ordN_lt hk10 (by omega)
     have o2 : ordN k (2 * i + 1) < 16 := ordN_lt hk10 (by omega)
     rw [show ((2 * i : Nat) : Int) = 2 * (i : Int) from by omega] at HP1
     rw [show ((2 * i + 1 : Nat) : Int) = 2 * (i : Int) + 1 from by omega] at HP2
     generalize quartB m (halfB m k i V) k i = V2 at *
     generalize halfB m k i V = V1 at *
     generalize ordN k (2 * i) = j1 at *
     generalize ordN k (2 * i + 1) = j2 at *
     have c1 := wl_cell Hb.out j1 (by rw [HM.out]; exact o1)
     have c2 := wl_cell Hb.out j2 (by rw [HM.out]; exact o2)
     have HQU := Lib.hid HQU
     have HP1 := Lib.hid HP1
     have HP2 := Lib.hid HP2
     generalize m.getD j1 0 = x1 at *
     generalize m.getD j2 0 = x2 at *
     have a1 : (0 : Int) ≤ (j1 : Int) := by omega
     have a2 : (j1 : Int) < 16 := by omega
     have a3 : (0 : Int) ≤ (j2 : Int) := by omega
     have a4 : (j2 : Int) < 16 := by omega
     go_wp2_with fail
     refine wp_region_otail 14 (by kernel_rfl) (by kernel_rfl) ?_
     simp only [List.take_succ_cons, List.take_zero, List.drop_succ_cons, List.drop_zero]
     have hov_w_heap_size___1 := fun (E : Over wr) o => E.cell (b := w.heap.size + 1) o Hb.out.lt
     repeat (go_big_quiet_step (first | (go_at_call 185; exact calls_over ((by first | with_reducible exact HP1.out _ | with_reducible exact HP2.out _)))))
     all_goals (try unfold elV limbV)
     repeat (go_big_quiet_step (first | (go_at_call 185; exact calls_over ((by first | with_reducible exact HP1.out _ | with_reducible exact HP2.out _)))))
     all_goals (try unfold elV limbV)
     repeat (go_big_quiet_step (first | (go_at_call 185; exact calls_over ((by first | with_reducible exact HP1.out _ | with_reducible exact HP2.out _)))))
     all_goals (try unfold ciphV)
     refine wpQuiet_nil ?_
     rintro _ ⟨E, rfl⟩
     clear hov_w_heap_size___1
     replace Hb := Lib.hid (Hb.out.up E.h)
     replace Hr := Lib.hid (Hr.out.up E.h)
     replace Hp := Lib.hid (Hp.out.up E.h)
     replace HK3 := Lib.hid (Kept.up HK3.out E.h)
     replace HB := hbu HB E.h
     replace HZS := sz HZS E.h.size
     obtain ⟨w3, hq9⟩ : ∃ W9 : World, E.w = W9 := ⟨_, rfl⟩
     rw [hq9] at Hb Hr Hp HK3 HB HZS ⊢
     clear hq9 E c1 c2
     go_wp2_with fail
     refine (HQU.out _ Hp.out).mono ?_
     rintro e wq ⟨rfl, hq1, hk1⟩
     have HQ1 := Lib.hid hq1
     have HK4 := Lib.hid (HK3.out.trans hk1)
     clear hq1 hk1 HQU HP1 HP2
     go_wp2_with fail
     go_roundw
     case rel => exact ⟨i + 1, by omega, by go_num, by rw [HS.out]; exact HQ1, HK4⟩
     case measure => simp [intOf]; omega
    ·have hi8' : i = 8 := by omega
     subst hi8'
     have HQ := Hp
     rw [← hrs.out] at HQ
     have HK5 := Lib.hid (HK1.out.trans HK3.out)
     go_wp2_with fail
     go_roundw
     case rel => exact ⟨k + 1, by omega, by go_num, HQ, HK5⟩
     case measure => simp [intOf]; omega
  ·have hk' : k = 10 := by omega
   subst hk'
   rw [roundsB_all] at Hp
   have HSL := Lib.hid (stirB_len v m)
   obtain ⟨S, hS⟩ : ∃ S, stirB v m = S := ⟨_, rfl⟩
   rw [hS] at Hp HSL
   have HS := Lib.hid hS
   clear hS
   have HSI := Lib.hid (show (Tryz.prog.info? 239).map (·.size) = some (wlV S).length by rw [wlV_len, HSL.out, HV.out]; exact infoPool)
   have HSJ := Lib.hid (show (Tryz.prog.info? 230).map (·.size) = some (wlV S).length by rw [wlV_len, HSL.out, HV.out]; exact info16)
   have HZ := Lib.hid (show (wlV S).length = (wlV (zw 16)).length by rw [wlV_len, wlV_len, HSL.out, HV.out]; rfl)
   obtain ⟨w5, hq5, hg5, hz5, hr5⟩ := puts Hr 0 (wlV S) (wlV S) (putL_all _ _ HZ.out)
   have HB5 := hbg HB hg5 (by omega)
   go_wp2_with (first | refine wpList_load_mid rfl 239 (.tmp 5) rfl w1.heap.size 0 rfl (wlV S) _ Hp.out.range Tryz.underlying239 rfl HSI.out ?_ | refine wpList_store_mid rfl 230 (.tmp 4) (.tmp 32) rfl (w.heap.size + 2) 0 (wlV S).toArray rfl rfl (Hr.out.there (by simp [HZ.out])) (by simpa using HSJ.out) (all_oneCell_toArray (wl_one S)) ?_)
   rw [hq5]
   exact ret_arr Tryz.results182 hr5.out _ rfl Tryz.underlying230 rfl HSJ.out rfl ⟨by rw [HS.out], HB5.out⟩
end Go.Proofs.YtdlnnkbigeiilaaGreat
