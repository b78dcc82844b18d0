/- Texts of this seat, one behind the other: what SigmaSound leans on. No condition beyond those that each names. -/
import Derived.Test.YtipgjookfdkciaaZSigmaSound2
import Derived.Shelf.Abstract
import Derived.Deep.LoopGhost

set_option maxRecDepth 100000
set_option maxHeartbeats 4000000
set_option linter.unusedVariables false
set_option linter.unusedSimpArgs false
namespace Go.Proofs.Ytipgjookfdkciaa
open Go.RowKit
theorem byteAt_nought (n i : Nat) (h : dl n ≤ i / 2) : byteAt n i = 0 := by
 rw [byte_dg, dg_nought n _ h]
 simp
theorem textL_skip (n size k : Nat) (h : byteAt n k = 0) : textL n size k = textL n size (k + 1) := by
 unfold textL
 refine List.map_congr_left fun p _ => ?_
 by_cases h1 : size - 1 - p < k
 ·rw [if_pos h1, if_pos (by omega)]
 ·rw [if_neg h1]
  by_cases h2 : size - 1 - p < k + 1
  ·rw [if_pos h2, show size - 1 - p = k by omega, h]; rfl
  ·rw [if_neg h2]
theorem refText_any (n size : Nat) (an : Option Addr) (cn : Nat) (hln : dl n ≤ 1048576) (hs : size ≤ 1024) (w : World) (hA : NumAt w an n) :
  Calls Try.prog 70 #[.slice an (dl n) cn, .int .i64 (size : Int)] w fun e w' => e = .returned (.string (textS n size)) ∧ Below w.heap.size w w' := by
 obtain ⟨i0, hi, hz0, hz1, hz2⟩ := info_parts infoByte
 have HA := Lib.hid hA
 clear hA
 go_enter Try.func70, Try.ntmps70
 go_wp2_with (at_make; refine wpList_make_full _ rfl _ _ 189 rfl 0 5 i0 (.int .u8 0) 1 Try.underlying189 hi hz0 hz1 _ _ _ _ size rfl rfl ?c1 ?c2 ?c3 ?c4 ?c5 ?_)
 case c1 => rfl
 case c2 => rfl
 case c3 => rw [hz2]; omega
 case c4 => unfold maxLen; omega
 case c5 => omega
 intro w1 hown hgrow
 have HB1 : Hid (Below w.heap.size w w1) := (Below.refl _ _).grown hgrow (Nat.le_refl _) (by simp)
 have HO1 : Hid (w1.ownsRow 0 5 1 (.slice (some ⟨w.heap.size, 0, none⟩) size size) size ((textL n size 0).map (Value.int .u8))) := by
  have h := hown
  show World.ownsRow _ _ _ _ _ _ _
  rw [textL_zero]
  rw [bytes_made] at h
  exact h
 clear hown hgrow hi hz0 hz1 hz2
 go_wp2_with fail
 go_loopw [6, 7] (fun x _ wr => ∃ k : Nat, k ≤ size ∧ x = .int .i64 k ∧ Hid (wr.ownsRow 0 5 1 (.slice (some ⟨w.heap.size, 0, none⟩) size size) size ((textL n size k).map (Value.int .u8))) ∧ Hid (Below w.heap.size w wr)) (fun x _ _ => size - (intOf x).toNat)
 case atStart => exact ⟨0, Nat.zero_le _, rfl, HO1.out, HB1.out⟩
 case round =>
  clear HO1 HB1
  obtain ⟨k, hk, rfl, HO, HN⟩ := hrel
  by_cases hkl : k < size
  ·have hlen : size - 1 - k < ((textL n size k).map (Value.int .u8)).length := by simp [textL_length]; omega
   have hc := HO.out.cellAt (size - 1 - k) (by omega)
   rw [List.getElem?_eq_getElem hlen] at hc
   have hf := HO.out.frozenAt (size - 1 - k)
   generalize ((textL n size k).map (Value.int .u8))[size - 1 - k] = old at hc
   have hidx : (size : Int) - 1 - (k : Int) = ((size - 1 - k : Nat) : Int) := by omega
   clear hlen
   have hk2 : (k : Int) / 2 = ((k / 2 : Nat) : Int) := by omega
   by_cases hd : k / 2 < dl n
   ·obtain ⟨b1, o1, rfl, hb1, hcell1⟩ := HA.out.all (by omega)
    have hx1 : wr.cell? ⟨b1, o1 + k / 2, none⟩ = some (.int .i64 (dg DD n (k / 2) : Int)) := by rw [HN.out.cell (p := ⟨b1, o1 + k / 2, none⟩) hb1]; exact hcell1 _ hd
    have hdb : dg DD n (k / 2) < 65536 := dg_lt (B := DD) (by decide) n _
    have hby := byte_dg n k
    clear hcell1 hk2
    generalize dg DD n (k / 2) = d at *
    have hk1 : k % 2 = 0 ∨ k % 2 = 1 := by omega
    rcases hk1 with hk1 | hk1
    ·have hodd : ((k : Int) % 2 == 1) = false := by simp; omega
     have hbyte : (d : Int) % 256 = (byteAt n k : Int) := by rw [hby, hk1]; simp
     have HK1 := Lib.hid hk1
     clear hby hk1
     have hst := (HO.out.stored (size - 1 - k) (.int .u8 (byteAt n k : Int))).1
     rw [← List.map_set, textL_set _ _ _ hkl] at hst
     have HS := Lib.hid hst
     have HSB := Lib.hid (HN.out.setCell (p := ⟨w.heap.size, size - 1 - k, none⟩) (Nat.le_refl _) (.int .u8 (byteAt n k : Int)))
     clear hst
     go_wp2_with fail
     go_roundw
     case rel => exact ⟨k + 1, by omega, by go_num, HS.out, HSB.out⟩
     case measure => simp [intOf]; omega
    ·have hodd : ((k : Int) % 2 == 1) = true := by simp; omega
     have hbyte : (d : Int) / 256 % 256 = (byteAt n k : Int) := by rw [hby, hk1]; simp
     have HK1 := Lib.hid hk1
     clear hby hk1
     have hst := (HO.out.stored (size - 1 - k) (.int .u8 (byteAt n k : Int))).1
     rw [← List.map_set, textL_set _ _ _ hkl] at hst
     have HS := Lib.hid hst
     have HSB := Lib.hid (HN.out.setCell (p := ⟨w.heap.size, size - 1 - k, none⟩) (Nat.le_refl _) (.int .u8 (byteAt n k : Int)))
     clear hst
     go_wp2_with fail
     go_roundw
     case rel => exact ⟨k + 1, by omega, by go_num, HS.out, HSB.out⟩
     case measure => simp [intOf]; omega
   ·have h0 := byteAt_nought n k (by omega)
    have HSK := Lib.hid (textL_skip n size k h0)
    clear h0 hk2
    go_wp2_with fail
    go_roundw
    case rel => exact ⟨k + 1, by omega, by go_num, by rw [← HSK.out]; exact HO.out, HN.out⟩
    case measure => simp [intOf]; omega
  ·have hks : k = size := by omega
   subst hks
   have hcv := run_convert_bytes_arg (P := Try.prog) wr 189 5 Try.underlying189 Try.underlying5 w.heap.size 0 k k (textL n k k) (textL_length _ _ _) (fun i hi => by
    have h := HO.out.cellAt i (by omega)
    rw [Nat.zero_add, h, List.getElem?_map, List.getElem?_eq_getElem (by rw [textL_length]; exact hi)]
    simp [List.getD, List.getElem?_eq_getElem (show i < (textL n k k).length by rw [textL_length]; exact hi)]) 9 Try.underlying9
   go_wp2_with fail
   go_ret
   exact ⟨rfl, HN.out⟩
end Go.Proofs.Ytipgjookfdkciaa
namespace Go.Proofs.Ytipgjookfdkciaa
open Go.RowKit
end Go.Proofs.Ytipgjookfdkciaa
namespace Go.Proofs.Ytipgjookfdkciaa
open Go.RowKit
end Go.Proofs.Ytipgjookfdkciaa
namespace Go.Proofs.Ytipgjookfdkciaa
open Go.RowKit
theorem refCompare_len (a b : Nat) (aa ab : Option Addr) (ca cb : Nat) (h : dl a ≠ dl b) (w : World) :
  Calls Try.prog 140 #[.slice aa (dl a) ca, .slice ab (dl b) cb] w fun e w' => e = .returned (.int .i64 (cmpI a b)) ∧ Below w.heap.size w w' := by
 rcases Nat.lt_or_ge (dl a) (dl b) with h1 | h1
 ·have HC : Hid (cmpI a b = -1) := by show _ = _; unfold cmpI; rw [if_pos (lt_of_dl a b h1)]
  have hne : ((dl a : Int) != (dl b : Int)) = true := by simp; omega
  clear h
  go_enter Try.func140, Try.ntmps140
  go_wp2_with fail
  go_ret
  exact ⟨ret_int HC.out.symm, Below.refl _ _⟩
 ·have h2 : dl b < dl a := by omega
  have h3 := lt_of_dl b a h2
  have HC : Hid (cmpI a b = 1) := by show _ = _; unfold cmpI; rw [if_neg (by omega), if_pos h3]
  have hne : ((dl a : Int) != (dl b : Int)) = true := by simp; omega
  have h4 : ¬ dl a < dl b := by omega
  clear h h1 h3
  go_enter Try.func140, Try.ntmps140
  go_wp2_with fail
  go_ret
  exact ⟨ret_int HC.out.symm, Below.refl _ _⟩
theorem refCompare_same (a b : Nat) (aa ab : Option Addr) (ca cb L : Nat) (ha : dl a = L) (hb : dl b = L) (hL : L ≤ 1048576) (w : World) (hA : NumAt w aa a) (hB : NumAt w ab b) :
  Calls Try.prog 140 #[.slice aa L ca, .slice ab L cb] w fun e w' => e = .returned (.int .i64 (cmpI a b)) ∧ Below w.heap.size w w' := by
 have HDA := Lib.hid ha
 have HDB := Lib.hid hb
 have HA := Lib.hid hA
 have HB := Lib.hid hB
 clear ha hb hA hB
 have hne : ((L : Int) != (L : Int)) = false := by simp
 go_enter Try.func140, Try.ntmps140
 go_wp2_with fail
 go_loopw [5] (fun x wr => ∃ j : Nat, j ≤ L ∧ x = .int .i64 ((j : Int) - 1) ∧ Hid (a / DD ^ j = b / DD ^ j) ∧ Hid (Below w.heap.size w wr)) (fun x _ => (intOf x + 1).toNat)
 case atStart => exact ⟨L, Nat.le_refl _, rfl, by
  show _ = _
  have h1 := lt_dl a
  have h2 := lt_dl b
  rw [HDA.out] at h1
  rw [HDB.out] at h2
  rw [Nat.div_eq_of_lt h1, Nat.div_eq_of_lt h2], Below.refl _ _⟩
 case round =>
  obtain ⟨j, hj, hi, HE, HN⟩ := hrel
  rcases Nat.eq_zero_or_pos j with rfl | hjp
  ·subst hi
   go_wp2_with fail
   go_ret
   have h := HE.out
   rw [Nat.pow_zero, Nat.div_one, Nat.div_one] at h
   exact ⟨ret_int (by unfold cmpI; rw [if_neg (by omega), if_neg (by omega)]), HN.out⟩
  ·obtain ⟨p, rfl⟩ : ∃ p, j = p + 1 := ⟨j - 1, by omega⟩
   have ei : ((p + 1 : Nat) : Int) - 1 = (p : Int) := by omega
   rw [ei] at hi
   subst hi
   clear ei hjp
   obtain ⟨b1, o1, rfl, hb1, hcell1⟩ := HA.out.all (by rw [HDA.out]; omega)
   obtain ⟨b2, o2, rfl, hb2, hcell2⟩ := HB.out.all (by rw [HDB.out]; omega)
   have hx1 : wr.cell? ⟨b1, o1 + p, none⟩ = some (.int .i64 (dg DD a p : Int)) := by rw [HN.out.cell (p := ⟨b1, o1 + p, none⟩) hb1]; exact hcell1 _ (by rw [HDA.out]; omega)
   have hx2 : wr.cell? ⟨b2, o2 + p, none⟩ = some (.int .i64 (dg DD b p : Int)) := by rw [HN.out.cell (p := ⟨b2, o2 + p, none⟩) hb2]; exact hcell2 _ (by rw [HDB.out]; omega)
   clear hcell1 hcell2
   rcases Nat.lt_trichotomy (dg DD a p) (dg DD b p) with hd | hd | hd
   ·have hcmp : Hid (a < b) := lt_of_dg a b p HE.out hd
    have hd1 : ((dg DD a p : Int) != (dg DD b p : Int)) = true := by simp; omega
    go_wp2_with fail
    go_quiet (fail)
    go_wp2_with fail
    go_quiet (fail)
    go_wp2_with fail
    go_ret
    exact ⟨ret_int (by unfold cmpI; rw [if_pos hcmp.out]), by first | exact below_drewN (below_drewN HN.out _) _ | exact below_drewN HN.out _⟩
   ·have HE2 := Lib.hid (same_of_dg a b p HE.out hd)
    have hd1 : ((dg DD a p : Int) != (dg DD b p : Int)) = false := by simp; omega
    have hd2 : ¬ dg DD a p < dg DD b p := by omega
    have hd3 : ¬ dg DD b p < dg DD a p := by omega
    clear hd
    go_wp2_with fail
    go_quiet (fail)
    go_wp2_with fail
    go_roundw
    case rel => exact ⟨p, by omega, rfl, HE2.out, below_drewN HN.out _⟩
    case measure => first | (simp [intOf]; done) | (simp [intOf]; omega)
   ·have hcmp : Hid (b < a) := lt_of_dg b a p HE.out.symm hd
    have hd1 : ((dg DD a p : Int) != (dg DD b p : Int)) = true := by simp; omega
    have hd2 : ¬ dg DD a p < dg DD b p := by omega
    go_wp2_with fail
    go_quiet (fail)
    go_wp2_with fail
    go_quiet (fail)
    go_wp2_with fail
    go_ret
    exact ⟨ret_int (by have := hcmp.out; unfold cmpI; rw [if_neg (by omega), if_pos this]), by first | exact below_drewN (below_drewN HN.out _) _ | exact below_drewN HN.out _⟩
theorem refCompare_any (a b : Nat) (aa ab : Option Addr) (ca cb : Nat) (hla : dl a ≤ 1048576) (w : World) (hA : NumAt w aa a) (hB : NumAt w ab b) :
  Calls Try.prog 140 #[.slice aa (dl a) ca, .slice ab (dl b) cb] w fun e w' => e = .returned (.int .i64 (cmpI a b)) ∧ Below w.heap.size w w' := by
 by_cases h : dl a = dl b
 ·have h1 := refCompare_same a b aa ab ca cb (dl a) rfl h.symm hla w hA hB
  rw [← h]
  exact h1
 ·exact refCompare_len a b aa ab ca cb h w
theorem refRead_any (s : ByteArray) (hs : s.size ≤ 1048576) (w : World) :
  Calls Try.prog 69 #[.string s] w fun e w' => NumR w e w' (numOf s) := by
 obtain ⟨i0, hi, hz0, hz1, hz2⟩ := info_parts infoInt3
 obtain ⟨K, hK⟩ : ∃ K, (s.size + 1) / 2 = K := ⟨_, rfl⟩
 have hK1 : ((s.size : Int) + 1) / 2 = (K : Int) := by omega
 go_enter Try.func69, Try.ntmps69
 go_wp2_with (at_make; refine wpList_make_full _ rfl _ _ 96 rfl 0 3 i0 (.int .i64 0) 1 Try.underlying96 hi hz0 hz1 _ _ _ _ K rfl rfl ?c1 ?c2 ?c3 ?c4 ?c5 ?_)
 case c1 => exact hK1
 case c2 => exact hK1
 case c3 => rw [hz2]; omega
 case c4 => unfold maxLen; omega
 case c5 => omega
 intro w1 hown hgrow
 have e0 : digsTo 0 K = digsTo (numTo s 0) K := by rw [numTo_zero]
 rw [zeros_made, e0] at hown
 have HO1 := Lib.hid hown
 have HB1 : Hid (Below w.heap.size w w1) := (Below.refl _ _).grown hgrow (Nat.le_refl _) (by simp)
 have HK := Lib.hid hK
 have hKs : K ≤ 1048576 := by omega
 clear hown hgrow hi hz0 hz1 hz2 e0 hK hK1
 go_wp2_with fail
 go_loopw [4, 5] (fun x _ wr => ∃ k : Nat, k ≤ s.size ∧ x = .int .i64 k ∧ Hid (wr.ownsRow 0 3 1 (.slice (some ⟨w.heap.size, 0, none⟩) K K) K ((digsTo (numTo s k) K).map dV)) ∧ Hid (Below w.heap.size w wr)) (fun x _ _ => s.size - (intOf x).toNat)
 case atStart => exact ⟨0, Nat.zero_le _, rfl, HO1.out, HB1.out⟩
 case round =>
  clear HO1 HB1
  obtain ⟨k, hk, rfl, HO, HN⟩ := hrel
  by_cases hkl : k < s.size
  ·have hkK : k / 2 < K := by have := HK.out; omega
   have hx := HO.out.cellAt (k / 2) (by omega)
   have hxv : ((digsTo (numTo s k) K).map dV)[k / 2]? = some (.int .i64 (dg DD (numTo s k) (k / 2) : Int)) := by simp [digsTo, hkK, dV]
   rw [hxv] at hx
   have hf := HO.out.frozenAt (k / 2)
   have hidx : (s.size : Int) - 1 - (k : Int) = ((s.size - 1 - k : Nat) : Int) := by omega
   have hlt : s.size - 1 - k < s.size := by omega
   have hc256 := (s[s.size - 1 - k]'hlt).toNat_lt
   have hdlt : dg DD (numTo s k) (k / 2) < 65536 := dg_lt (B := DD) (by decide) _ _
   have HNS := Lib.hid (numTo_succ s k hkl)
   clear hxv
   generalize hcc : (s[s.size - 1 - k]'hlt).toNat = c at *
   have hk1 : k % 2 = 0 ∨ k % 2 = 1 := by omega
   rcases hk1 with hk1 | hk1
   ·have hodd : ((k : Int) % 2 == 1) = false := by simp; omega
    have HK1 := Lib.hid hk1
    clear hk1
    have hput := digsTo_put (numTo s k) c k K (numTo_lt s k hk) hc256
    rw [← HNS.out, HK1.out, Nat.pow_zero, Nat.mul_one] at hput
    have hst := (HO.out.stored (k / 2) (.int .i64 ((dg DD (numTo s k) (k / 2) : Int) + (c : Int)))).1
    rw [show (Value.int .i64 ((dg DD (numTo s k) (k / 2) : Int) + (c : Int))) = dV (dg DD (numTo s k) (k / 2) + c) from by unfold dV; congr 1, ← List.map_set, hput] at hst
    have HS := Lib.hid hst
    have HSB := Lib.hid (HN.out.setCell (p := ⟨w.heap.size, k / 2, none⟩) (Nat.le_refl _) (.int .i64 ((dg DD (numTo s k) (k / 2) : Int) + (c : Int))))
    clear hst hput
    go_wp2_with fail
    go_roundw
    case rel => exact ⟨k + 1, by omega, by go_num, HS.out, HSB.out⟩
    case measure => simp [intOf]; omega
   ·have hodd : ((k : Int) % 2 == 1) = true := by simp; omega
    have HK1 := Lib.hid hk1
    clear hk1
    have hput := digsTo_put (numTo s k) c k K (numTo_lt s k hk) hc256
    rw [← HNS.out, HK1.out, Nat.pow_one] at hput
    have hst := (HO.out.stored (k / 2) (.int .i64 ((dg DD (numTo s k) (k / 2) : Int) + (c : Int) * 256))).1
    rw [show (Value.int .i64 ((dg DD (numTo s k) (k / 2) : Int) + (c : Int) * 256)) = dV (dg DD (numTo s k) (k / 2) + c * 256) from by unfold dV; congr 1, ← List.map_set, hput] at hst
    have HS := Lib.hid hst
    have HSB := Lib.hid (HN.out.setCell (p := ⟨w.heap.size, k / 2, none⟩) (Nat.le_refl _) (.int .i64 ((dg DD (numTo s k) (k / 2) : Int) + (c : Int) * 256)))
    clear hst hput
    go_wp2_with fail
    go_roundw
    case rel => exact ⟨k + 1, by omega, by go_num, HS.out, HSB.out⟩
    case measure => simp [intOf]; omega
  ·have hks : k = s.size := by omega
   subst hks
   rw [numTo_all] at HO
   have hlt : numOf s < DD ^ K := by
    have h := numL_lt s.data.toList
    have e : s.data.toList.length = s.size := rfl
    rw [e] at h
    refine Nat.lt_of_lt_of_le h ?_
    show 256 ^ s.size ≤ (256 ^ 2) ^ K
    rw [← Nat.pow_mul]
    exact Nat.pow_le_pow_right (by omega) (by have := HK.out; omega)
   have HLT := Lib.hid hlt
   clear hlt
   go_wp2_with fail
   refine (trim_own HO.out HLT.out (by omega)).mono ?_
   rintro e w' ⟨a', cap', rfl, hN, _, rfl⟩
   have HNN := Lib.hid hN
   clear hN
   go_wp2_with fail
   go_ret
   exact ⟨a', cap', rfl, HNN.out, HN.out⟩
end Go.Proofs.Ytipgjookfdkciaa
namespace Go.Proofs.Ytipgjookfdkciaa
open Go.RowKit
def rowZ (n i K : Nat) : List Nat := (List.range K).map fun p => if p < i then dg DD n p else 0
theorem rowZ_zero (n K : Nat) : rowZ n 0 K = digsTo 0 K := by
 unfold rowZ digsTo
 refine List.map_congr_left fun p _ => ?_
 simp [dg]
theorem rowZ_at (n i K : Nat) (h : i < K) : ((rowZ n i K).map dV)[i]? = some (.int .i64 0) := by
 simp [rowZ, h, dV]
theorem rowZ_set (n i K : Nat) : ((rowZ n i K).map dV).set i (.int .i64 (dg DD n i : Int)) = (rowZ n (i + 1) K).map dV := by
 rw [show (Value.int .i64 (dg DD n i : Int)) = dV (dg DD n i) from rfl, ← List.map_set]
 congr 1
 refine List.ext_getElem (by simp [rowZ]) (fun p h1 h2 => ?_)
 rw [List.getElem_set]
 simp only [rowZ, List.getElem_map, List.getElem_range]
 by_cases h : i = p
 ·subst h; rw [if_pos rfl, if_pos (by omega)]
 ·rw [if_neg h]
  by_cases h3 : p < i
  ·rw [if_pos h3, if_pos (by omega)]
  ·rw [if_neg h3, if_neg (by omega)]
theorem rowZ_end (n K : Nat) : rowZ n K K = digsTo n K := by
 unfold rowZ digsTo
 refine List.map_congr_left fun p hp => ?_
 rw [if_pos (by simpa using hp)]
theorem take_digit (r s n i : Nat) : (dg DD (r + n * s) i : Int) - (mcB DD r s n i : Int) - (n : Int) * (dg DD s i : Int) = (dg DD r i : Int) - 65536 * (mcB DD r s n (i + 1) : Int) := by
 have h1 := mcB_dig (B := DD) (by decide) r s n i
 have h2 := mcB_succ (B := DD) (by decide) r s n i
 have h3 := Nat.div_add_mod (dg DD r i + n * dg DD s i + mcB DD r s n i) DD
 rw [h1, h2] at h3
 have h4 : (n : Int) * (dg DD s i : Int) = ((n * dg DD s i : Nat) : Int) := by simp
 rw [h4]
 have h5 : 65536 * mcB DD r s n (i + 1) + dg DD (r + n * s) i = dg DD r i + n * dg DD s i + mcB DD r s n i := h3
 omega
theorem refTake_any (a b n k R : Nat) (aa ab : Option Addr) (ca cb : Nat) (hla : dl a ≤ 1048576) (hlb : dl b ≤ 1048576) (hn : n ≤ 1099511627776) (hk : k ≤ 1048576) (hR : a = R + n * (b * DD ^ k)) (w : World) (hA : NumAt w aa a) (hB : NumAt w ab b) :
  Calls Try.prog 183 #[.slice aa (dl a) ca, .slice ab (dl b) cb, .int .i64 (n : Int), .int .i64 (k : Int)] w fun e w' => NumR w e w' R := by
 obtain ⟨i0, hi, hz0, hz1, hz2⟩ := info_parts infoInt3
 have HA := Lib.hid hA
 have HB := Lib.hid hB
 have HR := Lib.hid hR
 clear hA hB hR
 go_enter Try.func183, Try.ntmps183
 go_wp2_with (at_make; refine wpList_make_full _ rfl _ _ 96 rfl 0 3 i0 (.int .i64 0) 1 Try.underlying96 hi hz0 hz1 _ _ _ _ (dl a) rfl rfl ?c1 ?c2 ?c3 ?c4 ?c5 ?_)
 case c1 => rfl
 case c2 => rfl
 case c3 => rw [hz2]; omega
 case c4 => unfold maxLen; omega
 case c5 => omega
 intro w1 hown hgrow
 rw [zeros_made, ← rowZ_zero R] at hown
 have HO1 := Lib.hid hown
 have HB1 : Hid (Below w.heap.size w w1) := (Below.refl _ _).grown hgrow (Nat.le_refl _) (by simp)
 clear hown hgrow hi hz0 hz1 hz2
 go_wp2_with fail
 go_loopw [10, 11, 12] (fun c x _ wr => ∃ i : Nat, i ≤ dl a ∧ x = .int .i64 i ∧ c = .int .i64 (mcB DD R (b * DD ^ k) n i : Nat) ∧ Hid (wr.ownsRow 0 3 1 (.slice (some ⟨w.heap.size, 0, none⟩) (dl a) (dl a)) (dl a) ((rowZ R i (dl a)).map dV)) ∧ Hid (Below w.heap.size w wr)) (fun _ x _ _ => dl a - (intOf x).toNat)
 case atStart => exact ⟨0, Nat.zero_le _, rfl, by rw [mcB_zero]; rfl, HO1.out, HB1.out⟩
 case round =>
  clear HO1 HB1
  obtain ⟨i, hi, rfl, rfl, HO, HN⟩ := hrel
  by_cases hil : i < dl a
  ·obtain ⟨b1, o1, rfl, hb1, hcell1⟩ := HA.out.all (by omega)
   have hx1 : wr.cell? ⟨b1, o1 + i, none⟩ = some (.int .i64 (dg DD a i : Int)) := by rw [HN.out.cell (p := ⟨b1, o1 + i, none⟩) hb1]; exact hcell1 _ hil
   have hda : dg DD a i < 65536 := dg_lt (B := DD) (by decide) _ _
   have hdr : dg DD R i < 65536 := dg_lt (B := DD) (by decide) _ _
   have hc1 := mcB_le (B := DD) (by decide) R (b * DD ^ k) n i
   have hc2 := mcB_le (B := DD) (by decide) R (b * DD ^ k) n (i + 1)
   have htd := take_digit R (b * DD ^ k) n i
   rw [← HR.out] at htd
   have hx3 := HO.out.cellAt i (by omega)
   rw [rowZ_at R i (dl a) hil] at hx3
   have hf3 := HO.out.frozenAt i
   generalize mcB DD R (b * DD ^ k) n i = c at *
   generalize hcc : mcB DD R (b * DD ^ k) n (i + 1) = c2 at *
   have HC2 : Hid (mcB DD R (b * DD ^ k) n (i + 1) = c2) := hcc
   clear hcell1 hcc
   by_cases hik : k ≤ i ∧ i - k < dl b
   ·obtain ⟨hik1, hik2⟩ := hik
    obtain ⟨b2, o2, rfl, hb2, hcell2⟩ := HB.out.all (by omega)
    have hx2 : wr.cell? ⟨b2, o2 + (i - k), none⟩ = some (.int .i64 (dg DD b (i - k) : Int)) := by rw [HN.out.cell (p := ⟨b2, o2 + (i - k), none⟩) hb2]; exact hcell2 _ hik2
    have hdb : dg DD b (i - k) < 65536 := dg_lt (B := DD) (by decide) _ _
    have hsh := dg_shift b k (i - k)
    rw [show k + (i - k) = i by omega] at hsh
    rw [hsh] at htd
    have hidx : (i : Int) - (k : Int) = ((i - k : Nat) : Int) := by omega
    clear hcell2 hsh
    generalize dg DD b (i - k) = db at *
    generalize hda' : dg DD a i = da at *
    have hprod : n * db ≤ 1099511627776 * 65535 := Nat.mul_le_mul hn (by omega)
    have hpi : (n : Int) * (db : Int) = ((n * db : Nat) : Int) := by simp
    rw [hpi] at htd
    generalize hpr : n * db = pr at *
    have HDA := Lib.hid hda'
    have HPR := Lib.hid hpr
    clear hda' hpr
    have hkI : (k : Int) ≤ (i : Int) := by omega
    have hst := (HO.out.stored i (.int .i64 (dg DD R i : Int))).1
    rw [rowZ_set] at hst
    have HS := Lib.hid hst
    have HSB := Lib.hid (HN.out.setCell (p := ⟨w.heap.size, i, none⟩) (Nat.le_refl _) (.int .i64 (dg DD R i : Int)))
    clear hst
    obtain ⟨d, hd⟩ : ∃ d : Int, (da : Int) - (c : Int) - (pr : Int) = d := ⟨_, rfl⟩
    rw [hd] at htd
    have hdlo : -72057594037927936 ≤ d := by omega
    have hdhi : d ≤ 65535 := by omega
    by_cases hneg : 0 < c2
    ·have hd2 : d < 0 := by omega
     have hdn : (65535 - d) / 65536 = (c2 : Int) := by omega
     have hds : d + (c2 : Int) * 65536 = (dg DD R i : Int) := by omega
     have HTD := Lib.hid htd
     clear htd
     go_wp2_with fail
     go_roundw
     case rel => exact ⟨i + 1, by omega, by go_num, by first | rw [hdn, HC2.out] | rw [HC2.out], HS.out, HSB.out⟩
     case measure => simp [intOf]; omega
    ·have hc0 : c2 = 0 := by omega
     have hd2 : ¬ d < 0 := by omega
     have hds : d = (dg DD R i : Int) := by omega
     have HC0 := Lib.hid hc0
     have HDS := Lib.hid hds
     have HTD := Lib.hid htd
     rw [← hds] at HS HSB
     clear hc0 hds htd
     go_wp2_with fail
     go_roundw
     case rel => exact ⟨i + 1, by omega, by go_num, by rw [HC2.out, HC0.out]; rfl, HS.out, HSB.out⟩
     case measure => simp [intOf]; omega
   ·have h0 : dg DD (b * DD ^ k) i = 0 := by
     rcases Nat.lt_or_ge i k with h | h
     ·unfold dg
      have e : DD ^ k = DD ^ i * (DD * DD ^ (k - i - 1)) := by rw [← Nat.pow_succ', ← Nat.pow_add]; congr 1; omega
      rw [e, Nat.mul_left_comm, Nat.mul_div_cancel_left _ (Nat.pow_pos (by decide)), Nat.mul_left_comm, Nat.mul_mod_right]
     ·have hsh := dg_shift b k (i - k)
      rw [show k + (i - k) = i by omega] at hsh
      rw [hsh]
      exact dg_nought b _ (by omega)
    rw [h0] at htd
    have htd2 : (dg DD a i : Int) - (c : Int) = (dg DD R i : Int) - 65536 * (c2 : Int) := by simpa using htd
    clear h0 htd
    have htd := htd2
    clear htd2
    generalize hda' : dg DD a i = da at *
    have HDA := Lib.hid hda'
    clear hda'
    by_cases hik1 : k ≤ i
    ·have hik2 : ¬ i - k < dl b := fun h => hik ⟨hik1, h⟩
     have hidx : (i : Int) - (k : Int) = ((i - k : Nat) : Int) := by omega
     clear hik
     have hst := (HO.out.stored i (.int .i64 (dg DD R i : Int))).1
     rw [rowZ_set] at hst
     have HS := Lib.hid hst
     have HSB := Lib.hid (HN.out.setCell (p := ⟨w.heap.size, i, none⟩) (Nat.le_refl _) (.int .i64 (dg DD R i : Int)))
     clear hst
     obtain ⟨d, hd⟩ : ∃ d : Int, (da : Int) - (c : Int) = d := ⟨_, rfl⟩
     rw [hd] at htd
     have hdlo : -72057594037927936 ≤ d := by omega
     have hdhi : d ≤ 65535 := by omega
     by_cases hneg : 0 < c2
     ·have hd2 : d < 0 := by omega
      have hdn : (65535 - d) / 65536 = (c2 : Int) := by omega
      have hds : d + (c2 : Int) * 65536 = (dg DD R i : Int) := by omega
      have HTD := Lib.hid htd
      clear htd
      go_wp2_with fail
      go_roundw
      case rel => exact ⟨i + 1, by omega, by go_num, by first | rw [hdn, HC2.out] | rw [HC2.out], HS.out, HSB.out⟩
      case measure => simp [intOf]; omega
     ·have hc0 : c2 = 0 := by omega
      have hd2 : ¬ d < 0 := by omega
      have hds : d = (dg DD R i : Int) := by omega
      have HC0 := Lib.hid hc0
      have HDS := Lib.hid hds
      have HTD := Lib.hid htd
      rw [← hds] at HS HSB
      clear hc0 hds htd
      go_wp2_with fail
      go_roundw
      case rel => exact ⟨i + 1, by omega, by go_num, by rw [HC2.out, HC0.out]; rfl, HS.out, HSB.out⟩
      case measure => simp [intOf]; omega
    ·clear hik
     have hst := (HO.out.stored i (.int .i64 (dg DD R i : Int))).1
     rw [rowZ_set] at hst
     have HS := Lib.hid hst
     have HSB := Lib.hid (HN.out.setCell (p := ⟨w.heap.size, i, none⟩) (Nat.le_refl _) (.int .i64 (dg DD R i : Int)))
     clear hst
     obtain ⟨d, hd⟩ : ∃ d : Int, (da : Int) - (c : Int) = d := ⟨_, rfl⟩
     rw [hd] at htd
     have hdlo : -72057594037927936 ≤ d := by omega
     have hdhi : d ≤ 65535 := by omega
     by_cases hneg : 0 < c2
     ·have hd2 : d < 0 := by omega
      have hdn : (65535 - d) / 65536 = (c2 : Int) := by omega
      have hds : d + (c2 : Int) * 65536 = (dg DD R i : Int) := by omega
      have HTD := Lib.hid htd
      clear htd
      go_wp2_with fail
      go_roundw
      case rel => exact ⟨i + 1, by omega, by go_num, by first | rw [hdn, HC2.out] | rw [HC2.out], HS.out, HSB.out⟩
      case measure => simp [intOf]; omega
     ·have hc0 : c2 = 0 := by omega
      have hd2 : ¬ d < 0 := by omega
      have hds : d = (dg DD R i : Int) := by omega
      have HC0 := Lib.hid hc0
      have HDS := Lib.hid hds
      have HTD := Lib.hid htd
      rw [← hds] at HS HSB
      clear hc0 hds htd
      go_wp2_with fail
      go_roundw
      case rel => exact ⟨i + 1, by omega, by go_num, by rw [HC2.out, HC0.out]; rfl, HS.out, HSB.out⟩
      case measure => simp [intOf]; omega
  ·have hia : i = dl a := by omega
   subst hia
   rw [rowZ_end] at HO
   have hlt : R < DD ^ dl a := Nat.lt_of_le_of_lt (by have := HR.out; omega) (lt_dl a)
   have HLT := Lib.hid hlt
   clear hlt
   go_wp2_with fail
   refine (trim_own HO.out HLT.out (by omega)).mono ?_
   rintro e w' ⟨a', cap', rfl, hN, _, rfl⟩
   have HNN := Lib.hid hN
   clear hN
   go_wp2_with fail
   go_ret
   exact ⟨a', cap', rfl, HNN.out, HN.out⟩
end Go.Proofs.Ytipgjookfdkciaa
namespace Go.Proofs.Ytipgjookfdkciaa
open Go.RowKit
theorem top_div (n : Nat) (h : n ≠ 0) : n / DD ^ (dl n - 1) = dg DD n (dl n - 1) := by
 have h2 := lt_dl n
 have hp := dl_pos n h
 have e : DD ^ dl n = DD ^ (dl n - 1) * DD := by rw [← Nat.pow_succ]; congr 1; omega
 unfold dg
 rw [Nat.mod_eq_of_lt (Nat.div_lt_of_lt_mul (by rw [← e]; exact h2))]
theorem top_lt (m : Nat) (h : m ≠ 0) : m < (dg DD m (dl m - 1) + 1) * DD ^ (dl m - 1) := by
 have h1 := top_div m h
 have h2 := Nat.div_add_mod m (DD ^ (dl m - 1))
 have h3 := Nat.mod_lt m (Nat.pow_pos (n := dl m - 1) (show 0 < DD by decide))
 rw [h1] at h2
 rw [Nat.add_mul, Nat.one_mul, Nat.mul_comm (dg DD m (dl m - 1))]
 omega
theorem quo_step (A m x q e : Nat) (hm : m ≠ 0) (hx : x * DD ^ e ≤ A) (hq : q = x / (dg DD m (dl m - 1) + 1)) (he : dl m - 1 ≤ e) : q * (m * DD ^ (e - (dl m - 1))) ≤ A := by
 have h1 := top_lt m hm
 have h2 : q * (dg DD m (dl m - 1) + 1) ≤ x := by rw [hq]; exact Nat.div_mul_le_self _ _
 have h3 : DD ^ e = DD ^ (dl m - 1) * DD ^ (e - (dl m - 1)) := by rw [← Nat.pow_add]; congr 1; omega
 generalize dg DD m (dl m - 1) + 1 = t at *
 generalize DD ^ (dl m - 1) = P at *
 generalize DD ^ (e - (dl m - 1)) = S at *
 calc q * (m * S) ≤ q * (t * P * S) := Nat.mul_le_mul_left _ (Nat.mul_le_mul_right _ (Nat.le_of_lt h1))
  _ = q * t * (P * S) := by rw [Nat.mul_assoc t, Nat.mul_assoc q]
  _ ≤ x * (P * S) := Nat.mul_le_mul_right _ h2
  _ = x * DD ^ e := by rw [h3]
  _ ≤ A := hx
theorem mod_one (A m : Nat) (hA : A ≠ 0) (hm : m ≠ 0) (hle : dl m ≤ dl A) : dg DD A (dl A - 1) / (dg DD m (dl m - 1) + 1) * (m * DD ^ (dl A - dl m)) ≤ A := by
 have h := quo_step A m (dg DD A (dl A - 1)) _ (dl A - 1) hm (by rw [← top_div A hA]; exact Nat.div_mul_le_self _ _) rfl (by omega)
 have := dl_pos m hm
 rwa [show dl A - 1 - (dl m - 1) = dl A - dl m by omega] at h
theorem mod_two (A m : Nat) (hA : A ≠ 0) (hm : m ≠ 0) (hle : dl m < dl A) : (dg DD A (dl A - 1) * DD + dg DD A (dl A - 2)) / (dg DD m (dl m - 1) + 1) * (m * DD ^ (dl A - dl m - 1)) ≤ A := by
 have hp := dl_pos m hm
 have h2 := dg_div (B := DD) A (dl A - 2)
 rw [show dl A - 2 + 1 = dl A - 1 by omega, top_div A hA, Nat.mul_comm] at h2
 have h := quo_step A m (dg DD A (dl A - 1) * DD + dg DD A (dl A - 2)) _ (dl A - 2) hm (by rw [← h2]; exact Nat.div_mul_le_self _ _) rfl (by omega)
 rwa [show dl A - 2 - (dl m - 1) = dl A - dl m - 1 by omega] at h
theorem take_mod (A m n s : Nat) (h : n * (m * s) ≤ A) : (A - n * (m * s)) % m = A % m := by
 have e : A = (A - n * (m * s)) + m * (n * s) := by rw [show m * (n * s) = n * (m * s) by rw [Nat.mul_left_comm]]; omega
 rw [← Nat.add_mul_mod_self_left (A - n * (m * s)) m (n * s), ← e]
theorem refMod_any (a m : Nat) (aa am : Option Addr) (ca cm : Nat) (hla : dl a ≤ 1048576) (hm0 : 0 < m) (w : World) (hA : NumAt w aa a) (hM : NumAt w am m) :
  Calls Try.prog 143 #[.slice aa (dl a) ca, .slice am (dl m) cm] w fun e w' => NumR w e w' (a % m) := by
 have HA := Lib.hid hA
 have HMM := Lib.hid hM
 clear hA hM
 go_enter Try.func143, Try.ntmps143
 go_wp2_with fail
 go_loopg [0, 5, 6] a (fun g v _ _ wr => ∃ (A : Nat) (a1 : Option Addr) (c1 : Nat), g = A ∧ v = .slice a1 (dl A) c1 ∧ Hid (A % m = a % m) ∧ A ≤ a ∧ Hid (NumAt wr a1 A) ∧ Hid (Below w.heap.size w wr))
 case atStart => exact ⟨a, aa, ca, rfl, rfl, rfl, Nat.le_refl _, HA.out, Below.refl _ _⟩
 case round =>
  obtain ⟨A, a1, c1, hg, rfl, HM, hAa, HN, HB⟩ := hrel
  obtain ⟨G9, hG9⟩ : ∃ G9, gk = G9 := ⟨_, rfl⟩
  rw [hG9] at hg
  subst hg
  subst hG9
  obtain ⟨A, rfl⟩ : ∃ A, A = gk := ⟨_, rfl⟩
  clear HA
  have hdA := dl_mono _ _ hAa
  go_wp2_with fail
  refine (refCompare_any A m a1 am c1 cm (by omega) wr HN.out (HMM.out.up HB.out)).mono ?_
  rintro e w2 ⟨rfl, hb2⟩
  have HB2 := Lib.hid (below_up HB.out hb2)
  have HN2 := Lib.hid (HN.out.up hb2)
  have HMM2 := Lib.hid (HMM.out.up HB2.out)
  clear hb2 HN HB
  by_cases hlt : A < m
  ·have hc : cmpI A m = -1 := by unfold cmpI; rw [if_pos hlt]
   rw [hc]
   clear hc
   have HRES : Hid (A = a % m) := by show _ = _; rw [← HM.out, Nat.mod_eq_of_lt hlt]
   go_wp2_with fail
   go_ret
   exact ⟨a1, c1, by rw [← HRES.out]; rfl, by rw [← HRES.out]; exact HN2.out, HB2.out⟩
  ·have hle : m ≤ A := by omega
   have HLEM := Lib.hid hle
   obtain ⟨c, hc, hc0⟩ : ∃ c, cmpI A m = c ∧ 0 ≤ c := ⟨_, rfl, by unfold cmpI; rw [if_neg hlt]; split <;> omega⟩
   rw [hc]
   clear hc hlt hle
   have hA0 : A ≠ 0 := by have := HLEM.out; omega
   have hm1 : m ≠ 0 := by omega
   have hlm := dl_mono _ _ HLEM.out
   have hpA := dl_pos A hA0
   have hpm := dl_pos m hm1
   have htA := dl_top A hA0
   have h1 := mod_one A m hA0 hm1 hlm
   have hdA : dg DD A (dl A - 1) < 65536 := dg_lt (B := DD) (by decide) _ _
   have hdA2 : dg DD A (dl A - 2) < 65536 := dg_lt (B := DD) (by decide) _ _
   have hdm : dg DD m (dl m - 1) < 65536 := dg_lt (B := DD) (by decide) _ _
   have H2 : Hid (dl m < dl A → (dg DD A (dl A - 1) * DD + dg DD A (dl A - 2)) / (dg DD m (dl m - 1) + 1) * (m * DD ^ (dl A - dl m - 1)) ≤ A) := fun h => mod_two A m hA0 hm1 h
   obtain ⟨b1, o1, rfl, hb1, hcell1⟩ := HN2.out.all hpA
   obtain ⟨b2, o2, rfl, hb2, hcell2⟩ := HMM2.out.all hpm
   have hx1 := hcell1 (dl A - 1) (by omega)
   have hx2 := hcell2 (dl m - 1) (by omega)
   have hx3 : dl m < dl A → w2.cell? ⟨b1, o1 + (dl A - 2), none⟩ = some (.int .i64 (dg DD A (dl A - 2) : Int)) := fun h => hcell1 (dl A - 2) (by omega)
   have HX3 := Lib.hid hx3
   have hi1 : (dl A : Int) - 1 = ((dl A - 1 : Nat) : Int) := by omega
   have hi2 : (dl m : Int) - 1 = ((dl m - 1 : Nat) : Int) := by omega
   have hi3 : (dl A : Int) - (dl m : Int) = ((dl A - dl m : Nat) : Int) := by omega
   have H1 := Lib.hid h1
   clear hcell1 hcell2 hx3 h1
   generalize hat : dg DD A (dl A - 1) = at1 at *
   generalize han : dg DD A (dl A - 2) = an1 at *
   generalize hmt : dg DD m (dl m - 1) = mt1 at *
   have HAT := Lib.hid hat
   have HAN := Lib.hid han
   have HMT := Lib.hid hmt
   clear hat han hmt
   obtain ⟨q, hq⟩ : ∃ q, at1 / (mt1 + 1) = q := ⟨_, rfl⟩
   have hqI : (at1 : Int) / ((mt1 : Int) + 1) = (q : Int) := by rw [← hq]; simp
   have hq9 : q ≤ 65535 := by rw [← hq]; exact Nat.le_trans (Nat.div_le_self _ _) (by omega)
   have H1' := H1.out
   rw [hq] at H1'
   have HLE1 := Lib.hid H1'
   clear H1' H1 hq
   go_wp2_with fail
   go_quiet (fail)
   have HN3 := Lib.hid (HN2.out.up (below_drewN (Below.refl _ w2) nq))
   have HMM3 := Lib.hid (HMM2.out.up (below_drewN (Below.refl _ w2) nq))
   have HB3 := Lib.hid (below_drewN HB2.out nq)
   by_cases hq0 : q = 0
   ·subst hq0
    by_cases hk0 : dl m < dl A
    ·have hx3 := HX3.out hk0
     have h2 := H2.out hk0
     have hkp : 0 < dl A - dl m := by omega
     have hi4 : (dl A : Int) - 2 = ((dl A - 2 : Nat) : Int) := by omega
     have hi5 : ((dl A - dl m : Nat) : Int) - 1 = ((dl A - dl m - 1 : Nat) : Int) := by omega
     obtain ⟨q2, hq2⟩ : ∃ q2, (at1 * DD + an1) / (mt1 + 1) = q2 := ⟨_, rfl⟩
     rw [hq2] at h2
     have hqI2 : ((at1 : Int) * 65536 + (an1 : Int)) / ((mt1 : Int) + 1) = (q2 : Int) := by rw [← hq2]; simp
     have hq29 : q2 ≤ 4294967295 := by rw [← hq2]; exact Nat.le_trans (Nat.div_le_self _ _) (by show at1 * 65536 + an1 ≤ _; omega)
     have hq21 : 1 ≤ q2 := by rw [← hq2]; exact (Nat.le_div_iff_mul_le (by omega)).2 (by show 1 * (mt1 + 1) ≤ at1 * 65536 + an1; omega)
     have hq20 : ((q2 : Int) == 0) = false := by simp; omega
     have HLE := Lib.hid h2
     clear h2 hq2 HLE1
     go_wp2_with fail
     go_quiet (fail)
     have hsub : A - q2 * (m * DD ^ (dl A - dl m - 1)) < A := by
      have h1 : 0 < q2 * (m * DD ^ (dl A - dl m - 1)) := Nat.mul_pos (by omega) (Nat.mul_pos (by omega) (Nat.pow_pos (by decide)))
      omega
     have HSUB := Lib.hid hsub
     have HTM := Lib.hid (take_mod A m (q2) (DD ^ (dl A - dl m - 1)) HLE.out)
     clear hsub
     go_wp2_with fail
     refine (refTake_any A m (q2) (dl A - dl m - 1) (A - q2 * (m * DD ^ (dl A - dl m - 1))) _ _ _ _ (by omega) (by omega) (by omega) (by omega) (by have := HLE.out; omega) _ (NumAt.up HN2.out (below_drewN (Below.refl _ w2) _)) (NumAt.up HMM2.out (below_drewN (Below.refl _ w2) _))).mono ?_
     rintro e w4 ⟨a4, c4, rfl, hn4, hb4⟩
     have HN4 := Lib.hid hn4
     have HB4 := Lib.hid (below_up (below_drewN HB2.out _) hb4)
     clear hn4 hb4
     go_wp2_with fail
     go_roundg (A - q2 * (m * DD ^ (dl A - dl m - 1)))
     case measure => exact HSUB.out
     case rel => exact ⟨_, a4, c4, rfl, by first | rfl | rw [Nat.one_mul], by rw [HTM.out]; exact HM.out, Nat.le_trans (Nat.le_of_lt HSUB.out) hAa, HN4.out, HB4.out⟩
    ·have hk00 : dl A - dl m = 0 := by omega
     have hkp : ¬ 0 < dl A - dl m := by omega
     have HLE : Hid (1 * (m * DD ^ (dl A - dl m)) ≤ A) := by
      show _ ≤ _
      rw [hk00, Nat.pow_zero, Nat.mul_one, Nat.one_mul]
      exact HLEM.out
     have hkI : ¬ (0 : Int) < ((dl A - dl m : Nat) : Int) := by omega
     clear hk00 HLE1
     have hsub : A - 1 * (m * DD ^ (dl A - dl m)) < A := by
      have h1 : 0 < 1 * (m * DD ^ (dl A - dl m)) := Nat.mul_pos (by omega) (Nat.mul_pos (by omega) (Nat.pow_pos (by decide)))
      omega
     have HSUB := Lib.hid hsub
     have HTM := Lib.hid (take_mod A m (1) (DD ^ (dl A - dl m)) HLE.out)
     clear hsub
     go_wp2_with fail
     refine (refTake_any A m (1) (dl A - dl m) (A - 1 * (m * DD ^ (dl A - dl m))) _ _ _ _ (by omega) (by omega) (by omega) (by omega) (by have := HLE.out; omega) _ HN3.out HMM3.out).mono ?_
     rintro e w4 ⟨a4, c4, rfl, hn4, hb4⟩
     have HN4 := Lib.hid hn4
     have HB4 := Lib.hid (below_up HB3.out hb4)
     clear hn4 hb4
     go_wp2_with fail
     go_roundg (A - 1 * (m * DD ^ (dl A - dl m)))
     case measure => exact HSUB.out
     case rel => exact ⟨_, a4, c4, rfl, by first | rfl | rw [Nat.one_mul], by rw [HTM.out]; exact HM.out, Nat.le_trans (Nat.le_of_lt HSUB.out) hAa, HN4.out, HB4.out⟩
   ·have hq1 : ((q : Int) == 0) = false := by simp; omega
    have HLE := HLE1
    clear HLE1
    have hsub : A - q * (m * DD ^ (dl A - dl m)) < A := by
     have h1 : 0 < q * (m * DD ^ (dl A - dl m)) := Nat.mul_pos (by omega) (Nat.mul_pos (by omega) (Nat.pow_pos (by decide)))
     omega
    have HSUB := Lib.hid hsub
    have HTM := Lib.hid (take_mod A m (q) (DD ^ (dl A - dl m)) HLE.out)
    clear hsub
    go_wp2_with fail
    refine (refTake_any A m (q) (dl A - dl m) (A - q * (m * DD ^ (dl A - dl m))) _ _ _ _ (by omega) (by omega) (by omega) (by omega) (by have := HLE.out; omega) _ HN3.out HMM3.out).mono ?_
    rintro e w4 ⟨a4, c4, rfl, hn4, hb4⟩
    have HN4 := Lib.hid hn4
    have HB4 := Lib.hid (below_up HB3.out hb4)
    clear hn4 hb4
    go_wp2_with fail
    go_roundg (A - q * (m * DD ^ (dl A - dl m)))
    case measure => exact HSUB.out
    case rel => exact ⟨_, a4, c4, rfl, by first | rfl | rw [Nat.one_mul], by rw [HTM.out]; exact HM.out, Nat.le_trans (Nat.le_of_lt HSUB.out) hAa, HN4.out, HB4.out⟩
end Go.Proofs.Ytipgjookfdkciaa
namespace Go.Proofs.Ytipgjookfdkciaa
open Go.RowKit
def bitAt (n k : Nat) : Nat := n / 2 ^ k % 2
def bitsTo (n L t : Nat) : List Nat := (List.range t).map fun s => bitAt n (L - 1 - s)
theorem bitsTo_succ (n L t : Nat) : bitsTo n L (t + 1) = bitsTo n L t ++ [bitAt n (L - 1 - t)] := by simp [bitsTo, List.range_succ]
theorem bit_dg (n i j : Nat) (hj : j ≤ 15) : dg DD n i / 2 ^ (15 - j) % 2 = bitAt n (16 * i + (15 - j)) := by
 unfold dg bitAt
 have hb : DD = 2 ^ 16 := rfl
 rw [hb, ← Nat.pow_mul]
 have e : (2 : Nat) ^ 16 = 2 ^ (15 - j) * (2 * 2 ^ j) := by
  rw [← Nat.pow_succ', ← Nat.pow_add]; congr 1; omega
 rw [e, Nat.mod_mul_right_div_self, Nat.mod_mul_right_mod, Nat.div_div_eq_div_mul, ← Nat.pow_add]
structure OwnB (W w : World) (v : Value) (n L t : Nat) : Prop where
 own : w.ownsRow 0 3 1 v t ((bitsTo n L t).map dV)
 new_ : ∀ q, v.ownBlock = some q → W.heap.size ≤ q
 below : Below W.heap.size W w
theorem OwnB.nil (W : World) (n L : Nat) : OwnB W W (.slice none 0 0) n L 0 := ⟨World.ownsRow_nil _ _ _ _, fun q h => by simp [Value.ownBlock] at h, Below.refl _ _⟩
theorem OwnB.push {W w w1 : World} {v : Value} {n L k g c : Nat} (h : OwnB W w v n L k) (hown : w1.ownsRow 0 3 1 (.slice (some ⟨g, 0, none⟩) (k + 1) c) (k + 1) ((bitsTo n L k).map dV ++ [.int .i64 (bitAt n (L - 1 - k) : Int)])) (hp : Pushed w w1 v g) : OwnB W w1 (.slice (some ⟨g, 0, none⟩) (k + 1) c) n L (k + 1) :=
 ⟨by rw [bitsTo_succ, List.map_append]; exact hown, hp.from_ h.below.size h.new_, hp.below h.below h.below.size h.new_⟩
def BitsR (n : Nat) (w : World) (e : Ending) (w' : World) : Prop := ∃ a cap, e = .returned (.slice a (16 * dl n) cap) ∧ Sl w' w'.heap.size a ((bitsTo n (16 * dl n) (16 * dl n)).map dV) ∧ Below w.heap.size w w'
theorem refBits_any (n : Nat) (an : Option Addr) (cn : Nat) (hln : dl n ≤ 65536) (w : World) (hA : NumAt w an n) :
  Calls Try.prog 182 #[.slice an (dl n) cn] w (BitsR n w) := by
 obtain ⟨i0, hi, hz0, hz1, hz2⟩ := info_parts infoInt3
 have HA := Lib.hid hA
 clear hA
 go_enter Try.func182, Try.ntmps182
 go_wp2_with fail
 go_loopw [3, 4, 5] (fun u x _ wr => ∃ i : Nat, i ≤ dl n ∧ x = .int .i64 ((i : Int) - 1) ∧ Hid (OwnB w wr u n (16 * dl n) (16 * (dl n - i)))) (fun _ x _ _ => (intOf x + 1).toNat)
 case atStart => exact ⟨dl n, Nat.le_refl _, rfl, by rw [Nat.sub_self]; exact OwnB.nil w _ _⟩
 case round =>
  obtain ⟨i, hin, hxi, HO⟩ := hrel
  rcases Nat.eq_zero_or_pos i with rfl | hip
  ·subst hxi
   rw [Nat.sub_zero] at HO
   go_wp2_with fail
   go_ret
   obtain ⟨a, c, rfl, _⟩ := own_form3 HO.out.own
   exact ⟨a, c, rfl, sl_of_own HO.out.own, HO.out.below⟩
  ·obtain ⟨p, rfl⟩ : ∃ p, i = p + 1 := ⟨i - 1, by omega⟩
   have ei : ((p + 1 : Nat) : Int) - 1 = (p : Int) := by omega
   rw [ei] at hxi
   subst hxi
   clear ei hip
   obtain ⟨b1, o1, rfl, hb1, hcell1⟩ := HA.out.all (by omega)
   have hx1 := hcell1 p (by omega)
   have HX1 := Lib.hid hx1
   have hdp : dg DD n p < 65536 := dg_lt (B := DD) (by decide) _ _
   clear hcell1 hx1
   obtain ⟨W2, rfl⟩ : ∃ W2 : World, W2 = wr := ⟨_, rfl⟩
   go_wp2_with fail
   go_loopw [3, 5] (fun u x wr => ∃ j : Nat, j ≤ 16 ∧ x = .int .i64 (32768 / 2 ^ j : Nat) ∧ Hid (OwnB w wr u n (16 * dl n) (16 * (dl n - (p + 1)) + j))) (fun _ x _ => (intOf x).toNat)
   case atStart => exact ⟨0, Nat.zero_le _, rfl, HO.out⟩
   case round =>
    clear HO
    obtain ⟨j, hj, rfl, HO⟩ := hrel
    by_cases hjl : j < 16
    ·have hP : 32768 / 2 ^ j = 2 ^ (15 - j) := by
      show 2 ^ 15 / 2 ^ j = _
      exact Nat.pow_div (by omega) (by omega)
     have hP2 : ((32768 / 2 ^ j : Nat) : Int) / 2 = ((32768 / 2 ^ (j + 1) : Nat) : Int) := by
      rw [Nat.pow_succ, ← Nat.div_div_eq_div_mul]; omega
     have hbit := bit_dg n p j (by omega)
     have hpos : 0 < 32768 / 2 ^ j := by rw [hP]; exact Nat.pow_pos (by omega)
     have hle : 32768 / 2 ^ j ≤ 32768 := Nat.div_le_self _ _
     have hdec : 32768 / 2 ^ (j + 1) < 32768 / 2 ^ j := by
      rw [Nat.pow_succ, ← Nat.div_div_eq_div_mul]; exact Nat.div_lt_self hpos (by decide)
     rw [← hP, show 16 * p + (15 - j) = 16 * dl n - 1 - (16 * (dl n - (p + 1)) + j) by omega] at hbit
     have hx1 : wr.cell? ⟨b1, o1 + p, none⟩ = some (.int .i64 (dg DD n p : Int)) := by rw [HO.out.below.cell (p := ⟨b1, o1 + p, none⟩) hb1]; exact HX1.out
     generalize dg DD n p = d at *
     generalize 32768 / 2 ^ j = P at *
     generalize hP1 : 32768 / 2 ^ (j + 1) = P1 at *
     have hq9 : (d : Int) / (P : Int) = ((d / P : Nat) : Int) := by simp
     have hx9l : d / P ≤ d := Nat.div_le_self _ _
     generalize hx9 : d / P = x9 at *
     have HX9 := Lib.hid hx9
     have hbI : (x9 : Int) % 2 = (bitAt n (16 * dl n - 1 - (16 * (dl n - (p + 1)) + j)) : Int) := by omega
     clear hx9
     have hHP := Lib.hid hP
     have HP1 := Lib.hid hP1
     generalize hT : 16 * (dl n - (p + 1)) + j = T at *
     have hTl : T ≤ 1048576 := by omega
     have HT := Lib.hid hT
     generalize hB : bitAt n (16 * dl n - 1 - T) = bb at *
     have HBB := Lib.hid hB
     clear hP hP1 hbit hT hB
     go_wp2_with (at_builtin; refine wpList_push wr rfl _ _ 35 rfl 3 i0 _ 1 8 Try.underlying35 hi hz0 hz1 hz2 rfl (by omega) u3 T ((bitsTo n (16 * dl n) T).map dV) rfl HO.out.own _ _ _ rfl rfl rfl (by simp [Value.oneCell']) (by omega) (by unfold maxLen; omega) ?_)
     intro g gc w1 hown hp
     have HO1 := Lib.hid (HO.out.push (by rw [HBB.out]; exact hown) hp)
     clear hown hp
     go_wp2_with fail
     go_roundw
     case rel => exact ⟨j + 1, by omega, by first | rw [hP2, HP1.out] | rw [HP1.out], by rw [← Nat.add_assoc, HT.out]; exact HO1.out⟩
     case measure => simp [intOf]; omega
    ·have hj16 : j = 16 := by omega
     subst hj16
     have h0 : ((32768 / 2 ^ 16 : Nat) : Int) = 0 := by decide
     rw [h0]
     clear h0
     go_wp2_with fail
     go_roundw
     case rel => exact ⟨p, by omega, rfl, by rw [show 16 * (dl n - p) = 16 * (dl n - (p + 1)) + 16 by omega]; exact HO.out⟩
     case measure => first | (simp [intOf]; done) | (simp [intOf]; omega)
theorem lt32 (x y : Nat) (hx : x < DD ^ 16) (hy : y < DD ^ 16) : dl (x * y) ≤ 1048576 := by
 refine Nat.le_trans (dl_of_lt (x * y) 32 ?_) (by decide)
 have e : DD ^ 32 = DD ^ 16 * DD ^ 16 := by rw [← Nat.pow_add]
 rw [e]
 exact Nat.lt_of_le_of_lt (Nat.mul_le_mul_left _ (Nat.le_of_lt hy)) (Nat.mul_lt_mul_of_pos_right hx (Nat.pow_pos (by decide)))
theorem lt16 (x : Nat) (hx : x < DD ^ 16) : dl x ≤ 1048576 := small_dl x hx
theorem pow_sq (a e m : Nat) : (a ^ e % m * (a ^ e % m)) % m = a ^ (2 * e) % m := by
 rw [← Nat.mul_mod, ← Nat.pow_add, Nat.two_mul]
theorem pow_one_more (a e m : Nat) : (a ^ (2 * e) % m * a) % m = a ^ (2 * e + 1) % m := by
 rw [Nat.mod_mul_mod, ← Nat.pow_succ]
theorem dl_one_of (v : Nat) (h : dl v = 1) : dg DD v 0 = v := by
 have := lt_dl v
 rw [h, Nat.pow_one] at this
 unfold dg
 rw [Nat.pow_zero, Nat.div_one, Nat.mod_eq_of_lt this]
theorem refPower_any (a n m : Nat) (aa an am : Option Addr) (ca cn cm : Nat) (ha : a < DD ^ 16) (hn : dl n ≤ 65536) (hm1 : 1 < m) (hm2 : m < DD ^ 16) (w : World) (hA : NumAt w aa a) (hN : NumAt w an n) (hM : NumAt w am m) :
  Calls Try.prog 141 #[.slice aa (dl a) ca, .slice an (dl n) cn, .slice am (dl m) cm] w fun e w' => NumR w e w' (a ^ n % m) := by
 have HA := Lib.hid hA
 have HNN := Lib.hid hN
 have HMM := Lib.hid hM
 have HA16 := Lib.hid ha
 have HM16 := Lib.hid hm2
 have hmp : 0 < m := by omega
 clear hA hN hM ha hm2
 go_enter Try.func141, Try.ntmps141
 go_wp2_with fail
 refine (refOf_any 1 (by omega) w).mono ?_
 rintro e9 w1 ⟨a1, c1, rfl, hn1, hb1⟩
 have HN1 := Lib.hid hn1
 have HB1 := Lib.hid hb1
 clear hn1 hb1
 go_wp2_with fail
 refine (refBits_any n an cn hn w1 (HNN.out.up HB1.out)).mono ?_
 rintro e9 w2 ⟨ab, cb, rfl, hs2, hb2⟩
 have HS := Lib.hid hs2
 have HBS := Lib.hid hb2
 have HN2 := Lib.hid (HN1.out.up hb2)
 have HB2 := Lib.hid (below_up HB1.out hb2)
 have hL : 16 * dl n ≤ 1048576 := by omega
 have HL0 : Hid (n / 2 ^ (16 * dl n) = 0) := by
  have h := lt_dl n
  have hb : DD = 2 ^ 16 := rfl
  rw [hb, ← Nat.pow_mul] at h
  exact Nat.div_eq_of_lt h
 clear hs2 hb2 HN1 HB1
 have HA := Lib.hid (HA.out.up HB2.out)
 have HMM := Lib.hid (HMM.out.up HB2.out)
 generalize hLL : 16 * dl n = L at *
 clear hLL
 have hzw2 := HB2.out.size
 go_wp2_with fail
 go_loopw [7, 9, 14] (fun u _ x wr => ∃ (t v : Nat) (a1 : Option Addr) (c1 : Nat), t ≤ L ∧ x = .int .i64 t ∧ u = .slice a1 (dl v) c1 ∧ Hid (v = a ^ (n / 2 ^ (L - t)) % m) ∧ Hid (NumAt wr a1 v) ∧ Hid (Below w2.heap.size w2 wr)) (fun _ _ x _ => L - (intOf x).toNat)
 case atStart => exact ⟨0, 1, a1, c1, Nat.zero_le _, rfl, rfl, by show _ = _; rw [Nat.sub_zero, HL0.out, Nat.pow_zero, Nat.mod_eq_of_lt hm1], HN2.out, Below.refl _ _⟩
 case round =>
  clear HN2
  obtain ⟨t, v, a1, c1, ht, rfl, rfl, HV, HN, HBW⟩ := hrel
  have HB := HBW
  by_cases htl : t < L
  ·obtain ⟨b3, o3, rfl, hb3, hc3⟩ := (HS.out.up HBW.out).at t (by simp [bitsTo]; omega)
   have hcell : wr.cell? ⟨b3, o3 + t, none⟩ = some (.int .i64 (bitAt n (L - 1 - t) : Int)) := by
    rw [hc3]
    simp [bitsTo, dV]
   have hbb : bitAt n (L - 1 - t) = 0 ∨ bitAt n (L - 1 - t) = 1 := by unfold bitAt; omega
   have he1 : n / 2 ^ (L - (t + 1)) = 2 * (n / 2 ^ (L - t)) + bitAt n (L - 1 - t) := by
    unfold bitAt
    rw [show L - t = L - 1 - t + 1 by omega, show L - (t + 1) = L - 1 - t by omega, Nat.pow_succ, ← Nat.div_div_eq_div_mul]
    omega
   have HE1 := Lib.hid he1
   clear hc3 he1
   generalize bitAt n (L - 1 - t) = bb at *
   generalize n / 2 ^ (L - t) = e at *
   obtain rfl := HV.out
   clear HV
   by_cases hv1 : a ^ e % m = 1
   ·have hd1 : dl (a ^ e % m) = 1 := by rw [hv1]; rfl
    obtain ⟨b4, o4, rfl, hb4, hcell4⟩ := HN.out.all (by omega)
    have hx4 := hcell4 0 (by omega)
    rw [dl_one_of _ hd1, hv1, Nat.add_zero] at hx4
    have hne : ((dl (a ^ e % m) : Int) != 1) = false := by rw [hd1]; rfl
    have hdpos : (0 : Int) < (dl (a ^ e % m) : Int) := by omega
    have HNq : Hid (NumAt wr (some ⟨b4, o4, none⟩) (a ^ (2 * e) % m)) := by
     show NumAt _ _ _
     rw [← pow_sq, hv1, Nat.mul_one, Nat.mod_eq_of_lt hm1, ← hv1]
     exact HN.out
    have HDq : Hid (dl (a ^ e % m) = dl (a ^ (2 * e) % m)) := by
     show _ = _
     rw [← pow_sq, hv1, Nat.mul_one, Nat.mod_eq_of_lt hm1]
    clear hv1 hd1 hcell4
    rw [HDq.out] at hne hdpos ⊢
    clear HDq HN
    have HN := HNq
    clear HNq
    rcases hbb with hb0 | hb0
    ·have hbf : ((bb : Int) == 1) = false := by rw [hb0]; rfl
     have HRES : Hid (a ^ (2 * e) % m = a ^ (2 * e + bb) % m) := by show _ = _; rw [hb0]; rfl
     clear hb0
     go_wp2_with fail
     go_roundw
     case rel => exact ⟨t + 1, a ^ (2 * e) % m, (some ⟨b4, o4, none⟩), c1, by omega, by go_num, rfl, by rw [HE1.out]; exact HRES.out, HN.out, HB.out⟩
     case measure => simp [intOf]; omega
    ·have hbf : ((bb : Int) == 1) = true := by rw [hb0]; rfl
     have HRES : Hid (a ^ (2 * e + 1) % m = a ^ (2 * e + bb) % m) := by show _ = _; rw [hb0]
     clear hb0
     go_wp2_with fail
     refine (refTimes_any (a ^ (2 * e) % m) a (some ⟨b4, o4, none⟩) aa c1 ca (lt16 _ (Nat.lt_trans (Nat.mod_lt _ hmp) HM16.out)) (lt16 _ HA16.out) wr HN.out (HA.out.up HB.out)).mono ?_
     rintro e9 w7 ⟨a7, c7, rfl, hn7, hb7⟩
     have HN7 := Lib.hid hn7
     have HB7 := Lib.hid (below_up HB.out hb7)
     clear hn7 hb7
     go_wp2_with fail
     refine (refMod_any (a ^ (2 * e) % m * a) m a7 am c7 cm (lt32 _ _ (Nat.lt_trans (Nat.mod_lt _ hmp) HM16.out) HA16.out) hmp w7 HN7.out (HMM.out.up HB7.out)).mono ?_
     rintro e9 w8 ⟨a8, c8, rfl, hn8, hb8⟩
     rw [pow_one_more] at hn8 ⊢
     have HN8 := Lib.hid hn8
     have HB8 := Lib.hid (below_up HB7.out hb8)
     clear hn8 hb8
     go_wp2_with fail
     go_roundw
     case rel => exact ⟨t + 1, _, a8, c8, by omega, by go_num, rfl, by rw [HE1.out]; exact HRES.out, HN8.out, HB8.out⟩
     case measure => simp [intOf]; omega
   ·by_cases hd1 : dl (a ^ e % m) = 1
    ·obtain ⟨b4, o4, rfl, hb4, hcell4⟩ := HN.out.all (by omega)
     have hx4 := hcell4 0 (by omega)
     rw [dl_one_of _ hd1, Nat.add_zero] at hx4
     have hne : ((dl (a ^ e % m) : Int) != 1) = false := by rw [hd1]; rfl
     have hdpos : (0 : Int) < (dl (a ^ e % m) : Int) := by omega
     have hv2 : ((a : Int) ^ e % (m : Int) != 1) = true := by rw [bne_iff_ne]; intro h; apply hv1; exact_mod_cast h
     clear hcell4 hv1 hd1
     go_wp2_with fail
     refine (refTimes_any (a ^ e % m) (a ^ e % m) (some ⟨b4, o4, none⟩) (some ⟨b4, o4, none⟩) c1 c1 (lt16 _ (Nat.lt_trans (Nat.mod_lt _ hmp) HM16.out)) (lt16 _ (Nat.lt_trans (Nat.mod_lt _ hmp) HM16.out)) wr HN.out HN.out).mono ?_
     rintro e9 w4 ⟨a4, c4, rfl, hn4, hb4⟩
     have HN4 := Lib.hid hn4
     have HB4 := Lib.hid (below_up HB.out hb4)
     clear hn4 hb4
     go_wp2_with fail
     refine (refMod_any (a ^ e % m * (a ^ e % m)) m a4 am c4 cm (lt32 _ _ (Nat.lt_trans (Nat.mod_lt _ hmp) HM16.out) (Nat.lt_trans (Nat.mod_lt _ hmp) HM16.out)) hmp w4 HN4.out (HMM.out.up HB4.out)).mono ?_
     rintro e9 w5 ⟨a5, c5, rfl, hn5, hb5⟩
     rw [pow_sq] at hn5 ⊢
     have HN5 := Lib.hid hn5
     have HB5 := Lib.hid (below_up HB4.out hb5)
     clear hn5 hb5
     rcases hbb with hb0 | hb0
     ·have hbf : ((bb : Int) == 1) = false := by rw [hb0]; rfl
      have HRES : Hid (a ^ (2 * e) % m = a ^ (2 * e + bb) % m) := by show _ = _; rw [hb0]; rfl
      clear hb0
      go_wp2_with fail
      go_roundw
      case rel => exact ⟨t + 1, a ^ (2 * e) % m, a5, c5, by omega, by go_num, rfl, by rw [HE1.out]; exact HRES.out, HN5.out, HB5.out⟩
      case measure => simp [intOf]; omega
     ·have hbf : ((bb : Int) == 1) = true := by rw [hb0]; rfl
      have HRES : Hid (a ^ (2 * e + 1) % m = a ^ (2 * e + bb) % m) := by show _ = _; rw [hb0]
      clear hb0
      go_wp2_with fail
      refine (refTimes_any (a ^ (2 * e) % m) a a5 aa c5 ca (lt16 _ (Nat.lt_trans (Nat.mod_lt _ hmp) HM16.out)) (lt16 _ HA16.out) w5 HN5.out (HA.out.up HB5.out)).mono ?_
      rintro e9 w7 ⟨a7, c7, rfl, hn7, hb7⟩
      have HN7 := Lib.hid hn7
      have HB7 := Lib.hid (below_up HB5.out hb7)
      clear hn7 hb7
      go_wp2_with fail
      refine (refMod_any (a ^ (2 * e) % m * a) m a7 am c7 cm (lt32 _ _ (Nat.lt_trans (Nat.mod_lt _ hmp) HM16.out) HA16.out) hmp w7 HN7.out (HMM.out.up HB7.out)).mono ?_
      rintro e9 w8 ⟨a8, c8, rfl, hn8, hb8⟩
      rw [pow_one_more] at hn8 ⊢
      have HN8 := Lib.hid hn8
      have HB8 := Lib.hid (below_up HB7.out hb8)
      clear hn8 hb8
      go_wp2_with fail
      go_roundw
      case rel => exact ⟨t + 1, _, a8, c8, by omega, by go_num, rfl, by rw [HE1.out]; exact HRES.out, HN8.out, HB8.out⟩
      case measure => simp [intOf]; omega
    ·have hne : ((dl (a ^ e % m) : Int) != 1) = true := by simp; omega
     clear hd1 hv1
     go_wp2_with fail
     refine (refTimes_any (a ^ e % m) (a ^ e % m) a1 a1 c1 c1 (lt16 _ (Nat.lt_trans (Nat.mod_lt _ hmp) HM16.out)) (lt16 _ (Nat.lt_trans (Nat.mod_lt _ hmp) HM16.out)) wr HN.out HN.out).mono ?_
     rintro e9 w4 ⟨a4, c4, rfl, hn4, hb4⟩
     have HN4 := Lib.hid hn4
     have HB4 := Lib.hid (below_up HB.out hb4)
     clear hn4 hb4
     go_wp2_with fail
     refine (refMod_any (a ^ e % m * (a ^ e % m)) m a4 am c4 cm (lt32 _ _ (Nat.lt_trans (Nat.mod_lt _ hmp) HM16.out) (Nat.lt_trans (Nat.mod_lt _ hmp) HM16.out)) hmp w4 HN4.out (HMM.out.up HB4.out)).mono ?_
     rintro e9 w5 ⟨a5, c5, rfl, hn5, hb5⟩
     rw [pow_sq] at hn5 ⊢
     have HN5 := Lib.hid hn5
     have HB5 := Lib.hid (below_up HB4.out hb5)
     clear hn5 hb5
     rcases hbb with hb0 | hb0
     ·have hbf : ((bb : Int) == 1) = false := by rw [hb0]; rfl
      have HRES : Hid (a ^ (2 * e) % m = a ^ (2 * e + bb) % m) := by show _ = _; rw [hb0]; rfl
      clear hb0
      go_wp2_with fail
      go_roundw
      case rel => exact ⟨t + 1, a ^ (2 * e) % m, a5, c5, by omega, by go_num, rfl, by rw [HE1.out]; exact HRES.out, HN5.out, HB5.out⟩
      case measure => simp [intOf]; omega
     ·have hbf : ((bb : Int) == 1) = true := by rw [hb0]; rfl
      have HRES : Hid (a ^ (2 * e + 1) % m = a ^ (2 * e + bb) % m) := by show _ = _; rw [hb0]
      clear hb0
      go_wp2_with fail
      refine (refTimes_any (a ^ (2 * e) % m) a a5 aa c5 ca (lt16 _ (Nat.lt_trans (Nat.mod_lt _ hmp) HM16.out)) (lt16 _ HA16.out) w5 HN5.out (HA.out.up HB5.out)).mono ?_
      rintro e9 w7 ⟨a7, c7, rfl, hn7, hb7⟩
      have HN7 := Lib.hid hn7
      have HB7 := Lib.hid (below_up HB5.out hb7)
      clear hn7 hb7
      go_wp2_with fail
      refine (refMod_any (a ^ (2 * e) % m * a) m a7 am c7 cm (lt32 _ _ (Nat.lt_trans (Nat.mod_lt _ hmp) HM16.out) HA16.out) hmp w7 HN7.out (HMM.out.up HB7.out)).mono ?_
      rintro e9 w8 ⟨a8, c8, rfl, hn8, hb8⟩
      rw [pow_one_more] at hn8 ⊢
      have HN8 := Lib.hid hn8
      have HB8 := Lib.hid (below_up HB7.out hb8)
      clear hn8 hb8
      go_wp2_with fail
      go_roundw
      case rel => exact ⟨t + 1, _, a8, c8, by omega, by go_num, rfl, by rw [HE1.out]; exact HRES.out, HN8.out, HB8.out⟩
      case measure => simp [intOf]; omega
  ·have htL : t = L := by omega
   subst htL
   rw [Nat.sub_self, Nat.pow_zero, Nat.div_one] at HV
   obtain rfl := HV.out
   go_wp2_with fail
   go_ret
   exact ⟨a1, c1, rfl, HN.out, below_up HB2.out HBW.out⟩
end Go.Proofs.Ytipgjookfdkciaa
namespace Go.Proofs.Ytipgjookfdkciaa
open Go.RowKit
def gR (sz q p : Nat) (aq ap : Option Addr) (cq cp : Nat) : List Value := [.int .i64 (sz : Int), .slice aq (dl q) cq, .slice ap (dl p) cp]
theorem take_minus (a b R : Nat) (h : a = R + b) : a = R + 1 * (b * DD ^ 0) := by rw [Nat.pow_zero, Nat.mul_one, Nat.one_mul]; exact h
theorem refMinus_any (a b R : Nat) (aa ab : Option Addr) (ca cb : Nat) (hla : dl a ≤ 1048576) (hlb : dl b ≤ 1048576) (hR : a = R + b) (w : World) (hA : NumAt w aa a) (hB : NumAt w ab b) :
  Calls Try.prog 142 #[.slice aa (dl a) ca, .slice ab (dl b) cb] w fun e w' => NumR w e w' R := by
 have hT : Calls Try.prog 183 #[.slice aa (dl a) ca, .slice ab (dl b) cb, .int .i64 1, .int .i64 0] w fun e w' => NumR w e w' R := refTake_any a b 1 0 R aa ab ca cb hla hlb (by omega) (by omega) (take_minus a b R hR) w hA hB
 have HT := Lib.hid hT
 clear hT hR hA hB
 go_enter Try.func142, Try.ntmps142
 go_wp2_with fail
 refine HT.out.mono ?_
 rintro e w1 ⟨a1, c1, rfl, hn1, hb1⟩
 have HN1 := Lib.hid hn1
 have HB1 := Lib.hid hb1
 clear hn1 hb1
 go_wp2_with fail
 go_ret
 exact ⟨a1, c1, rfl, HN1.out, HB1.out⟩
end Go.Proofs.Ytipgjookfdkciaa
namespace Go.Proofs.Ytipgjookfdkciaa
open Go.RowKit
def lowR (q p x : Nat) : Nat := if q < x then p - x else x
theorem refLow_any (x sz q p : Nat) (ax aq ap : Option Addr) (cx cq cp : Nat) (hx : x ≤ p) (hp : p < DD ^ 16) (w : World) (hX : NumAt w ax x) (hQ : NumAt w aq q) (hP : NumAt w ap p) :
  Calls Try.prog 153 #[.agg #[.int .i64 (sz : Int), .slice aq (dl q) cq, .slice ap (dl p) cp], .slice ax (dl x) cx] w fun e w' => NumR w e w' (lowR q p x) := by
 have hx2 : x < DD ^ 16 := Nat.lt_of_le_of_lt hx hp
 have HX := Lib.hid hX
 have HQ := Lib.hid hQ
 have HP := Lib.hid hP
 clear hX hQ hP
 go_enter Try.func153, Try.ntmps153
 have hzz : Bx (w.alloc (.cells #[.int .i64 (sz : Int), .slice aq (dl q) cq, .slice ap (dl p) cp] 98)) w.heap.size 98 (gR sz q p aq ap cq cp) := Bx.new w _ _ _ rfl
 have hbz : Below w.heap.size w (w.alloc (.cells #[.int .i64 (sz : Int), .slice aq (dl q) cq, .slice ap (dl p) cp] 98)) := (Below.refl w.heap.size w).alloc (Nat.le_refl _) _
 obtain ⟨W2, hW2⟩ : ∃ W9 : World, (w.alloc (.cells #[.int .i64 (sz : Int), .slice aq (dl q) cq, .slice ap (dl p) cp] 98)) = W9 := ⟨_, rfl⟩
 rw [hW2] at hzz hbz
 have HZ := Lib.hid hzz
 have HBZ := Lib.hid hbz
 have hz_0 := HZ.out.cell (i := 0) rfl
 have hz_1 := HZ.out.cell (i := 1) rfl
 have hz_2 := HZ.out.cell (i := 2) rfl
 have hzl := HZ.out.lt
 clear hzz hbz
 go_wp2_with fail
 refine (refCompare_any x q ax aq cx cq (small_dl x hx2) W2 (HX.out.up HBZ.out) (HQ.out.up HBZ.out)).mono ?_
 rintro e w3 ⟨rfl, hb3⟩
 have HB3 := Lib.hid (below_up HBZ.out hb3)
 have HZ3 := Lib.hid (HZ.out.up hb3)
 clear hb3 hz_0 hz_1 hz_2 hzl HZ
 have hz_2 := HZ3.out.cell (i := 2) rfl
 by_cases hlow : q < x
 ·have HCI : Hid (cmpI x q = 1) := by show _ = _; unfold cmpI; rw [if_neg (by omega), if_pos hlow]
  have HL : Hid (p - x = lowR q p x) := by show _ = _; unfold lowR; rw [if_pos hlow]
  rw [HCI.out]
  go_wp2_with fail
  refine (refMinus_any p x (p - x) ap ax cp cx (small_dl p hp) (small_dl x hx2) (by omega) w3 (HP.out.up HB3.out) (HX.out.up HB3.out)).mono ?_
  rintro e w4 ⟨a4, c4, rfl, hn4, hb4⟩
  rw [HL.out] at hn4 ⊢
  have HN4 := Lib.hid hn4
  have HB4 := Lib.hid (below_up HB3.out hb4)
  clear hn4 hb4
  go_wp2_with fail
  go_ret
  exact ⟨a4, c4, rfl, HN4.out, HB4.out⟩
 ·have HL : Hid (x = lowR q p x) := by show _ = _; unfold lowR; rw [if_neg hlow]
  have hci : (decide (cmpI x q > 0)) = false := by unfold cmpI; simp only [decide_eq_false_iff_not]; split <;> simp <;> omega
  generalize cmpI x q = ci at *
  go_wp2_with fail
  go_ret
  exact ⟨ax, cx, by rw [← HL.out]; rfl, by rw [← HL.out]; exact HX.out.up HB3.out, HB3.out⟩
theorem refPow_any (a n sz q p : Nat) (aa an aq ap : Option Addr) (ca cn cq cp : Nat) (ha : a < DD ^ 16) (hn : dl n ≤ 65536) (hp0 : 1 < p) (hp : p < DD ^ 16) (w : World) (hA : NumAt w aa a) (hN : NumAt w an n) (hQ : NumAt w aq q) (hP : NumAt w ap p) :
  Calls Try.prog 111 #[.agg #[.int .i64 (sz : Int), .slice aq (dl q) cq, .slice ap (dl p) cp], .slice aa (dl a) ca, .slice an (dl n) cn] w fun e w' => NumR w e w' (lowR q p (a ^ n % p)) := by
 have HA := Lib.hid hA
 have HNN := Lib.hid hN
 have HQ := Lib.hid hQ
 have HP := Lib.hid hP
 clear hA hN hQ hP
 go_enter Try.func111, Try.ntmps111
 have hzz : Bx (w.alloc (.cells #[.int .i64 (sz : Int), .slice aq (dl q) cq, .slice ap (dl p) cp] 98)) w.heap.size 98 (gR sz q p aq ap cq cp) := Bx.new w _ _ _ rfl
 have hbz : Below w.heap.size w (w.alloc (.cells #[.int .i64 (sz : Int), .slice aq (dl q) cq, .slice ap (dl p) cp] 98)) := (Below.refl w.heap.size w).alloc (Nat.le_refl _) _
 obtain ⟨W2, hW2⟩ : ∃ W9 : World, (w.alloc (.cells #[.int .i64 (sz : Int), .slice aq (dl q) cq, .slice ap (dl p) cp] 98)) = W9 := ⟨_, rfl⟩
 rw [hW2] at hzz hbz
 have HZ := Lib.hid hzz
 have HBZ := Lib.hid hbz
 have hz_0 := HZ.out.cell (i := 0) rfl
 have hz_1 := HZ.out.cell (i := 1) rfl
 have hz_2 := HZ.out.cell (i := 2) rfl
 have hzl := HZ.out.lt
 clear hzz hbz
 go_wp2_with fail
 have HW0 : Hid (Below W2.heap.size W2 W2.drew) := (Below.refl _ _).drew
 refine wp_region_tree (fun w' => ∃ E : Over W2, w' = E.w) (.qs [0, 1, 2, 3, 4] (.a 5 (.a 6 (.q 7 .done)))) (by kernel_rfl) (by kernel_rfl) (fun _ _ d _ _ h => by cases d <;> exact h) ⟨⟨_, HW0.out⟩, rfl⟩ ?_
 have hov := fun (E : Over W2) o => E.cell (b := w.heap.size) o hzl
 simp only [Tree.qs]
 repeat (refine tree_q rfl rfl ?_; go_big_quiet_step (fail); refine wpQuiet_nil ?_)
 refine tree_a rfl (fun K hK => ?_)
 go_simp
 refine (refPower_any a n p aa an ap ca cn cp ha hn hp0 hp _ (HA.out.up (below_up HBZ.out HW0.out)) (HNN.out.up (below_up HBZ.out HW0.out)) (HP.out.up (below_up HBZ.out HW0.out))).mono ?_
 rintro e w4 ⟨a4, c4, rfl, hn9, hb9⟩
 have HN4 := Lib.hid hn9
 have HW4 := Lib.hid (below_up HW0.out hb9)
 clear hn9 hb9
 refine hK _ _ ⟨⟨⟨w4, HW4.out⟩, rfl⟩, ?_⟩
 clear hK K
 refine tree_a rfl (fun K hK => ?_)
 go_simp
 refine (refLow_any (a ^ n % p) sz q p a4 aq ap c4 cq cp (Nat.le_of_lt (Nat.mod_lt _ (by omega))) hp w4 HN4.out (HQ.out.up (below_up HBZ.out HW4.out)) (HP.out.up (below_up HBZ.out HW4.out))).mono ?_
 rintro e w5 ⟨a5, c5, rfl, hn9, hb9⟩
 have HN5 := Lib.hid hn9
 have HW5 := Lib.hid (below_up HW4.out hb9)
 clear hn9 hb9
 refine hK _ _ ⟨⟨⟨w5, HW5.out⟩, rfl⟩, ?_⟩
 clear hK K
 refine tree_q rfl rfl ?_
 go_big_quiet_step (fail)
 refine wpQuiet_nil ?_
 refine tree_end ?_
 have HF := Lib.hid (below_up HBZ.out HW5.out)
 clear hov
 go_wp2_with fail
 go_ret
 exact ⟨a5, c5, rfl, HN5.out, HF.out⟩
end Go.Proofs.Ytipgjookfdkciaa
namespace Go.Proofs.Ytipgjookfdkciaa
open Go.RowKit
def isSc (q sz : Nat) (s : ByteArray) : Bool := decide (s.size = sz) && decide (numOf s < q)
def isEl (q sz : Nat) (s : ByteArray) : Bool := decide (s.size = sz) && decide (0 < numOf s) && decide (numOf s ≤ q)
theorem cmpI_lt (a b : Nat) : decide (cmpI a b < 0) = decide (a < b) := by unfold cmpI; split; · simp [*]
                                                                           ·split <;> simp <;> omega
theorem cmpI_le (a b : Nat) : decide (cmpI a b ≤ 0) = decide (a ≤ b) := by
 unfold cmpI
 split
 ·simp; omega
 ·split <;> simp <;> omega
theorem numOf_16 (s : ByteArray) (hs : s.size ≤ 32) : numOf s < DD ^ 16 := numOf_lt s hs
theorem refIsScalar_any (s : ByteArray) (sz q p : Nat) (aq ap : Option Addr) (cq cp : Nat) (hsz : sz ≤ 32) (w : World) (hQ : NumAt w aq q) :
  Calls Try.prog 66 #[.agg #[.int .i64 (sz : Int), .slice aq (dl q) cq, .slice ap (dl p) cp], .string s] w fun e w' => e = .returned (.bool (isSc q sz s)) ∧ Below w.heap.size w w' := by
 have HQ := Lib.hid hQ
 clear hQ
 by_cases hl : s.size = sz
 ·have HR : Hid (isSc q sz s = decide (numOf s < q)) := by show _ = _; unfold isSc; simp [hl]
  have hn := numOf_16 s (by omega)
  have hd : ((s.size : Int) == (sz : Int)) = true := by rw [hl]; simp
  have hss : s.size ≤ 1048576 := by omega
  clear hl
  go_enter Try.func66, Try.ntmps66
  have hzz : Bx (w.alloc (.cells #[.int .i64 (sz : Int), .slice aq (dl q) cq, .slice ap (dl p) cp] 98)) w.heap.size 98 (gR sz q p aq ap cq cp) := Bx.new w _ _ _ rfl
  have hbz : Below w.heap.size w (w.alloc (.cells #[.int .i64 (sz : Int), .slice aq (dl q) cq, .slice ap (dl p) cp] 98)) := (Below.refl w.heap.size w).alloc (Nat.le_refl _) _
  obtain ⟨W2, hW2⟩ : ∃ W9 : World, (w.alloc (.cells #[.int .i64 (sz : Int), .slice aq (dl q) cq, .slice ap (dl p) cp] 98)) = W9 := ⟨_, rfl⟩
  rw [hW2] at hzz hbz
  have HZ := Lib.hid hzz
  have HBZ := Lib.hid hbz
  have hz_0 := HZ.out.cell (i := 0) rfl
  have hz_1 := HZ.out.cell (i := 1) rfl
  have hz_2 := HZ.out.cell (i := 2) rfl
  have hzl := HZ.out.lt
  clear hzz hbz
  go_wp2_with fail
  have HW0 : Hid (Below W2.heap.size W2 W2.drew) := (Below.refl _ _).drew
  refine wp_region_tree (fun w' => ∃ E : Over W2, w' = E.w) (.qs [0, 1, 2, 3, 4, 5, 6, 8, 9] (.a 7 (.a 10 (.q 11 (.q 12 (.q 13 .done)))))) (by kernel_rfl) (by kernel_rfl) (fun _ _ d _ _ h => by cases d <;> exact h) ⟨⟨_, HW0.out⟩, rfl⟩ ?_
  have hov := fun (E : Over W2) o => E.cell (b := w.heap.size) o hzl
  simp only [Tree.qs]
  repeat (refine tree_q rfl rfl ?_; go_big_quiet_step (fail); refine wpQuiet_nil ?_)
  refine tree_a rfl (fun K hK => ?_)
  go_simp
  refine (refRead_any s hss _).mono ?_
  rintro e w4 ⟨a4, c4, rfl, hn9, hb9⟩
  have HN4 := Lib.hid hn9
  have HW4 := Lib.hid (below_up HW0.out hb9)
  clear hn9 hb9
  refine hK _ _ ⟨⟨⟨w4, HW4.out⟩, rfl⟩, ?_⟩
  clear hK K
  refine tree_a rfl (fun K hK => ?_)
  go_simp
  refine (refCompare_any (numOf s) q a4 aq c4 cq (small_dl _ hn) w4 HN4.out (HQ.out.up (below_up HBZ.out HW4.out))).mono ?_
  rintro e w5 ⟨rfl, hb9⟩
  have HW5 := Lib.hid (below_up HW4.out hb9)
  clear hb9
  refine hK _ _ ⟨⟨⟨w5, HW5.out⟩, rfl⟩, ?_⟩
  clear hK K
  repeat (refine tree_q rfl rfl ?_; go_big_quiet_step (fail); refine wpQuiet_nil ?_)
  refine tree_end ?_
  have HF := Lib.hid (below_up HBZ.out HW5.out)
  clear hov
  go_wp2_with fail
  go_ret
  exact ⟨by rw [HR.out, ← cmpI_lt]; rfl, HF.out⟩
 ·have HR : Hid (isSc q sz s = false) := by show _ = _; unfold isSc; simp [hl]
  have hd : ((s.size : Int) == (sz : Int)) = false := by simp; omega
  clear hl
  go_enter Try.func66, Try.ntmps66
  have hzz : Bx (w.alloc (.cells #[.int .i64 (sz : Int), .slice aq (dl q) cq, .slice ap (dl p) cp] 98)) w.heap.size 98 (gR sz q p aq ap cq cp) := Bx.new w _ _ _ rfl
  have hbz : Below w.heap.size w (w.alloc (.cells #[.int .i64 (sz : Int), .slice aq (dl q) cq, .slice ap (dl p) cp] 98)) := (Below.refl w.heap.size w).alloc (Nat.le_refl _) _
  obtain ⟨W2, hW2⟩ : ∃ W9 : World, (w.alloc (.cells #[.int .i64 (sz : Int), .slice aq (dl q) cq, .slice ap (dl p) cp] 98)) = W9 := ⟨_, rfl⟩
  rw [hW2] at hzz hbz
  have HZ := Lib.hid hzz
  have HBZ := Lib.hid hbz
  have hz_0 := HZ.out.cell (i := 0) rfl
  have hz_1 := HZ.out.cell (i := 1) rfl
  have hz_2 := HZ.out.cell (i := 2) rfl
  have hzl := HZ.out.lt
  clear hzz hbz
  go_wp2_with fail
  go_quiet (fail)
  go_wp2_with fail
  go_ret
  exact ⟨by rw [HR.out]; rfl, below_up HBZ.out (below_drewN (Below.refl _ _) _)⟩
theorem refIsElem_any (s : ByteArray) (sz q p : Nat) (aq ap : Option Addr) (cq cp : Nat) (hsz : sz ≤ 32) (w : World) (hQ : NumAt w aq q) :
  Calls Try.prog 79 #[.agg #[.int .i64 (sz : Int), .slice aq (dl q) cq, .slice ap (dl p) cp], .string s] w fun e w' => e = .returned (.bool (isEl q sz s)) ∧ Below w.heap.size w w' := by
 have HQ := Lib.hid hQ
 clear hQ
 by_cases hl : s.size = sz
 ·have hn := numOf_16 s (by omega)
  have hd : ((s.size : Int) == (sz : Int)) = true := by rw [hl]; simp
  have hss : s.size ≤ 1048576 := by omega
  by_cases h0 : 0 < numOf s
  ·have HR : Hid (isEl q sz s = decide (numOf s ≤ q)) := by show _ = _; unfold isEl; simp [hl, h0]
   have hdl := dl_pos _ (Nat.ne_of_gt h0)
   have hdd : decide ((dl (numOf s) : Int) > 0) = true := by simp; omega
   clear hl h0
   go_enter Try.func79, Try.ntmps79
   have hzz : Bx (w.alloc (.cells #[.int .i64 (sz : Int), .slice aq (dl q) cq, .slice ap (dl p) cp] 98)) w.heap.size 98 (gR sz q p aq ap cq cp) := Bx.new w _ _ _ rfl
   have hbz : Below w.heap.size w (w.alloc (.cells #[.int .i64 (sz : Int), .slice aq (dl q) cq, .slice ap (dl p) cp] 98)) := (Below.refl w.heap.size w).alloc (Nat.le_refl _) _
   obtain ⟨W2, hW2⟩ : ∃ W9 : World, (w.alloc (.cells #[.int .i64 (sz : Int), .slice aq (dl q) cq, .slice ap (dl p) cp] 98)) = W9 := ⟨_, rfl⟩
   rw [hW2] at hzz hbz
   have HZ := Lib.hid hzz
   have HBZ := Lib.hid hbz
   have hz_0 := HZ.out.cell (i := 0) rfl
   have hz_1 := HZ.out.cell (i := 1) rfl
   have hz_2 := HZ.out.cell (i := 2) rfl
   have hzl := HZ.out.lt
   clear hzz hbz
   go_wp2_with fail
   have HW0 : Hid (Below W2.heap.size W2 W2.drew) := (Below.refl _ _).drew
   refine wp_region_tree (fun w' => ∃ E : Over W2, w' = E.w) (.qs [0, 1, 2, 3, 4, 5, 6] (.a 7 (.q 8 (.q 9 (.q 10 (.q 11 (.q 12 (.q 14 (.q 15 (.a 13 (.a 16 (.q 17 (.q 18 (.q 19 .done)))))))))))))) (by kernel_rfl) (by kernel_rfl) (fun _ _ d _ _ h => by cases d <;> exact h) ⟨⟨_, HW0.out⟩, rfl⟩ ?_
   have hov := fun (E : Over W2) o => E.cell (b := w.heap.size) o hzl
   simp only [Tree.qs]
   repeat (refine tree_q rfl rfl ?_; go_big_quiet_step (fail); refine wpQuiet_nil ?_)
   refine tree_a rfl (fun K hK => ?_)
   go_simp
   refine (refRead_any s hss _).mono ?_
   rintro e w4 ⟨a4, c4, rfl, hn9, hb9⟩
   have HN4 := Lib.hid hn9
   have HW4 := Lib.hid (below_up HW0.out hb9)
   clear hn9 hb9
   refine hK _ _ ⟨⟨⟨w4, HW4.out⟩, rfl⟩, ?_⟩
   clear hK K
   repeat (refine tree_q rfl rfl ?_; go_big_quiet_step (fail); refine wpQuiet_nil ?_)
   refine tree_a rfl (fun K hK => ?_)
   go_simp
   refine (refRead_any s hss _).mono ?_
   rintro e w5 ⟨a5, c5, rfl, hn9, hb9⟩
   have HN5 := Lib.hid hn9
   have HW5 := Lib.hid (below_up HW4.out hb9)
   clear hn9 hb9
   refine hK _ _ ⟨⟨⟨w5, HW5.out⟩, rfl⟩, ?_⟩
   clear hK K
   refine tree_a rfl (fun K hK => ?_)
   go_simp
   refine (refCompare_any (numOf s) q a5 aq c5 cq (small_dl _ hn) w5 HN5.out (HQ.out.up (below_up HBZ.out HW5.out))).mono ?_
   rintro e w6 ⟨rfl, hb9⟩
   have HW6 := Lib.hid (below_up HW5.out hb9)
   clear hb9
   refine hK _ _ ⟨⟨⟨w6, HW6.out⟩, rfl⟩, ?_⟩
   clear hK K
   repeat (refine tree_q rfl rfl ?_; go_big_quiet_step (fail); refine wpQuiet_nil ?_)
   refine tree_end ?_
   have HF := Lib.hid (below_up HBZ.out HW6.out)
   clear hov
   go_wp2_with fail
   go_ret
   exact ⟨by rw [HR.out, ← cmpI_le]; rfl, HF.out⟩
  ·have HR : Hid (isEl q sz s = false) := by show _ = _; unfold isEl; simp [h0]
   have h00 : numOf s = 0 := by omega
   have hdl : dl (numOf s) = 0 := by rw [h00]; rfl
   clear hl h0 h00
   go_enter Try.func79, Try.ntmps79
   have hzz : Bx (w.alloc (.cells #[.int .i64 (sz : Int), .slice aq (dl q) cq, .slice ap (dl p) cp] 98)) w.heap.size 98 (gR sz q p aq ap cq cp) := Bx.new w _ _ _ rfl
   have hbz : Below w.heap.size w (w.alloc (.cells #[.int .i64 (sz : Int), .slice aq (dl q) cq, .slice ap (dl p) cp] 98)) := (Below.refl w.heap.size w).alloc (Nat.le_refl _) _
   obtain ⟨W2, hW2⟩ : ∃ W9 : World, (w.alloc (.cells #[.int .i64 (sz : Int), .slice aq (dl q) cq, .slice ap (dl p) cp] 98)) = W9 := ⟨_, rfl⟩
   rw [hW2] at hzz hbz
   have HZ := Lib.hid hzz
   have HBZ := Lib.hid hbz
   have hz_0 := HZ.out.cell (i := 0) rfl
   have hz_1 := HZ.out.cell (i := 1) rfl
   have hz_2 := HZ.out.cell (i := 2) rfl
   have hzl := HZ.out.lt
   clear hzz hbz
   go_wp2_with fail
   have HW0 : Hid (Below W2.heap.size W2 W2.drew) := (Below.refl _ _).drew
   refine wp_region_tree (fun w' => ∃ E : Over W2, w' = E.w) (.qs [0, 1, 2, 3, 4, 5, 6] (.a 7 (.q 8 (.q 9 (.q 10 (.q 11 (.q 12 (.q 14 (.q 15 (.a 13 (.a 16 (.q 17 (.q 18 (.q 19 .done)))))))))))))) (by kernel_rfl) (by kernel_rfl) (fun _ _ d _ _ h => by cases d <;> exact h) ⟨⟨_, HW0.out⟩, rfl⟩ ?_
   have hov := fun (E : Over W2) o => E.cell (b := w.heap.size) o hzl
   simp only [Tree.qs]
   repeat (refine tree_q rfl rfl ?_; go_big_quiet_step (fail); refine wpQuiet_nil ?_)
   refine tree_a rfl (fun K hK => ?_)
   go_simp
   refine (refRead_any s hss _).mono ?_
   rintro e w4 ⟨a4, c4, rfl, hn9, hb9⟩
   have HN4 := Lib.hid hn9
   have HW4 := Lib.hid (below_up HW0.out hb9)
   clear hn9 hb9
   refine hK _ _ ⟨⟨⟨w4, HW4.out⟩, rfl⟩, ?_⟩
   clear hK K
   repeat (refine tree_q rfl rfl ?_; go_big_quiet_step (fail); refine wpQuiet_nil ?_)
   refine tree_a rfl (fun K hK => ?_)
   go_simp
   refine hK _ _ ⟨⟨⟨w4, HW4.out⟩, rfl⟩, ?_⟩
   clear hK K
   refine tree_a rfl (fun K hK => ?_)
   go_simp
   refine hK _ _ ⟨⟨⟨w4, HW4.out⟩, rfl⟩, ?_⟩
   clear hK K
   repeat (refine tree_q rfl rfl ?_; go_big_quiet_step (fail); refine wpQuiet_nil ?_)
   refine tree_end ?_
   have HF := Lib.hid (below_up HBZ.out HW4.out)
   clear hov
   go_wp2_with fail
   go_ret
   exact ⟨by rw [HR.out]; rfl, HF.out⟩
 ·have HR : Hid (isEl q sz s = false) := by show _ = _; unfold isEl; simp [hl]
  have hd : ((s.size : Int) == (sz : Int)) = false := by simp; omega
  clear hl
  go_enter Try.func79, Try.ntmps79
  have hzz : Bx (w.alloc (.cells #[.int .i64 (sz : Int), .slice aq (dl q) cq, .slice ap (dl p) cp] 98)) w.heap.size 98 (gR sz q p aq ap cq cp) := Bx.new w _ _ _ rfl
  have hbz : Below w.heap.size w (w.alloc (.cells #[.int .i64 (sz : Int), .slice aq (dl q) cq, .slice ap (dl p) cp] 98)) := (Below.refl w.heap.size w).alloc (Nat.le_refl _) _
  obtain ⟨W2, hW2⟩ : ∃ W9 : World, (w.alloc (.cells #[.int .i64 (sz : Int), .slice aq (dl q) cq, .slice ap (dl p) cp] 98)) = W9 := ⟨_, rfl⟩
  rw [hW2] at hzz hbz
  have HZ := Lib.hid hzz
  have HBZ := Lib.hid hbz
  have hz_0 := HZ.out.cell (i := 0) rfl
  have hz_1 := HZ.out.cell (i := 1) rfl
  have hz_2 := HZ.out.cell (i := 2) rfl
  have hzl := HZ.out.lt
  clear hzz hbz
  go_wp2_with fail
  go_quiet (fail)
  go_wp2_with fail
  go_ret
  exact ⟨by rw [HR.out]; rfl, below_up HBZ.out (below_drewN (Below.refl _ _) _)⟩
end Go.Proofs.Ytipgjookfdkciaa
namespace Go.Proofs.Ytipgjookfdkciaa
open Go.RowKit
def ReadR (ok : Bool) (v : Value) (w : World) (e : Ending) (w' : World) : Prop := ∃ x : Nat, e = .returned (.tuple #[limbV x, .bool ok]) ∧ Below w.heap.size w w' ∧ (ok = true → limbV x = v)
theorem gScalar_any (G : GP) (ok : G.Ok) (gb : Nat) (s : ByteArray) (w : World) (hG : GroupAt w gb G) :
  Calls Try.prog 59 #[.pointer (some ⟨gb, 0, none⟩), .string s] w (ReadR (isSc G.q.m G.size s) (scV G (numOf s)) w) := by
 have no : isSc G.q.m G.size s = false → ∀ e w', (e = .returned (.tuple #[limbV 0, .bool false]) ∧ Below w.heap.size w w') → ReadR (isSc G.q.m G.size s) (scV G (numOf s)) w e w' := fun h e w' ⟨h1, h2⟩ => ⟨0, by rw [h]; exact h1, h2, fun hc => by rw [h] at hc; cases hc⟩
 by_cases h32 : 32 < s.size
 ·exact (gScalar_long G ok gb s h32 w hG).mono (no (by have := ok.size_le; unfold isSc; simp; omega))
 by_cases hl : s.size = G.size
 ·rcases Nat.lt_trichotomy (numOf s) G.q.m with hc | hc | hc
  ·refine (gScalar_yes G ok gb s hl hc w hG).mono ?_
   rintro e w' ⟨h1, h2⟩
   exact ⟨mont G.q.m (numOf s), by rw [show isSc G.q.m G.size s = true by unfold isSc; simp [hl, hc]]; exact h1, h2, fun _ => rfl⟩
  ·exact (gScalar_eq G ok gb s hl hc w hG).mono (no (by unfold isSc; simp; omega))
  ·exact (gScalar_gt G ok gb s hl hc w hG).mono (no (by unfold isSc; simp; omega))
 ·exact (gScalar_len G ok gb s (by omega) hl w hG).mono (no (by unfold isSc; simp [hl]))
theorem gElem_any (G : GP) (ok : G.Ok) (gb : Nat) (s : ByteArray) (w : World) (hG : GroupAt w gb G) :
  Calls Try.prog 106 #[.pointer (some ⟨gb, 0, none⟩), .string s] w (ReadR (isEl G.q.m G.size s) (elV G (numOf s)) w) := by
 have no : isEl G.q.m G.size s = false → ∀ e w', (e = .returned (.tuple #[limbV 0, .bool false]) ∧ Below w.heap.size w w') → ReadR (isEl G.q.m G.size s) (elV G (numOf s)) w e w' := fun h e w' ⟨h1, h2⟩ => ⟨0, by rw [h]; exact h1, h2, fun hc => by rw [h] at hc; cases hc⟩
 by_cases h32 : 32 < s.size
 ·exact (gElem_long G ok gb s h32 w hG).mono (no (by have := ok.size_le; unfold isEl; simp; omega))
 by_cases hl : s.size = G.size
 ·by_cases h0 : numOf s = 0
  ·exact (gElem_zero G ok gb s hl h0 w hG).mono (no (by unfold isEl; simp [h0]))
  rcases Nat.lt_trichotomy (numOf s) G.q.m with hc | hc | hc
  ·refine (gElem_lt G ok gb s hl (by omega) hc w hG).mono ?_
   rintro e w' ⟨h1, h2⟩
   exact ⟨mont G.p.m (numOf s), by rw [show isEl G.q.m G.size s = true by unfold isEl; simp [hl]; omega]; exact h1, h2, fun _ => rfl⟩
  ·refine (gElem_eq G ok gb s hl (by omega) hc w hG).mono ?_
   rintro e w' ⟨h1, h2⟩
   exact ⟨mont G.p.m (numOf s), by rw [show isEl G.q.m G.size s = true by unfold isEl; simp [hl]; omega]; exact h1, h2, fun _ => rfl⟩
  ·exact (gElem_gt G ok gb s hl hc w hG).mono (no (by unfold isEl; simp; omega))
 ·exact (gElem_len G ok gb s (by omega) hl w hG).mono (no (by unfold isEl; simp [hl]))
end Go.Proofs.Ytipgjookfdkciaa
namespace Go.Proofs.Ytipgjookfdkciaa
open Go.RowKit
def ReadM (b : Bool) (m : Nat) (w : World) (e : Ending) (w' : World) : Prop := ∃ x : Nat, e = .returned (.tuple #[limbV x, .bool b]) ∧ Below w.heap.size w w' ∧ (b = true → x = m)
theorem ReadR.m {b : Bool} {m : Nat} {w w' : World} {e : Ending} (h : ReadR b (limbV m) w e w') : ReadM b m w e w' := by
 obtain ⟨x, h1, h2, h3⟩ := h
 cases b with
 | true => exact ⟨m, by rw [h1, h3 rfl], h2, fun _ => rfl⟩
 | false => exact ⟨x, h1, h2, fun h => by cases h⟩
theorem gScalar_m (G : GP) (ok : G.Ok) (gb : Nat) (s : ByteArray) (b : Bool) (hb : isSc G.q.m G.size s = b) (w : World) (hG : GroupAt w gb G) :
  Calls Try.prog 59 #[.pointer (some ⟨gb, 0, none⟩), .string s] w (ReadM b (mont G.q.m (numOf s)) w) := by
 subst hb
 exact (gScalar_any G ok gb s w hG).mono fun e w' h => ReadR.m h
theorem gElem_m (G : GP) (ok : G.Ok) (gb : Nat) (s : ByteArray) (b : Bool) (hb : isEl G.q.m G.size s = b) (w : World) (hG : GroupAt w gb G) :
  Calls Try.prog 106 #[.pointer (some ⟨gb, 0, none⟩), .string s] w (ReadM b (mont G.p.m (numOf s)) w) := by
 subst hb
 exact (gElem_any G ok gb s w hG).mono fun e w' h => ReadR.m h
end Go.Proofs.Ytipgjookfdkciaa
namespace Go.Proofs.Ytipgjookfdkciaa
open Go.RowKit
end Go.Proofs.Ytipgjookfdkciaa
namespace Go.Proofs.Ytipgjookfdkciaa
open Go.RowKit
end Go.Proofs.Ytipgjookfdkciaa
namespace Go.Proofs.Ytipgjookfdkciaa
open Go.RowKit
end Go.Proofs.Ytipgjookfdkciaa
namespace Go.Proofs.Ytipgjookfdkciaa
theorem grp_prime_q (k : Nat) (h1 : 1 ≤ k) (h3 : k ≤ 3) : IsPrime (grp k).q.m := by
 obtain rfl | rfl | rfl : k = 1 ∨ k = 2 ∨ k = 3 := by omega
 ·exact prime_q1
 ·exact prime_q2
 ·exact prime_q3
theorem grp_prime_p (k : Nat) (h1 : 1 ≤ k) (h3 : k ≤ 3) : IsPrime (grp k).p.m := by
 obtain rfl | rfl | rfl : k = 1 ∨ k = 2 ∨ k = 3 := by omega
 ·exact prime_p1
 ·exact prime_p2
 ·exact prime_p3
def PM (p x y : Nat) : Prop := (p : Int) ∣ (x : Int) - y ∨ (p : Int) ∣ (x : Int) + y
theorem PM.refl (p x : Nat) : PM p x x := Or.inl ⟨0, by omega⟩
theorem PM.of_mod {p x y : Nat} (h : x % p = y % p) : PM p x y := Or.inl (by
 have h1 := Nat.div_add_mod x p
 have h2 := Nat.div_add_mod y p
 refine ⟨(x / p : Nat) - (y / p : Nat), ?_⟩
 have e1 : (x : Int) = p * (x / p : Nat) + (x % p : Nat) := by exact_mod_cast h1.symm
 have e2 : (y : Int) = p * (y / p : Nat) + (y % p : Nat) := by exact_mod_cast h2.symm
 rw [e1, e2, h]
 generalize ((x / p : Nat) : Int) = a
 generalize ((y / p : Nat) : Int) = b
 grind)
theorem PM.symm {p x y : Nat} (h : PM p x y) : PM p y x := by
 rcases h with ⟨c, h⟩ | ⟨c, h⟩
 ·exact Or.inl ⟨-c, by grind⟩
 ·exact Or.inr ⟨c, by grind⟩
theorem PM.trans {p x y z : Nat} (h : PM p x y) (g : PM p y z) : PM p x z := by
 rcases h with ⟨c, h⟩ | ⟨c, h⟩ <;> rcases g with ⟨d, g⟩ | ⟨d, g⟩
 ·exact Or.inl ⟨c + d, by grind⟩
 ·exact Or.inr ⟨c + d, by grind⟩
 ·exact Or.inr ⟨c - d, by grind⟩
 ·exact Or.inl ⟨c - d, by grind⟩
theorem PM.mul {p x y u v : Nat} (h : PM p x y) (g : PM p u v) : PM p (x * u) (y * v) := by
 have e1 : ((x * u : Nat) : Int) = x * u := by simp
 have e2 : ((y * v : Nat) : Int) = y * v := by simp
 unfold PM
 rw [e1, e2]
 rcases h with ⟨c, h⟩ | ⟨c, h⟩ <;> rcases g with ⟨d, g⟩ | ⟨d, g⟩
 ·exact Or.inl ⟨c * u + y * d, by grind⟩
 ·exact Or.inr ⟨c * u + y * d, by grind⟩
 ·exact Or.inr ⟨c * u - y * d, by grind⟩
 ·exact Or.inl ⟨c * u - y * d, by grind⟩
theorem PM.pow {p x y : Nat} (h : PM p x y) : ∀ n : Nat, PM p (x ^ n) (y ^ n)
 | 0 => PM.refl _ _
 | n + 1 => by rw [Nat.pow_succ, Nat.pow_succ]; exact PM.mul (PM.pow h n) h
theorem PM.mod (p x : Nat) : PM p (x % p) x := PM.of_mod (Nat.mod_mod _ _)
theorem lowR_pm (q p x : Nat) (hx : x < p) : PM p (lowR q p x) x := by
 unfold lowR
 split
 ·exact Or.inr ⟨1, by omega⟩
 ·exact PM.refl _ _
theorem lowR_leq {q p x : Nat} (hp : p = 2 * q + 1) (hx : x < p) : lowR q p x ≤ q := by
 unfold lowR
 split <;> omega
theorem lowR_fix {q p x : Nat} (hx : x ≤ q) : lowR q p x = x := by
 unfold lowR
 rw [if_neg (by omega)]
theorem low_unique {q p x y : Nat} (hp : p = 2 * q + 1) (hx : x ≤ q) (hy : y ≤ q) (h : PM p x y) : x = y := by
 rcases h with h | h
 ·have := Int.eq_zero_of_dvd_of_natAbs_lt_natAbs h (by omega)
  omega
 ·have := Int.eq_zero_of_dvd_of_natAbs_lt_natAbs h (by omega)
  omega
theorem low_eq {q p x y : Nat} (_hq : 0 < q) (hp : p = 2 * q + 1) (h : PM p x y) : lowR q p (x % p) = lowR q p (y % p) := by
 have hx := Nat.mod_lt x (show 0 < p by omega)
 have hy := Nat.mod_lt y (show 0 < p by omega)
 exact low_unique hp (lowR_leq hp hx) (lowR_leq hp hy) ((((lowR_pm q p _ hx).trans (PM.mod p x)).trans h).trans (((lowR_pm q p _ hy).trans (PM.mod p y)).symm))
theorem pm_low {q p : Nat} (hp : 0 < p) (x : Nat) : PM p (lowR q p (x % p)) x := (lowR_pm q p _ (Nat.mod_lt x hp)).trans (PM.mod p x)
theorem pm_euler {q p a : Nat} (hpp : IsPrime p) (hp : p = 2 * q + 1) (h0 : 0 < a) (ha : a < p) : PM p (a ^ q) 1 := by
 have hnd : ¬ p ∣ a := fun h => by have := Nat.le_of_dvd h0 h; omega
 have hf := fermat hpp hnd
 rw [show p - 1 = q * 2 by omega, Nat.pow_mul] at hf
 obtain ⟨b, hb⟩ : ∃ b, a ^ q = b := ⟨_, rfl⟩
 rw [hb] at hf ⊢
 have hb0 : 0 < b := by rw [← hb]; exact Nat.pow_pos h0
 have h2 : p ∣ b ^ 2 - 1 := (mod_eq_iff_dvd_sub (Nat.pow_pos hb0)).1 hf
 have h3 : b ^ 2 - 1 = (b - 1) * (b + 1) := by
  obtain ⟨c, rfl⟩ : ∃ c, b = c + 1 := ⟨b - 1, by omega⟩
  rw [Nat.add_sub_cancel, Nat.pow_two]
  have : (c + 1) * (c + 1) = c * (c + 1 + 1) + 1 := by grind
  omega
 rw [h3] at h2
 rcases hpp.dvd_mul h2 with ⟨c, h⟩ | ⟨c, h⟩
 ·refine Or.inl ⟨c, ?_⟩
  have : ((b - 1 : Nat) : Int) = p * c := by rw [h]; simp
  omega
 ·refine Or.inr ⟨c, ?_⟩
  have : ((b + 1 : Nat) : Int) = p * c := by rw [h]; simp
  omega
end Go.Proofs.Ytipgjookfdkciaa
namespace Go.Proofs.Ytipgjookfdkciaa
open Go.RowKit
theorem numL_inj : ∀ l m : List UInt8, l.length = m.length → numL l = numL m → l = m
 | [], [], _, _ => rfl
 | [], _ :: _, h, _ => by simp at h
 | _ :: _, [], h, _ => by simp at h
 | a :: l, b :: m, h, e => by
  have hl : l.length = m.length := by simpa using h
  have h1 := numL_lt l
  have h2 := numL_lt m
  simp only [numL] at e
  rw [hl] at e h1
  have hP : 0 < 256 ^ m.length := Nat.pow_pos (by decide)
  have hd := congrArg (· / 256 ^ m.length) e
  have hm := congrArg (· % 256 ^ m.length) e
  simp only [Nat.mul_comm _ (256 ^ m.length), Nat.mul_add_div hP, Nat.mul_add_mod, Nat.div_eq_of_lt h1, Nat.div_eq_of_lt h2, Nat.mod_eq_of_lt h1, Nat.mod_eq_of_lt h2, Nat.add_zero] at hd hm
  rw [numL_inj l m hl hm, UInt8.toNat_inj.1 hd]
theorem numOf_inj {s t : ByteArray} (h : s.size = t.size) (e : numOf s = numOf t) : s = t := by
 have h1 := numL_inj s.data.toList t.data.toList (by simpa using h) e
 cases s; cases t
 simp at h1
 rw [h1]
theorem text_numOf (s : ByteArray) : textS (numOf s) s.size = s := by
 refine numOf_inj (textS_size _ _) ?_
 rw [numOf_textS]
 exact Nat.mod_eq_of_lt (by have := numL_lt s.data.toList; simpa [numOf] using this)
def T (G : GP) (n : Nat) : ByteArray := textS n G.size
theorem T_size (G : GP) (n : Nat) : (T G n).size = G.size := textS_size _ _
theorem T_num {G : GP} (_ok : G.Ok) {n : Nat} (h : n ≤ G.q.m) (hne : G.q.m < 256 ^ G.size) : numOf (T G n) = n := by
 unfold T
 rw [numOf_textS]
 exact Nat.mod_eq_of_lt (by omega)
theorem T_sc {G : GP} (ok : G.Ok) (hne : G.q.m < 256 ^ G.size) {n : Nat} (h : n < G.q.m) : isSc G.q.m G.size (T G n) = true := by
 unfold isSc
 rw [T_size, T_num ok (Nat.le_of_lt h) hne]
 simp [h]
theorem grp_fits (k : Nat) (h1 : 1 ≤ k) (h3 : k ≤ 3) : (grp k).q.m < 256 ^ (grp k).size := by
 obtain rfl | rfl | rfl : k = 1 ∨ k = 2 ∨ k = 3 := by omega
 all_goals decide
end Go.Proofs.Ytipgjookfdkciaa
namespace Go.Proofs.Ytipgjookfdkciaa
open Go.RowKit
def Lw (q p v : Nat) : Nat := lowR q p (v % p)
section
variable {q p : Nat} (hq : 0 < q) (hp : p = 2 * q + 1)
include hq hp
theorem Lw_eq {x y : Nat} (h : PM p x y) : Lw q p x = Lw q p y := low_eq hq hp h
omit hq in
theorem Lw_pm (x : Nat) : PM p (Lw q p x) x := pm_low (by omega) x
omit hq in
theorem Lw_le (x : Nat) : Lw q p x ≤ q := lowR_leq hp (Nat.mod_lt _ (by omega))
omit hq in
theorem Lw_fix {x : Nat} (h : x ≤ q) : Lw q p x = x := by
 unfold Lw
 rw [Nat.mod_eq_of_lt (by omega), lowR_fix h]
omit hq in
end
theorem pm_pow_mod {q p a : Nat} (hpp : IsPrime p) (hp : p = 2 * q + 1) (h0 : 0 < a) (ha : a < p) (n : Nat) : PM p (a ^ (n % q)) (a ^ n) := by
 have h1 : a ^ n = a ^ (n % q) * (a ^ q) ^ (n / q) := by
  rw [← Nat.pow_mul, ← Nat.pow_add, Nat.mod_add_div]
 rw [h1]
 have h2 := PM.mul (PM.refl p (a ^ (n % q))) ((pm_euler hpp hp h0 ha).pow (n / q))
 rw [Nat.one_pow, Nat.mul_one] at h2
 exact h2.symm
end Go.Proofs.Ytipgjookfdkciaa
namespace Go.Proofs.Ytipgjookfdkciaa
open Go.RowKit
section
variable {G : GP}
theorem lowN_le (ok : G.Ok) (x : Nat) : lowN G x ≤ G.q.m := Lw_le ok.twice x
theorem lowN_16 (ok : G.Ok) (x : Nat) : lowN G x < DD ^ 16 := Nat.lt_of_le_of_lt (lowN_le ok x) ok.q.lt4
theorem lowN_fix (ok : G.Ok) {x : Nat} (h : x ≤ G.q.m) : lowN G x = x := Lw_fix ok.twice h
structure RG (W : World) (G : GP) (aq ap : Option Addr) : Prop where
 q : NumAt W aq G.q.m
 p : NumAt W ap G.p.m
theorem RG.up {W W' : World} {aq ap : Option Addr} (h : RG W G aq ap) (hb : Below W.heap.size W W') : RG W' G aq ap := ⟨h.q.up hb, h.p.up hb⟩
variable {aq ap : Option Addr} {cq cp : Nat}
theorem rPow (ok : G.Ok) {a n : Nat} {aa an : Option Addr} {ca cn : Nat} (ha : a < DD ^ 16) (hn : dl n ≤ 65536) (w : World) (hG : RG w G aq ap) (hA : NumAt w aa a) (hN : NumAt w an n) :
  Calls Try.prog 111 #[.agg #[.int .i64 (G.size : Int), .slice aq (dl G.q.m) cq, .slice ap (dl G.p.m) cp], .slice aa (dl a) ca, .slice an (dl n) cn] w fun e w' => NumR w e w' (lowN G (a ^ n)) :=
 refPow_any a n G.size G.q.m G.p.m aa an aq ap ca cn cq cp ha hn (by have := ok.twice; have := ok.q.pos; omega) ok.p.lt4 w hA hN hG.q hG.p
theorem rIsSc (ok : G.Ok) (s : ByteArray) (w : World) (hG : RG w G aq ap) :
  Calls Try.prog 66 #[.agg #[.int .i64 (G.size : Int), .slice aq (dl G.q.m) cq, .slice ap (dl G.p.m) cp], .string s] w fun e w' => e = .returned (.bool (isSc G.q.m G.size s)) ∧ Below w.heap.size w w' :=
 refIsScalar_any s G.size G.q.m G.p.m aq ap cq cp ok.size_le w hG.q
theorem rIsEl (ok : G.Ok) (s : ByteArray) (w : World) (hG : RG w G aq ap) :
  Calls Try.prog 79 #[.agg #[.int .i64 (G.size : Int), .slice aq (dl G.q.m) cq, .slice ap (dl G.p.m) cp], .string s] w fun e w' => e = .returned (.bool (isEl G.q.m G.size s)) ∧ Below w.heap.size w w' :=
 refIsElem_any s G.size G.q.m G.p.m aq ap cq cp ok.size_le w hG.q
theorem rText (ok : G.Ok) {n : Nat} {an : Option Addr} {cn : Nat} (hn : n < DD ^ 16) (w : World) (hN : NumAt w an n) :
  Calls Try.prog 70 #[.slice an (dl n) cn, .int .i64 (G.size : Int)] w fun e w' => e = .returned (.string (textS n G.size)) ∧ Below w.heap.size w w' :=
 refText_any n G.size an cn (small_dl n hn) (by have := ok.size_le; omega) w hN
end
end Go.Proofs.Ytipgjookfdkciaa
namespace Go.Proofs.Ytipgjookfdkciaa
open Go.RowKit
structure ClaimA where
 ab : Option Addr
 cb : Nat
 bases : List ByteArray
 ai : Option Addr
 ci : Nat
 images : List ByteArray
def ClaimA.cells (c : ClaimA) : List Value := [.slice c.ab c.bases.length c.cb, .slice c.ai c.images.length c.ci]
theorem ClaimA.cells_len (c : ClaimA) : c.cells.length = 2 := rfl
structure ClaimA.At (w : World) (c : ClaimA) : Prop where
 b : Sl w w.heap.size c.ab (c.bases.map Value.string)
 i : Sl w w.heap.size c.ai (c.images.map Value.string)
theorem ClaimA.At.up {w w' : World} {c : ClaimA} (h : c.At w) (hb : Below w.heap.size w w') : c.At w' := ⟨h.b.up hb, h.i.up hb⟩
structure ClaimsAt (w : World) (a : Option Addr) (l : List ClaimA) : Prop where
 s : Sl w w.heap.size a (l.flatMap ClaimA.cells)
 e : ∀ c ∈ l, ClaimA.At w c
theorem ClaimsAt.up {w w' : World} {a : Option Addr} {l : List ClaimA} (h : ClaimsAt w a l) (hb : Below w.heap.size w w') : ClaimsAt w' a l := ⟨h.s.up hb, fun c hc => (h.e c hc).up hb⟩
theorem ClaimsAt.one {w : World} {a : Option Addr} {l : List ClaimA} (h : ClaimsAt w a l) (i : Nat) (hi : i < l.length) : ClaimA.At w l[i] := h.e _ (List.getElem_mem hi)
def cLong (c : ClaimA) : Bool := decide (8 < c.bases.length) || decide (8 < c.images.length)
def cForm (c : ClaimA) : Bool := decide (c.bases.length = 0) || decide (c.bases.length ≠ c.images.length)
def shapeE (l : List ClaimA) : Nat := if (decide (64 < l.length) || l.any cLong) = true then 3 else if (decide (l.length = 0) || l.any cForm) = true then 2 else 0
def cElems (G : GP) (c : ClaimA) : Bool := c.bases.all (isEl G.q.m G.size) && c.images.all (isEl G.q.m G.size)
def wrongE (G : GP) (l : List ClaimA) : Nat := if shapeE l ≠ 0 then shapeE l else if l.all (cElems G) = true then 0 else 7
def scE (G : GP) (n : Nat) (l : List ByteArray) : Nat := if l.length = n then if l.all (isSc G.q.m G.size) = true then 0 else 6 else 2
theorem shape_ok {l : List ClaimA} (h : shapeE l = 0) : 0 < l.length ∧ l.length ≤ 64 ∧ ∀ c ∈ l, 0 < c.bases.length ∧ c.bases.length ≤ 8 ∧ c.images.length = c.bases.length := by
 unfold shapeE at h
 split at h
 ·cases h
 ·rename_i h1
  split at h
  ·cases h
  ·rename_i h2
   simp only [Bool.or_eq_true, decide_eq_true_eq, List.any_eq_true, not_or, not_exists, not_and] at h1 h2
   refine ⟨by omega, by omega, fun c hc => ?_⟩
   have h3 := h1.2 c hc
   have h4 := h2.2 c hc
   unfold cLong at h3
   unfold cForm at h4
   simp only [Bool.or_eq_true, decide_eq_true_eq, not_or, ne_eq, Decidable.not_not] at h3 h4
   omega
theorem wrong_ok {G : GP} {l : List ClaimA} (h : wrongE G l = 0) : shapeE l = 0 ∧ l.all (cElems G) = true := by
 unfold wrongE at h
 split at h
 ·rename_i h1; exact absurd h h1
 ·rename_i h1
  split at h
  ·rename_i h2; exact ⟨by omega, h2⟩
  ·cases h
structure RowA where
 a : Option Addr
 c : Nat
 l : List ByteArray
def RowA.cells (r : RowA) : List Value := [.slice r.a r.l.length r.c]
def RowA.Ok (r : RowA) : Prop := (r.a = none → r.c = 0) ∧ r.l.length ≤ r.c
theorem RowA.cells_len (r : RowA) : r.cells.length = 1 := rfl
def RowA.At (w : World) (r : RowA) : Prop := Sl w w.heap.size r.a (r.l.map Value.string)
structure RowsAt (w : World) (a : Option Addr) (l : List RowA) : Prop where
 s : Sl w w.heap.size a (l.flatMap RowA.cells)
 e : ∀ r ∈ l, RowA.At w r
theorem RowA.At.up {w w' : World} {r : RowA} (h : r.At w) (hb : Below w.heap.size w w') : r.At w' := Sl.up h hb
theorem RowsAt.up {w w' : World} {a : Option Addr} {l : List RowA} (h : RowsAt w a l) (hb : Below w.heap.size w w') : RowsAt w' a l := ⟨h.s.up hb, fun c hc => (h.e c hc).up hb⟩
theorem RowsAt.one {w : World} {a : Option Addr} {l : List RowA} (h : RowsAt w a l) (i : Nat) (hi : i < l.length) : RowA.At w l[i] := h.e _ (List.getElem_mem hi)
end Go.Proofs.Ytipgjookfdkciaa
namespace Go.Proofs.Ytipgjookfdkciaa
open Go.RowKit
def Gives (v : Value) (w : World) (e : Ending) (w' : World) : Prop := e = .returned v ∧ Below w.heap.size w w'
theorem all_take_true {α : Type} {f : α → Bool} {l : List α} (h : (l.take l.length).all f = true) : l.all f = true := by rwa [List.take_length] at h
theorem all_not {α : Type} {f : α → Bool} {l : List α} {i : Nat} (hi : i < l.length) (h : f l[i] = false) : l.all f = false := by
 rw [List.all_eq_false]
 exact ⟨l[i], List.getElem_mem hi, by simp [h]⟩
theorem all_snoc {α : Type} {f : α → Bool} {l : List α} {i : Nat} (hi : i < l.length) (ht : (l.take i).all f = true) (h : f l[i] = true) : (l.take (i + 1)).all f = true := by
 rw [List.take_succ_eq_append_getElem hi, List.all_append, ht]
 simp [h]
section
variable {G : GP}
theorem rText2 (ok : G.Ok) {x : Nat} {an : Option Addr} {cn : Nat} (w : World) (hN : NumAt w an (lowN G x)) :
  Calls Try.prog 70 #[.slice an (dl (lowN G x)) cn, .int .i64 (G.size : Int)] w fun e w' => e = .returned (.string (textS (lowN G x) G.size)) ∧ Below w.heap.size w w' :=
 rText ok (lowN_16 ok x) w hN
theorem isEl_size {q n : Nat} {s : ByteArray} (h : isEl q n s = true) : s.size = n := by
 unfold isEl at h
 simp only [Bool.and_eq_true, decide_eq_true_eq] at h
 exact h.1.1
theorem isSc_size {q n : Nat} {s : ByteArray} (h : isSc q n s = true) : s.size = n := by
 unfold isSc at h
 simp only [Bool.and_eq_true, decide_eq_true_eq] at h
 exact h.1
end
end Go.Proofs.Ytipgjookfdkciaa
namespace Go.Proofs.Ytipgjookfdkciaa
open Go.RowKit
theorem RowO.of_bx {N b n : Nat} {w : World} {e : TypeId} {size : Nat} {cs : List Value} (h : Bx w b e cs) (hN : N ≤ b) (hn : cs.length = n * size) (hm : n ≤ maxLen) : RowO N w e size (.slice (some ⟨b, 0, none⟩) n n) n cs := by
 refine ⟨hn, Or.inr ⟨b, n, cs.toArray, rfl, hN, h, Nat.le_refl _, hm, by simpa using hn, ?_⟩⟩
 rw [← hn]; simp
theorem Sl.addr {w : World} {B : Nat} {ad : Addr} {cs : List Value} (h : Sl w B (some ad) cs) : ∀ j u, cs[j]? = some u → w.cell? (ad.add j) = some u := by
 intro j u hj
 rcases h with rfl | ⟨b, off, he, _, hc⟩
 ·simp at hj
 ·simp only [Option.some.injEq] at he
  subst he
  have : (⟨b, off, none⟩ : Addr).add j = ⟨b, off + j, none⟩ := by unfold Addr.add; split <;> simp_all
  rw [this]; exact hc j u hj
theorem wpList_joinR {P : Program} (N : Nat) (w : World) (hN : N ≤ w.heap.size) {ops : Array Oper} {rest : List Oper} {o : Oper} {a : Act} {Q : Exit → Act → World → Prop} (hgd : o.guard = none) (s x : Operand) (t : TypeId)
  (ho : o.op = .call { callee := .builtin .append, args := #[s, x], argTypes := #[t, t] })
  (e : TypeId) (i : TypeInfo) (z : Value) (size bytes : Nat) (ht : P.underlying t = some (.slice e)) (hi : P.info? e = some i) (hz : i.zero = some z)
  (hsize : i.size = size) (hby : i.bytes = bytes) (hzs : z.cells.size = size) (hsz : 0 < size)
  (v : Value) (n : Nat) (xs : List Value) (hs : a.eval s = v) (hown : RowO N w e size v n xs)
  (al : Option Addr) (m c : Nat) (news : List Value) (hx : a.eval x = .slice al m c) (hl : news.length = m * size) (hS : Sl w w.heap.size al news) (h0 : al = none → c = 0) (h1 : ∀ u ∈ news, u.oneCell' = true)
  (h63 : (n + m) * bytes ≤ 140737488355328) (hn : n + m ≤ maxLen)
  (h : ∀ a' c' w', RowO N w' e size (.slice a' (n + m) c') (n + m) (xs ++ news) → w.grownBy w' v.ownBlock → wpList P ops Q rest (a.put o.dst (.slice a' (n + m) c')) w') :
  wpList P ops Q (o :: rest) a w := by
 cases al with
 | none =>
  have hc := h0 rfl
  subst hc
  have hnews : news = [] := by
   rcases hS with h9 | ⟨b, off, h9, _⟩
   ·exact h9
   ·cases h9
  subst hnews
  have hm : m = 0 := by
   rcases Nat.mul_eq_zero.1 hl.symm with h9 | h9
   ·exact h9
   ·omega
  subst hm
  obtain ⟨a', c', rfl⟩ := RowO.form hown
  refine wpList_append_own_none hgd s x t ho N e i size ht hi _ n xs hs hown hx ?_
  exact h a' c' w (by simpa using hown) ⟨rfl, rfl, rfl, Nat.le_refl _, fun _ _ _ => rfl⟩
 | some ad =>
  refine wpList_plain hgd fun K hK => ?_
  obtain ⟨v', w', hr, h2, h3, _, _⟩ := run_append_own_at (P := P) w N t o.type e i z size bytes ht hi hz hsize hby hzs hsz v n xs hown ad m c news hl hS.addr h1 hn h63 hN
  obtain ⟨a', c', rfl⟩ := RowO.form (N := N) h2
  unfold Oper.wp execOp
  simp only [ho, resolve, invoke, builtin, Sem.run_bind, Sem.run_pure, Result.andThen_ok, List.map_toArray, List.map_cons, List.map_nil, hs, hx, hr]
  exact hK _ _ (h a' c' w' h2 h3)
theorem step_pushR {P : Program} (N : Nat) (w0 : World) (hN : N ≤ w0.heap.size) {ops : Array Oper} {o : Oper} {a : Act} {K : Act → World → Prop} {Q : Exit → Act → World → Prop} {E : Prop} (hgd : o.guard = none) (s x : Operand) (t : TypeId)
  (ho : o.op = .call { callee := .builtin .append, args := #[s, x], argTypes := #[t, t] })
  (e : TypeId) (i : TypeInfo) (z : Value) (size bytes : Nat) (ht : P.underlying t = some (.slice e)) (hi : P.info? e = some i) (hz : i.zero = some z)
  (hsize : i.size = size) (hby : i.bytes = bytes) (hzs : z.cells.size = size) (hsz : 0 < size)
  (v : Value) (n : Nat) (xs : List Value) (hs : a.eval s = v) (hown : RowO N w0 e size v n xs)
  (news : Array Value) (e2 : TypeId) (b : Nat) (hb : w0.heap.size = b) (hx : a.eval x = .slice (some ⟨b, 0, none⟩) 1 1) (hl : news.size = size) (h1 : ∀ u ∈ news.toList, u.oneCell' = true)
  (h63 : (n + 1) * bytes ≤ 140737488355328) (hn : n + 1 ≤ maxLen)
  (h : ∀ g cap w', RowO N w' e size (.slice (some ⟨g, 0, none⟩) (n + 1) cap) (n + 1) (xs ++ news.toList) → w0.grownBy w' v.ownBlock → K (a.put o.dst (.slice (some ⟨g, 0, none⟩) (n + 1) cap)) w') :
  if Region.wanted o (yielded ops a.tmps) = true then Oper.wp P o a (w0.alloc (.cells news e2)) K Q else E := by
 subst hb
 refine step_append_lies _ hgd s x t ho N e i z size bytes ht hi hz hsize hby hzs hsz v n xs hs (World.ownsRow.alloc hown _) ⟨w0.heap.size, 0, none⟩ 1 1 news.toList hx (by simpa using hl)
  (World.news_of_block (heap_alloc_new w0 _)) h1 (by omega) hn h63 (by simp; omega) _ rfl ?_
 intro g cap w' hown' hg _ _
 refine h g cap w' hown' ⟨hg.os, hg.tape, hg.output, ?_, ?_⟩
 ·have := hg.size; simp at this; omega
 ·intro k hk hne
  rw [hg.block k (by simp; omega) hne]
  exact Below.heap_alloc _ _ _ hk
end Go.Proofs.Ytipgjookfdkciaa
namespace Go.Proofs.Ytipgjookfdkciaa
open Go.RowKit
theorem infoScalar : (Try.prog.info? 91).map (fun i => (i.zero, i.size, i.bytes)) = some (some (.agg #[.int .u64 0, .int .u64 0, .int .u64 0, .int .u64 0]), 4, 32) := by kernel_rfl
theorem infoElem : (Try.prog.info? 111).map (fun i => (i.zero, i.size, i.bytes)) = some (some (.agg #[.int .u64 0, .int .u64 0, .int .u64 0, .int .u64 0]), 4, 32) := by kernel_rfl
def limC (m : Nat) (s : ByteArray) : List Value := [.int .u64 (dig (mont m (numOf s)) 0 : Int), .int .u64 (dig (mont m (numOf s)) 1 : Int), .int .u64 (dig (mont m (numOf s)) 2 : Int), .int .u64 (dig (mont m (numOf s)) 3 : Int)]
theorem limC_len (m : Nat) (s : ByteArray) : (limC m s).length = 4 := rfl
def AllR (m : Nat) (f : ByteArray → Bool) (l : List ByteArray) (w : World) (e : Ending) (w' : World) : Prop :=
 Below w.heap.size w w' ∧ if l.all f then ∃ a c, e = .returned (.tuple #[.slice a l.length c, .bool true]) ∧ Sl w' w'.heap.size a (l.flatMap (limC m)) ∧ (∀ x, a = some x → w.heap.size ≤ x.block) else e = .returned (.tuple #[.slice none 0 0, .bool false])
theorem allSc_any (G : GP) (ok : G.Ok) (gb : Nat) (l : List ByteArray) (al : Option Addr) (cl : Nat) (hl : l.length ≤ 8796093022207) (w : World) (hG : GroupAt w gb G) (hS : Sl w w.heap.size al (l.map Value.string)) :
  Calls Try.prog 58 #[.slice al l.length cl, .func (.func 59) #[.pointer (some ⟨gb, 0, none⟩)] #[]] w (AllR G.q.m (isSc G.q.m G.size) l w) := by
 have OK := Lib.hid ok
 have HG := Lib.hid hG
 have HS := Lib.hid hS
 clear ok hG hS
 go_enter Try.func58, Try.ntmps58
 obtain ⟨i9, hi9, hz90, hz91, hz92⟩ := info_parts infoScalar
 go_wp2_with (at_make; refine wpList_make_own _ rfl _ _ 84 rfl (w.heap.size) 91 i9 _ 4 Try.underlying84 hi9 hz90 hz91 _ _ _ (l.length) rfl rfl ?c1 ?c2 ?c3 ?c4 ?_)
 case c1 => rfl
 case c2 => rw [hz92]; omega
 case c3 => unfold maxLen; omega
 case c4 => omega
 intro w1 hown9 hg9
 have hb9 : Below w.heap.size w w1 := (Below.refl _ _).grown hg9 (Nat.le_refl _) (fun q hq => by cases hq)
 have HB := Lib.hid hb9
 have HZS := Lib.hid hb9.size
 have Hr : Hid (RowO (w.heap.size) w1 91 4 (.slice (some ⟨w.heap.size, 0, none⟩) 0 (l.length)) 0 []) := Lib.hid hown9
 clear hb9 hown9 hg9 hi9 hz90 hz91 hz92
 go_wp2_with fail
 go_loopw [16, 6] (fun i v wr => ∃ j : Nat, j ≤ l.length ∧ i = .int .i64 j ∧ v = .slice (some ⟨w.heap.size, 0, none⟩) j l.length ∧ Hid (Below w.heap.size w wr) ∧ Hid ((l.take j).all (isSc G.q.m G.size) = true) ∧ Hid (RowO w.heap.size wr 91 4 (.slice (some ⟨w.heap.size, 0, none⟩) j l.length) j ((l.take j).flatMap (limC G.q.m)))) (fun i _ _ => l.length - (intOf i).toNat)
 case atStart => exact ⟨0, Nat.zero_le _, rfl, rfl, HB, rfl, Hr⟩
 case round =>
  obtain ⟨j, hj, rfl, rfl, HB, HAL, Hr⟩ := hrel
  by_cases hjl : j < l.length
  ·skip
   have Hs0 := Lib.hid (show w.heap.size < wr.heap.size from (Hr.out.lt _ rfl).2)
   replace HZS := sz HZS Hs0.out
   obtain ⟨bl, ol, rfl, hbl, hc⟩ := (HS.out.up HB.out).at j (by simpa using hjl)
   rw [List.getElem_map] at hc
   obtain ⟨bj, hbj⟩ : ∃ x, isSc G.q.m G.size l[j] = x := ⟨_, rfl⟩
   have HBJ := Lib.hid hbj
   clear hbj
   go_wp2_with fail
   refine (gScalar_m G OK.out gb l[j] bj HBJ.out wr (HG.out.up HB.out)).mono ?_
   rintro e w2 ⟨sx, rfl, hb9, hx9⟩
   replace Hr := Lib.hid (Hr.out.up hb9)
   replace HB := hbu HB hb9
   replace HZS := sz HZS hb9.size
   have HSX := Lib.hid hx9
   clear hx9 hb9
   unfold limbV
   obtain ⟨w3, hq3, hb9, hz9, Hbp⟩ := new1 w2 91 [.int .u64 (dig (sx) 0 : Int), .int .u64 (dig (sx) 1 : Int), .int .u64 (dig (sx) 2 : Int), .int .u64 (dig (sx) 3 : Int)]
   replace Hr := Lib.hid (Hr.out.up hb9)
   replace HB := hbu HB hb9
   replace HZS := sz HZS hz9.out
   clear hb9 hz9
   have bp_ := Hbp.out.c4
   cases bj
   ·go_wp2_with fail
    clear hq3
    go_ret2
    exact ⟨HB.out, by rw [if_neg (by rw [all_not hjl HBJ.out]; decide)]; rfl⟩
   ·obtain rfl := HSX.out rfl
    obtain ⟨i9, hi9, hz90, hz91, hz92⟩ := info_parts infoScalar
    go_wp2_with (at_builtin; refine wpList_fitR (w.heap.size) w3 rfl _ _ 84 rfl 91 i9 4 Try.underlying84 hi9 hz91 (w.heap.size) (j) ((l.length)) (((l.take j).flatMap (limC G.q.m))) rfl Hr.out _ _ _ rfl rfl rfl (by simp [Value.oneCell']) (by omega) ?_)
    intro w4 hown9 hg9
    clear hq3 bp_
    have hb9 := Below.grown HB.out hg9 (by have g0 := HZS.out; omega) (fun q hq => Nat.le_trans (show w.heap.size ≤ w.heap.size by have g0 := HZS.out; omega) (Hr.out.lt q hq).1)
    replace Hbp := Lib.hid (Hbp.out.grown hg9 (fun e9 => by have a0 := Option.some.inj e9; have a1 := Hr.out.lt _ e9; have g0 := HZS.out; omega))
    replace HZS := sz HZS hg9.size
    clear Hr HB
    have Hr := Lib.hid hown9
    have HB := Lib.hid hb9
    clear hb9 hown9 hg9 hi9 hz90 hz91 hz92
    have bp_ := Hbp.out.c4
    go_wp2_with fail
    go_roundw
    case rel => exact ⟨j + 1, by omega, by go_num, rfl, HB, all_snoc hjl HAL.out HBJ.out, Hr.out.eq (flat_snoc _ _ _ hjl).symm rfl⟩
    case measure => simp [intOf]; omega
  ·have hjn : j = l.length := by omega
   subst hjn
   go_wp2_with fail
   go_ret2
   rw [List.take_length] at Hr
   exact ⟨HB.out, by rw [if_pos (all_take_true HAL.out)]; exact ⟨_, _, rfl, Hr.out.sl, fun x hx => by cases hx; exact Nat.le_refl _⟩⟩
theorem allEl_any (G : GP) (ok : G.Ok) (gb : Nat) (l : List ByteArray) (al : Option Addr) (cl : Nat) (hl : l.length ≤ 8796093022207) (w : World) (hG : GroupAt w gb G) (hS : Sl w w.heap.size al (l.map Value.string)) :
  Calls Try.prog 185 #[.slice al l.length cl, .func (.func 106) #[.pointer (some ⟨gb, 0, none⟩)] #[]] w (AllR G.p.m (isEl G.q.m G.size) l w) := by
 have OK := Lib.hid ok
 have HG := Lib.hid hG
 have HS := Lib.hid hS
 clear ok hG hS
 go_enter Try.func185, Try.ntmps185
 obtain ⟨i9, hi9, hz90, hz91, hz92⟩ := info_parts infoElem
 go_wp2_with (at_make; refine wpList_make_own _ rfl _ _ 148 rfl (w.heap.size) 111 i9 _ 4 Try.underlying148 hi9 hz90 hz91 _ _ _ (l.length) rfl rfl ?c1 ?c2 ?c3 ?c4 ?_)
 case c1 => rfl
 case c2 => rw [hz92]; omega
 case c3 => unfold maxLen; omega
 case c4 => omega
 intro w1 hown9 hg9
 have hb9 : Below w.heap.size w w1 := (Below.refl _ _).grown hg9 (Nat.le_refl _) (fun q hq => by cases hq)
 have HB := Lib.hid hb9
 have HZS := Lib.hid hb9.size
 have Hr : Hid (RowO (w.heap.size) w1 111 4 (.slice (some ⟨w.heap.size, 0, none⟩) 0 (l.length)) 0 []) := Lib.hid hown9
 clear hb9 hown9 hg9 hi9 hz90 hz91 hz92
 go_wp2_with fail
 go_loopw [16, 6] (fun i v wr => ∃ j : Nat, j ≤ l.length ∧ i = .int .i64 j ∧ v = .slice (some ⟨w.heap.size, 0, none⟩) j l.length ∧ Hid (Below w.heap.size w wr) ∧ Hid ((l.take j).all (isEl G.q.m G.size) = true) ∧ Hid (RowO w.heap.size wr 111 4 (.slice (some ⟨w.heap.size, 0, none⟩) j l.length) j ((l.take j).flatMap (limC G.p.m)))) (fun i _ _ => l.length - (intOf i).toNat)
 case atStart => exact ⟨0, Nat.zero_le _, rfl, rfl, HB, rfl, Hr⟩
 case round =>
  obtain ⟨j, hj, rfl, rfl, HB, HAL, Hr⟩ := hrel
  by_cases hjl : j < l.length
  ·skip
   have Hs0 := Lib.hid (show w.heap.size < wr.heap.size from (Hr.out.lt _ rfl).2)
   replace HZS := sz HZS Hs0.out
   obtain ⟨bl, ol, rfl, hbl, hc⟩ := (HS.out.up HB.out).at j (by simpa using hjl)
   rw [List.getElem_map] at hc
   obtain ⟨bj, hbj⟩ : ∃ x, isEl G.q.m G.size l[j] = x := ⟨_, rfl⟩
   have HBJ := Lib.hid hbj
   clear hbj
   go_wp2_with fail
   refine (gElem_m G OK.out gb l[j] bj HBJ.out wr (HG.out.up HB.out)).mono ?_
   rintro e w2 ⟨sx, rfl, hb9, hx9⟩
   replace Hr := Lib.hid (Hr.out.up hb9)
   replace HB := hbu HB hb9
   replace HZS := sz HZS hb9.size
   have HSX := Lib.hid hx9
   clear hx9 hb9
   unfold limbV
   obtain ⟨w3, hq3, hb9, hz9, Hbp⟩ := new1 w2 111 [.int .u64 (dig (sx) 0 : Int), .int .u64 (dig (sx) 1 : Int), .int .u64 (dig (sx) 2 : Int), .int .u64 (dig (sx) 3 : Int)]
   replace Hr := Lib.hid (Hr.out.up hb9)
   replace HB := hbu HB hb9
   replace HZS := sz HZS hz9.out
   clear hb9 hz9
   have bp_ := Hbp.out.c4
   cases bj
   ·go_wp2_with fail
    clear hq3
    go_ret2
    exact ⟨HB.out, by rw [if_neg (by rw [all_not hjl HBJ.out]; decide)]; rfl⟩
   ·obtain rfl := HSX.out rfl
    obtain ⟨i9, hi9, hz90, hz91, hz92⟩ := info_parts infoElem
    go_wp2_with (at_builtin; refine wpList_fitR (w.heap.size) w3 rfl _ _ 148 rfl 111 i9 4 Try.underlying148 hi9 hz91 (w.heap.size) (j) ((l.length)) (((l.take j).flatMap (limC G.p.m))) rfl Hr.out _ _ _ rfl rfl rfl (by simp [Value.oneCell']) (by omega) ?_)
    intro w4 hown9 hg9
    clear hq3 bp_
    have hb9 := Below.grown HB.out hg9 (by have g0 := HZS.out; omega) (fun q hq => Nat.le_trans (show w.heap.size ≤ w.heap.size by have g0 := HZS.out; omega) (Hr.out.lt q hq).1)
    replace Hbp := Lib.hid (Hbp.out.grown hg9 (fun e9 => by have a0 := Option.some.inj e9; have a1 := Hr.out.lt _ e9; have g0 := HZS.out; omega))
    replace HZS := sz HZS hg9.size
    clear Hr HB
    have Hr := Lib.hid hown9
    have HB := Lib.hid hb9
    clear hb9 hown9 hg9 hi9 hz90 hz91 hz92
    have bp_ := Hbp.out.c4
    go_wp2_with fail
    go_roundw
    case rel => exact ⟨j + 1, by omega, by go_num, rfl, HB, all_snoc hjl HAL.out HBJ.out, Hr.out.eq (flat_snoc _ _ _ hjl).symm rfl⟩
    case measure => simp [intOf]; omega
  ·have hjn : j = l.length := by omega
   subst hjn
   go_wp2_with fail
   go_ret2
   rw [List.take_length] at Hr
   exact ⟨HB.out, by rw [if_pos (all_take_true HAL.out)]; exact ⟨_, _, rfl, Hr.out.sl, fun x hx => by cases hx; exact Nat.le_refl _⟩⟩
end Go.Proofs.Ytipgjookfdkciaa
namespace Go.Proofs.Ytipgjookfdkciaa
open Go.RowKit
theorem scalField : ∃ f, (Try.prog.fieldsOf 91).toList = [f] ∧ f.name = "n" ∧ f.type = 89 ∧ f.offset = 0 := by
 have h : ((Try.prog.fieldsOf 91).toList.map fun f => (f.name, f.type, f.offset)) = [("n", 89, 0)] := by kernel_rfl
 generalize (Try.prog.fieldsOf 91).toList = fs at *
 obtain ⟨f, rfl⟩ : ∃ f, fs = [f] := List.length_eq_one_iff.1 (by have := congrArg List.length h; simpa using this)
 simp only [List.map_cons, List.map_nil, List.cons.injEq, Prod.mk.injEq, and_true] at h
 exact ⟨f, rfl, h.1, h.2.1, h.2.2⟩
theorem partLimbs (a b c d : Value) (w : World) : (part 89 #[a, b, c, d] 0).run Try.prog w = .ok (.agg #[a, b, c, d]) w := by
 simp [part, isAgg, run_underlying Try.underlying89]
theorem eqScal (x y : Nat) (hx : x < BB ^ 4) (hy : y < BB ^ 4) (w : World) (b : Bool) (hb : b = decide (x = y)) :
  (Op.equalIn 10000 91 (.agg #[.int .u64 (dig x 0 : Int), .int .u64 (dig x 1 : Int), .int .u64 (dig x 2 : Int), .int .u64 (dig x 3 : Int)]) (.agg #[.int .u64 (dig y 0 : Int), .int .u64 (dig y 1 : Int), .int .u64 (dig y 2 : Int), .int .u64 (dig y 3 : Int)])).run Try.prog w = .ok b w := by
 obtain ⟨f, hf, hn, ht, ho⟩ := scalField
 rw [run_equalIn_struct w 9999 _ _ _ (by kernel_rfl) (by kernel_rfl), hf]
 obtain ⟨i, hi⟩ := Option.isSome_iff_exists.1 infoU64
 have h4 := run_equalIn_four w 9997 _ _ Try.underlying89 Try.underlying87 i hi cellsU64 plainU64 (dig x 0 : Int) (dig x 1 : Int) (dig x 2 : Int) (dig x 3 : Int) (dig y 0 : Int) (dig y 1 : Int) (dig y 2 : Int) (dig y 3 : Int)
 have he : ((dig x 0 : Int) == (dig y 0 : Int) && ((dig x 1 : Int) == (dig y 1 : Int) && ((dig x 2 : Int) == (dig y 2 : Int) && (dig x 3 : Int) == (dig y 3 : Int)))) = b := by
  rw [hb, Bool.eq_iff_iff]
  simp only [Bool.and_eq_true, beq_iff_eq, Int.natCast_inj, decide_eq_true_eq]
  exact ⟨fun ⟨h0, h1, h2, h3⟩ => lim_eq x y hx hy h0 h1 h2 h3, fun e => by rw [e]; exact ⟨rfl, rfl, rfl, rfl⟩⟩
 rw [he] at h4
 simp only [Op.eqFields, hn, ht, ho]
 rw [if_pos (by decide), Sem.run_bind, partLimbs, Result.andThen_ok, Sem.run_bind, partLimbs, Result.andThen_ok, Sem.run_bind]
 erw [h4]
 cases b <;> rfl
theorem guardScal (op : BinOp) (x y : Operand) (xs ys : Array Value) (w : World) : (eqGuard op 91 x y (.agg xs) (.agg ys)).run Try.prog w = .ok () w := run_eqGuard_agg w op _ x y xs ys (by kernel_rfl)
theorem binScal {xs ys : Array Value} {b : Bool} {w : World} (h : (Op.equalIn 10000 91 (.agg xs) (.agg ys)).run Try.prog w = .ok b w) : (binOp .eql 91 (.agg xs) (.agg ys)).run Try.prog w = .ok (.bool b) w := by
 rw [run_eql_struct, h]
 rfl
theorem allSc_v (G : GP) (ok : G.Ok) (gb : Nat) (l : List ByteArray) (b : Bool) (hb : l.all (isSc G.q.m G.size) = b) (n : Nat) (hn : l.length = n) (al : Option Addr) (cl : Nat) (hl : n ≤ 8796093022207) (w : World) (hG : GroupAt w gb G) (hS : Sl w w.heap.size al (l.map Value.string)) :
  Calls Try.prog 58 #[.slice al n cl, .func (.func 59) #[.pointer (some ⟨gb, 0, none⟩)] #[]] w fun e w' => ∃ v, e = .returned (.tuple #[v, .bool b]) ∧ Below w.heap.size w w' ∧ (b = true → ∃ a c, v = .slice a n c ∧ Sl w' w'.heap.size a (l.flatMap (limC G.q.m)) ∧ (∀ x, a = some x → w.heap.size ≤ x.block)) := by
 subst hb
 subst hn
 refine (allSc_any G ok gb l al cl hl w hG hS).mono ?_
 rintro e w' ⟨h1, h2⟩
 cases hb : l.all (isSc G.q.m G.size) with
 | true =>
  rw [if_pos hb] at h2
  obtain ⟨a, c, rfl, h3⟩ := h2
  exact ⟨_, rfl, h1, fun _ => ⟨a, c, rfl, h3⟩⟩
 | false =>
  rw [if_neg (by rw [hb]; decide)] at h2
  exact ⟨_, h2, h1, fun h => by cases h⟩
theorem allEl_v (G : GP) (ok : G.Ok) (gb : Nat) (l : List ByteArray) (b : Bool) (hb : l.all (isEl G.q.m G.size) = b) (n : Nat) (hn : l.length = n) (al : Option Addr) (cl : Nat) (hl : n ≤ 8796093022207) (w : World) (hG : GroupAt w gb G) (hS : Sl w w.heap.size al (l.map Value.string)) :
  Calls Try.prog 185 #[.slice al n cl, .func (.func 106) #[.pointer (some ⟨gb, 0, none⟩)] #[]] w fun e w' => ∃ v, e = .returned (.tuple #[v, .bool b]) ∧ Below w.heap.size w w' ∧ (b = true → ∃ a c, v = .slice a n c ∧ Sl w' w'.heap.size a (l.flatMap (limC G.p.m)) ∧ (∀ x, a = some x → w.heap.size ≤ x.block)) := by
 subst hb
 subst hn
 refine (allEl_any G ok gb l al cl hl w hG hS).mono ?_
 rintro e w' ⟨h1, h2⟩
 cases hb : l.all (isEl G.q.m G.size) with
 | true =>
  rw [if_pos hb] at h2
  obtain ⟨a, c, rfl, h3⟩ := h2
  exact ⟨_, rfl, h1, fun _ => ⟨a, c, rfl, h3⟩⟩
 | false =>
  rw [if_neg (by rw [hb]; decide)] at h2
  exact ⟨_, h2, h1, fun h => by cases h⟩
theorem infoStr : (Try.prog.info? 9).map (fun i => (i.zero, i.size, i.bytes)) = some (some (.string ⟨#[]⟩), 1, 16) := by kernel_rfl
theorem Sl.adr {w : World} {B : Nat} {a : Option Addr} {cs : List Value} (h : Sl w B a cs) (h0 : cs ≠ []) : ∃ b o, a = some ⟨b, o, none⟩ ∧ b < B := by
 rcases h with h | ⟨b, off, rfl, hb, _⟩
 ·exact absurd h h0
 ·exact ⟨b, off, rfl, hb⟩
theorem Sl.elemS {w : World} {B b o : Nat} {α : Type} {f : α → List Value} {k : Nat} {l : List α} (h : Sl w B (some ⟨b, o, none⟩) (l.flatMap f)) (hk : ∀ x, (f x).length = k) (h0 : 0 < k) (i : Nat) (hi : i < l.length) :
  b < B ∧ ∀ j v, (f l[i])[j]? = some v → w.cell? ⟨b, o + i * k + j, none⟩ = some v := by
 obtain ⟨b', o', he, hb, hc⟩ := h.elem hk h0 i hi
 simp only [Option.some.injEq, Addr.mk.injEq, and_true] at he
 obtain ⟨rfl, rfl⟩ := he
 exact ⟨hb, hc⟩
theorem Sl.atUp {w0 w : World} {a : Option Addr} {cs : List Value} (h : Sl w0 w0.heap.size a cs) (hb : Below w0.heap.size w0 w) (i : Nat) (hi : i < cs.length) :
  ∃ b off, a = some ⟨b, off, none⟩ ∧ b < w0.heap.size ∧ b < w.heap.size ∧ w.cell? ⟨b, off + i, none⟩ = some cs[i] := by
 obtain ⟨b, off, he, h1, h2⟩ := h.at i hi
 exact ⟨b, off, he, h1, Nat.lt_of_lt_of_le h1 hb.size, by rw [hb.cell (p := ⟨b, off + i, none⟩) h1]; exact h2⟩
theorem Sl.elemUp {w0 w : World} {a : Option Addr} {α : Type} {f : α → List Value} {k : Nat} {l : List α} (h : Sl w0 w0.heap.size a (l.flatMap f)) (hb : Below w0.heap.size w0 w) (hk : ∀ x, (f x).length = k) (h0 : 0 < k) (i : Nat) (hi : i < l.length) :
  ∃ b off, a = some ⟨b, off, none⟩ ∧ b < w0.heap.size ∧ b < w.heap.size ∧ ∀ j v, (f l[i])[j]? = some v → w.cell? ⟨b, off + i * k + j, none⟩ = some v := by
 obtain ⟨b, off, he, h1, h2⟩ := h.elem hk h0 i hi
 exact ⟨b, off, he, h1, Nat.lt_of_lt_of_le h1 hb.size, fun j v hv => by rw [hb.cell (p := ⟨b, off + i * k + j, none⟩) h1]; exact h2 j v hv⟩
theorem flat_ne {α : Type} {f : α → List Value} {k : Nat} {l : List α} (hk : ∀ x, (f x).length = k) (h0 : 0 < k) (hl : l ≠ []) : l.flatMap f ≠ [] := by
 intro e
 have := flat_len f k hk l
 rw [e, List.length_nil] at this
 have : 0 < l.length * k := Nat.mul_pos (List.length_pos_iff.2 hl) h0
 omega
theorem isSc_le {G : GP} {s : ByteArray} (h : isSc G.q.m G.size s = true) : numOf s ≤ G.q.m := by
 unfold isSc at h
 simp only [Bool.and_eq_true, decide_eq_true_eq] at h
 omega
end Go.Proofs.Ytipgjookfdkciaa
namespace Go.Proofs.Ytipgjookfdkciaa
open Go.RowKit
def ClaimA.val (c : ClaimA) : Value := .agg #[.slice c.ab c.bases.length c.cb, .slice c.ai c.images.length c.ci]
theorem any_take_true {α : Type} {f : α → Bool} {l : List α} {i : Nat} (hi : i < l.length) (h : f l[i] = true) : l.any f = true := List.any_eq_true.2 ⟨l[i], List.getElem_mem hi, h⟩
theorem any_snoc {α : Type} {f : α → Bool} {l : List α} {i : Nat} (hi : i < l.length) (ht : (l.take i).any f = false) (h : f l[i] = false) : (l.take (i + 1)).any f = false := by
 rw [List.take_succ_eq_append_getElem hi, List.any_append, ht]
 simp [h]
theorem shape1_any (c : ClaimA) (b : Bool) (hb : cLong c = b) (w : World) : Calls Try.prog 201 #[c.val] w (Gives (.bool b) w) := by
 obtain ⟨n, hn⟩ : ∃ n, c.bases.length = n := ⟨_, rfl⟩
 obtain ⟨m, hm⟩ : ∃ m, c.images.length = m := ⟨_, rfl⟩
 have hbv : b = (decide (8 < n) || decide (8 < m)) := by rw [← hb, ← hn, ← hm]; rfl
 unfold ClaimA.val Gives
 rw [hn, hm]
 clear hn hm hb
 by_cases h1 : 8 < n
 ·have hd : decide ((n : Int) > 8) = true := by simp; omega
  obtain rfl : b = true := by rw [hbv]; simp [h1]
  clear hbv h1
  go_enter Try.func201, Try.ntmps201
  go_wp2_with fail
  obtain ⟨w1, hq1, hb9, hz9, Hbc⟩ := new1 w 70 [.slice c.ab n c.cb, .slice c.ai m c.ci]
  rw [hq1]
  clear hq1
  have HB := Lib.hid hb9
  have HZS := hz9
  clear hb9 hz9
  have bc_ := Hbc.out.c2
  go_wp2_with fail
  go_ret
  exact ⟨rfl, HB.out⟩
 ·have hd : decide ((n : Int) > 8) = false := by simp; omega
  by_cases h2 : 8 < m
  ·have hd2 : decide ((m : Int) > 8) = true := by simp; omega
   obtain rfl : b = true := by rw [hbv]; simp [h2]
   clear hbv h1 h2
   go_enter Try.func201, Try.ntmps201
   go_wp2_with fail
   obtain ⟨w1, hq1, hb9, hz9, Hbc⟩ := new1 w 70 [.slice c.ab n c.cb, .slice c.ai m c.ci]
   rw [hq1]
   clear hq1
   have HB := Lib.hid hb9
   have HZS := hz9
   clear hb9 hz9
   have bc_ := Hbc.out.c2
   go_wp2_with fail
   go_ret
   exact ⟨rfl, HB.out⟩
  ·have hd2 : decide ((m : Int) > 8) = false := by simp; omega
   obtain rfl : b = false := by rw [hbv]; simp [h1, h2]
   clear hbv h1 h2
   go_enter Try.func201, Try.ntmps201
   go_wp2_with fail
   obtain ⟨w1, hq1, hb9, hz9, Hbc⟩ := new1 w 70 [.slice c.ab n c.cb, .slice c.ai m c.ci]
   rw [hq1]
   clear hq1
   have HB := Lib.hid hb9
   have HZS := hz9
   clear hb9 hz9
   have bc_ := Hbc.out.c2
   go_wp2_with fail
   go_ret
   exact ⟨rfl, HB.out⟩
theorem shape2_any (c : ClaimA) (b : Bool) (hb : cForm c = b) (w : World) : Calls Try.prog 202 #[c.val] w (Gives (.bool b) w) := by
 obtain ⟨n, hn⟩ : ∃ n, c.bases.length = n := ⟨_, rfl⟩
 obtain ⟨m, hm⟩ : ∃ m, c.images.length = m := ⟨_, rfl⟩
 have hbv : b = (decide (n = 0) || decide (n ≠ m)) := by rw [← hb, ← hn, ← hm]; rfl
 unfold ClaimA.val Gives
 rw [hn, hm]
 clear hn hm hb
 by_cases h1 : n = 0
 ·have hd : ((n : Int) == 0) = true := by simp; omega
  obtain rfl : b = true := by rw [hbv]; simp [h1]
  clear hbv h1
  go_enter Try.func202, Try.ntmps202
  go_wp2_with fail
  obtain ⟨w1, hq1, hb9, hz9, Hbc⟩ := new1 w 70 [.slice c.ab n c.cb, .slice c.ai m c.ci]
  rw [hq1]
  clear hq1
  have HB := Lib.hid hb9
  have HZS := hz9
  clear hb9 hz9
  have bc_ := Hbc.out.c2
  go_wp2_with fail
  go_ret
  exact ⟨rfl, HB.out⟩
 ·have hd : ((n : Int) == 0) = false := by simp; omega
  by_cases h2 : n ≠ m
  ·have hd2 : ((n : Int) != (m : Int)) = true := by simp; omega
   obtain rfl : b = true := by rw [hbv]; simp [h2]
   clear hbv h1 h2
   go_enter Try.func202, Try.ntmps202
   go_wp2_with fail
   obtain ⟨w1, hq1, hb9, hz9, Hbc⟩ := new1 w 70 [.slice c.ab n c.cb, .slice c.ai m c.ci]
   rw [hq1]
   clear hq1
   have HB := Lib.hid hb9
   have HZS := hz9
   clear hb9 hz9
   have bc_ := Hbc.out.c2
   go_wp2_with fail
   go_ret
   exact ⟨rfl, HB.out⟩
  ·have hd2 : ((n : Int) != (m : Int)) = false := by simp; omega
   obtain rfl : b = false := by rw [hbv]; simp [h1]; omega
   clear hbv h1 h2
   go_enter Try.func202, Try.ntmps202
   go_wp2_with fail
   obtain ⟨w1, hq1, hb9, hz9, Hbc⟩ := new1 w 70 [.slice c.ab n c.cb, .slice c.ai m c.ci]
   rw [hq1]
   clear hq1
   have HB := Lib.hid hb9
   have HZS := hz9
   clear hb9 hz9
   have bc_ := Hbc.out.c2
   go_wp2_with fail
   go_ret
   exact ⟨rfl, HB.out⟩
theorem idxLong (l : List ClaimA) (al : Option Addr) (cl : Nat) (b : Bool) (hb : l.any cLong = b) (hl : l.length ≤ 64) (w : World) (hS : Sl w w.heap.size al (l.flatMap ClaimA.cells)) :
  Calls Try.prog 205 #[.slice al l.length cl, .func (.func 201) #[] #[]] w fun e w' => ∃ z : Int, e = .returned (.int .i64 z) ∧ decide (z ≥ 0) = b ∧ Below w.heap.size w w' := by
 have HS := Lib.hid hS
 have HBQ := Lib.hid hb
 clear hS hb
 go_enter Try.func205, Try.ntmps205
 go_wp2_with fail
 go_loopw [8] (fun i wr => ∃ j : Nat, j ≤ l.length ∧ i = .int .i64 j ∧ Hid (Below w.heap.size w wr) ∧ Hid ((l.take j).any cLong = false)) (fun i _ => l.length - (intOf i).toNat)
 case atStart => exact ⟨0, Nat.zero_le _, rfl, Below.refl _ _, rfl⟩
 case round =>
  obtain ⟨j, hj, rfl, HB, HAL⟩ := hrel
  by_cases hjl : j < l.length
  ·skip
   obtain ⟨bl, ol, rfl, hbl, hc⟩ := (HS.out.up HB.out).elem ClaimA.cells_len (by omega) j hjl
   have hc_0 := hc 0 _ rfl
   rw [Nat.add_zero] at hc_0
   have hc_1 := hc 1 _ rfl
   clear hc
   obtain ⟨bj, hbj⟩ : ∃ x, cLong l[j] = x := ⟨_, rfl⟩
   have HBJ := Lib.hid hbj
   clear hbj
   go_wp2_with fail
   refine (shape1_any l[j] bj HBJ.out wr).mono ?_
   rintro e w1 ⟨rfl, hb9⟩
   replace HB := hbu HB hb9
   have HZS := Lib.hid hb9.size
   clear hb9
   cases bj
   ·go_wp2_with fail
    go_roundw
    case rel => exact ⟨j + 1, by omega, by go_num, HB, any_snoc hjl HAL.out HBJ.out⟩
    case measure => simp [intOf]; omega
   ·go_wp2_with fail
    go_ret
    exact ⟨j, rfl, by rw [← HBQ.out, any_take_true hjl HBJ.out]; simp, HB.out⟩
  ·have hjn : j = l.length := by omega
   subst hjn
   go_wp2_with fail
   go_ret
   rw [List.take_length] at HAL
   exact ⟨-1, rfl, by rw [← HBQ.out, HAL.out]; rfl, HB.out⟩
theorem conLong (l : List ClaimA) (al : Option Addr) (cl : Nat) (b : Bool) (hb : l.any cLong = b) (hl : l.length ≤ 64) (w : World) (hS : Sl w w.heap.size al (l.flatMap ClaimA.cells)) :
  Calls Try.prog 200 #[.slice al l.length cl, .func (.func 201) #[] #[]] w (Gives (.bool b) w) := by
 have HS := Lib.hid hS
 have HBQ := Lib.hid hb
 clear hS hb
 unfold Gives
 go_enter Try.func200, Try.ntmps200
 go_wp2_with fail
 refine (idxLong l al cl b HBQ.out hl w HS.out).mono ?_
 rintro e w1 ⟨z, rfl, hz, hb9⟩
 have HB := Lib.hid hb9
 have HZS := Lib.hid hb9.size
 clear hb9
 go_wp2_with fail
 go_ret
 exact ⟨rfl, HB.out⟩
theorem idxForm (l : List ClaimA) (al : Option Addr) (cl : Nat) (b : Bool) (hb : l.any cForm = b) (hl : l.length ≤ 64) (w : World) (hS : Sl w w.heap.size al (l.flatMap ClaimA.cells)) :
  Calls Try.prog 205 #[.slice al l.length cl, .func (.func 202) #[] #[]] w fun e w' => ∃ z : Int, e = .returned (.int .i64 z) ∧ decide (z ≥ 0) = b ∧ Below w.heap.size w w' := by
 have HS := Lib.hid hS
 have HBQ := Lib.hid hb
 clear hS hb
 go_enter Try.func205, Try.ntmps205
 go_wp2_with fail
 go_loopw [8] (fun i wr => ∃ j : Nat, j ≤ l.length ∧ i = .int .i64 j ∧ Hid (Below w.heap.size w wr) ∧ Hid ((l.take j).any cForm = false)) (fun i _ => l.length - (intOf i).toNat)
 case atStart => exact ⟨0, Nat.zero_le _, rfl, Below.refl _ _, rfl⟩
 case round =>
  obtain ⟨j, hj, rfl, HB, HAL⟩ := hrel
  by_cases hjl : j < l.length
  ·skip
   obtain ⟨bl, ol, rfl, hbl, hc⟩ := (HS.out.up HB.out).elem ClaimA.cells_len (by omega) j hjl
   have hc_0 := hc 0 _ rfl
   rw [Nat.add_zero] at hc_0
   have hc_1 := hc 1 _ rfl
   clear hc
   obtain ⟨bj, hbj⟩ : ∃ x, cForm l[j] = x := ⟨_, rfl⟩
   have HBJ := Lib.hid hbj
   clear hbj
   go_wp2_with fail
   refine (shape2_any l[j] bj HBJ.out wr).mono ?_
   rintro e w1 ⟨rfl, hb9⟩
   replace HB := hbu HB hb9
   have HZS := Lib.hid hb9.size
   clear hb9
   cases bj
   ·go_wp2_with fail
    go_roundw
    case rel => exact ⟨j + 1, by omega, by go_num, HB, any_snoc hjl HAL.out HBJ.out⟩
    case measure => simp [intOf]; omega
   ·go_wp2_with fail
    go_ret
    exact ⟨j, rfl, by rw [← HBQ.out, any_take_true hjl HBJ.out]; simp, HB.out⟩
  ·have hjn : j = l.length := by omega
   subst hjn
   go_wp2_with fail
   go_ret
   rw [List.take_length] at HAL
   exact ⟨-1, rfl, by rw [← HBQ.out, HAL.out]; rfl, HB.out⟩
theorem conForm (l : List ClaimA) (al : Option Addr) (cl : Nat) (b : Bool) (hb : l.any cForm = b) (hl : l.length ≤ 64) (w : World) (hS : Sl w w.heap.size al (l.flatMap ClaimA.cells)) :
  Calls Try.prog 200 #[.slice al l.length cl, .func (.func 202) #[] #[]] w (Gives (.bool b) w) := by
 have HS := Lib.hid hS
 have HBQ := Lib.hid hb
 clear hS hb
 unfold Gives
 go_enter Try.func200, Try.ntmps200
 go_wp2_with fail
 refine (idxForm l al cl b HBQ.out hl w HS.out).mono ?_
 rintro e w1 ⟨z, rfl, hz, hb9⟩
 have HB := Lib.hid hb9
 have HZS := Lib.hid hb9.size
 clear hb9
 go_wp2_with fail
 go_ret
 exact ⟨rfl, HB.out⟩
theorem shape_any (l : List ClaimA) (al : Option Addr) (cl : Nat) (w : World) (hS : Sl w w.heap.size al (l.flatMap ClaimA.cells)) :
  Calls Try.prog 184 #[.slice al l.length cl] w (Gives (.int .i64 (shapeE l : Int)) w) := by
 have HS := Lib.hid hS
 clear hS
 obtain ⟨z, hz⟩ : ∃ z, shapeE l = z := ⟨_, rfl⟩
 obtain ⟨b1, hb1⟩ : ∃ b, l.any cLong = b := ⟨_, rfl⟩
 obtain ⟨b2, hb2⟩ : ∃ b, l.any cForm = b := ⟨_, rfl⟩
 have HB1 := Lib.hid hb1
 have HB2 := Lib.hid hb2
 have hzz : z = if (decide (64 < l.length) || b1) = true then 3 else if (decide (l.length = 0) || b2) = true then 2 else 0 := by rw [← hz, ← hb1, ← hb2]; rfl
 rw [hz]
 clear hz hb1 hb2
 unfold Gives
 by_cases h1 : 64 < l.length
 ·have hd : decide ((l.length : Int) > 64) = true := by simp; omega
  obtain rfl : z = 3 := by rw [hzz]; simp [h1]
  clear hzz h1
  go_enter Try.func184, Try.ntmps184
  go_wp2_with fail
  go_ret
  exact ⟨rfl, Below.refl _ _⟩
 have hd : decide ((l.length : Int) > 64) = false := by simp; omega
 cases b1
 case true =>
  obtain rfl : z = 3 := by rw [hzz]; simp
  clear hzz
  go_enter Try.func184, Try.ntmps184
  go_wp2_with fail
  refine (conLong l al cl true HB1.out (by omega) w HS.out).mono ?_
  rintro e w1 ⟨rfl, hb9⟩
  have HB := Lib.hid hb9
  have HZS := Lib.hid hb9.size
  clear hb9
  go_wp2_with fail
  go_ret
  exact ⟨rfl, HB.out⟩
 by_cases h2 : l.length = 0
 ·have hd2 : ((l.length : Int) == 0) = true := by rw [beq_iff_eq]; omega
  obtain rfl : z = 2 := by rw [hzz]; simp [h2]
  clear hzz h2
  go_enter Try.func184, Try.ntmps184
  go_wp2_with fail
  refine (conLong l al cl false HB1.out (by omega) w HS.out).mono ?_
  rintro e w1 ⟨rfl, hb9⟩
  have HB := Lib.hid hb9
  have HZS := Lib.hid hb9.size
  clear hb9
  go_wp2_with fail
  go_ret
  exact ⟨rfl, HB.out⟩
 have hd2 : ((l.length : Int) == 0) = false := by rw [beq_eq_false_iff_ne]; omega
 cases b2
 case true =>
  obtain rfl : z = 2 := by rw [hzz]; simp [h1, h2]
  clear hzz h2
  go_enter Try.func184, Try.ntmps184
  go_wp2_with fail
  refine (conLong l al cl false HB1.out (by omega) w HS.out).mono ?_
  rintro e w1 ⟨rfl, hb9⟩
  have HB := Lib.hid hb9
  have HZS := Lib.hid hb9.size
  clear hb9
  go_wp2_with fail
  refine (conForm l al cl true HB2.out (by omega) w1 (HS.out.up HB.out)).mono ?_
  rintro e w2 ⟨rfl, hb9⟩
  replace HB := hbu HB hb9
  replace HZS := sz HZS hb9.size
  clear hb9
  go_wp2_with fail
  go_ret
  exact ⟨rfl, HB.out⟩
 case false =>
  obtain rfl : z = 0 := by rw [hzz]; simp [h1, h2]
  clear hzz h2
  go_enter Try.func184, Try.ntmps184
  go_wp2_with fail
  refine (conLong l al cl false HB1.out (by omega) w HS.out).mono ?_
  rintro e w1 ⟨rfl, hb9⟩
  have HB := Lib.hid hb9
  have HZS := Lib.hid hb9.size
  clear hb9
  go_wp2_with fail
  refine (conForm l al cl false HB2.out (by omega) w1 (HS.out.up HB.out)).mono ?_
  rintro e w2 ⟨rfl, hb9⟩
  replace HB := hbu HB hb9
  replace HZS := sz HZS hb9.size
  clear hb9
  go_wp2_with fail
  go_ret
  exact ⟨rfl, HB.out⟩
end Go.Proofs.Ytipgjookfdkciaa
namespace Go.Proofs.Ytipgjookfdkciaa
open Go.RowKit
section
variable {P : Program} {ops : Array Oper} {S : World → Prop} {Q : Exit → Act → World → Prop} {k : Nat} {md : Region.Mode}
def wpAnyK (P : Program) (md : Region.Mode) (ops : Array Oper) (Q : Exit → Act → World → Prop) (S : World → Prop) (k : Nat) : Nat → Array Bool → Act → World → Prop
 | 0, listed, a, w => Region.ready md ops listed = [] ∧ Q .normal a w
 | fuel + 1, listed, a, w =>
  (Region.ready md ops listed = [] → Q .normal a w) ∧
  ∀ i ∈ Region.ready md ops listed, wpOp P ops Q i (fun a' w' => ((listed.setIfInBounds i true).getD k false = false → S w') ∧ wpAnyK P md ops Q S k fuel (listed.setIfInBounds i true) a' w') a w
theorem any_of_K : ∀ (fuel : Nat) (listed : Array Bool) (a : Act) (w : World), wpAnyK P md ops Q S k fuel listed a w → wpAny P md ops Q fuel listed a w
 | 0, _, _, _, h => h
 | fuel + 1, _, _, _, h => ⟨h.1, fun i hi => wpOp_mono (fun a' w' h' => any_of_K fuel _ a' w' h'.2) (h.2 i hi)⟩
theorem anyK_first {SS : World → Prop} (C : Array Bool → Prop) {i : Nat} {oi : Oper} {v : Value} (hi : ops[i]? = some oi) (hik : i ≠ k) (hsel : ∀ (j : Nat) (o : Oper) cs b, ops[j]? = some o → o.op ≠ .select cs b)
  (hQ : ∀ c a w, Q (.panic c) (a.put oi.dst v) w → Q (.panic c) a w)
  (hstep : ∀ listed j, C listed → i ∈ Region.ready md ops listed → j ∈ Region.ready md ops listed → j ≠ i → C (listed.setIfInBounds j true))
  (hSS : ∀ listed w, C listed → (listed.getD k false = false → S w) → SS w) :
  ∀ (fuel : Nat) (listed : Array Bool) (a : Act) (w : World),
   (∀ j oj, ops[j]? = some oj → j ≠ i → listed.getD j true = false → (∀ e ∈ oj.after, Region.binds md e = true → e.on ≠ i) → oi.apart ops oj = true) →
   i ∈ Region.ready md ops listed → C listed → YieldsIf P ops SS oi v a → (listed.getD k false = false → S w) →
   wpAnyK P md ops Q S k fuel (listed.setIfInBounds i true) (a.put oi.dst v) w → wpAnyK P md ops Q S k (fuel + 1) listed a w := by
 intro fuel
 induction fuel with
 | zero =>
  intro listed a w _ hr hC hy hS H
  refine ⟨fun h => (by rw [h] at hr; cases hr), fun j hj => ?_⟩
  by_cases hji : j = i
  ·subst hji; exact hy.wpOp hi (hSS listed w hC hS) ⟨fun h => hS (by rwa [getD_set_ne false hik] at h), H⟩
  ·have := ready_mono hj hji
   rw [H.1] at this
   cases this
 | succ fuel ih =>
  intro listed a w hfree hr hC hy hS H
  refine ⟨fun h => (by rw [h] at hr; cases hr), fun j hj => ?_⟩
  by_cases hji : j = i
  ·subst hji; exact hy.wpOp hi (hSS listed w hC hS) ⟨fun h => hS (by rwa [getD_set_ne false hik] at h), H⟩
  ·have h1 := H.2 j (ready_mono hj hji)
   obtain ⟨hjun, oj, hoj, hall⟩ := mem_ready.1 hj
   have hnot : ∀ e ∈ oj.after, Region.binds md e = true → e.on ≠ i := fun e he hb heq => by
    have h1 := hall e he hb
    have h0 := (mem_ready.1 hr).1
    rw [heq] at h1
    rcases Nat.lt_or_ge i listed.size with h' | h'
    ·simp [h'] at h0 h1; rw [h0] at h1; cases h1
    ·simp [Array.getElem?_eq_none h'] at h1
   have h2 := wpOp_putIf hoj (hfree j oj hoj hji hjun hnot) (fun cs b => hsel i oi cs b hi) (fun cs b => hsel j oj cs b hoj) hQ hy h1
   have hfree' : ∀ m om, ops[m]? = some om → m ≠ i → (listed.setIfInBounds j true).getD m true = false →
     (∀ e ∈ om.after, Region.binds md e = true → e.on ≠ i) → oi.apart ops om = true := fun m om hm hmi hun hno => by
    refine hfree m om hm hmi ?_ hno
    by_cases hjm : j = m
    ·subst hjm; exact hjun
    ·rw [getD_set_ne true hjm] at hun; exact hun
   have hkk : ((listed.setIfInBounds i true).setIfInBounds j true).getD k false = (listed.setIfInBounds j true).getD k false := by
    rw [Array.setIfInBounds_comm _ _ (Ne.symm hji), getD_set_ne false hik]
   have hr' := ready_mono hr (Ne.symm hji)
   refine wpOp_mono (fun a' w' h3 => ?_) h2
   have hS' : (listed.setIfInBounds j true).getD k false = false → S w' := fun h => h3.2.1 (by rw [hkk]; exact h)
   refine ⟨hS', ih (listed.setIfInBounds j true) a' w' hfree' hr' (hstep listed j hC hr hj hji) h3.1 hS' ?_⟩
   rw [Array.setIfInBounds_comm _ _ hji]
   exact h3.2.2
def chainB (md : Region.Mode) (ops : Array Oper) : Nat → List Nat → Bool
 | _, [] => true
 | i, j :: l => (match ops[j]? with | some o => o.after.any (fun e => Region.binds md e && e.on == i) | none => false) && chainB md ops j l
theorem chain_step {i j : Nat} {l : List Nat} {listed : Array Bool} : ∀ (i : Nat) (l : List Nat), chainB md ops i l = true → listed.getD i true = false → (∀ c ∈ l, listed.getD c true = false) → j ∈ Region.ready md ops listed → j ∉ l
 | _, [], _, _, _, _ => by simp
 | i, c :: l, hB, h0, hl, hj => by
  simp only [chainB, Bool.and_eq_true] at hB
  have ih := chain_step (listed := listed) (j := j) (i := i) (l := l) c l hB.2 (hl c (by simp)) (fun d hd => hl d (by simp [hd])) hj
  intro hm
  rcases List.mem_cons.1 hm with rfl | hm
  ·obtain ⟨_, o, ho, hall⟩ := mem_ready.1 hj
   have hB1 := hB.1
   rw [ho] at hB1
   simp only [Array.any_eq_true', Bool.and_eq_true, beq_iff_eq] at hB1
   obtain ⟨e, he, hb, hon⟩ := hB1
   have h1 := hall e he hb
   rw [hon] at h1
   rcases Nat.lt_or_ge i listed.size with h' | h'
   ·simp [h'] at h0 h1; rw [h0] at h1; cases h1
   ·simp [Array.getElem?_eq_none h'] at h1
  ·exact ih hm
inductive TreeK where
 | done : TreeK
 | q : Nat → TreeK → TreeK
 | e : Nat → List Nat → TreeK → TreeK
 | a : Nat → TreeK → TreeK
 | z : Nat → TreeK → TreeK
 | two : Nat → TreeK → Nat → TreeK → TreeK
def TreeK.qs : List Nat → TreeK → TreeK
 | [], t => t
 | i :: l, t => .q i (TreeK.qs l t)
def TreeK.size : TreeK → Nat
 | .done => 0
 | .q _ r => r.size + 1
 | .e _ _ r => r.size + 1
 | .a _ r => r.size + 1
 | .z _ r => r.size + 1
 | .two _ r _ _ => r.size + 1
def wpTreeK (P : Program) (ops : Array Oper) (S : World → Prop) (Q : Exit → Act → World → Prop) (k : Nat) : TreeK → Act → World → Prop
 | .done, a, w => Q .normal a w
 | .q i r, a, w => match ops[i]? with
  | none => False
  | some o => easyOp o = true ∧ wpQuiet P ops (fun _ => True) (fun a' => wpTreeK P ops S Q k r a' w) [o] a
 | .e i _ r, a, w => match ops[i]? with
  | none => False
  | some o => easyOp o = true ∧ wpQuiet P ops S (fun a' => wpTreeK P ops S Q k r a' w) [o] a
 | .a i r, a, w => wpOp P ops Q i (fun a' w' => (i ≠ k → S w') ∧ wpTreeK P ops S Q k r a' w') a w
 | .z i r, a, w => wpOp P ops Q i (fun a' w' => wpTreeK P ops S Q k r a' w') a w
 | .two i r j s, a, w => wpOp P ops Q i (fun a' w' => (i ≠ k → S w') ∧ wpTreeK P ops S Q k r a' w') a w ∧ wpOp P ops Q j (fun a' w' => (j ≠ k → S w') ∧ wpTreeK P ops S Q k s a' w') a w
def treeKB (md : Region.Mode) (ops : Array Oper) (k : Nat) : TreeK → Array Bool → Bool
 | .done, listed => (Region.ready md ops listed).isEmpty
 | .q i r, listed => (Region.ready md ops listed).contains i && Region.free md ops listed i && !(i == k) && treeKB md ops k r (listed.setIfInBounds i true)
 | .e i ch r, listed => (Region.ready md ops listed).contains i && Region.free md ops listed i && !(i == k) && chainB md ops i (ch ++ [k]) && (ch ++ [k]).all (fun c => !listed.getD c true) && !(i ∈ ch ++ [k]) && treeKB md ops k r (listed.setIfInBounds i true)
 | .a i r, listed => decide (Region.ready md ops listed = [i]) && treeKB md ops k r (listed.setIfInBounds i true)
 | .z i r, listed => decide (Region.ready md ops listed = [i]) && listed.getD k false && !(i == k) && treeKB md ops k r (listed.setIfInBounds i true)
 | .two i r j s, listed => decide (Region.ready md ops listed = [i, j]) && decide (r.size = s.size) && treeKB md ops k r (listed.setIfInBounds i true) && treeKB md ops k s (listed.setIfInBounds j true)
theorem listed_k {listed : Array Bool} {i : Nat} (hi : i ∈ Region.ready md ops listed) {w' : World} (h : i ≠ k → S w') : (listed.setIfInBounds i true).getD k false = false → S w' := by
 intro h9
 refine h (fun e => ?_)
 subst e
 have h0 := (mem_ready.1 hi).1
 rcases Nat.lt_or_ge i listed.size with h' | h'
 ·simp [h'] at h9
 ·simp [h'] at h0
theorem K_of_tree (hsel : Region.noSelect ops = true) (hQ : ∀ c a d v w, Q (.panic c) (a.put d v) w → Q (.panic c) a w) :
  ∀ (t : TreeK) (listed : Array Bool) (a : Act) (w : World), (listed.getD k false = false → S w) → treeKB md ops k t listed = true → wpTreeK P ops S Q k t a w → wpAnyK P md ops Q S k t.size listed a w
 | .done, listed, a, w, _, hB, h => ⟨by simpa [treeKB] using hB, h⟩
 | .q i r, listed, a, w, hS, hB, h => by
  unfold wpTreeK at h
  split at h
  ·cases h
  ·rename_i o ho
   obtain ⟨hp, hq⟩ := h
   obtain ⟨v, hy, hK⟩ := yieldsIf_easy hp hq
   simp only [treeKB, Bool.and_eq_true, Bool.not_eq_true', beq_eq_false_iff_ne] at hB
   exact anyK_first (fun _ => True) ho hB.1.2 (Region.noSelect_spec hsel) (fun c a w hq => hQ c a _ _ w hq) (fun _ _ _ _ _ _ => trivial) (fun _ _ _ _ => trivial) _ listed a w (Region.free_spec ho hB.1.1.2) (by simpa using hB.1.1.1) trivial hy hS
    (K_of_tree hsel hQ r _ _ w (fun h9 => hS (by rwa [getD_set_ne false hB.1.2] at h9)) hB.2 hK)
 | .e i ch r, listed, a, w, hS, hB, h => by
  unfold wpTreeK at h
  split at h
  ·cases h
  ·rename_i o ho
   obtain ⟨hp, hq⟩ := h
   obtain ⟨v, hy, hK⟩ := yieldsIf_easy hp hq
   simp only [treeKB, Bool.and_eq_true, Bool.not_eq_true', beq_eq_false_iff_ne, List.all_eq_true, decide_eq_false_iff_not] at hB
   obtain ⟨⟨⟨⟨⟨⟨h1, h2⟩, h3⟩, h4⟩, h5⟩, h6⟩, h7⟩ := hB
   refine anyK_first (SS := S) (fun l => ∀ c ∈ ch ++ [k], l.getD c true = false) ho h3 (Region.noSelect_spec hsel) (fun c a w hq => hQ c a _ _ w hq) ?_ ?_ _ listed a w (Region.free_spec ho h2) (by simpa using h1) h5 hy hS
    (K_of_tree hsel hQ r _ _ w (fun h9 => hS (by rwa [getD_set_ne false h3] at h9)) h7 hK)
   ·intro l j hC hr hj hji c hc
    have hn := chain_step (i := i) (l := ch) (j := j) i (ch ++ [k]) h4 (mem_ready.1 hr).1 hC hj
    rw [getD_set_ne true (fun e => hn (by rw [e]; exact hc))]
    exact hC c hc
   ·intro l w' hC h9
    refine h9 ?_
    have := hC k (by simp)
    rcases Nat.lt_or_ge k l.size with h' | h'
    ·simp [h'] at this ⊢; exact this
    ·simp [h'] at this
 | .a i r, listed, a, w, hS, hB, h => by
  simp only [treeKB, Bool.and_eq_true, decide_eq_true_eq] at hB
  unfold wpTreeK at h
  refine ⟨fun h9 => (by rw [hB.1] at h9; cases h9), fun j hj => ?_⟩
  have hj' : j = i := by rw [hB.1] at hj; simpa using hj
  subst hj'
  exact wpOp_mono (fun a' w' ⟨hS', h'⟩ => ⟨listed_k hj hS', K_of_tree hsel hQ r _ a' w' (listed_k hj hS') hB.2 h'⟩) h
 | .z i r, listed, a, w, hS, hB, h => by
  simp only [treeKB, Bool.and_eq_true, decide_eq_true_eq, Bool.not_eq_true', beq_eq_false_iff_ne] at hB
  unfold wpTreeK at h
  refine ⟨fun h9 => (by rw [hB.1.1.1] at h9; cases h9), fun j hj => ?_⟩
  have hj' : j = i := by rw [hB.1.1.1] at hj; simpa using hj
  subst hj'
  have hk : ∀ W : World, (listed.setIfInBounds j true).getD k false = false → S W := fun W h9 => by
   rw [getD_set_ne false hB.1.2, hB.1.1.2] at h9
   cases h9
  exact wpOp_mono (fun a' w' h' => ⟨hk w', K_of_tree hsel hQ r _ a' w' (hk w') hB.2 h'⟩) h
 | .two i r j s, listed, a, w, hS, hB, h => by
  simp only [treeKB, Bool.and_eq_true, decide_eq_true_eq] at hB
  obtain ⟨⟨⟨h1, h2⟩, h3⟩, h4⟩ := hB
  unfold wpTreeK at h
  refine ⟨fun h9 => (by rw [h1] at h9; cases h9), fun m hm => ?_⟩
  rcases (by rw [h1] at hm; simpa using hm : m = i ∨ m = j) with rfl | rfl
  ·exact wpOp_mono (fun a' w' ⟨hS', h'⟩ => ⟨listed_k hm hS', K_of_tree hsel hQ r _ a' w' (listed_k hm hS') h3 h'⟩) h.1
  ·exact wpOp_mono (fun a' w' ⟨hS', h'⟩ => ⟨listed_k hm hS', by rw [h2]; exact K_of_tree hsel hQ s _ a' w' (listed_k hm hS') h4 h'⟩) h.2
theorem wp_region_treek {id : Nat} {a : Act} {w : World} {l : List Oper} (S : World → Prop) (k : Nat) (t : TreeK) (hm : P.follows .mixedOrders = true)
  (hB : (Region.noSelect l.toArray && decide (t.size = l.toArray.size) && treeKB .any l.toArray k t (Array.replicate l.toArray.size false)) = true)
  (hQ : ∀ c a d v w, Q (.panic c) (a.put d v) w → Q (.panic c) a w) (hS : S w.drew) (h : wpTreeK P l.toArray S Q k t a w.drew) : (Code.region id l.toArray true).wp P Q a w := by
 simp only [Bool.and_eq_true, decide_eq_true_eq] at hB
 refine wp_region_any hm (any_of_K (S := S) (k := k) _ _ _ _ ?_)
 have := K_of_tree hB.1.1 hQ t _ a _ (fun _ => hS) hB.2 h
 rw [hB.1.2] at this
 exact this
theorem treek_q {l : List Oper} {i : Nat} {r : TreeK} {o : Oper} {a : Act} {w : World} (ho : l[i]? = some o) (hp : easyOp o = true) (h : wpQuiet P l.toArray (fun _ => True) (fun a' => wpTreeK P l.toArray S Q k r a' w) [o] a) :
  wpTreeK P l.toArray S Q k (.q i r) a w := by
 unfold wpTreeK
 rw [List.getElem?_toArray, ho]
 exact ⟨hp, h⟩
theorem treek_e {l ch : List _} {i : Nat} {r : TreeK} {o : Oper} {a : Act} {w : World} (ho : l[i]? = some o) (hp : easyOp o = true) (h : wpQuiet P l.toArray S (fun a' => wpTreeK P l.toArray S Q k r a' w) [o] a) :
  wpTreeK P l.toArray S Q k (.e i ch r) a w := by
 unfold wpTreeK
 rw [List.getElem?_toArray, ho]
 exact ⟨hp, h⟩
theorem treek_a {l : List Oper} {i : Nat} {r : TreeK} {o : Oper} {a : Act} {w : World} (ho : l[i]? = some o)
  (h : ∀ K : Act → World → Prop, (∀ a w, (i ≠ k → S w) ∧ wpTreeK P l.toArray S Q k r a w → K a w) → if Region.wanted o (yielded l.toArray a.tmps) = true then Oper.wp P o a w K Q else K (a.put o.dst undef) w) :
  wpTreeK P l.toArray S Q k (.a i r) a w := by
 unfold wpTreeK
 exact wpOp_step (by rw [List.getElem?_toArray, ho]) h
theorem treek_end {a : Act} {w : World} (h : Q .normal a w) : wpTreeK P ops S Q k .done a w := h
end
end Go.Proofs.Ytipgjookfdkciaa
namespace Go.Proofs.Ytipgjookfdkciaa
open Go.RowKit
structure Kept (P : Nat → Prop) (w0 w : World) : Prop where
 os : w.os = w0.os
 tape : w.tape = w0.tape
 output : w.output = w0.output
 size : w0.heap.size ≤ w.heap.size
 block : ∀ q, q < w0.heap.size → ¬ P q → w.heap[q]? = w0.heap[q]?
section
variable {P : Nat → Prop} {b c n gb : Nat} {w0 w w1 : World} {r : Option Nat} {t : TypeId} {cs : List Value} {G : GP}
theorem Kept.refl (P : Nat → Prop) (w : World) : Kept P w w := ⟨rfl, rfl, rfl, Nat.le_refl _, fun _ _ _ => rfl⟩
theorem Kept.grown (h : Kept P w0 w) (hg : w.grownBy w1 r) (hr : ∀ q, r = some q → w0.heap.size ≤ q ∨ P q) : Kept P w0 w1 :=
 ⟨hg.os.trans h.os, hg.tape.trans h.tape, hg.output.trans h.output, Nat.le_trans h.size hg.size, fun q hq hne => (hg.block q (Nat.lt_of_lt_of_le hq h.size) (fun e => by
  rcases hr q e.symm with h1 | h1
  ·omega
  ·exact hne h1)).trans (h.block q hq hne)⟩
theorem Kept.up (h : Kept P w0 w) (hb : Below w.heap.size w w1) : Kept P w0 w1 := h.grown (below_grown hb) (fun q e => by cases e)
theorem Kept.trans {w2 : World} (h : Kept P w0 w) (h1 : Kept P w w2) : Kept P w0 w2 :=
 ⟨h1.os.trans h.os, h1.tape.trans h.tape, h1.output.trans h.output, Nat.le_trans h.size h1.size, fun q hq hne => (h1.block q (Nat.lt_of_lt_of_le hq h.size) hne).trans (h.block q hq hne)⟩
theorem Sl.kept {a : Option Addr} (h : Sl w0 w0.heap.size a cs) (hk : Kept P w0 w) (hne : ∀ x, a = some x → ¬ P x.block) : Sl w w.heap.size a cs := by
 rcases h with h | ⟨q, off, rfl, hq, hc⟩
 ·exact Or.inl h
 ·refine Or.inr ⟨q, off, rfl, Nat.lt_of_lt_of_le hq hk.size, fun i v hv => ?_⟩
  rw [cell_of_block (hk.block q hq (hne _ rfl))]
  exact hc i v hv
theorem Bx.keptP (h : Bx w0 b t cs) (hk : Kept P w0 w) (hne : ¬ P b) : Bx w b t cs := (hk.block b h.lt hne).trans h
theorem GroupAt.keptP (h : GroupAt w0 gb G) (hk : Kept P w0 w) (hne : ¬ P gb) : GroupAt w gb G := by
 have hc := cell_of_block (hk.block gb h.lt hne)
 have hl := hk.size
 exact ⟨Nat.lt_of_lt_of_le h.lt hl, by rw [hc]; exact h.kind, by rw [hc]; exact h.size, ⟨Nat.lt_of_lt_of_le h.p.lt hl, fun i x hx => by rw [hc]; exact h.p.cell i x hx⟩, ⟨Nat.lt_of_lt_of_le h.q.lt hl, fun i x hx => by rw [hc]; exact h.q.cell i x hx⟩⟩
theorem Below.keptP {W : World} (h : Below n W w0) (hk : Kept P w0 w) (hn : n ≤ w0.heap.size) (hp : ∀ q, P q → n ≤ q) : Below n W w := by
 refine ⟨hk.os.trans h.os, hk.tape.trans h.tape, hk.output.trans h.output, Nat.le_trans h.size hk.size, fun q hq => ?_⟩
 rw [hk.block q (by omega) (fun e => by have := hp q e; omega)]
 exact h.block q hq
end
theorem wpList_pushF {P : Program} (N : Nat) (w0 : World) (hN : N ≤ w0.heap.size) {ops : Array Oper} {rest : List Oper} {o : Oper} {a : Act} {Q : Exit → Act → World → Prop} (hgd : o.guard = none) (s x : Operand) (t : TypeId)
  (ho : o.op = .call { callee := .builtin .append, args := #[s, x], argTypes := #[t, t] })
  (e : TypeId) (i : TypeInfo) (z : Value) (size bytes : Nat) (ht : P.underlying t = some (.slice e)) (hi : P.info? e = some i) (hz : i.zero = some z)
  (hsize : i.size = size) (hby : i.bytes = bytes) (hzs : z.cells.size = size) (hsz : 0 < size)
  (v : Value) (n : Nat) (xs : List Value) (hs : a.eval s = v) (hown : RowO N w0 e size v n xs)
  (news : Array Value) (e2 : TypeId) (b : Nat) (hb : w0.heap.size = b) (hx : a.eval x = .slice (some ⟨b, 0, none⟩) 1 1) (hl : news.size = size) (h1 : ∀ u ∈ news.toList, u.oneCell' = true)
  (h63 : (n + 1) * bytes ≤ 140737488355328) (hn : n + 1 ≤ maxLen)
  (h : ∀ g cap w', RowO N w' e size (.slice (some ⟨g, 0, none⟩) (n + 1) cap) (n + 1) (xs ++ news.toList) → w0.grownBy w' v.ownBlock → (v.ownBlock = some g ∨ w0.heap.size ≤ g) → wpList P ops Q rest (a.put o.dst (.slice (some ⟨g, 0, none⟩) (n + 1) cap)) w') :
  wpList P ops Q (o :: rest) a (w0.alloc (.cells news e2)) := by
 subst hb
 refine wpList_append_lies _ hgd s x t ho N e i z size bytes ht hi hz hsize hby hzs hsz v n xs hs (World.ownsRow.alloc hown _) ⟨w0.heap.size, 0, none⟩ 1 1 news.toList hx (by simpa using hl)
  (World.news_of_block (heap_alloc_new w0 _)) h1 (by omega) hn h63 (by simp; omega) _ rfl ?_
 intro g cap w' hown' hg hf _
 refine h g cap w' hown' ⟨hg.os, hg.tape, hg.output, ?_, ?_⟩ ?_
 ·have := hg.size; simp at this; omega
 ·intro k hk hne
  rw [hg.block k (by simp; omega) hne]
  exact Below.heap_alloc _ _ _ hk
 ·rcases hf with h9 | h9
  ·exact Or.inl h9
  ·right; rw [h9]; simp
theorem step_pushF {P : Program} (N : Nat) (w0 : World) (hN : N ≤ w0.heap.size) {ops : Array Oper} {o : Oper} {a : Act} {K : Act → World → Prop} {Q : Exit → Act → World → Prop} {E : Prop} (hgd : o.guard = none) (s x : Operand) (t : TypeId)
  (ho : o.op = .call { callee := .builtin .append, args := #[s, x], argTypes := #[t, t] })
  (e : TypeId) (i : TypeInfo) (z : Value) (size bytes : Nat) (ht : P.underlying t = some (.slice e)) (hi : P.info? e = some i) (hz : i.zero = some z)
  (hsize : i.size = size) (hby : i.bytes = bytes) (hzs : z.cells.size = size) (hsz : 0 < size)
  (v : Value) (n : Nat) (xs : List Value) (hs : a.eval s = v) (hown : RowO N w0 e size v n xs)
  (news : Array Value) (e2 : TypeId) (b : Nat) (hb : w0.heap.size = b) (hx : a.eval x = .slice (some ⟨b, 0, none⟩) 1 1) (hl : news.size = size) (h1 : ∀ u ∈ news.toList, u.oneCell' = true)
  (h63 : (n + 1) * bytes ≤ 140737488355328) (hn : n + 1 ≤ maxLen)
  (h : ∀ g cap w', RowO N w' e size (.slice (some ⟨g, 0, none⟩) (n + 1) cap) (n + 1) (xs ++ news.toList) → w0.grownBy w' v.ownBlock → (v.ownBlock = some g ∨ w0.heap.size ≤ g) → K (a.put o.dst (.slice (some ⟨g, 0, none⟩) (n + 1) cap)) w') :
  if Region.wanted o (yielded ops a.tmps) = true then Oper.wp P o a (w0.alloc (.cells news e2)) K Q else E := by
 subst hb
 refine step_append_lies _ hgd s x t ho N e i z size bytes ht hi hz hsize hby hzs hsz v n xs hs (World.ownsRow.alloc hown _) ⟨w0.heap.size, 0, none⟩ 1 1 news.toList hx (by simpa using hl)
  (World.news_of_block (heap_alloc_new w0 _)) h1 (by omega) hn h63 (by simp; omega) _ rfl ?_
 intro g cap w' hown' hg hf _
 refine h g cap w' hown' ⟨hg.os, hg.tape, hg.output, ?_, ?_⟩ ?_
 ·have := hg.size; simp at this; omega
 ·intro k hk hne
  rw [hg.block k (by simp; omega) hne]
  exact Below.heap_alloc _ _ _ hk
 ·rcases hf with h9 | h9
  ·exact Or.inl h9
  ·right; rw [h9]; simp
end Go.Proofs.Ytipgjookfdkciaa
namespace Go.Proofs.Ytipgjookfdkciaa
open Go.RowKit
structure ClaimR where
 k : ClaimA
 pb : Nat
 po : Nat
 bb : Nat
 bo : Nat
 bc : Nat
 ib : Nat
 io : Nat
 ic : Nat
def ClaimR.cells (r : ClaimR) : List Value := [.pointer (some ⟨r.pb, r.po, none⟩), .slice (some ⟨r.bb, r.bo, none⟩) r.k.bases.length r.bc, .slice (some ⟨r.ib, r.io, none⟩) r.k.images.length r.ic]
theorem ClaimR.cells_len (r : ClaimR) : r.cells.length = 3 := rfl
structure ClaimR.At (G : GP) (w : World) (r : ClaimR) : Prop where
 b : Sl w w.heap.size (some ⟨r.bb, r.bo, none⟩) (r.k.bases.flatMap (limC G.p.m))
 i : Sl w w.heap.size (some ⟨r.ib, r.io, none⟩) (r.k.images.flatMap (limC G.p.m))
 bl : r.bb < w.heap.size
 il : r.ib < w.heap.size
structure ClaimR.Src (w : World) (r : ClaimR) : Prop where
 c : ∀ j v, r.k.cells[j]? = some v → w.cell? ⟨r.pb, r.po + j, none⟩ = some v
 l : r.pb < w.heap.size
 k : ClaimA.At w r.k
theorem ClaimR.At.up {G : GP} {w w' : World} {r : ClaimR} (h : r.At G w) (hb : Below w.heap.size w w') : r.At G w' := ⟨h.b.up hb, h.i.up hb, Nat.lt_of_lt_of_le h.bl hb.size, Nat.lt_of_lt_of_le h.il hb.size⟩
theorem ClaimR.At.keptP {G : GP} {P : Nat → Prop} {w w' : World} {r : ClaimR} (h : r.At G w) (hk : Kept P w w') (h1 : ¬ P r.bb) (h2 : ¬ P r.ib) : r.At G w' :=
 ⟨h.b.kept hk (fun x e => by cases e; exact h1), h.i.kept hk (fun x e => by cases e; exact h2), Nat.lt_of_lt_of_le h.bl hk.size, Nat.lt_of_lt_of_le h.il hk.size⟩
theorem ClaimR.Src.up {w w' : World} {r : ClaimR} (h : r.Src w) (hb : Below w.heap.size w w') : r.Src w' :=
 ⟨fun j v hv => by rw [hb.cell (p := ⟨r.pb, r.po + j, none⟩) h.l]; exact h.c j v hv, Nat.lt_of_lt_of_le h.l hb.size, h.k.up hb⟩
structure SetAt (G : GP) (w : World) (a : Option Addr) (rs : List ClaimR) : Prop where
 s : Sl w w.heap.size a (rs.flatMap ClaimR.cells)
 e : ∀ r ∈ rs, r.At G w
theorem SetAt.up {G : GP} {w w' : World} {a : Option Addr} {rs : List ClaimR} (h : SetAt G w a rs) (hb : Below w.heap.size w w') : SetAt G w' a rs := ⟨h.s.up hb, fun r hr => (h.e r hr).up hb⟩
def RsP (bl ol : Nat) (rs : List ClaimR) : Prop := ∀ i (h : i < rs.length), rs[i].pb = bl ∧ rs[i].po = ol + i * 2
structure SetNew (n : Nat) (a : Option Addr) (rs : List ClaimR) : Prop where
 a : ∀ x, a = some x → n ≤ x.block
 e : ∀ r ∈ rs, n ≤ r.bb ∧ n ≤ r.ib
theorem SetNew.mono {n m : Nat} {a : Option Addr} {rs : List ClaimR} (h : SetNew n a rs) (hm : m ≤ n) : SetNew m a rs := ⟨fun x hx => Nat.le_trans hm (h.a x hx), fun r hr => ⟨Nat.le_trans hm (h.e r hr).1, Nat.le_trans hm (h.e r hr).2⟩⟩
theorem SetAt.keptP {G : GP} {P : Nat → Prop} {n : Nat} {w w' : World} {a : Option Addr} {rs : List ClaimR} (h : SetAt G w a rs) (hk : Kept P w w') (hn : SetNew n a rs) (hp : ∀ q, P q → q < n) : SetAt G w' a rs :=
 ⟨h.s.kept hk (fun x hx e => by have := hn.a x hx; have := hp _ e; omega), fun r hr => (h.e r hr).keptP hk (fun e => by have := (hn.e r hr).1; have := hp _ e; omega) (fun e => by have := (hn.e r hr).2; have := hp _ e; omega)⟩
def set0 : Value := .agg #[.pointer none, .slice none 0 0]
def ReadSet (G : GP) (gb : Nat) (al : Option Addr) (l : List ClaimA) (w : World) (e : Ending) (w' : World) : Prop :=
 Below w.heap.size w w' ∧ if wrongE G l = 0 then ∃ rs a c, e = .returned (.tuple #[.agg #[.pointer (some ⟨gb, 0, none⟩), .slice a rs.length c], .int .i64 0]) ∧ rs.map ClaimR.k = l ∧ SetAt G w' a rs ∧ SetNew w.heap.size a rs ∧ (∃ bl ol, al = some ⟨bl, ol, none⟩ ∧ RsP bl ol rs) else e = .returned (.tuple #[set0, .int .i64 (wrongE G l : Int)])
theorem infoClaim : (Try.prog.info? 199).map (fun i => (i.zero, i.size, i.bytes)) = some (some (.agg #[.pointer none, .slice none 0 0, .slice none 0 0]), 3, 56) := by kernel_rfl
theorem cElems_eq (G : GP) (c : ClaimA) {b1 b2 : Bool} (h1 : c.bases.all (isEl G.q.m G.size) = b1) (h2 : c.images.all (isEl G.q.m G.size) = b2) : cElems G c = (b1 && b2) := by unfold cElems; rw [h1, h2]
theorem RowO.own_le {N n c k size : Nat} {w : World} {e : TypeId} {a : Option Addr} {xs : List Value} {x : Addr} (h : RowO N w e size (.slice a k c) n xs) (hx : a = some x) : N ≤ x.block := by
 rcases h.2 with ⟨hv, _⟩ | ⟨g, cap, cur, hv, hN, _⟩
 ·simp only [Value.slice.injEq] at hv
  rw [hv.1] at hx
  cases hx
 ·simp only [Value.slice.injEq] at hv
  rw [hv.1] at hx
  cases hx
  exact hN
def RsOk (G : GP) (w : World) (v : Value) (B : Nat) (rs : List ClaimR) : Prop := ∀ r ∈ rs, r.At G w ∧ v.ownBlock ≠ some r.bb ∧ v.ownBlock ≠ some r.ib ∧ B ≤ r.bb ∧ B ≤ r.ib
theorem RsOk.snoc {G : GP} {w0 wn w w' : World} {v : Value} {g n c B bs : Nat} {rs : List ClaimR} {r : ClaimR} (h : RsOk G w0 v B rs) (hk : Kept (fun q => q = bs ∨ v.ownBlock = some q) w0 w') (hB : bs < B)
  (hr : r.At G wn) (hk2 : Kept (fun q => q = bs ∨ v.ownBlock = some q) wn w') (h1 : B ≤ r.bb) (h2 : B ≤ r.ib) (h3 : v.ownBlock ≠ some r.bb) (h4 : v.ownBlock ≠ some r.ib)
  (hf : v.ownBlock = some g ∨ w.heap.size ≤ g) (hw0 : w0.heap.size ≤ w.heap.size) (hwn : wn.heap.size ≤ w.heap.size) : RsOk G w' (.slice (some ⟨g, 0, none⟩) n c) B (rs ++ [r]) := by
 have key : ∀ (x : World) (s : ClaimR), s.At G x → x.heap.size ≤ w.heap.size → Kept (fun q => q = bs ∨ v.ownBlock = some q) x w' → v.ownBlock ≠ some s.bb → v.ownBlock ≠ some s.ib → B ≤ s.bb → B ≤ s.ib → s.At G w' ∧ (Value.slice (some ⟨g, 0, none⟩) n c).ownBlock ≠ some s.bb ∧ (Value.slice (some ⟨g, 0, none⟩) n c).ownBlock ≠ some s.ib ∧ B ≤ s.bb ∧ B ≤ s.ib := by
  intro x s a1 a2 a3 a4 a5 a6 a7
  refine ⟨a1.keptP a3 (fun e => e.elim (fun e => by omega) (fun e => a4 e)) (fun e => e.elim (fun e => by omega) (fun e => a5 e)), fun e => ?_, fun e => ?_, a6, a7⟩
  ·have e : g = s.bb := Option.some.inj e
   rcases hf with hf | hf
   ·exact a4 (by rw [hf, e])
   ·have := a1.bl; omega
  ·have e : g = s.ib := Option.some.inj e
   rcases hf with hf | hf
   ·exact a5 (by rw [hf, e])
   ·have := a1.il; omega
 intro s hs
 rcases List.mem_append.1 hs with hs | hs
 ·obtain ⟨b1, b2, b3, b4, b5⟩ := h s hs
  exact key w0 s b1 hw0 hk b2 b3 b4 b5
 ·obtain rfl := List.mem_singleton.1 hs
  exact key wn s hr hwn hk2 h3 h4 h1 h2
theorem RsP.snoc {bl ol j : Nat} {rs : List ClaimR} {r : ClaimR} (h : RsP bl ol rs) (hl : rs.length = j) (h1 : r.pb = bl) (h2 : r.po = ol + j * 2) : RsP bl ol (rs ++ [r]) := by
 intro i hi
 by_cases h9 : i < rs.length
 ·rw [List.getElem_append_left h9]; exact h i h9
 ·have : i = rs.length := by simp at hi; omega
  subst this
  rw [List.getElem_append_right (Nat.le_refl _)]
  simp only [Nat.sub_self, List.getElem_singleton]
  exact ⟨h1, by rw [h2, hl]⟩
theorem src_all {rs : List ClaimR} {l : List ClaimA} {bl ol : Nat} {w : World} (hk : rs.map ClaimR.k = l) (hp : RsP bl ol rs) (hC : ClaimsAt w (some ⟨bl, ol, none⟩) l) : ∀ r ∈ rs, r.Src w := by
 subst hk
 intro r hr
 obtain ⟨i, hi, rfl⟩ := List.getElem_of_mem hr
 obtain ⟨h1, h2⟩ := hp i hi
 obtain ⟨h3, h4⟩ := hC.s.elemS ClaimA.cells_len (by omega) i (by simpa using hi)
 rw [List.getElem_map] at h4
 exact ⟨fun j v hv => by rw [h1, h2]; exact h4 j v hv, by rw [h1]; exact h3, hC.e _ (List.mem_map.2 ⟨_, List.getElem_mem hi, rfl⟩)⟩
theorem wrong_elems {G : GP} {l : List ClaimA} (hz : shapeE l = 0) : (l.all (cElems G) = true → wrongE G l = 0) ∧ (l.all (cElems G) = false → wrongE G l = 7) := by
 unfold wrongE
 rw [if_neg (by rw [hz]; decide)]
 exact ⟨fun h => if_pos h, fun h => if_neg (by rw [h]; decide)⟩
theorem read_shape (gb : Nat) (l : List ClaimA) (z : Nat) (hz : shapeE l = z) (h0 : z ≠ 0) (al : Option Addr) (cl : Nat) (w : World) (hS : Sl w w.heap.size al (l.flatMap ClaimA.cells)) :
  Calls Try.prog 154 #[.pointer (some ⟨gb, 0, none⟩), .slice al l.length cl] w (Gives (.tuple #[set0, .int .i64 (z : Int)]) w) := by
 have hsh := shape_any l al cl w hS
 rw [hz] at hsh
 have hb : ∀ w1, Below w.heap.size w w1 → Calls Try.prog 184 #[.slice al l.length cl] w1 (Gives (.int .i64 (z : Int)) w1) := fun w1 h1 => by
  have h2 := shape_any l al cl w1 (hS.up h1)
  rwa [hz] at h2
 have HSH := Lib.hid hb
 have hd : ((z : Int) != 0) = true := by simp; omega
 clear hb hsh hz hS h0
 unfold Gives set0
 go_enter Try.func154, Try.ntmps154
 go_wp2_with fail
 obtain ⟨w1, hq1, hb9, hz9, Hbr⟩ := new1 w 157 [.pointer none, .slice none 0 0]
 rw [hq1]
 clear hq1
 have HB := Lib.hid hb9
 have HZS := hz9
 clear hb9 hz9
 have br_ := Hbr.out.c2
 go_wp2_with fail
 refine (HSH.out _ HB.out).mono ?_
 rintro e w2 ⟨rfl, hb9⟩
 clear br_
 replace Hbr := Lib.hid (Hbr.out.up hb9)
 replace HB := hbu HB hb9
 replace HZS := sz HZS hb9.size
 clear hb9
 have br_ := Hbr.out.c2
 have f3_br := Hbr.out.frozen
 have o3_br_ := br_; clear br_
 obtain ⟨w3, hq3, hg9, hz9, hx9⟩ := put2 Hbr 0 (.pointer none) 1 (.slice none 0 0) [.pointer none, .slice none 0 0] rfl
 replace HB := hbg HB hg9 (by have g0 := HZS.out; omega)
 replace HZS := sz HZS hz9.out
 replace Hbr := hx9
 clear hx9 hg9 hz9
 have br_ := Hbr.out.c2
 go_wp2_with fail
 clear hq3 o3_br_ f3_br
 simp [bodyPost, results, Try.results154, go_sem, br_]
 exact HB.out
theorem read_body (G : GP) (ok : G.Ok) (gb : Nat) (l : List ClaimA) (hz : shapeE l = 0) (bl ol cl : Nat) (w : World) (hG : GroupAt w gb G) (hC : ClaimsAt w (some ⟨bl, ol, none⟩) l) :
  Calls Try.prog 154 #[.pointer (some ⟨gb, 0, none⟩), .slice (some ⟨bl, ol, none⟩) l.length cl] w (ReadSet G gb (some ⟨bl, ol, none⟩) l w) := by
 have hb : ∀ w1, Below w.heap.size w w1 → Calls Try.prog 184 #[.slice (some ⟨bl, ol, none⟩) l.length cl] w1 (Gives (.int .i64 0) w1) := fun w1 h1 => by
  have h2 := shape_any l _ cl w1 (hC.s.up h1)
  rwa [hz] at h2
 have HSH := Lib.hid hb
 obtain ⟨hl0, hl64, hlc⟩ := shape_ok hz
 have HZ := Lib.hid hz
 have HLC := Lib.hid hlc
 have HC := Lib.hid hC
 have HG := Lib.hid hG
 have OK := Lib.hid ok
 have HGB := Lib.hid hG.lt
 have HBLK := Lib.hid (hC.s.elemS ClaimA.cells_len (by omega) 0 hl0).1
 clear hb hz hlc hC hG ok
 go_enter Try.func154, Try.ntmps154
 go_wp2_with fail
 have HZS := HGB
 replace HZS := sz HZS HBLK.out
 obtain ⟨w1, hq1, hb9, hz9, Hbr⟩ := new1 w 157 [.pointer none, .slice none 0 0]
 rw [hq1]
 clear hq1
 replace HG := Lib.hid (HG.out.up hb9)
 have HB := Lib.hid hb9
 replace HZS := sz HZS hz9.out
 clear hb9 hz9
 have br_ := Hbr.out.c2
 go_wp2_with fail
 refine (HSH.out _ HB.out).mono ?_
 rintro e w2 ⟨rfl, hb9⟩
 clear br_
 replace Hbr := Lib.hid (Hbr.out.up hb9)
 replace HG := Lib.hid (HG.out.up hb9)
 replace HB := hbu HB hb9
 replace HZS := sz HZS hb9.size
 clear hb9
 have br_ := Hbr.out.c2
 have o3_br_ := br_; clear br_
 obtain ⟨w3, hq3, hb9, hz9, Hbs⟩ := new1 w2 157 [.pointer (some ⟨gb, 0, none⟩), .slice none 0 0]
 replace Hbr := Lib.hid (Hbr.out.up hb9)
 replace HG := Lib.hid (HG.out.up hb9)
 replace HB := hbu HB hb9
 replace HZS := sz HZS hz9.out
 clear hb9 hz9
 have br_ := Hbr.out.c2
 have bs_ := Hbs.out.c2
 have f4_bs := Hbs.out.frozen
 have o4_br_ := br_; clear br_
 have o4_bs_ := bs_; clear bs_
 obtain ⟨w4, hq4, hg9, hz9, hx9⟩ := put1 Hbs 1 (.slice none 0 0) [.pointer (some ⟨gb, 0, none⟩), .slice none 0 0] rfl
 replace Hbr := Lib.hid (Hbr.out.grown hg9.out (sne (by have g0 := HZS.out; omega)))
 replace HG := Lib.hid (HG.out.grown hg9.out (sne (by have g0 := HZS.out; omega)))
 replace HB := hbg HB hg9 (by have g0 := HZS.out; omega)
 replace HZS := sz HZS hz9.out
 replace Hbs := hx9
 clear hx9 hg9 hz9
 have br_ := Hbr.out.c2
 have bs_ := Hbs.out.c2
 have HK := Lib.hid (Kept.refl (fun q9 => q9 = w2.heap.size) w4)
 go_wp2_with fail
 clear hq4 o4_bs_ o4_br_ f4_bs hq3 o3_br_
 go_loopw [23] (fun i wr => ∃ (j : Nat) (rs : List ClaimR) (g : Option Addr) (c9 : Nat), j ≤ l.length ∧ i = .int .i64 j ∧ Hid (rs.length = j) ∧ Hid (rs.map ClaimR.k = l.take j) ∧ Hid (Kept (fun q => q = w2.heap.size) w4 wr) ∧ Hid (Bx wr w2.heap.size 157 [.pointer (some ⟨gb, 0, none⟩), .slice g j c9]) ∧ Hid (RowO w4.heap.size wr 199 3 (.slice g j c9) j (rs.flatMap ClaimR.cells)) ∧ Hid (RsOk G wr (.slice g j c9) w4.heap.size rs) ∧ Hid (RsP bl ol rs) ∧ Hid ((l.take j).all (cElems G) = true)) (fun i _ => l.length - (intOf i).toNat)
 case atStart => exact ⟨0, [], none, 0, Nat.zero_le _, rfl, rfl, rfl, HK, Hbs, RowO.nil, Lib.hid (show RsOk G _ _ _ [] from fun _ h => absurd h (by simp)), Lib.hid (show RsP bl ol [] from fun _ h => absurd h (by simp)), rfl⟩
 case round =>
  obtain ⟨j, rs, g, c9, hj, rfl, HRL, HRK, HK, Hbs9, Hr, HRS, HRP, HAL⟩ := hrel
  have hg9 := HK.out
  clear br_ bs_ Hbs
  replace Hbr := Lib.hid (Hbr.out.keptP hg9 (show ¬ (_ = w2.heap.size) by have g0 := HZS.out; omega))
  replace HG := Lib.hid (HG.out.keptP hg9 (show ¬ (_ = w2.heap.size) by have g0 := HZS.out; omega))
  replace HB := Lib.hid (Below.keptP HB.out hg9 (by have g0 := HZS.out; omega) (fun q9 h9 => (show w.heap.size ≤ _ by subst h9; have g0 := HZS.out; omega)))
  replace HZS := sz HZS (show w4.heap.size ≤ wr.heap.size from hg9.size)
  clear hg9
  have br_ := Hbr.out.c2
  have Hbs := Hbs9
  clear Hbs9
  have bs_ := Hbs.out.c2
  by_cases hjl : j < l.length
  ·have HCC := Lib.hid (fun W (hb : Below w.heap.size w W) => ((HC.out.s.up hb).elemS ClaimA.cells_len (by omega) j hjl).2)
   have HKA := Lib.hid (HC.out.one j hjl)
   have HSHP := Lib.hid (HLC.out l[j] (List.getElem_mem hjl))
   have HTK := Lib.hid (List.take_succ_eq_append_getElem hjl)
   have HALS := Lib.hid (fun h => all_snoc (f := cElems G) hjl HAL.out h)
   have HALN := Lib.hid (fun h => all_not (f := cElems G) hjl h)
   generalize l[j] = c at *
   obtain ⟨b1, hb1⟩ : ∃ b, c.bases.all (isEl G.q.m G.size) = b := ⟨_, rfl⟩
   obtain ⟨b2, hb2⟩ : ∃ b, c.images.all (isEl G.q.m G.size) = b := ⟨_, rfl⟩
   have HB1 := Lib.hid hb1
   have HB2 := Lib.hid hb2
   have HCE := Lib.hid (cElems_eq G c hb1 hb2)
   clear hb1 hb2
   have hn8 := HSHP.out.2.1
   have hni := HSHP.out.2.2
   have HNI := Lib.hid hni
   clear hni
   have HRLT := Lib.hid (fun q (e : (Value.slice g j c9).ownBlock = some q) => (Hr.out.lt q e).2)
   have HSB := Lib.hid (show w2.heap.size < w4.heap.size from (by have a1 := HZS.out; have a2 := HZS.out; omega))
   have HK2 := Lib.hid (Kept.refl (fun q9 => q9 = w2.heap.size ∨ Value.ownBlock (.slice g j c9) = some q9) wr)
   have hc := HCC.out _ HB.out
   have hc_0 := hc 0 _ rfl
   rw [Nat.add_zero] at hc_0
   have hc_1 := hc 1 _ rfl
   clear hc
   go_wp2_with fail
   clear hc_0 hc_1
   refine (allEl_v G OK.out gb c.bases b1 HB1.out c.bases.length rfl c.ab c.cb (by omega) wr HG.out (HKA.out.b.up HB.out)).mono ?_
   rintro e w5 ⟨vx, rfl, hb9, hx9⟩
   clear br_
   replace Hbr := Lib.hid (Hbr.out.up hb9)
   clear bs_
   replace Hbs := Lib.hid (Hbs.out.up hb9)
   replace HG := Lib.hid (HG.out.up hb9)
   replace Hr := Lib.hid (Hr.out.up hb9)
   replace HK := Lib.hid (Kept.up HK.out hb9)
   replace HK2 := Lib.hid (Kept.up HK2.out hb9)
   replace HB := hbu HB hb9
   replace HZS := sz HZS hb9.size
   have HX := Lib.hid hx9
   clear hx9 hb9
   have br_ := Hbr.out.c2
   have bs_ := Hbs.out.c2
   have BR1 := Lib.hid (Below.refl w5.heap.size w5)
   have hc := HCC.out _ HB.out
   have hc_0 := hc 0 _ rfl
   rw [Nat.add_zero] at hc_0
   have hc_1 := hc 1 _ rfl
   clear hc
   go_wp2_with fail
   clear hc_0 hc_1
   refine (allEl_v G OK.out gb c.images b2 HB2.out c.images.length rfl c.ai c.ci (by rw [HNI.out]; omega) w5 HG.out (HKA.out.i.up HB.out)).mono ?_
   rintro e w6 ⟨vy, rfl, hb9, hy9⟩
   clear br_
   replace Hbr := Lib.hid (Hbr.out.up hb9)
   clear bs_
   replace Hbs := Lib.hid (Hbs.out.up hb9)
   replace HG := Lib.hid (HG.out.up hb9)
   replace Hr := Lib.hid (Hr.out.up hb9)
   replace BR1 := hbu BR1 hb9
   replace HK := Lib.hid (Kept.up HK.out hb9)
   replace HK2 := Lib.hid (Kept.up HK2.out hb9)
   replace HB := hbu HB hb9
   replace HZS := sz HZS hb9.size
   have HY := Lib.hid hy9
   clear hy9 hb9
   have br_ := Hbr.out.c2
   have bs_ := Hbs.out.c2
   have HK4 := Lib.hid (Kept.refl (fun q9 => q9 = w2.heap.size ∨ Value.ownBlock (.slice g j c9) = some q9) w6)
   obtain ⟨bb, hbb⟩ : ∃ b, (b1 && b2) = b := ⟨_, rfl⟩
   cases b1
   case false =>
    have hw7 := (wrong_elems (G := G) HZ.out).2 (HALN.out HCE.out)
    have f7_br := Hbr.out.frozen
    have o7_br_ := br_; clear br_
    have o7_bs_ := bs_; clear bs_
    obtain ⟨w7, hq7, hg9, hz9, hx9⟩ := put2 Hbr 0 (.pointer none) 1 (.slice none 0 0) [.pointer none, .slice none 0 0] rfl
    replace Hbs := Lib.hid (Hbs.out.grown hg9.out (sne (by have g0 := HZS.out; omega)))
    replace HG := Lib.hid (HG.out.grown hg9.out (sne (by have g0 := HZS.out; omega)))
    replace HB := hbg HB hg9 (by have g0 := HZS.out; omega)
    replace HZS := sz HZS hz9.out
    replace Hbr := hx9
    clear hx9 hg9 hz9
    have br_ := Hbr.out.c2
    have bs_ := Hbs.out.c2
    go_wp2_with fail
    clear hq7 o7_bs_ o7_br_ f7_br
    simp [bodyPost, results, Try.results154, go_sem, br_]
    exact ⟨HB.out, by rw [if_neg (by rw [hw7]; decide), hw7]; rfl⟩
   cases b2
   case false =>
    have hw7 := (wrong_elems (G := G) HZ.out).2 (HALN.out HCE.out)
    have f7_br := Hbr.out.frozen
    have o7_br_ := br_; clear br_
    have o7_bs_ := bs_; clear bs_
    obtain ⟨w7, hq7, hg9, hz9, hx9⟩ := put2 Hbr 0 (.pointer none) 1 (.slice none 0 0) [.pointer none, .slice none 0 0] rfl
    replace Hbs := Lib.hid (Hbs.out.grown hg9.out (sne (by have g0 := HZS.out; omega)))
    replace HG := Lib.hid (HG.out.grown hg9.out (sne (by have g0 := HZS.out; omega)))
    replace HB := hbg HB hg9 (by have g0 := HZS.out; omega)
    replace HZS := sz HZS hz9.out
    replace Hbr := hx9
    clear hx9 hg9 hz9
    have br_ := Hbr.out.c2
    have bs_ := Hbs.out.c2
    go_wp2_with fail
    clear hq7 o7_bs_ o7_br_ f7_br
    simp [bodyPost, results, Try.results154, go_sem, br_]
    exact ⟨HB.out, by rw [if_neg (by rw [hw7]; decide), hw7]; rfl⟩
   clear hbb bb
   obtain ⟨ax, cx, rfl, hsx, hfx⟩ := HX.out rfl
   obtain ⟨ay, cy, rfl, hsy, hfy⟩ := HY.out rfl
   obtain ⟨xb, xo, rfl, hxl⟩ := hsx.adr (flat_ne (limC_len _) (by omega) (List.length_pos_iff.1 HSHP.out.1))
   obtain ⟨yb, yo, rfl, hyl⟩ := hsy.adr (flat_ne (limC_len _) (by omega) (List.length_pos_iff.1 (by rw [HNI.out]; exact HSHP.out.1)))
   have HAN := Lib.hid (show ClaimR.At G w6 ⟨c, bl, ol + j * 2, xb, xo, cx, yb, yo, cy⟩ from ⟨hsx.up BR1.out, hsy, Nat.lt_of_lt_of_le hxl BR1.out.size, hyl⟩)
   have HFX := Lib.hid (hfx _ rfl)
   have HFY := Lib.hid (hfy _ rfl)
   clear hsx hsy hfx hfy hxl hyl HX HY
   go_wp2_with fail
   have HT := Lib.hid (show Below w6.heap.size w6 w6.drew from (Below.refl _ _).drew)
   have hl_br := Hbr.out.lt
   have hl_bs := Hbs.out.lt
   refine wp_region_treek (fun wq9 => ∃ E : But w6 (Value.ownBlock (.slice g j c9)), wq9 = E.w) 11 ((.qs [0] (.e 1 [] (.qs [2, 3, 4, 5, 6, 7] (.a 8 (.a 9 (.qs [10] (.a 11 .done)))))))) (by kernel_rfl) (by kernel_rfl) (fun _ _ d _ _ h => by cases d <;> exact h) ⟨⟨_, ((below_grown HT.out).but _)⟩, rfl⟩ ?_
   have hov_br := fun (E : But w6 (Value.ownBlock (.slice g j c9))) o => E.cell (b := w.heap.size) o hl_br (by intro e9; have a1 := Hr.out.lt _ e9; have g0 := HZS.out; omega)
   have hov_bs := fun (E : But w6 (Value.ownBlock (.slice g j c9))) o => E.cell (b := w2.heap.size) o hl_bs (by intro e9; have a1 := Hr.out.lt _ e9; have g0 := HZS.out; omega)
   simp only [TreeK.qs]
   repeat (first | (refine treek_q rfl rfl ?_; go_big_quiet_step (fail); refine wpQuiet_nil ?_) | (refine treek_e rfl rfl ?_; go_big_quiet_step (fail); refine wpQuiet_nil ?_))
   clear hov_br hl_br hov_bs hl_bs
   refine treek_a rfl (fun K hK => ?_)
   go_simp
   refine hK _ _ ⟨fun _ => ⟨⟨_, (below_grown (HT.out.alloc HT.out.size _)).but _⟩, rfl⟩, ?_⟩
   clear hK K
   obtain ⟨i9, hi9, hz90, hz91, hz92⟩ := info_parts infoClaim
   have HG1 := Lib.hid ((below_grown HT.out).but (Value.ownBlock (.slice g j c9)))
   clear br_
   replace Hbr := Lib.hid (Hbr.out.up HT.out)
   clear bs_
   replace Hbs := Lib.hid (Hbs.out.up HT.out)
   replace HG := Lib.hid (HG.out.up HT.out)
   replace Hr := Lib.hid (Hr.out.up HT.out)
   replace HK := Lib.hid (Kept.up HK.out HT.out)
   replace HK2 := Lib.hid (Kept.up HK2.out HT.out)
   replace HK4 := Lib.hid (Kept.up HK4.out HT.out)
   replace HB := hbu HB HT.out
   replace HZS := sz HZS HT.out.size
   refine treek_a rfl (fun K hK => ?_)
   refine step_pushF (w4.heap.size) w6.drew (by have g0 := HZS.out; omega) rfl _ _ 155 rfl 199 i9 _ 3 56 Try.underlying155 hi9 hz90 hz91 hz92 rfl (by omega) ((.slice g j c9)) (j) ((rs.flatMap ClaimR.cells)) rfl Hr.out _ _ _ rfl rfl rfl (by simp [Value.oneCell']) (by omega) (by unfold maxLen; omega) ?_
   intro g7 c7 w7 hown9 hg9 hf9
   have HF9 := Lib.hid hf9
   clear hf9
   have HGR := Lib.hid (HG1.out.trans hg9)
   have hb9 := Below.grown HB.out hg9 (by have g0 := HZS.out; omega) (fun q hq => Nat.le_trans (show w.heap.size ≤ w4.heap.size by have g0 := HZS.out; omega) (Hr.out.lt q hq).1)
   replace Hbr := Lib.hid (Hbr.out.grown hg9 (fun e9 => by have a1 := Hr.out.lt _ e9; have g0 := HZS.out; omega))
   replace Hbs := Lib.hid (Hbs.out.grown hg9 (fun e9 => by have a1 := Hr.out.lt _ e9; have g0 := HZS.out; omega))
   replace HG := Lib.hid (HG.out.grown hg9 (fun e9 => by have a1 := Hr.out.lt _ e9; have g0 := HZS.out; omega))
   replace HK := Lib.hid (Kept.grown HK.out hg9 (fun q hq => Or.inl (Nat.le_trans (show w4.heap.size ≤ w4.heap.size by have g0 := HZS.out; omega) (Hr.out.lt q hq).1)))
   replace HK2 := Lib.hid (Kept.grown HK2.out hg9 (fun q hq => Or.inr (Or.inr hq)))
   replace HK4 := Lib.hid (Kept.grown HK4.out hg9 (fun q hq => Or.inr (Or.inr hq)))
   replace HZS := sz HZS hg9.size
   clear Hr HB HT HG1
   have Hr := Lib.hid hown9
   have HB := Lib.hid hb9
   clear hb9 hown9 hg9 hi9 hz90 hz91 hz92
   refine hK _ _ ⟨fun _ => ⟨⟨w7, HGR.out⟩, rfl⟩, ?_⟩
   clear hK K HGR
   try simp only [Act.put, List.setIfInBounds_toArray, List.set_cons_succ, List.set_cons_zero]
   repeat (first | (refine treek_q rfl rfl ?_; go_big_quiet_step (fail); refine wpQuiet_nil ?_) | (refine treek_e rfl rfl ?_; go_big_quiet_step (fail); refine wpQuiet_nil ?_))
   replace HZS := sz HZS (Hr.out.lt g7 rfl).1
   have br_ := Hbr.out.c2
   have bs_ := Hbs.out.c2
   have f8_bs := Hbs.out.frozen
   have o8_br_ := br_; clear br_
   have o8_bs_ := bs_; clear bs_
   obtain ⟨w8, hq8, hg9, hz9, hx9⟩ := put1 Hbs 1 (.slice (some ⟨g7, 0, none⟩) ((j + 1)) c7) [.pointer (some ⟨gb, 0, none⟩), .slice (some ⟨g7, 0, none⟩) ((j + 1)) c7] rfl
   replace Hbr := Lib.hid (Hbr.out.grown hg9.out (sne (by have g0 := HZS.out; omega)))
   replace HG := Lib.hid (HG.out.grown hg9.out (sne (by have g0 := HZS.out; omega)))
   replace Hr := Lib.hid (RowO.grown Hr.out hg9.out (fun q9 e8 e9 => by have a1 := Hr.out.lt _ e8; have a0 := Option.some.inj e9; have g0 := HZS.out; omega))
   replace HK := Lib.hid (Kept.grown HK.out hg9.out (fun q9 e9 => by obtain rfl := Option.some.inj e9; exact Or.inr (rfl)))
   replace HK2 := Lib.hid (Kept.grown HK2.out hg9.out (fun q9 e9 => by obtain rfl := Option.some.inj e9; exact Or.inr (Or.inl rfl)))
   replace HK4 := Lib.hid (Kept.grown HK4.out hg9.out (fun q9 e9 => by obtain rfl := Option.some.inj e9; exact Or.inr (Or.inl rfl)))
   replace HB := hbg HB hg9 (by have g0 := HZS.out; omega)
   replace HZS := sz HZS hz9.out
   replace Hbs := hx9
   clear hx9 hg9 hz9
   have br_ := Hbr.out.c2
   have bs_ := Hbs.out.c2
   refine treek_a rfl (fun K hK => ?_)
   go_simp
   try rw [hq8]
   refine hK _ _ ⟨fun h9 => absurd rfl h9, ?_⟩
   clear hK K hq8 o8_bs_ o8_br_ f8_bs
   refine treek_end ?_
   go_wp2_with fail
   go_roundw
   case rel => exact ⟨j + 1, rs ++ [⟨c, bl, ol + j * 2, xb, xo, cx, yb, yo, cy⟩], _, _, by omega, by go_num, Lib.hid (by rw [List.length_append, HRL.out]; rfl), Lib.hid (by rw [List.map_append, HRK.out, HTK.out]; rfl), HK, Hbs, Hr.out.eq (by simp [ClaimR.cells]) rfl, Lib.hid (HRS.out.snoc HK2.out HSB.out HAN.out HK4.out (show _ ≤ xb by have a1 := HZS.out; have a2 := HFX.out; omega) (show _ ≤ yb by have a1 := HZS.out; have a2 := HZS.out; have a3 := HFY.out; omega) (fun e => by have a1 := HRLT.out xb e; have a2 := HFX.out; omega) (fun e => by have a1 := HRLT.out yb e; have a2 := HZS.out; have a3 := HFY.out; omega) HF9.out (by have a1 := HZS.out; have a2 := HZS.out; have a3 := HZS.out; omega) (by have a1 := HZS.out; omega)), HRP.out.snoc HRL.out rfl rfl, HALS.out HCE.out⟩
   case measure => simp [intOf]; omega
  ·have hjn : j = l.length := by omega
   subst hjn
   rw [List.take_length] at HRK HAL
   have HKB := Lib.hid (Kept.refl (fun q9 => q9 = w.heap.size) wr)
   have HBS := Lib.hid (show w.heap.size < w4.heap.size from (by have a0 := HZS.out; have a1 := HZS.out; have a2 := HZS.out; have a3 := HZS.out; omega))
   have f5_br := Hbr.out.frozen
   have o5_br_ := br_; clear br_
   have o5_bs_ := bs_; clear bs_
   obtain ⟨w5, hq5, hg9, hz9, hx9⟩ := put2 Hbr 0 (.pointer (some ⟨gb, 0, none⟩)) 1 (.slice g l.length c9) [.pointer (some ⟨gb, 0, none⟩), .slice g l.length c9] rfl
   replace Hbs := Lib.hid (Hbs.out.grown hg9.out (sne (by have g0 := HZS.out; omega)))
   replace HG := Lib.hid (HG.out.grown hg9.out (sne (by have g0 := HZS.out; omega)))
   replace Hr := Lib.hid (RowO.grown Hr.out hg9.out (fun q9 e8 e9 => by have a1 := Hr.out.lt _ e8; have a0 := Option.some.inj e9; have g0 := HZS.out; omega))
   replace HKB := Lib.hid (Kept.grown HKB.out hg9.out (fun q9 e9 => by obtain rfl := Option.some.inj e9; exact Or.inr (rfl)))
   replace HB := hbg HB hg9 (by have g0 := HZS.out; omega)
   replace HZS := sz HZS hz9.out
   replace Hbr := hx9
   clear hx9 hg9 hz9
   have br_ := Hbr.out.c2
   have bs_ := Hbs.out.c2
   go_wp2_with fail
   clear hq5 o5_bs_ o5_br_ f5_br
   simp [bodyPost, results, Try.results154, go_sem, br_]
   exact ⟨HB.out, by rw [if_pos ((wrong_elems HZ.out).1 HAL.out)]; exact ⟨rs, g, c9, by rw [HRL.out], HRK.out, ⟨Hr.out.sl, fun r hr => by obtain ⟨b1, _, _, b4, b5⟩ := HRS.out r hr; have a0 := HBS.out; exact b1.keptP HKB.out (show ¬ (r.bb = w.heap.size) by omega) (show ¬ (r.ib = w.heap.size) by omega)⟩, ⟨fun x hx => by have a0 := HBS.out; have a1 := RowO.own_le Hr.out hx; omega, fun r hr => by obtain ⟨_, _, _, b4, b5⟩ := HRS.out r hr; have a0 := HBS.out; omega⟩, ⟨bl, ol, rfl, HRP.out⟩⟩⟩
theorem sread_any (G : GP) (ok : G.Ok) (gb : Nat) (l : List ClaimA) (al : Option Addr) (cl : Nat) (w : World) (hG : GroupAt w gb G) (hC : ClaimsAt w al l) :
  Calls Try.prog 154 #[.pointer (some ⟨gb, 0, none⟩), .slice al l.length cl] w (ReadSet G gb al l w) := by
 by_cases hz : shapeE l = 0
 ·obtain ⟨bl, ol, rfl, _⟩ := hC.s.adr (flat_ne ClaimA.cells_len (by omega) (List.length_pos_iff.1 (shape_ok hz).1))
  exact read_body G ok gb l hz bl ol cl w hG hC
 ·refine (read_shape gb l _ rfl hz al cl w hC.s).mono ?_
  rintro e w' ⟨rfl, hb⟩
  have h9 : wrongE G l = shapeE l := by unfold wrongE; rw [if_pos hz]
  exact ⟨hb, by rw [h9, if_neg hz]⟩
end Go.Proofs.Ytipgjookfdkciaa
namespace Go.Proofs.Ytipgjookfdkciaa
theorem Lw_iff {q p : Nat} (hq : 0 < q) (hp : p = 2 * q + 1) (u v : Nat) : Lw q p u = Lw q p v ↔ PM p u v :=
 ⟨fun h => ((Lw_pm hp u).symm.trans (by rw [h]; exact PM.refl _ _)).trans (Lw_pm hp v), fun h => Lw_eq hq hp h⟩
theorem T_inj {G : GP} (ok : G.Ok) (fit : G.q.m < 256 ^ G.size) {u v : Nat} (hu : u ≤ G.q.m) (hv : v ≤ G.q.m) (h : T G u = T G v) : u = v := by
 have := congrArg numOf h
 rwa [T_num ok hu fit, T_num ok hv fit] at this
end Go.Proofs.Ytipgjookfdkciaa
namespace Go.Proofs.Ytipgjookfdkciaa
open Go.RowKit
section
variable {G : GP}
theorem lowN_iff (ok : G.Ok) (x y : Nat) : lowN G x = lowN G y ↔ PM G.p.m x y := Lw_iff ok.q.pos ok.twice x y
end
end Go.Proofs.Ytipgjookfdkciaa
namespace Go.Proofs.Ytipgjookfdkciaa
open Go.RowKit
theorem elemField : ∃ f, (Try.prog.fieldsOf 111).toList = [f] ∧ f.name = "n" ∧ f.type = 89 ∧ f.offset = 0 := by
 have h : ((Try.prog.fieldsOf 111).toList.map fun f => (f.name, f.type, f.offset)) = [("n", 89, 0)] := by kernel_rfl
 generalize (Try.prog.fieldsOf 111).toList = fs at *
 obtain ⟨f, rfl⟩ : ∃ f, fs = [f] := List.length_eq_one_iff.1 (by have := congrArg List.length h; simpa using this)
 simp only [List.map_cons, List.map_nil, List.cons.injEq, Prod.mk.injEq, and_true] at h
 exact ⟨f, rfl, h.1, h.2.1, h.2.2⟩
theorem eqElem (x y : Nat) (hx : x < BB ^ 4) (hy : y < BB ^ 4) (w : World) (b : Bool) (hb : b = decide (x = y)) :
  (Op.equalIn 10000 111 (.agg #[.int .u64 (dig x 0 : Int), .int .u64 (dig x 1 : Int), .int .u64 (dig x 2 : Int), .int .u64 (dig x 3 : Int)]) (.agg #[.int .u64 (dig y 0 : Int), .int .u64 (dig y 1 : Int), .int .u64 (dig y 2 : Int), .int .u64 (dig y 3 : Int)])).run Try.prog w = .ok b w := by
 obtain ⟨f, hf, hn, ht, ho⟩ := elemField
 rw [run_equalIn_struct w 9999 _ _ _ (by kernel_rfl) (by kernel_rfl), hf]
 obtain ⟨i, hi⟩ := Option.isSome_iff_exists.1 infoU64
 have h4 := run_equalIn_four w 9997 _ _ Try.underlying89 Try.underlying87 i hi cellsU64 plainU64 (dig x 0 : Int) (dig x 1 : Int) (dig x 2 : Int) (dig x 3 : Int) (dig y 0 : Int) (dig y 1 : Int) (dig y 2 : Int) (dig y 3 : Int)
 have he : ((dig x 0 : Int) == (dig y 0 : Int) && ((dig x 1 : Int) == (dig y 1 : Int) && ((dig x 2 : Int) == (dig y 2 : Int) && (dig x 3 : Int) == (dig y 3 : Int)))) = b := by
  rw [hb, Bool.eq_iff_iff]
  simp only [Bool.and_eq_true, beq_iff_eq, Int.natCast_inj, decide_eq_true_eq]
  exact ⟨fun ⟨h0, h1, h2, h3⟩ => lim_eq x y hx hy h0 h1 h2 h3, fun e => by rw [e]; exact ⟨rfl, rfl, rfl, rfl⟩⟩
 rw [he] at h4
 simp only [Op.eqFields, hn, ht, ho]
 rw [if_pos (by decide), Sem.run_bind, partLimbs, Result.andThen_ok, Sem.run_bind, partLimbs, Result.andThen_ok, Sem.run_bind]
 erw [h4]
 cases b <;> rfl
theorem guardElem (op : BinOp) (x y : Operand) (xs ys : Array Value) (w : World) : (eqGuard op 111 x y (.agg xs) (.agg ys)).run Try.prog w = .ok () w := run_eqGuard_agg w op _ x y xs ys (by kernel_rfl)
theorem binElem {xs ys : Array Value} {b : Bool} {w : World} (h : (Op.equalIn 10000 111 (.agg xs) (.agg ys)).run Try.prog w = .ok b w) : (binOp .eql 111 (.agg xs) (.agg ys)).run Try.prog w = .ok (.bool b) w := by
 rw [run_eql_struct, h]
 rfl
theorem mont_iff {R : RingP} (ok : R.Ok) (x y : Nat) : mont R.m x = mont R.m y ↔ x % R.m = y % R.m :=
 ⟨fun h => mont_cancel ok.low (show (x * BB ^ 4) % R.m = (y * BB ^ 4) % R.m from h), fun h => by rw [← mont_mod R.m x, h, mont_mod]⟩
theorem dvd_sub_iff (p x y : Nat) : (p : Int) ∣ (x : Int) - y ↔ x % p = y % p :=
 ⟨fun h => by have := Int.emod_eq_emod_iff_emod_sub_eq_zero.2 (Int.emod_eq_zero_of_dvd h); exact_mod_cast this, fun h => Int.dvd_of_emod_eq_zero (Int.emod_eq_emod_iff_emod_sub_eq_zero.1 (by exact_mod_cast h))⟩
theorem same_iff {G : GP} (ok : G.Ok) (x y : Nat) : lowN G x = lowN G y ↔ mont G.p.m x = mont G.p.m y ∨ mont G.p.m (x + y) = 0 := by
 rw [lowN_iff ok, mont_iff ok.p, ← mont_zero G.p.m, mont_iff ok.p]
 unfold PM
 rw [dvd_sub_iff]
 refine or_congr Iff.rfl ⟨fun h => ?_, fun h => ?_⟩
 ·have h2 : G.p.m ∣ x + y := by exact_mod_cast h
  rw [Nat.mod_eq_zero_of_dvd h2, Nat.zero_mod]
 ·have h2 : G.p.m ∣ x + y := Nat.dvd_of_mod_eq_zero (by rw [h, Nat.zero_mod])
  exact_mod_cast h2
theorem gSame_any (G : GP) (ok : G.Ok) (gb x y : Nat) (w : World) (hG : GroupAt w gb G) :
  Calls Try.prog 157 #[.pointer (some ⟨gb, 0, none⟩), elV G x, elV G y] w (Gives (.bool (decide (lowN G x = lowN G y))) w) := by
 have OK := Lib.hid ok
 have HG := Lib.hid hG
 obtain ⟨b1, hb1⟩ : ∃ b, decide (mont G.p.m x = mont G.p.m y) = b := ⟨_, rfl⟩
 obtain ⟨b2, hb2⟩ : ∃ b, decide (mont G.p.m (x + y) = 0) = b := ⟨_, rfl⟩
 have hr : decide (lowN G x = lowN G y) = (b1 || b2) := by
  rw [← hb1, ← hb2, Bool.eq_iff_iff]
  simp only [Bool.or_eq_true, decide_eq_true_eq]
  exact same_iff ok x y
 have HEQ := Lib.hid (fun W => binElem (w := W) (eqElem (mont G.p.m x) (mont G.p.m y) (ok.p.mont _) (ok.p.mont _) W b1 hb1.symm))
 have HEZ := Lib.hid (fun W => binLimbs (w := W) (eqZero (mont G.p.m (x + y)) (ok.p.mont _) W b2 hb2.symm))
 rw [hr]
 clear ok hG hb1 hb2 hr
 unfold Gives elV limbV
 go_enter Try.func157, Try.ntmps157
 go_wp2_with fail
 obtain ⟨w1, hq1, hb9, hz9, Hbx, Hby⟩ := new2 w 111 [.int .u64 (dig (mont G.p.m x) 0 : Int), .int .u64 (dig (mont G.p.m x) 1 : Int), .int .u64 (dig (mont G.p.m x) 2 : Int), .int .u64 (dig (mont G.p.m x) 3 : Int)] 111 [.int .u64 (dig (mont G.p.m y) 0 : Int), .int .u64 (dig (mont G.p.m y) 1 : Int), .int .u64 (dig (mont G.p.m y) 2 : Int), .int .u64 (dig (mont G.p.m y) 3 : Int)]
 rw [hq1]
 clear hq1
 replace HG := Lib.hid (HG.out.up hb9)
 have HB := Lib.hid hb9
 have HZS := hz9
 clear hb9 hz9
 have bx_ := Hbx.out.c4
 have by_ := Hby.out.c4
 go_wp2_with fail
 cases b1
 ·have hl_bx := Hbx.out.lt
  have hl_by := Hby.out.lt
  refine wp_region_over (by kernel_rfl) (by kernel_rfl) ?_
  have hov_bx := fun (E : Over w1) o => E.cell (b := w.heap.size) o hl_bx
  have hov_by := fun (E : Over w1) o => E.cell (b := w.heap.size + 1) o hl_by
  go_big_quiet_step (fail)
  go_big_quiet_step (fail)
  refine wpQuiet_bin rfl .eql _ _ 111 _ rfl _ _ (.bool false) rfl rfl (fun _ => guardElem _ _ _ _ _ _) (fun _ => HEQ.out _) ?_
  simp only [Act.put, List.setIfInBounds_toArray, List.set_cons_succ, List.set_cons_zero]
  repeat (go_big_quiet_step (first | (go_at_call 145; exact calls_over (addM G.p OK.out.p gb 2 x y _ (HG.out.up (Over.h _)).p))))
  unfold limbV
  refine wpQuiet_bin rfl .eql _ _ 89 _ rfl _ _ (.bool b2) rfl rfl (fun _ => guardLimbs _ _ _ _ _ _) (fun _ => HEZ.out _) ?_
  simp only [Act.put, List.setIfInBounds_toArray, List.set_cons_succ, List.set_cons_zero]
  repeat (go_big_quiet_step (fail))
  refine wpQuiet_nil ?_
  rintro _ ⟨E, rfl⟩
  clear hov_bx hl_bx hov_by hl_by bx_
  replace Hbx := Lib.hid (Hbx.out.up E.h)
  clear by_
  replace Hby := Lib.hid (Hby.out.up E.h)
  replace HG := Lib.hid (HG.out.up E.h)
  replace HB := hbu HB E.h
  replace HZS := sz HZS E.h.size
  obtain ⟨w2, hq9⟩ : ∃ W9 : World, E.w = W9 := ⟨_, rfl⟩
  rw [hq9] at Hbx Hby HG HB HZS ⊢
  clear hq9 E
  have bx_ := Hbx.out.c4
  have by_ := Hby.out.c4
  go_wp2_with fail
  go_ret
  exact ⟨by simp, HB.out⟩
 ·have hl_bx := Hbx.out.lt
  have hl_by := Hby.out.lt
  refine wp_region_over (by kernel_rfl) (by kernel_rfl) ?_
  have hov_bx := fun (E : Over w1) o => E.cell (b := w.heap.size) o hl_bx
  have hov_by := fun (E : Over w1) o => E.cell (b := w.heap.size + 1) o hl_by
  go_big_quiet_step (fail)
  go_big_quiet_step (fail)
  refine wpQuiet_bin rfl .eql _ _ 111 _ rfl _ _ (.bool true) rfl rfl (fun _ => guardElem _ _ _ _ _ _) (fun _ => HEQ.out _) ?_
  simp only [Act.put, List.setIfInBounds_toArray, List.set_cons_succ, List.set_cons_zero]
  repeat (go_big_quiet_step (fail))
  refine wpQuiet_nil ?_
  rintro _ ⟨E, rfl⟩
  clear hov_bx hl_bx hov_by hl_by bx_
  replace Hbx := Lib.hid (Hbx.out.up E.h)
  clear by_
  replace Hby := Lib.hid (Hby.out.up E.h)
  replace HG := Lib.hid (HG.out.up E.h)
  replace HB := hbu HB E.h
  replace HZS := sz HZS E.h.size
  obtain ⟨w2, hq9⟩ : ∃ W9 : World, E.w = W9 := ⟨_, rfl⟩
  rw [hq9] at Hbx Hby HG HB HZS ⊢
  clear hq9 E
  have bx_ := Hbx.out.c4
  have by_ := Hby.out.c4
  go_wp2_with fail
  go_ret
  exact ⟨by simp, HB.out⟩
end Go.Proofs.Ytipgjookfdkciaa
