/- The document's numbers: compared, and read. No condition. -/
import Derived.Test.YtdmldnpadojflaaRefText
namespace Go.Proofs.Ytdmldnpadojflaa
open Go.RowKit

set_option maxHeartbeats 1000000 in
theorem refCompare_len (a b : Nat) (aa ab : Option Addr) (ca cb : Nat) (h : dl a ≠ dl b) (w : World) :
    Calls Try.prog 77 #[.slice aa (dl a) ca, .slice ab (dl b) cb] w fun e w' => e = .returned (.int .i64 (cmpI a b)) ∧ Below w.heap.size w w' := by
  rcases Nat.lt_or_ge (dl a) (dl b) with h1 | h1
  · have HC : Hid (cmpI a b = -1) := by show _ = _; unfold cmpI; rw [if_pos (lt_of_dl a b h1)]
    have hne : ((dl a : Int) != (dl b : Int)) = true := by simp; omega
    clear h
    go_enter Try.func77, Try.ntmps77
    go_wp2_with fail
    go_ret
    exact ⟨ret_int HC.out.symm, Below.refl _ _⟩
  · have h2 : dl b < dl a := by omega
    have h3 := lt_of_dl b a h2
    have HC : Hid (cmpI a b = 1) := by show _ = _; unfold cmpI; rw [if_neg (by omega), if_pos h3]
    have hne : ((dl a : Int) != (dl b : Int)) = true := by simp; omega
    have h4 : ¬ dl a < dl b := by omega
    clear h h1 h3
    go_enter Try.func77, Try.ntmps77
    go_wp2_with fail
    go_ret
    exact ⟨ret_int HC.out.symm, Below.refl _ _⟩

set_option maxHeartbeats 1000000 in
theorem refCompare_same (a b : Nat) (aa ab : Option Addr) (ca cb L : Nat) (ha : dl a = L) (hb : dl b = L) (hL : L ≤ 1048576) (w : World) (hA : NumAt w aa a) (hB : NumAt w ab b) :
    Calls Try.prog 77 #[.slice aa L ca, .slice ab L cb] w fun e w' => e = .returned (.int .i64 (cmpI a b)) ∧ Below w.heap.size w w' := by
  have HDA := Lib.hid ha
  have HDB := Lib.hid hb
  have HA := Lib.hid hA
  have HB := Lib.hid hB
  clear ha hb hA hB
  have hne : ((L : Int) != (L : Int)) = false := by simp
  go_enter Try.func77, Try.ntmps77
  go_wp2_with fail
  go_loopw [5] (fun x wr => ∃ j : Nat, j ≤ L ∧ x = .int .i64 ((j : Int) - 1) ∧ Hid (a / DD ^ j = b / DD ^ j) ∧ Hid (Below w.heap.size w wr)) (fun x _ => (intOf x + 1).toNat)
  case atStart => exact ⟨L, Nat.le_refl _, rfl, by
    show _ = _
    have h1 := lt_dl a
    have h2 := lt_dl b
    rw [HDA.out] at h1
    rw [HDB.out] at h2
    rw [Nat.div_eq_of_lt h1, Nat.div_eq_of_lt h2], Below.refl _ _⟩
  case round =>
    obtain ⟨j, hj, hi, HE, HN⟩ := hrel
    rcases Nat.eq_zero_or_pos j with rfl | hjp
    · subst hi
      go_wp2_with fail
      go_ret
      have h := HE.out
      rw [Nat.pow_zero, Nat.div_one, Nat.div_one] at h
      exact ⟨ret_int (by unfold cmpI; rw [if_neg (by omega), if_neg (by omega)]), HN.out⟩
    · obtain ⟨p, rfl⟩ : ∃ p, j = p + 1 := ⟨j - 1, by omega⟩
      have ei : ((p + 1 : Nat) : Int) - 1 = (p : Int) := by omega
      rw [ei] at hi
      subst hi
      clear ei hjp
      obtain ⟨b1, o1, rfl, hb1, hcell1⟩ := HA.out.all (by rw [HDA.out]; omega)
      obtain ⟨b2, o2, rfl, hb2, hcell2⟩ := HB.out.all (by rw [HDB.out]; omega)
      have hx1 : wr.cell? ⟨b1, o1 + p, none⟩ = some (.int .i64 (dg DD a p : Int)) := by rw [HN.out.cell (p := ⟨b1, o1 + p, none⟩) hb1]; exact hcell1 _ (by rw [HDA.out]; omega)
      have hx2 : wr.cell? ⟨b2, o2 + p, none⟩ = some (.int .i64 (dg DD b p : Int)) := by rw [HN.out.cell (p := ⟨b2, o2 + p, none⟩) hb2]; exact hcell2 _ (by rw [HDB.out]; omega)
      clear hcell1 hcell2
      rcases Nat.lt_trichotomy (dg DD a p) (dg DD b p) with hd | hd | hd
      · have hcmp : Hid (a < b) := lt_of_dg a b p HE.out hd
        have hd1 : ((dg DD a p : Int) != (dg DD b p : Int)) = true := by simp; omega
        go_wp2_with fail
        go_quiet (fail)
        go_wp2_with fail
        go_quiet (fail)
        go_wp2_with fail
        go_ret
        exact ⟨ret_int (by unfold cmpI; rw [if_pos hcmp.out]), by first | exact below_drewN (below_drewN HN.out _) _ | exact below_drewN HN.out _⟩
      · have HE2 := Lib.hid (same_of_dg a b p HE.out hd)
        have hd1 : ((dg DD a p : Int) != (dg DD b p : Int)) = false := by simp; omega
        have hd2 : ¬ dg DD a p < dg DD b p := by omega
        have hd3 : ¬ dg DD b p < dg DD a p := by omega
        clear hd
        go_wp2_with fail
        go_quiet (fail)
        go_wp2_with fail
        go_roundw
        case rel => exact ⟨p, by omega, rfl, HE2.out, below_drewN HN.out _⟩
        case measure => first | (simp [intOf]; done) | (simp [intOf]; omega)
      · have hcmp : Hid (b < a) := lt_of_dg b a p HE.out.symm hd
        have hd1 : ((dg DD a p : Int) != (dg DD b p : Int)) = true := by simp; omega
        have hd2 : ¬ dg DD a p < dg DD b p := by omega
        go_wp2_with fail
        go_quiet (fail)
        go_wp2_with fail
        go_quiet (fail)
        go_wp2_with fail
        go_ret
        exact ⟨ret_int (by have := hcmp.out; unfold cmpI; rw [if_neg (by omega), if_pos this]), by first | exact below_drewN (below_drewN HN.out _) _ | exact below_drewN HN.out _⟩

theorem refCompare_any (a b : Nat) (aa ab : Option Addr) (ca cb : Nat) (hla : dl a ≤ 1048576) (w : World) (hA : NumAt w aa a) (hB : NumAt w ab b) :
    Calls Try.prog 77 #[.slice aa (dl a) ca, .slice ab (dl b) cb] w fun e w' => e = .returned (.int .i64 (cmpI a b)) ∧ Below w.heap.size w w' := by
  by_cases h : dl a = dl b
  · have h1 := refCompare_same a b aa ab ca cb (dl a) rfl h.symm hla w hA hB
    rw [← h]
    exact h1
  · exact refCompare_len a b aa ab ca cb h w


set_option maxHeartbeats 1000000 in
theorem refRead_any (s : ByteArray) (hs : s.size ≤ 1048576) (w : World) :
    Calls Try.prog 26 #[.string s] w fun e w' => NumR w e w' (numOf s) := by
  obtain ⟨i0, hi, hz0, hz1, hz2⟩ := info_parts infoInt3
  obtain ⟨K, hK⟩ : ∃ K, (s.size + 1) / 2 = K := ⟨_, rfl⟩
  have hK1 : ((s.size : Int) + 1) / 2 = (K : Int) := by omega
  go_enter Try.func26, Try.ntmps26
  go_wp2_with (at_make; refine wpList_make_full _ rfl _ _ 23 rfl 0 3 i0 (.int .i64 0) 1 Try.underlying23 hi hz0 hz1 _ _ _ _ K rfl rfl ?c1 ?c2 ?c3 ?c4 ?c5 ?_)
  case c1 => exact hK1
  case c2 => exact hK1
  case c3 => rw [hz2]; omega
  case c4 => unfold maxLen; omega
  case c5 => omega
  intro w1 hown hgrow
  have e0 : digsTo 0 K = digsTo (numTo s 0) K := by rw [numTo_zero]
  rw [zeros_made, e0] at hown
  have HO1 := Lib.hid hown
  have HB1 : Hid (Below w.heap.size w w1) := (Below.refl _ _).grown hgrow (Nat.le_refl _) (by simp)
  have HK := Lib.hid hK
  have hKs : K ≤ 1048576 := by omega
  clear hown hgrow hi hz0 hz1 hz2 e0 hK hK1
  go_wp2_with fail
  go_loopw [4, 5] (fun x _ wr => ∃ k : Nat, k ≤ s.size ∧ x = .int .i64 k ∧ Hid (wr.ownsRow 0 3 1 (.slice (some ⟨w.heap.size, 0, none⟩) K K) K ((digsTo (numTo s k) K).map dV)) ∧ Hid (Below w.heap.size w wr)) (fun x _ _ => s.size - (intOf x).toNat)
  case atStart => exact ⟨0, Nat.zero_le _, rfl, HO1.out, HB1.out⟩
  case round =>
    clear HO1 HB1
    obtain ⟨k, hk, rfl, HO, HN⟩ := hrel
    by_cases hkl : k < s.size
    · have hkK : k / 2 < K := by have := HK.out; omega
      have hx := HO.out.cellAt (k / 2) (by omega)
      have hxv : ((digsTo (numTo s k) K).map dV)[k / 2]? = some (.int .i64 (dg DD (numTo s k) (k / 2) : Int)) := by simp [digsTo, hkK, dV]
      rw [hxv] at hx
      have hf := HO.out.frozenAt (k / 2)
      have hidx : (s.size : Int) - 1 - (k : Int) = ((s.size - 1 - k : Nat) : Int) := by omega
      have hlt : s.size - 1 - k < s.size := by omega
      have hc256 := (s[s.size - 1 - k]'hlt).toNat_lt
      have hdlt : dg DD (numTo s k) (k / 2) < 65536 := dg_lt (B := DD) (by decide) _ _
      have HNS := Lib.hid (numTo_succ s k hkl)
      clear hxv
      generalize hcc : (s[s.size - 1 - k]'hlt).toNat = c at *
      have hk1 : k % 2 = 0 ∨ k % 2 = 1 := by omega
      rcases hk1 with hk1 | hk1
      · have hodd : ((k : Int) % 2 == 1) = false := by simp; omega
        have HK1 := Lib.hid hk1
        clear hk1
        have hput := digsTo_put (numTo s k) c k K (numTo_lt s k hk) hc256
        rw [← HNS.out, HK1.out, Nat.pow_zero, Nat.mul_one] at hput
        have hst := (HO.out.stored (k / 2) (.int .i64 ((dg DD (numTo s k) (k / 2) : Int) + (c : Int)))).1
        rw [show (Value.int .i64 ((dg DD (numTo s k) (k / 2) : Int) + (c : Int))) = dV (dg DD (numTo s k) (k / 2) + c) from by unfold dV; congr 1, ← List.map_set, hput] at hst
        have HS := Lib.hid hst
        have HSB := Lib.hid (HN.out.setCell (p := ⟨w.heap.size, k / 2, none⟩) (Nat.le_refl _) (.int .i64 ((dg DD (numTo s k) (k / 2) : Int) + (c : Int))))
        clear hst hput
        go_wp2_with fail
        go_roundw
        case rel => exact ⟨k + 1, by omega, by go_num, HS.out, HSB.out⟩
        case measure => simp [intOf]; omega
      · have hodd : ((k : Int) % 2 == 1) = true := by simp; omega
        have HK1 := Lib.hid hk1
        clear hk1
        have hput := digsTo_put (numTo s k) c k K (numTo_lt s k hk) hc256
        rw [← HNS.out, HK1.out, Nat.pow_one] at hput
        have hst := (HO.out.stored (k / 2) (.int .i64 ((dg DD (numTo s k) (k / 2) : Int) + (c : Int) * 256))).1
        rw [show (Value.int .i64 ((dg DD (numTo s k) (k / 2) : Int) + (c : Int) * 256)) = dV (dg DD (numTo s k) (k / 2) + c * 256) from by unfold dV; congr 1, ← List.map_set, hput] at hst
        have HS := Lib.hid hst
        have HSB := Lib.hid (HN.out.setCell (p := ⟨w.heap.size, k / 2, none⟩) (Nat.le_refl _) (.int .i64 ((dg DD (numTo s k) (k / 2) : Int) + (c : Int) * 256)))
        clear hst hput
        go_wp2_with fail
        go_roundw
        case rel => exact ⟨k + 1, by omega, by go_num, HS.out, HSB.out⟩
        case measure => simp [intOf]; omega
    · have hks : k = s.size := by omega
      subst hks
      rw [numTo_all] at HO
      have hlt : numOf s < DD ^ K := by
        have h := numL_lt s.data.toList
        have e : s.data.toList.length = s.size := rfl
        rw [e] at h
        refine Nat.lt_of_lt_of_le h ?_
        show 256 ^ s.size ≤ (256 ^ 2) ^ K
        rw [← Nat.pow_mul]
        exact Nat.pow_le_pow_right (by omega) (by have := HK.out; omega)
      have HLT := Lib.hid hlt
      clear hlt
      go_wp2_with fail
      refine (trim_own HO.out HLT.out (by omega)).mono ?_
      rintro e w' ⟨a', cap', rfl, hN, _, rfl⟩
      have HNN := Lib.hid hN
      clear hN
      go_wp2_with fail
      go_ret
      exact ⟨a', cap', rfl, HNN.out, HN.out⟩

end Go.Proofs.Ytdmldnpadojflaa
