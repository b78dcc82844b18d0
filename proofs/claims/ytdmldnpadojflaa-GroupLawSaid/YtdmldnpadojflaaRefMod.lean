/- The document's numbers: what is left of a modulus. No condition. -/
import Derived.Test.YtdmldnpadojflaaRefTake
namespace Go.Proofs.Ytdmldnpadojflaa
open Go.RowKit

theorem top_div (n : Nat) (h : n ≠ 0) : n / DD ^ (dl n - 1) = dg DD n (dl n - 1) := by
  have h2 := lt_dl n
  have hp := dl_pos n h
  have e : DD ^ dl n = DD ^ (dl n - 1) * DD := by rw [← Nat.pow_succ]; congr 1; omega
  unfold dg
  rw [Nat.mod_eq_of_lt (Nat.div_lt_of_lt_mul (by rw [← e]; exact h2))]

theorem top_lt (m : Nat) (h : m ≠ 0) : m < (dg DD m (dl m - 1) + 1) * DD ^ (dl m - 1) := by
  have h1 := top_div m h
  have h2 := Nat.div_add_mod m (DD ^ (dl m - 1))
  have h3 := Nat.mod_lt m (Nat.pow_pos (n := dl m - 1) (show 0 < DD by decide))
  rw [h1] at h2
  rw [Nat.add_mul, Nat.one_mul, Nat.mul_comm (dg DD m (dl m - 1))]
  omega

theorem quo_step (A m x q e : Nat) (hm : m ≠ 0) (hx : x * DD ^ e ≤ A) (hq : q = x / (dg DD m (dl m - 1) + 1)) (he : dl m - 1 ≤ e) : q * (m * DD ^ (e - (dl m - 1))) ≤ A := by
  have h1 := top_lt m hm
  have h2 : q * (dg DD m (dl m - 1) + 1) ≤ x := by rw [hq]; exact Nat.div_mul_le_self _ _
  have h3 : DD ^ e = DD ^ (dl m - 1) * DD ^ (e - (dl m - 1)) := by rw [← Nat.pow_add]; congr 1; omega
  generalize dg DD m (dl m - 1) + 1 = t at *
  generalize DD ^ (dl m - 1) = P at *
  generalize DD ^ (e - (dl m - 1)) = S at *
  calc q * (m * S) ≤ q * (t * P * S) := Nat.mul_le_mul_left _ (Nat.mul_le_mul_right _ (Nat.le_of_lt h1))
    _ = q * t * (P * S) := by rw [Nat.mul_assoc t, Nat.mul_assoc q]
    _ ≤ x * (P * S) := Nat.mul_le_mul_right _ h2
    _ = x * DD ^ e := by rw [h3]
    _ ≤ A := hx

theorem mod_one (A m : Nat) (hA : A ≠ 0) (hm : m ≠ 0) (hle : dl m ≤ dl A) : dg DD A (dl A - 1) / (dg DD m (dl m - 1) + 1) * (m * DD ^ (dl A - dl m)) ≤ A := by
  have h := quo_step A m (dg DD A (dl A - 1)) _ (dl A - 1) hm (by rw [← top_div A hA]; exact Nat.div_mul_le_self _ _) rfl (by omega)
  have := dl_pos m hm
  rwa [show dl A - 1 - (dl m - 1) = dl A - dl m by omega] at h
theorem mod_two (A m : Nat) (hA : A ≠ 0) (hm : m ≠ 0) (hle : dl m < dl A) : (dg DD A (dl A - 1) * DD + dg DD A (dl A - 2)) / (dg DD m (dl m - 1) + 1) * (m * DD ^ (dl A - dl m - 1)) ≤ A := by
  have hp := dl_pos m hm
  have h2 := dg_div (B := DD) A (dl A - 2)
  rw [show dl A - 2 + 1 = dl A - 1 by omega, top_div A hA, Nat.mul_comm] at h2
  have h := quo_step A m (dg DD A (dl A - 1) * DD + dg DD A (dl A - 2)) _ (dl A - 2) hm (by rw [← h2]; exact Nat.div_mul_le_self _ _) rfl (by omega)
  rwa [show dl A - 2 - (dl m - 1) = dl A - dl m - 1 by omega] at h

theorem take_mod (A m n s : Nat) (h : n * (m * s) ≤ A) : (A - n * (m * s)) % m = A % m := by
  have e : A = (A - n * (m * s)) + m * (n * s) := by rw [show m * (n * s) = n * (m * s) by rw [Nat.mul_left_comm]]; omega
  rw [← Nat.add_mul_mod_self_left (A - n * (m * s)) m (n * s), ← e]


set_option maxHeartbeats 2000000 in
theorem refMod_any (a m : Nat) (aa am : Option Addr) (ca cm : Nat) (hla : dl a ≤ 1048576) (hm0 : 0 < m) (w : World) (hA : NumAt w aa a) (hM : NumAt w am m) :
    Calls Try.prog 32 #[.slice aa (dl a) ca, .slice am (dl m) cm] w fun e w' => NumR w e w' (a % m) := by
  have HA := Lib.hid hA
  have HMM := Lib.hid hM
  clear hA hM
  go_enter Try.func32, Try.ntmps32
  go_wp2_with fail
  go_loopg [0, 5, 6] a (fun g v _ _ wr => ∃ (A : Nat) (a1 : Option Addr) (c1 : Nat), g = A ∧ v = .slice a1 (dl A) c1 ∧ Hid (A % m = a % m) ∧ A ≤ a ∧ Hid (NumAt wr a1 A) ∧ Hid (Below w.heap.size w wr))
  case atStart => exact ⟨a, aa, ca, rfl, rfl, rfl, Nat.le_refl _, HA.out, Below.refl _ _⟩
  case round =>
    obtain ⟨A, a1, c1, hg, rfl, HM, hAa, HN, HB⟩ := hrel
    obtain ⟨G9, hG9⟩ : ∃ G9, gk = G9 := ⟨_, rfl⟩
    rw [hG9] at hg
    subst hg
    subst hG9
    obtain ⟨A, rfl⟩ : ∃ A, A = gk := ⟨_, rfl⟩
    clear HA
    have hdA := dl_mono _ _ hAa
    go_wp2_with fail
    refine (refCompare_any A m a1 am c1 cm (by omega) wr HN.out (HMM.out.up HB.out)).mono ?_
    rintro e w2 ⟨rfl, hb2⟩
    have HB2 := Lib.hid (below_up HB.out hb2)
    have HN2 := Lib.hid (HN.out.up hb2)
    have HMM2 := Lib.hid (HMM.out.up HB2.out)
    clear hb2 HN HB
    by_cases hlt : A < m
    · have hc : cmpI A m = -1 := by unfold cmpI; rw [if_pos hlt]
      rw [hc]
      clear hc
      have HRES : Hid (A = a % m) := by show _ = _; rw [← HM.out, Nat.mod_eq_of_lt hlt]
      go_wp2_with fail
      go_ret
      exact ⟨a1, c1, by rw [← HRES.out]; rfl, by rw [← HRES.out]; exact HN2.out, HB2.out⟩
    · have hle : m ≤ A := by omega
      have HLEM := Lib.hid hle
      obtain ⟨c, hc, hc0⟩ : ∃ c, cmpI A m = c ∧ 0 ≤ c := ⟨_, rfl, by unfold cmpI; rw [if_neg hlt]; split <;> omega⟩
      rw [hc]
      clear hc hlt hle
      have hA0 : A ≠ 0 := by have := HLEM.out; omega
      have hm1 : m ≠ 0 := by omega
      have hlm := dl_mono _ _ HLEM.out
      have hpA := dl_pos A hA0
      have hpm := dl_pos m hm1
      have htA := dl_top A hA0
      have h1 := mod_one A m hA0 hm1 hlm
      have hdA : dg DD A (dl A - 1) < 65536 := dg_lt (B := DD) (by decide) _ _
      have hdA2 : dg DD A (dl A - 2) < 65536 := dg_lt (B := DD) (by decide) _ _
      have hdm : dg DD m (dl m - 1) < 65536 := dg_lt (B := DD) (by decide) _ _
      have H2 : Hid (dl m < dl A → (dg DD A (dl A - 1) * DD + dg DD A (dl A - 2)) / (dg DD m (dl m - 1) + 1) * (m * DD ^ (dl A - dl m - 1)) ≤ A) := fun h => mod_two A m hA0 hm1 h
      obtain ⟨b1, o1, rfl, hb1, hcell1⟩ := HN2.out.all hpA
      obtain ⟨b2, o2, rfl, hb2, hcell2⟩ := HMM2.out.all hpm
      have hx1 := hcell1 (dl A - 1) (by omega)
      have hx2 := hcell2 (dl m - 1) (by omega)
      have hx3 : dl m < dl A → w2.cell? ⟨b1, o1 + (dl A - 2), none⟩ = some (.int .i64 (dg DD A (dl A - 2) : Int)) := fun h => hcell1 (dl A - 2) (by omega)
      have HX3 := Lib.hid hx3
      have hi1 : (dl A : Int) - 1 = ((dl A - 1 : Nat) : Int) := by omega
      have hi2 : (dl m : Int) - 1 = ((dl m - 1 : Nat) : Int) := by omega
      have hi3 : (dl A : Int) - (dl m : Int) = ((dl A - dl m : Nat) : Int) := by omega
      have H1 := Lib.hid h1
      clear hcell1 hcell2 hx3 h1
      generalize hat : dg DD A (dl A - 1) = at1 at *
      generalize han : dg DD A (dl A - 2) = an1 at *
      generalize hmt : dg DD m (dl m - 1) = mt1 at *
      have HAT := Lib.hid hat
      have HAN := Lib.hid han
      have HMT := Lib.hid hmt
      clear hat han hmt
      obtain ⟨q, hq⟩ : ∃ q, at1 / (mt1 + 1) = q := ⟨_, rfl⟩
      have hqI : (at1 : Int) / ((mt1 : Int) + 1) = (q : Int) := by rw [← hq]; simp
      have hq9 : q ≤ 65535 := by rw [← hq]; exact Nat.le_trans (Nat.div_le_self _ _) (by omega)
      have H1' := H1.out
      rw [hq] at H1'
      have HLE1 := Lib.hid H1'
      clear H1' H1 hq
      go_wp2_with fail
      go_quiet (fail)
      have HN3 := Lib.hid (HN2.out.up (below_drewN (Below.refl _ w2) nq))
      have HMM3 := Lib.hid (HMM2.out.up (below_drewN (Below.refl _ w2) nq))
      have HB3 := Lib.hid (below_drewN HB2.out nq)
      by_cases hq0 : q = 0
      · subst hq0
        by_cases hk0 : dl m < dl A
        · have hx3 := HX3.out hk0
          have h2 := H2.out hk0
          have hkp : 0 < dl A - dl m := by omega
          have hi4 : (dl A : Int) - 2 = ((dl A - 2 : Nat) : Int) := by omega
          have hi5 : ((dl A - dl m : Nat) : Int) - 1 = ((dl A - dl m - 1 : Nat) : Int) := by omega
          obtain ⟨q2, hq2⟩ : ∃ q2, (at1 * DD + an1) / (mt1 + 1) = q2 := ⟨_, rfl⟩
          rw [hq2] at h2
          have hqI2 : ((at1 : Int) * 65536 + (an1 : Int)) / ((mt1 : Int) + 1) = (q2 : Int) := by rw [← hq2]; simp
          have hq29 : q2 ≤ 4294967295 := by rw [← hq2]; exact Nat.le_trans (Nat.div_le_self _ _) (by show at1 * 65536 + an1 ≤ _; omega)
          have hq21 : 1 ≤ q2 := by rw [← hq2]; exact (Nat.le_div_iff_mul_le (by omega)).2 (by show 1 * (mt1 + 1) ≤ at1 * 65536 + an1; omega)
          have hq20 : ((q2 : Int) == 0) = false := by simp; omega
          have HLE := Lib.hid h2
          clear h2 hq2 HLE1
          go_wp2_with fail
          go_quiet (fail)
          have hsub : A - q2 * (m * DD ^ (dl A - dl m - 1)) < A := by
            have h1 : 0 < q2 * (m * DD ^ (dl A - dl m - 1)) := Nat.mul_pos (by omega) (Nat.mul_pos (by omega) (Nat.pow_pos (by decide)))
            omega
          have HSUB := Lib.hid hsub
          have HTM := Lib.hid (take_mod A m (q2) (DD ^ (dl A - dl m - 1)) HLE.out)
          clear hsub
          go_wp2_with fail
          refine (refTake_any A m (q2) (dl A - dl m - 1) (A - q2 * (m * DD ^ (dl A - dl m - 1))) _ _ _ _ (by omega) (by omega) (by omega) (by omega) (by have := HLE.out; omega) _ (NumAt.up HN2.out (below_drewN (Below.refl _ w2) _)) (NumAt.up HMM2.out (below_drewN (Below.refl _ w2) _))).mono ?_
          rintro e w4 ⟨a4, c4, rfl, hn4, hb4⟩
          have HN4 := Lib.hid hn4
          have HB4 := Lib.hid (below_up (below_drewN HB2.out _) hb4)
          clear hn4 hb4
          go_wp2_with fail
          go_roundg (A - q2 * (m * DD ^ (dl A - dl m - 1)))
          case measure => exact HSUB.out
          case rel => exact ⟨_, a4, c4, rfl, by first | rfl | rw [Nat.one_mul], by rw [HTM.out]; exact HM.out, Nat.le_trans (Nat.le_of_lt HSUB.out) hAa, HN4.out, HB4.out⟩
        · have hk00 : dl A - dl m = 0 := by omega
          have hkp : ¬ 0 < dl A - dl m := by omega
          have HLE : Hid (1 * (m * DD ^ (dl A - dl m)) ≤ A) := by
            show _ ≤ _
            rw [hk00, Nat.pow_zero, Nat.mul_one, Nat.one_mul]
            exact HLEM.out
          have hkI : ¬ (0 : Int) < ((dl A - dl m : Nat) : Int) := by omega
          clear hk00 HLE1
          have hsub : A - 1 * (m * DD ^ (dl A - dl m)) < A := by
            have h1 : 0 < 1 * (m * DD ^ (dl A - dl m)) := Nat.mul_pos (by omega) (Nat.mul_pos (by omega) (Nat.pow_pos (by decide)))
            omega
          have HSUB := Lib.hid hsub
          have HTM := Lib.hid (take_mod A m (1) (DD ^ (dl A - dl m)) HLE.out)
          clear hsub
          go_wp2_with fail
          refine (refTake_any A m (1) (dl A - dl m) (A - 1 * (m * DD ^ (dl A - dl m))) _ _ _ _ (by omega) (by omega) (by omega) (by omega) (by have := HLE.out; omega) _ HN3.out HMM3.out).mono ?_
          rintro e w4 ⟨a4, c4, rfl, hn4, hb4⟩
          have HN4 := Lib.hid hn4
          have HB4 := Lib.hid (below_up HB3.out hb4)
          clear hn4 hb4
          go_wp2_with fail
          go_roundg (A - 1 * (m * DD ^ (dl A - dl m)))
          case measure => exact HSUB.out
          case rel => exact ⟨_, a4, c4, rfl, by first | rfl | rw [Nat.one_mul], by rw [HTM.out]; exact HM.out, Nat.le_trans (Nat.le_of_lt HSUB.out) hAa, HN4.out, HB4.out⟩
      · have hq1 : ((q : Int) == 0) = false := by simp; omega
        have HLE := HLE1
        clear HLE1
        have hsub : A - q * (m * DD ^ (dl A - dl m)) < A := by
          have h1 : 0 < q * (m * DD ^ (dl A - dl m)) := Nat.mul_pos (by omega) (Nat.mul_pos (by omega) (Nat.pow_pos (by decide)))
          omega
        have HSUB := Lib.hid hsub
        have HTM := Lib.hid (take_mod A m (q) (DD ^ (dl A - dl m)) HLE.out)
        clear hsub
        go_wp2_with fail
        refine (refTake_any A m (q) (dl A - dl m) (A - q * (m * DD ^ (dl A - dl m))) _ _ _ _ (by omega) (by omega) (by omega) (by omega) (by have := HLE.out; omega) _ HN3.out HMM3.out).mono ?_
        rintro e w4 ⟨a4, c4, rfl, hn4, hb4⟩
        have HN4 := Lib.hid hn4
        have HB4 := Lib.hid (below_up HB3.out hb4)
        clear hn4 hb4
        go_wp2_with fail
        go_roundg (A - q * (m * DD ^ (dl A - dl m)))
        case measure => exact HSUB.out
        case rel => exact ⟨_, a4, c4, rfl, by first | rfl | rw [Nat.one_mul], by rw [HTM.out]; exact HM.out, Nat.le_trans (Nat.le_of_lt HSUB.out) hAa, HN4.out, HB4.out⟩

end Go.Proofs.Ytdmldnpadojflaa
