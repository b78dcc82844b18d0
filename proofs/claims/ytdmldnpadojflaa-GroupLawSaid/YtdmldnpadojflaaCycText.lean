/- Limbs: compared. No condition. -/
import Derived.Test.YtdmldnpadojflaaRingPow
import Derived.Deep.QuietTactic
namespace Go.Proofs.Ytdmldnpadojflaa
open Go.RowKit

theorem below_drewN {n : Nat} {w W : World} (h : Below n w W) (k : Nat) : Below n w (W.drewN k) := ⟨h.os, h.tape, h.output, h.size, h.block⟩

def cmpI (a b : Nat) : Int := if a < b then -1 else if b < a then 1 else 0

theorem div_split (a p : Nat) : a / BB ^ p = BB * (a / BB ^ (p + 1)) + dig a p := by
  unfold dig
  rw [Nat.pow_succ, ← Nat.div_div_eq_div_mul]
  exact (Nat.div_add_mod _ _).symm
theorem lt_of_dig (a b p : Nat) (h : a / BB ^ (p + 1) = b / BB ^ (p + 1)) (hd : dig a p < dig b p) : a < b := by
  rcases Nat.lt_or_ge a b with h1 | h1
  · exact h1
  · have := Nat.div_le_div_right (c := BB ^ p) h1
    rw [div_split a p, div_split b p, h] at this
    omega
theorem eq_of_dig (a b p : Nat) (h : a / BB ^ (p + 1) = b / BB ^ (p + 1)) (hd : dig a p = dig b p) : a / BB ^ p = b / BB ^ p := by
  rw [div_split a p, div_split b p, h, hd]

set_option maxHeartbeats 1000000 in
theorem cmp_any (a b : Nat) (ha : a < BB ^ 4) (hb : b < BB ^ 4) (w : World) : Calls Try.prog 108 #[limbV a, limbV b] w fun e w' => e = .returned (.int .i64 (cmpI a b)) ∧ Below w.heap.size w w' := by
  have HLA := Lib.hid ha
  have HLB := Lib.hid hb
  clear ha hb
  unfold limbV
  go_enter Try.func108, Try.ntmps108
  go_wp2_with fail
  generalize hW0 : (w.alloc (Obj.cells #[.int .u64 (dig (a) 0 : Int), .int .u64 (dig (a) 1 : Int), .int .u64 (dig (a) 2 : Int), .int .u64 (dig (a) 3 : Int)] 76)).alloc (Obj.cells #[.int .u64 (dig (b) 0 : Int), .int .u64 (dig (b) 1 : Int), .int .u64 (dig (b) 2 : Int), .int .u64 (dig (b) 3 : Int)] 76) = W0 at *
  have hA : Blk W0 w.heap.size 76 (lim a) := by rw [← hW0]; exact (Blk.new w _ (lim a) _ rfl).alloc _
  have hB : Blk W0 (w.heap.size + 1) 76 (lim b) := by
    rw [← hW0]
    have h := Blk.new (w.alloc (Obj.cells #[.int .u64 (dig (a) 0 : Int), .int .u64 (dig (a) 1 : Int), .int .u64 (dig (a) 2 : Int), .int .u64 (dig (a) 3 : Int)] 76)) 76 (lim b) _ rfl
    rwa [World.size_alloc] at h
  have hBW : Below w.heap.size w W0 := by rw [← hW0]; exact ((Below.refl _ _).alloc (Nat.le_refl _) _).alloc (by simp) _
  have HA := Lib.hid hA
  have HB := Lib.hid hB
  have HBW := Lib.hid hBW
  have hlb := hB.lt
  clear hW0 hA hB hBW
  go_loopw [5] (fun i wr => ∃ j : Nat, j ≤ 4 ∧ i = .int .i64 ((j : Int) - 1) ∧ Hid (a / BB ^ j = b / BB ^ j) ∧ Hid (Below W0.heap.size W0 wr)) (fun i _ => (intOf i + 1).toNat)
  case atStart => exact ⟨4, Nat.le_refl _, rfl, by show _ = _; rw [Nat.div_eq_of_lt HLA.out, Nat.div_eq_of_lt HLB.out], Below.refl _ _⟩
  case round =>
    obtain ⟨j, hj, hi, HE, HN⟩ := hrel
    rcases Nat.eq_zero_or_pos j with rfl | hjp
    · subst hi
      go_wp2_with fail
      go_ret
      have h := HE.out
      rw [Nat.pow_zero, Nat.div_one, Nat.div_one] at h
      exact ⟨ret_int (by unfold cmpI; rw [if_neg (by omega), if_neg (by omega)]), HBW.out.trans (HN.out.mono (by omega))⟩
    · obtain ⟨p, rfl⟩ : ∃ p, j = p + 1 := ⟨j - 1, by omega⟩
      have ei : ((p + 1 : Nat) : Int) - 1 = (p : Int) := by omega
      rw [ei] at hi
      subst hi
      clear ei hjp
      have hxa := (HA.out.below HN.out (by omega)).cell (lim_at a p (by omega))
      have hxb := (HB.out.below HN.out (by omega)).cell (lim_at b p (by omega))
      have HBB := Lib.hid (HBW.out.trans (HN.out.mono (by omega)))
      rcases Nat.lt_trichotomy (dig a p) (dig b p) with hd | hd | hd
      · have hcmp : Hid (a < b) := lt_of_dig a b p HE.out hd
        go_wp2_with fail
        go_quiet (fail)
        go_wp2_with fail
        go_ret
        exact ⟨ret_int (by unfold cmpI; rw [if_pos hcmp.out]), below_drewN HBB.out _⟩
      · have HE2 := Lib.hid (eq_of_dig a b p HE.out hd)
        have hd1 : ¬ dig a p < dig b p := by omega
        have hd2 : ¬ dig b p < dig a p := by omega
        clear hd
        go_wp2_with fail
        go_quiet (fail)
        go_wp2_with fail
        go_quiet (fail)
        go_wp2_with fail
        go_roundw
        case rel => exact ⟨p, by omega, rfl, HE2.out, below_drewN HN.out _⟩
        case measure => first | (simp [intOf]; done) | (simp [intOf]; omega)
      · have hcmp : Hid (b < a) := lt_of_dig b a p HE.out.symm hd
        have hd1 : ¬ dig a p < dig b p := by omega
        go_wp2_with fail
        go_quiet (fail)
        go_wp2_with fail
        go_quiet (fail)
        go_wp2_with fail
        go_ret
        exact ⟨ret_int (by have := hcmp.out; unfold cmpI; rw [if_neg (by omega), if_pos this]), below_drewN (below_drewN HBB.out _) _⟩

end Go.Proofs.Ytdmldnpadojflaa
