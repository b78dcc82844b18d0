/- The package group: Scalar, Member. No condition. -/
import Derived.Test.YtdmldnpadojflaaGroupTells
import Derived.Test.YtdmldnpadojflaaRefMem
namespace Go.Proofs.Ytdmldnpadojflaa
open Go.RowKit

/-- What a reading of bytes answers: limbs, and whether it was good. -/
def ReadR (ok : Bool) (v : Value) (w : World) (e : Ending) (w' : World) : Prop := ∃ x : Nat, e = .returned (.tuple #[limbV x, .bool ok]) ∧ Below w.heap.size w w' ∧ (ok = true → limbV x = v)

theorem gScalar_any (G : GP) (ok : G.Ok) (gb : Nat) (s : ByteArray) (w : World) (hG : GroupAt w gb G) :
    Calls Try.prog 74 #[.pointer (some ⟨gb, 0, none⟩), .string s] w (ReadR (isSc G.q.m G.size s) (scV G (numOf s)) w) := by
  have no : isSc G.q.m G.size s = false → ∀ e w', (e = .returned (.tuple #[limbV 0, .bool false]) ∧ Below w.heap.size w w') → ReadR (isSc G.q.m G.size s) (scV G (numOf s)) w e w' := fun h e w' ⟨h1, h2⟩ => ⟨0, by rw [h]; exact h1, h2, fun hc => by rw [h] at hc; cases hc⟩
  by_cases h32 : 32 < s.size
  · exact (gScalar_long G ok gb s h32 w hG).mono (no (by have := ok.size_le; unfold isSc; simp; omega))
  by_cases hl : s.size = G.size
  · rcases Nat.lt_trichotomy (numOf s) G.q.m with hc | hc | hc
    · refine (gScalar_yes G ok gb s hl hc w hG).mono ?_
      rintro e w' ⟨h1, h2⟩
      exact ⟨mont G.q.m (numOf s), by rw [show isSc G.q.m G.size s = true by unfold isSc; simp [hl, hc]]; exact h1, h2, fun _ => rfl⟩
    · exact (gScalar_eq G ok gb s hl hc w hG).mono (no (by unfold isSc; simp; omega))
    · exact (gScalar_gt G ok gb s hl hc w hG).mono (no (by unfold isSc; simp; omega))
  · exact (gScalar_len G ok gb s (by omega) hl w hG).mono (no (by unfold isSc; simp [hl]))

theorem gElem_any (G : GP) (ok : G.Ok) (gb : Nat) (s : ByteArray) (w : World) (hG : GroupAt w gb G) :
    Calls Try.prog 73 #[.pointer (some ⟨gb, 0, none⟩), .string s] w (ReadR (isEl G.q.m G.size s) (elV G (numOf s)) w) := by
  have no : isEl G.q.m G.size s = false → ∀ e w', (e = .returned (.tuple #[limbV 0, .bool false]) ∧ Below w.heap.size w w') → ReadR (isEl G.q.m G.size s) (elV G (numOf s)) w e w' := fun h e w' ⟨h1, h2⟩ => ⟨0, by rw [h]; exact h1, h2, fun hc => by rw [h] at hc; cases hc⟩
  by_cases h32 : 32 < s.size
  · exact (gElem_long G ok gb s h32 w hG).mono (no (by have := ok.size_le; unfold isEl; simp; omega))
  by_cases hl : s.size = G.size
  · by_cases h0 : numOf s = 0
    · exact (gElem_zero G ok gb s hl h0 w hG).mono (no (by unfold isEl; simp [h0]))
    rcases Nat.lt_trichotomy (numOf s) G.q.m with hc | hc | hc
    · refine (gElem_lt G ok gb s hl (by omega) hc w hG).mono ?_
      rintro e w' ⟨h1, h2⟩
      exact ⟨mont G.p.m (numOf s), by rw [show isEl G.q.m G.size s = true by unfold isEl; simp [hl]; omega]; exact h1, h2, fun _ => rfl⟩
    · refine (gElem_eq G ok gb s hl (by omega) hc w hG).mono ?_
      rintro e w' ⟨h1, h2⟩
      exact ⟨mont G.p.m (numOf s), by rw [show isEl G.q.m G.size s = true by unfold isEl; simp [hl]; omega]; exact h1, h2, fun _ => rfl⟩
    · exact (gElem_gt G ok gb s hl hc w hG).mono (no (by unfold isEl; simp; omega))
  · exact (gElem_len G ok gb s (by omega) hl w hG).mono (no (by unfold isEl; simp [hl]))


set_option maxRecDepth 100000 in
set_option maxHeartbeats 1000000 in
theorem Scalar_none (k : Int) (hk : ¬ (1 ≤ k ∧ k ≤ 3)) (s : ByteArray) (w : World) : Calls Try.prog 29 #[.int .i64 k, .string s] w fun e w' => e = .returned (.bool false) ∧ Below w.heap.size w w' := by
  go_enter Try.func29, Try.ntmps29
  go_wp2_with fail
  refine (of_none k hk w).mono ?_
  rintro e w1 ⟨rfl, rfl⟩
  go_wp2_with fail
  go_ret
  exact ⟨rfl, Below.refl _ _⟩

set_option maxRecDepth 100000 in
set_option maxHeartbeats 1000000 in
theorem Scalar_some (k : Nat) (h1 : 1 ≤ k) (h3 : k ≤ 3) (s : ByteArray) (w : World) : Calls Try.prog 29 #[.int .i64 (k : Int), .string s] w fun e w' => e = .returned (.bool (isSc (grp k).q.m (grp k).size s)) ∧ Below w.heap.size w w' := by
  have OK := Lib.hid (grp_ok k h1 h3)
  go_enter Try.func29, Try.ntmps29
  go_wp2_with fail
  refine (of_some k h1 h3 w).mono ?_
  rintro e w1 ⟨rfl, hg, hb⟩
  have HG := Lib.hid hg
  have HB := Lib.hid hb
  clear hg hb
  go_wp2_with fail
  refine (gScalar_any (grp k) OK.out w.heap.size s w1 HG.out).mono ?_
  rintro e w2 ⟨x, rfl, hb2, -⟩
  have HB2 := Lib.hid (below_up HB.out hb2)
  clear hb2
  obtain ⟨b, hbb⟩ : ∃ b, isSc (grp k).q.m (grp k).size s = b := ⟨_, rfl⟩
  rw [hbb]
  have HBB := Lib.hid hbb
  clear hbb
  unfold limbV
  go_wp2_with fail
  go_ret
  exact ⟨by rw [HBB.out]; rfl, HB2.out.alloc HB2.out.size _⟩

set_option maxRecDepth 100000 in
set_option maxHeartbeats 1000000 in
theorem Member_none (k : Int) (hk : ¬ (1 ≤ k ∧ k ≤ 3)) (s : ByteArray) (w : World) : Calls Try.prog 30 #[.int .i64 k, .string s] w fun e w' => e = .returned (.bool false) ∧ Below w.heap.size w w' := by
  go_enter Try.func30, Try.ntmps30
  go_wp2_with fail
  refine (of_none k hk w).mono ?_
  rintro e w1 ⟨rfl, rfl⟩
  go_wp2_with fail
  go_ret
  exact ⟨rfl, Below.refl _ _⟩

set_option maxRecDepth 100000 in
set_option maxHeartbeats 1000000 in
theorem Member_some (k : Nat) (h1 : 1 ≤ k) (h3 : k ≤ 3) (s : ByteArray) (w : World) : Calls Try.prog 30 #[.int .i64 (k : Int), .string s] w fun e w' => e = .returned (.bool (isEl (grp k).q.m (grp k).size s)) ∧ Below w.heap.size w w' := by
  have OK := Lib.hid (grp_ok k h1 h3)
  go_enter Try.func30, Try.ntmps30
  go_wp2_with fail
  refine (of_some k h1 h3 w).mono ?_
  rintro e w1 ⟨rfl, hg, hb⟩
  have HG := Lib.hid hg
  have HB := Lib.hid hb
  clear hg hb
  go_wp2_with fail
  refine (gElem_any (grp k) OK.out w.heap.size s w1 HG.out).mono ?_
  rintro e w2 ⟨x, rfl, hb2, -⟩
  have HB2 := Lib.hid (below_up HB.out hb2)
  clear hb2
  obtain ⟨b, hbb⟩ : ∃ b, isEl (grp k).q.m (grp k).size s = b := ⟨_, rfl⟩
  rw [hbb]
  have HBB := Lib.hid hbb
  clear hbb
  unfold limbV
  go_wp2_with fail
  go_ret
  exact ⟨by rw [HBB.out]; rfl, HB2.out.alloc HB2.out.size _⟩


/-- Number's closure: it puts the number. -/
theorem number1_any (G : GP) (ok : G.Ok) (gb b : Nat) (n : Int) (h1 : -9223372036854775808 ≤ n) (h2 : n ≤ 9223372036854775807) (w : World) (hG : GroupAt w gb G) (hc : w.cell? ⟨b, 0, none⟩ = some (.int .i64 n)) :
    Calls Try.prog 81 #[.pointer (some ⟨gb, 0, none⟩), .pointer (some ⟨b, 0, none⟩)] w fun e w' => e = .returned (.string (textS (modI G.q.m n) G.size)) ∧ Below w.heap.size w w' := by
  have HG := Lib.hid hG
  have OK := Lib.hid ok
  have HL : Hid (modI G.q.m n % G.q.m = modI G.q.m n) := Nat.mod_eq_of_lt (modI_lt _ ok.q.pos n)
  clear hG ok
  go_enter Try.func81, Try.ntmps81
  go_wp2_with fail
  refine (gNumber_any G OK.out gb n h1 h2 w HG.out).mono ?_
  rintro e w1 ⟨rfl, hb1⟩
  have HB1 := Lib.hid hb1
  clear hb1
  go_wp2_with fail
  refine (gPut_any G OK.out gb (modI G.q.m n) w1 (HG.out.up HB1.out)).mono ?_
  rintro e w2 ⟨rfl, hb2⟩
  have HB2 := Lib.hid (below_up HB1.out hb2)
  clear hb2
  rw [HL.out]
  go_wp2_with fail
  go_ret
  exact ⟨rfl, HB2.out⟩

set_option maxRecDepth 100000 in
set_option maxHeartbeats 1000000 in
theorem Number_some (k : Nat) (h1 : 1 ≤ k) (h3 : k ≤ 3) (n : Int) (hn1 : -9223372036854775808 ≤ n) (hn2 : n ≤ 9223372036854775807) (w : World) : Calls Try.prog 27 #[.int .i64 (k : Int), .int .i64 n] w (Ans (.string (textS (modI (grp k).q.m n) (grp k).size)) 0 w) := by
  have hok := grp_ok k h1 h3
  have OK := Lib.hid hok
  clear hok
  have HN1 := Lib.hid hn1
  have HN2 := Lib.hid hn2
  go_enter Try.func27, Try.ntmps27
  go_wp2_with fail
  have hb0 : Below w.heap.size w (w.alloc (.cells #[.int .i64 n] 3)) := (Below.refl _ _).alloc (Nat.le_refl _) _
  have hz0 : Bx (w.alloc (.cells #[.int .i64 n] 3)) w.heap.size 3 [.int .i64 n] := Bx.new w _ _ _ rfl
  obtain ⟨W0, hW0⟩ : ∃ W9 : World, (w.alloc (.cells #[.int .i64 n] 3)) = W9 := ⟨_, rfl⟩
  rw [hW0] at hb0 hz0 ⊢
  have HB0 := Lib.hid hb0
  have HZ0 := Lib.hid hz0
  clear hW0 hb0 hz0
  refine (fixed_some k h1 h3 81 #[.pointer (some ⟨w.heap.size, 0, none⟩)] (textS (modI (grp k).q.m n) (grp k).size) (enters_of Try.func81 (by kernel_rfl) rfl) W0 (fun w1 gb hb hg => ?_)).mono ?_
  · exact number1_any (grp k) OK.out gb _ n HN1.out HN2.out w1 hg ((HZ0.out.up hb).cell (i := 0) rfl)
  · rintro e w2 ⟨rfl, hb2⟩
    have HB2 := Lib.hid (below_up HB0.out hb2)
    clear hb2
    go_wp2_with fail
    go_ret2
    exact ⟨rfl, HB2.out⟩

set_option maxRecDepth 100000 in
set_option maxHeartbeats 1000000 in
theorem Number_none (k : Int) (hk : ¬ (1 ≤ k ∧ k ≤ 3)) (n : Int) (w : World) : Calls Try.prog 27 #[.int .i64 k, .int .i64 n] w (Ans (.string ⟨#[]⟩) 1 w) := by
  go_enter Try.func27, Try.ntmps27
  go_wp2_with fail
  refine (fixed_none k hk _ _ _).mono ?_
  rintro e w1 ⟨rfl, hb⟩
  have HB := Lib.hid (((Below.refl w.heap.size w).alloc (Nat.le_refl _) _).trans (hb.mono (by simp)))
  clear hb
  go_wp2_with fail
  go_ret2
  exact ⟨rfl, HB.out⟩

set_option maxRecDepth 100000 in
set_option maxHeartbeats 1000000 in
theorem reduce1_long (gb b : Nat) (s : ByteArray) (hs : 1024 < s.size) (w : World) (hc : w.cell? ⟨b, 0, none⟩ = some (.string s)) :
    Calls Try.prog 84 #[.pointer (some ⟨gb, 0, none⟩), .pointer (some ⟨b, 0, none⟩)] w (Ans (.string ⟨#[]⟩) 3 w) := by
  have hd : decide ((s.size : Int) > 1024) = true := by simp; omega
  go_enter Try.func84, Try.ntmps84
  go_wp2_with fail
  go_ret2
  exact ⟨rfl, Below.refl _ _⟩

set_option maxRecDepth 100000 in
set_option maxHeartbeats 1000000 in
theorem reduce1_any (G : GP) (ok : G.Ok) (gb b : Nat) (s : ByteArray) (hs : s.size ≤ 1024) (w : World) (hG : GroupAt w gb G) (hc : w.cell? ⟨b, 0, none⟩ = some (.string s)) :
    Calls Try.prog 84 #[.pointer (some ⟨gb, 0, none⟩), .pointer (some ⟨b, 0, none⟩)] w (Ans (.string (textS (numOf s % G.q.m) G.size)) 0 w) := by
  have HG := Lib.hid hG
  have OK := Lib.hid ok
  have hml : s.size ≤ maxLen := by unfold maxLen; omega
  clear hG ok
  have hd : decide ((s.size : Int) > 1024) = false := by simp; omega
  go_enter Try.func84, Try.ntmps84
  go_wp2_with fail
  refine (gReduce_any G OK.out gb s hml w HG.out).mono ?_
  rintro e w1 ⟨rfl, hb1⟩
  have HB1 := Lib.hid hb1
  clear hb1
  go_wp2_with fail
  refine (gPut_any G OK.out gb (numOf s) w1 (HG.out.up HB1.out)).mono ?_
  rintro e w2 ⟨rfl, hb2⟩
  have HB2 := Lib.hid (below_up HB1.out hb2)
  clear hb2
  go_wp2_with fail
  go_ret2
  exact ⟨rfl, HB2.out⟩

def redV (G : GP) (s : ByteArray) : ByteArray := if 1024 < s.size then ⟨#[]⟩ else textS (numOf s % G.q.m) G.size
def redE (s : ByteArray) : Int := if 1024 < s.size then 3 else 0

set_option maxRecDepth 100000 in
set_option maxHeartbeats 1000000 in
theorem Reduce_some (k : Nat) (h1 : 1 ≤ k) (h3 : k ≤ 3) (s : ByteArray) (w : World) : Calls Try.prog 28 #[.int .i64 (k : Int), .string s] w (Ans (.string (redV (grp k) s)) (redE s) w) := by
  have hok := grp_ok k h1 h3
  have OK := Lib.hid hok
  clear hok
  go_enter Try.func28, Try.ntmps28
  go_wp2_with fail
  have hb0 : Below w.heap.size w (w.alloc (.cells #[.string s] 9)) := (Below.refl _ _).alloc (Nat.le_refl _) _
  have hz0 : Bx (w.alloc (.cells #[.string s] 9)) w.heap.size 9 [.string s] := Bx.new w _ _ _ rfl
  obtain ⟨W0, hW0⟩ : ∃ W9 : World, (w.alloc (.cells #[.string s] 9)) = W9 := ⟨_, rfl⟩
  rw [hW0] at hb0 hz0 ⊢
  have HB0 := Lib.hid hb0
  have HZ0 := Lib.hid hz0
  clear hW0 hb0 hz0
  refine (withS_some k h1 h3 84 #[.pointer (some ⟨w.heap.size, 0, none⟩)] (.string (redV (grp k) s)) (redE s) (enters_of Try.func84 (by kernel_rfl) rfl) W0 (fun w1 hb hg => ?_)).mono ?_
  · have hc := (HZ0.out.up hb).cell (i := 0) rfl
    unfold redV redE
    by_cases hl : 1024 < s.size
    · rw [if_pos hl, if_pos hl]
      exact reduce1_long _ _ s hl w1 hc
    · rw [if_neg hl, if_neg hl]
      exact reduce1_any (grp k) OK.out _ _ s (by omega) w1 hg hc
  · rintro e w2 ⟨rfl, hb2⟩
    have HB2 := Lib.hid (below_up HB0.out hb2)
    clear hb2
    go_wp2_with fail
    go_ret2
    exact ⟨rfl, HB2.out⟩

set_option maxRecDepth 100000 in
set_option maxHeartbeats 1000000 in
theorem Reduce_none (k : Int) (hk : ¬ (1 ≤ k ∧ k ≤ 3)) (s : ByteArray) (w : World) : Calls Try.prog 28 #[.int .i64 k, .string s] w (Ans (.string ⟨#[]⟩) 1 w) := by
  go_enter Try.func28, Try.ntmps28
  go_wp2_with fail
  refine (withS_none k hk _ _).mono ?_
  rintro e w1 ⟨rfl, hb⟩
  have HB := Lib.hid (((Below.refl w.heap.size w).alloc (Nat.le_refl _) _).trans (hb.mono (by simp)))
  clear hb
  go_wp2_with fail
  go_ret2
  exact ⟨rfl, HB.out⟩

end Go.Proofs.Ytdmldnpadojflaa
