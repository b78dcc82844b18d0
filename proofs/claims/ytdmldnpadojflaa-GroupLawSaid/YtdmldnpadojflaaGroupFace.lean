/- The package group: the faces Add, Sub, Mul, Inv, Times, Under. No condition. -/
import Derived.Test.YtdmldnpadojflaaGroupReck
namespace Go.Proofs.Ytdmldnpadojflaa
open Go.RowKit

theorem box2 (w : World) (v1 v2 : Value) (t1 t2 : TypeId) :
    Below w.heap.size w ((w.alloc (.cells #[v1] t1)).alloc (.cells #[v2] t2)) ∧ Bx ((w.alloc (.cells #[v1] t1)).alloc (.cells #[v2] t2)) w.heap.size t1 [v1] ∧ Bx ((w.alloc (.cells #[v1] t1)).alloc (.cells #[v2] t2)) (w.heap.size + 1) t2 [v2] := by
  have a1 : Below w.heap.size w (w.alloc (.cells #[v1] t1)) := (Below.refl _ _).alloc (Nat.le_refl _) _
  have a2 : Below (w.alloc (.cells #[v1] t1)).heap.size (w.alloc (.cells #[v1] t1)) ((w.alloc (.cells #[v1] t1)).alloc (.cells #[v2] t2)) := (Below.refl _ _).alloc (Nat.le_refl _) _
  refine ⟨below_up a1 a2, (Bx.new w _ _ _ rfl).up a2, ?_⟩
  have h := Bx.new (w.alloc (.cells #[v1] t1)) t2 [v2] _ rfl
  rwa [World.size_alloc] at h

theorem box3 (w : World) (v1 v2 v3 : Value) (t1 t2 t3 : TypeId) :
    Below w.heap.size w (((w.alloc (.cells #[v1] t1)).alloc (.cells #[v2] t2)).alloc (.cells #[v3] t3)) ∧ Bx (((w.alloc (.cells #[v1] t1)).alloc (.cells #[v2] t2)).alloc (.cells #[v3] t3)) w.heap.size t1 [v1]
      ∧ Bx (((w.alloc (.cells #[v1] t1)).alloc (.cells #[v2] t2)).alloc (.cells #[v3] t3)) (w.heap.size + 1) t2 [v2] ∧ Bx (((w.alloc (.cells #[v1] t1)).alloc (.cells #[v2] t2)).alloc (.cells #[v3] t3)) (w.heap.size + 2) t3 [v3] := by
  obtain ⟨h1, h2, h3⟩ := box2 w v1 v2 t1 t2
  have a2 : Below ((w.alloc (.cells #[v1] t1)).alloc (.cells #[v2] t2)).heap.size ((w.alloc (.cells #[v1] t1)).alloc (.cells #[v2] t2)) (((w.alloc (.cells #[v1] t1)).alloc (.cells #[v2] t2)).alloc (.cells #[v3] t3)) := (Below.refl _ _).alloc (Nat.le_refl _) _
  refine ⟨below_up h1 a2, h2.up a2, h3.up a2, ?_⟩
  have h := Bx.new ((w.alloc (.cells #[v1] t1)).alloc (.cells #[v2] t2)) t3 [v3] _ rfl
  rwa [World.size_alloc, World.size_alloc] at h


def recV (G : GP) (a b : ByteArray) (z : Nat) : ByteArray := if (isSc G.q.m G.size a && isSc G.q.m G.size b) = true then textS (z % G.q.m) G.size else ⟨#[]⟩
def recE (G : GP) (a b : ByteArray) : Int := if (isSc G.q.m G.size a && isSc G.q.m G.size b) = true then 0 else 6

set_option maxRecDepth 100000 in
set_option maxHeartbeats 400000 in
theorem reckon_none (k : Int) (hk : ¬ (1 ≤ k ∧ k ≤ 3)) (a b : ByteArray) (f : FuncId) (w : World) : Calls Try.prog 92 #[.int .i64 k, .string a, .string b, .func (.func f) #[] #[]] w (Ans (.string ⟨#[]⟩) 1 w) := by
  go_enter Try.func92, Try.ntmps92
  go_wp2_with fail
  obtain ⟨W0, hW0⟩ : ∃ W9 : World, (((w.alloc (.cells #[.string a] 9)).alloc (.cells #[.string b] 9)).alloc (.cells #[.func (.func f) #[] #[]] 110)) = W9 := ⟨_, rfl⟩
  have hz := box3 w (.string a) (.string b) (.func (.func f) #[] #[]) 9 9 110
  rw [hW0] at hz
  have HZ := Lib.hid hz
  clear hz
  simp only [hW0]
  clear hW0
  refine (withS_none k hk _ W0).mono ?_
  rintro e w1 ⟨rfl, hb⟩
  have HB := Lib.hid (below_up HZ.out.1 hb)
  clear hb
  go_wp2_with fail
  go_ret2
  exact ⟨rfl, HB.out⟩

set_option maxRecDepth 100000 in
set_option maxHeartbeats 400000 in
theorem reckon_some (k : Nat) (h1 : 1 ≤ k) (h3 : k ≤ 3) (a b : ByteArray) (f : FuncId) (z : Nat) (hent : Enters Try.prog f) (w : World)
    (hcall : isSc (grp k).q.m (grp k).size b = true → ∀ gb w1, GroupAt w1 gb (grp k) → Calls Try.prog f #[.pointer (some ⟨gb, 0, none⟩), scV (grp k) (numOf a), scV (grp k) (numOf b)] w1 fun e w' => e = .returned (scV (grp k) z) ∧ Below w1.heap.size w1 w') :
    Calls Try.prog 92 #[.int .i64 (k : Int), .string a, .string b, .func (.func f) #[] #[]] w (Ans (.string (recV (grp k) a b z)) (recE (grp k) a b) w) := by
  have HC := Lib.hid hcall
  have HE := Lib.hid hent
  have OK := Lib.hid (grp_ok k h1 h3)
  clear hcall hent
  go_enter Try.func92, Try.ntmps92
  go_wp2_with fail
  obtain ⟨W0, hW0⟩ : ∃ W9 : World, (((w.alloc (.cells #[.string a] 9)).alloc (.cells #[.string b] 9)).alloc (.cells #[.func (.func f) #[] #[]] 110)) = W9 := ⟨_, rfl⟩
  have hz := box3 w (.string a) (.string b) (.func (.func f) #[] #[]) 9 9 110
  rw [hW0] at hz
  have HZ := Lib.hid hz
  clear hz
  simp only [hW0]
  clear hW0
  refine (withS_some k h1 h3 119 #[.pointer (some ⟨w.heap.size, 0, none⟩), .pointer (some ⟨w.heap.size + 1, 0, none⟩), .pointer (some ⟨w.heap.size + 2, 0, none⟩)] (.string (recV (grp k) a b z)) (recE (grp k) a b) (enters_of Try.func119 (by kernel_rfl) rfl) W0 (fun w1 hb hg => ?_)).mono ?_
  · have z1 := HZ.out.2.1.up hb
    have z2 := HZ.out.2.2.1.up hb
    have z3 := HZ.out.2.2.2.up hb
    unfold recV recE
    by_cases hy : (isSc (grp k).q.m (grp k).size a && isSc (grp k).q.m (grp k).size b) = true
    · rw [if_pos hy, if_pos hy]
      obtain ⟨ya, yb⟩ := Bool.and_eq_true_iff.1 hy
      exact reckon1_yes (grp k) OK.out _ _ _ _ f a b z ya yb HE.out w1 hg z1 z2 z3 (fun w2 hg2 => HC.out yb _ w2 hg2)
    · rw [if_neg hy, if_neg hy]
      exact reckon1_no (grp k) OK.out _ _ _ _ a b _ _ rfl rfl (by simpa using hy) w1 hg z1 z2
  · rintro e w2 ⟨rfl, hb2⟩
    have HB2 := Lib.hid (below_up HZ.out.1 hb2)
    clear hb2
    go_wp2_with fail
    go_ret2
    exact ⟨rfl, HB2.out⟩


theorem isSc_lt {q size : Nat} {s : ByteArray} (h : isSc q size s = true) : numOf s < q := by
  unfold isSc at h
  simp at h
  exact h.2

set_option maxRecDepth 100000 in
set_option maxHeartbeats 400000 in
theorem Add_none (k : Int) (hk : ¬ (1 ≤ k ∧ k ≤ 3)) (a b : ByteArray) (w : World) : Calls Try.prog 35 #[.int .i64 k, .string a, .string b] w (Ans (.string ⟨#[]⟩) 1 w) := by
  go_enter Try.func35, Try.ntmps35
  go_wp2_with fail
  refine (reckon_none k hk a b 93 w).mono ?_
  rintro e w1 ⟨rfl, hb⟩
  have HB := Lib.hid hb
  clear hb
  go_wp2_with fail
  go_ret2
  exact ⟨rfl, HB.out⟩

set_option maxRecDepth 100000 in
set_option maxHeartbeats 400000 in
theorem Add_some (k : Nat) (h1 : 1 ≤ k) (h3 : k ≤ 3) (a b : ByteArray) (w : World) : Calls Try.prog 35 #[.int .i64 (k : Int), .string a, .string b] w (Ans (.string (recV (grp k) a b (numOf a + numOf b))) (recE (grp k) a b) w) := by
  have OK := Lib.hid (grp_ok k h1 h3)
  go_enter Try.func35, Try.ntmps35
  go_wp2_with fail
  refine (reckon_some k h1 h3 a b 93 (numOf a + numOf b) (enters_of Try.func93 (by kernel_rfl) rfl) w (fun hb gb w1 hg => gAdd_any (grp k) OK.out gb (numOf a) (numOf b) w1 hg)).mono ?_
  rintro e w1 ⟨rfl, hb⟩
  have HB := Lib.hid hb
  clear hb
  go_wp2_with fail
  go_ret2
  exact ⟨rfl, HB.out⟩

set_option maxRecDepth 100000 in
set_option maxHeartbeats 400000 in
theorem Sub_none (k : Int) (hk : ¬ (1 ≤ k ∧ k ≤ 3)) (a b : ByteArray) (w : World) : Calls Try.prog 36 #[.int .i64 k, .string a, .string b] w (Ans (.string ⟨#[]⟩) 1 w) := by
  go_enter Try.func36, Try.ntmps36
  go_wp2_with fail
  refine (reckon_none k hk a b 94 w).mono ?_
  rintro e w1 ⟨rfl, hb⟩
  have HB := Lib.hid hb
  clear hb
  go_wp2_with fail
  go_ret2
  exact ⟨rfl, HB.out⟩

set_option maxRecDepth 100000 in
set_option maxHeartbeats 400000 in
theorem Sub_some (k : Nat) (h1 : 1 ≤ k) (h3 : k ≤ 3) (a b : ByteArray) (w : World) : Calls Try.prog 36 #[.int .i64 (k : Int), .string a, .string b] w (Ans (.string (recV (grp k) a b (numOf a + ((grp k).q.m - numOf b)))) (recE (grp k) a b) w) := by
  have OK := Lib.hid (grp_ok k h1 h3)
  go_enter Try.func36, Try.ntmps36
  go_wp2_with fail
  refine (reckon_some k h1 h3 a b 94 (numOf a + ((grp k).q.m - numOf b)) (enters_of Try.func94 (by kernel_rfl) rfl) w (fun hb gb w1 hg => gSub_any (grp k) OK.out gb (numOf a) (numOf b) (Nat.le_of_lt (isSc_lt hb)) w1 hg)).mono ?_
  rintro e w1 ⟨rfl, hb⟩
  have HB := Lib.hid hb
  clear hb
  go_wp2_with fail
  go_ret2
  exact ⟨rfl, HB.out⟩

set_option maxRecDepth 100000 in
set_option maxHeartbeats 400000 in
theorem Mul_none (k : Int) (hk : ¬ (1 ≤ k ∧ k ≤ 3)) (a b : ByteArray) (w : World) : Calls Try.prog 37 #[.int .i64 k, .string a, .string b] w (Ans (.string ⟨#[]⟩) 1 w) := by
  go_enter Try.func37, Try.ntmps37
  go_wp2_with fail
  refine (reckon_none k hk a b 95 w).mono ?_
  rintro e w1 ⟨rfl, hb⟩
  have HB := Lib.hid hb
  clear hb
  go_wp2_with fail
  go_ret2
  exact ⟨rfl, HB.out⟩

set_option maxRecDepth 100000 in
set_option maxHeartbeats 400000 in
theorem Mul_some (k : Nat) (h1 : 1 ≤ k) (h3 : k ≤ 3) (a b : ByteArray) (w : World) : Calls Try.prog 37 #[.int .i64 (k : Int), .string a, .string b] w (Ans (.string (recV (grp k) a b (numOf a * numOf b))) (recE (grp k) a b) w) := by
  have OK := Lib.hid (grp_ok k h1 h3)
  go_enter Try.func37, Try.ntmps37
  go_wp2_with fail
  refine (reckon_some k h1 h3 a b 95 (numOf a * numOf b) (enters_of Try.func95 (by kernel_rfl) rfl) w (fun hb gb w1 hg => gMul_any (grp k) OK.out gb (numOf a) (numOf b) w1 hg)).mono ?_
  rintro e w1 ⟨rfl, hb⟩
  have HB := Lib.hid hb
  clear hb
  go_wp2_with fail
  go_ret2
  exact ⟨rfl, HB.out⟩

theorem box1 (w : World) (v1 : Value) (t1 : TypeId) : Below w.heap.size w (w.alloc (.cells #[v1] t1)) ∧ Bx (w.alloc (.cells #[v1] t1)) w.heap.size t1 [v1] :=
  ⟨(Below.refl _ _).alloc (Nat.le_refl _) _, Bx.new w _ _ _ rfl⟩

set_option maxRecDepth 100000 in
set_option maxHeartbeats 400000 in
theorem Inv_none (k : Int) (hk : ¬ (1 ≤ k ∧ k ≤ 3)) (a : ByteArray) (w : World) : Calls Try.prog 33 #[.int .i64 k, .string a] w (Ans (.string ⟨#[]⟩) 1 w) := by
  go_enter Try.func33, Try.ntmps33
  go_wp2_with fail
  obtain ⟨W0, hW0⟩ : ∃ W9 : World, (w.alloc (.cells #[.string a] 9)) = W9 := ⟨_, rfl⟩
  have hz := box1 w (.string a) 9
  rw [hW0] at hz
  have HZ := Lib.hid hz
  clear hz
  simp only [hW0]
  clear hW0
  refine (withS_none k hk _ W0).mono ?_
  rintro e w1 ⟨rfl, hb⟩
  have HB := Lib.hid (below_up HZ.out.1 hb)
  clear hb
  go_wp2_with fail
  go_ret2
  exact ⟨rfl, HB.out⟩

set_option maxRecDepth 100000 in
set_option maxHeartbeats 400000 in
theorem Under_none (k : Int) (hk : ¬ (1 ≤ k ∧ k ≤ 3)) (a : ByteArray) (w : World) : Calls Try.prog 46 #[.int .i64 k, .string a] w (Ans (.string ⟨#[]⟩) 1 w) := by
  go_enter Try.func46, Try.ntmps46
  go_wp2_with fail
  obtain ⟨W0, hW0⟩ : ∃ W9 : World, (w.alloc (.cells #[.string a] 9)) = W9 := ⟨_, rfl⟩
  have hz := box1 w (.string a) 9
  rw [hW0] at hz
  have HZ := Lib.hid hz
  clear hz
  simp only [hW0]
  clear hW0
  refine (withS_none k hk _ W0).mono ?_
  rintro e w1 ⟨rfl, hb⟩
  have HB := Lib.hid (below_up HZ.out.1 hb)
  clear hb
  go_wp2_with fail
  go_ret2
  exact ⟨rfl, HB.out⟩

set_option maxRecDepth 100000 in
set_option maxHeartbeats 400000 in
theorem Times_none (k : Int) (hk : ¬ (1 ≤ k ∧ k ≤ 3)) (a b : ByteArray) (w : World) : Calls Try.prog 44 #[.int .i64 k, .string a, .string b] w (Ans (.string ⟨#[]⟩) 1 w) := by
  go_enter Try.func44, Try.ntmps44
  go_wp2_with fail
  obtain ⟨W0, hW0⟩ : ∃ W9 : World, ((w.alloc (.cells #[.string a] 9)).alloc (.cells #[.string b] 9)) = W9 := ⟨_, rfl⟩
  have hz := box2 w (.string a) (.string b) 9 9
  rw [hW0] at hz
  have HZ := Lib.hid hz
  clear hz
  simp only [hW0]
  clear hW0
  refine (withS_none k hk _ W0).mono ?_
  rintro e w1 ⟨rfl, hb⟩
  have HB := Lib.hid (below_up HZ.out.1 hb)
  clear hb
  go_wp2_with fail
  go_ret2
  exact ⟨rfl, HB.out⟩

def invV (G : GP) (a : ByteArray) : ByteArray := if isSc G.q.m G.size a = true ∧ numOf a ≠ 0 then textS (numOf a ^ (G.q.m - 2) % G.q.m) G.size else ⟨#[]⟩
def invE (G : GP) (a : ByteArray) : Int := if isSc G.q.m G.size a = true then (if numOf a = 0 then 5 else 0) else 6
def undV (G : GP) (a : ByteArray) : ByteArray := if isEl G.q.m G.size a = true then textS (lowN G (numOf a ^ (G.p.m - 2))) G.size else ⟨#[]⟩
def undE (G : GP) (a : ByteArray) : Int := if isEl G.q.m G.size a = true then 0 else 7
def timV (G : GP) (a b : ByteArray) : ByteArray := if (isEl G.q.m G.size a && isEl G.q.m G.size b) = true then textS (lowN G (numOf a * numOf b)) G.size else ⟨#[]⟩
def timE (G : GP) (a b : ByteArray) : Int := if (isEl G.q.m G.size a && isEl G.q.m G.size b) = true then 0 else 7

theorem Inv_call {k : Nat} (h1 : 1 ≤ k) (h3 : k ≤ 3) {a : ByteArray} {w W0 w1 : World} (hz : Below w.heap.size w W0 ∧ Bx W0 w.heap.size 9 [.string a]) (hb : Below W0.heap.size W0 w1) (hg : GroupAt w1 W0.heap.size (grp k)) :
    Calls Try.prog 88 #[.pointer (some ⟨W0.heap.size, 0, none⟩), .pointer (some ⟨w.heap.size, 0, none⟩)] w1 (Ans (.string (invV (grp k) a)) (invE (grp k) a) w1) := by
  have ok := grp_ok k h1 h3
  have z1 := hz.2.up hb
  unfold invV invE
  by_cases hy : isSc (grp k).q.m (grp k).size a = true
  · have hl := isSc_lt hy
    by_cases h0 : numOf a = 0
    · rw [if_neg (by simp [h0]), if_pos hy, if_pos h0]
      exact inv1_zero _ ok _ _ a hy (by rw [h0, Nat.zero_mod]) w1 hg z1
    · rw [if_pos ⟨hy, h0⟩, if_pos hy, if_neg h0]
      exact inv1_yes _ ok _ _ a hy (by rwa [Nat.mod_eq_of_lt hl]) w1 hg z1
  · rw [if_neg (fun h => hy h.1), if_neg hy]
    exact inv1_no _ ok _ _ a (by simpa using hy) w1 hg z1

theorem Under_call {k : Nat} (h1 : 1 ≤ k) (h3 : k ≤ 3) {a : ByteArray} {w W0 w1 : World} (hz : Below w.heap.size w W0 ∧ Bx W0 w.heap.size 9 [.string a]) (hb : Below W0.heap.size W0 w1) (hg : GroupAt w1 W0.heap.size (grp k)) :
    Calls Try.prog 99 #[.pointer (some ⟨W0.heap.size, 0, none⟩), .pointer (some ⟨w.heap.size, 0, none⟩)] w1 (Ans (.string (undV (grp k) a)) (undE (grp k) a) w1) := by
  have ok := grp_ok k h1 h3
  have z1 := hz.2.up hb
  unfold undV undE
  by_cases hy : isEl (grp k).q.m (grp k).size a = true
  · rw [if_pos hy, if_pos hy]
    exact under1_yes _ ok _ _ a hy w1 hg z1
  · rw [if_neg hy, if_neg hy]
    exact under1_no _ ok _ _ a (by simpa using hy) w1 hg z1

theorem Times_call {k : Nat} (h1 : 1 ≤ k) (h3 : k ≤ 3) {a b : ByteArray} {w W0 w1 : World} (hz : Below w.heap.size w W0 ∧ Bx W0 w.heap.size 9 [.string a] ∧ Bx W0 (w.heap.size + 1) 9 [.string b]) (hb : Below W0.heap.size W0 w1) (hg : GroupAt w1 W0.heap.size (grp k)) :
    Calls Try.prog 98 #[.pointer (some ⟨W0.heap.size, 0, none⟩), .pointer (some ⟨w.heap.size, 0, none⟩), .pointer (some ⟨w.heap.size + 1, 0, none⟩)] w1 (Ans (.string (timV (grp k) a b)) (timE (grp k) a b) w1) := by
  have ok := grp_ok k h1 h3
  have z1 := hz.2.1.up hb
  have z2 := hz.2.2.up hb
  unfold timV timE
  by_cases hy : (isEl (grp k).q.m (grp k).size a && isEl (grp k).q.m (grp k).size b) = true
  · rw [if_pos hy, if_pos hy]
    obtain ⟨ya, yb⟩ := Bool.and_eq_true_iff.1 hy
    exact times1_yes _ ok _ _ _ a b ya yb w1 hg z1 z2
  · rw [if_neg hy, if_neg hy]
    exact times1_no _ ok _ _ _ a b _ _ rfl rfl (by simpa using hy) w1 hg z1 z2


set_option maxRecDepth 100000 in
set_option maxHeartbeats 400000 in
theorem Inv_some (k : Nat) (h1 : 1 ≤ k) (h3 : k ≤ 3) (a : ByteArray) (w : World) : Calls Try.prog 33 #[.int .i64 (k : Int), .string a] w (Ans (.string (invV (grp k) a)) (invE (grp k) a) w) := by
  go_enter Try.func33, Try.ntmps33
  go_wp2_with fail
  obtain ⟨W0, hW0⟩ : ∃ W9 : World, (w.alloc (.cells #[.string a] 9)) = W9 := ⟨_, rfl⟩
  have hz := box1 w (.string a) 9
  rw [hW0] at hz
  have HZ := Lib.hid hz
  clear hz
  simp only [hW0]
  clear hW0
  refine (withS_some k h1 h3 88 #[.pointer (some ⟨w.heap.size, 0, none⟩)] (.string (invV (grp k) a)) (invE (grp k) a) (enters_of Try.func88 (by kernel_rfl) rfl) W0 (fun w1 hb hg => Inv_call h1 h3 HZ.out hb hg)).mono ?_
  rintro e w2 ⟨rfl, hb2⟩
  have HB2 := Lib.hid (below_up HZ.out.1 hb2)
  clear hb2
  go_wp2_with fail
  go_ret2
  exact ⟨rfl, HB2.out⟩

set_option maxRecDepth 100000 in
set_option maxHeartbeats 400000 in
theorem Under_some (k : Nat) (h1 : 1 ≤ k) (h3 : k ≤ 3) (a : ByteArray) (w : World) : Calls Try.prog 46 #[.int .i64 (k : Int), .string a] w (Ans (.string (undV (grp k) a)) (undE (grp k) a) w) := by
  go_enter Try.func46, Try.ntmps46
  go_wp2_with fail
  obtain ⟨W0, hW0⟩ : ∃ W9 : World, (w.alloc (.cells #[.string a] 9)) = W9 := ⟨_, rfl⟩
  have hz := box1 w (.string a) 9
  rw [hW0] at hz
  have HZ := Lib.hid hz
  clear hz
  simp only [hW0]
  clear hW0
  refine (withS_some k h1 h3 99 #[.pointer (some ⟨w.heap.size, 0, none⟩)] (.string (undV (grp k) a)) (undE (grp k) a) (enters_of Try.func99 (by kernel_rfl) rfl) W0 (fun w1 hb hg => Under_call h1 h3 HZ.out hb hg)).mono ?_
  rintro e w2 ⟨rfl, hb2⟩
  have HB2 := Lib.hid (below_up HZ.out.1 hb2)
  clear hb2
  go_wp2_with fail
  go_ret2
  exact ⟨rfl, HB2.out⟩

set_option maxRecDepth 100000 in
set_option maxHeartbeats 400000 in
theorem Times_some (k : Nat) (h1 : 1 ≤ k) (h3 : k ≤ 3) (a b : ByteArray) (w : World) : Calls Try.prog 44 #[.int .i64 (k : Int), .string a, .string b] w (Ans (.string (timV (grp k) a b)) (timE (grp k) a b) w) := by
  go_enter Try.func44, Try.ntmps44
  go_wp2_with fail
  obtain ⟨W0, hW0⟩ : ∃ W9 : World, ((w.alloc (.cells #[.string a] 9)).alloc (.cells #[.string b] 9)) = W9 := ⟨_, rfl⟩
  have hz := box2 w (.string a) (.string b) 9 9
  rw [hW0] at hz
  have HZ := Lib.hid hz
  clear hz
  simp only [hW0]
  clear hW0
  refine (withS_some k h1 h3 98 #[.pointer (some ⟨w.heap.size, 0, none⟩), .pointer (some ⟨w.heap.size + 1, 0, none⟩)] (.string (timV (grp k) a b)) (timE (grp k) a b) (enters_of Try.func98 (by kernel_rfl) rfl) W0 (fun w1 hb hg => Times_call h1 h3 HZ.out hb hg)).mono ?_
  rintro e w2 ⟨rfl, hb2⟩
  have HB2 := Lib.hid (below_up HZ.out.1 hb2)
  clear hb2
  go_wp2_with fail
  go_ret2
  exact ⟨rfl, HB2.out⟩

end Go.Proofs.Ytdmldnpadojflaa
