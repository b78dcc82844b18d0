/- Texts of this seat, one behind the other: what SigmaExtracts leans on. No condition beyond those that each names. -/
import Derived.Test.YtipgjookfdkciaaZSigmaExtracts6

/- What is wrong with how many claims there are: shape of the package sigma. No condition. -/
namespace Go.Proofs.Ytipgjookfdkciaa
open Go.RowKit

def ClaimA.val (c : ClaimA) : Value := .agg #[.slice c.ab c.bases.length c.cb, .slice c.ai c.images.length c.ci]
theorem any_take_true {α : Type} {f : α → Bool} {l : List α} {i : Nat} (hi : i < l.length) (h : f l[i] = true) : l.any f = true := List.any_eq_true.2 ⟨l[i], List.getElem_mem hi, h⟩
theorem any_snoc {α : Type} {f : α → Bool} {l : List α} {i : Nat} (hi : i < l.length) (ht : (l.take i).any f = false) (h : f l[i] = false) : (l.take (i + 1)).any f = false := by
  rw [List.take_succ_eq_append_getElem hi, List.any_append, ht]
  simp [h]

set_option maxRecDepth 100000 in
set_option maxHeartbeats 1000000 in
theorem shape1_any (c : ClaimA) (b : Bool) (hb : cLong c = b) (w : World) : Calls Try.prog 201 #[c.val] w (Gives (.bool b) w) := by
  obtain ⟨n, hn⟩ : ∃ n, c.bases.length = n := ⟨_, rfl⟩
  obtain ⟨m, hm⟩ : ∃ m, c.images.length = m := ⟨_, rfl⟩
  have hbv : b = (decide (8 < n) || decide (8 < m)) := by rw [← hb, ← hn, ← hm]; rfl
  unfold ClaimA.val Gives
  rw [hn, hm]
  clear hn hm hb
  by_cases h1 : 8 < n
  · have hd : decide ((n : Int) > 8) = true := by simp; omega
    obtain rfl : b = true := by rw [hbv]; simp [h1]
    clear hbv h1
    go_enter Try.func201, Try.ntmps201
    go_wp2_with fail
    have hb9 : Below w.heap.size w (w.alloc (Obj.cells #[.slice c.ab n c.cb, .slice c.ai m c.ci] 70)) := ((Below.refl _ _).alloc (Nat.le_refl _) _)
    have hx90 : Bx (w.alloc (Obj.cells #[.slice c.ab n c.cb, .slice c.ai m c.ci] 70)) (w.heap.size) 70 [.slice c.ab n c.cb, .slice c.ai m c.ci] := by
      have h := (Bx.new w 70 [.slice c.ab n c.cb, .slice c.ai m c.ci] _ rfl)
      exact h
    have hz9 : (w.alloc (Obj.cells #[.slice c.ab n c.cb, .slice c.ai m c.ci] 70)).heap.size = w.heap.size + 1 := by simp
    obtain ⟨w1, hq1⟩ : ∃ W9 : World, (w.alloc (Obj.cells #[.slice c.ab n c.cb, .slice c.ai m c.ci] 70)) = W9 := ⟨_, rfl⟩
    rw [hq1] at hb9 hz9 hx90
    rw [hq1]
    clear hq1
    have HB := Lib.hid hb9
    have Hs1 := Lib.hid hz9
    have Hbc := Lib.hid hx90
    clear hb9 hz9 hx90
    have bc_0 := Hbc.out.cell (i := 0) rfl
    have bc_1 := Hbc.out.cell (i := 1) rfl
    go_wp2_with fail
    go_ret
    exact ⟨rfl, HB.out⟩
  · have hd : decide ((n : Int) > 8) = false := by simp; omega
    by_cases h2 : 8 < m
    · have hd2 : decide ((m : Int) > 8) = true := by simp; omega
      obtain rfl : b = true := by rw [hbv]; simp [h2]
      clear hbv h1 h2
      go_enter Try.func201, Try.ntmps201
      go_wp2_with fail
      have hb9 : Below w.heap.size w (w.alloc (Obj.cells #[.slice c.ab n c.cb, .slice c.ai m c.ci] 70)) := ((Below.refl _ _).alloc (Nat.le_refl _) _)
      have hx90 : Bx (w.alloc (Obj.cells #[.slice c.ab n c.cb, .slice c.ai m c.ci] 70)) (w.heap.size) 70 [.slice c.ab n c.cb, .slice c.ai m c.ci] := by
        have h := (Bx.new w 70 [.slice c.ab n c.cb, .slice c.ai m c.ci] _ rfl)
        exact h
      have hz9 : (w.alloc (Obj.cells #[.slice c.ab n c.cb, .slice c.ai m c.ci] 70)).heap.size = w.heap.size + 1 := by simp
      obtain ⟨w1, hq1⟩ : ∃ W9 : World, (w.alloc (Obj.cells #[.slice c.ab n c.cb, .slice c.ai m c.ci] 70)) = W9 := ⟨_, rfl⟩
      rw [hq1] at hb9 hz9 hx90
      rw [hq1]
      clear hq1
      have HB := Lib.hid hb9
      have Hs1 := Lib.hid hz9
      have Hbc := Lib.hid hx90
      clear hb9 hz9 hx90
      have bc_0 := Hbc.out.cell (i := 0) rfl
      have bc_1 := Hbc.out.cell (i := 1) rfl
      go_wp2_with fail
      go_ret
      exact ⟨rfl, HB.out⟩
    · have hd2 : decide ((m : Int) > 8) = false := by simp; omega
      obtain rfl : b = false := by rw [hbv]; simp [h1, h2]
      clear hbv h1 h2
      go_enter Try.func201, Try.ntmps201
      go_wp2_with fail
      have hb9 : Below w.heap.size w (w.alloc (Obj.cells #[.slice c.ab n c.cb, .slice c.ai m c.ci] 70)) := ((Below.refl _ _).alloc (Nat.le_refl _) _)
      have hx90 : Bx (w.alloc (Obj.cells #[.slice c.ab n c.cb, .slice c.ai m c.ci] 70)) (w.heap.size) 70 [.slice c.ab n c.cb, .slice c.ai m c.ci] := by
        have h := (Bx.new w 70 [.slice c.ab n c.cb, .slice c.ai m c.ci] _ rfl)
        exact h
      have hz9 : (w.alloc (Obj.cells #[.slice c.ab n c.cb, .slice c.ai m c.ci] 70)).heap.size = w.heap.size + 1 := by simp
      obtain ⟨w1, hq1⟩ : ∃ W9 : World, (w.alloc (Obj.cells #[.slice c.ab n c.cb, .slice c.ai m c.ci] 70)) = W9 := ⟨_, rfl⟩
      rw [hq1] at hb9 hz9 hx90
      rw [hq1]
      clear hq1
      have HB := Lib.hid hb9
      have Hs1 := Lib.hid hz9
      have Hbc := Lib.hid hx90
      clear hb9 hz9 hx90
      have bc_0 := Hbc.out.cell (i := 0) rfl
      have bc_1 := Hbc.out.cell (i := 1) rfl
      go_wp2_with fail
      go_ret
      exact ⟨rfl, HB.out⟩

set_option maxRecDepth 100000 in
set_option maxHeartbeats 1000000 in
theorem shape2_any (c : ClaimA) (b : Bool) (hb : cForm c = b) (w : World) : Calls Try.prog 202 #[c.val] w (Gives (.bool b) w) := by
  obtain ⟨n, hn⟩ : ∃ n, c.bases.length = n := ⟨_, rfl⟩
  obtain ⟨m, hm⟩ : ∃ m, c.images.length = m := ⟨_, rfl⟩
  have hbv : b = (decide (n = 0) || decide (n ≠ m)) := by rw [← hb, ← hn, ← hm]; rfl
  unfold ClaimA.val Gives
  rw [hn, hm]
  clear hn hm hb
  by_cases h1 : n = 0
  · have hd : ((n : Int) == 0) = true := by simp; omega
    obtain rfl : b = true := by rw [hbv]; simp [h1]
    clear hbv h1
    go_enter Try.func202, Try.ntmps202
    go_wp2_with fail
    have hb9 : Below w.heap.size w (w.alloc (Obj.cells #[.slice c.ab n c.cb, .slice c.ai m c.ci] 70)) := ((Below.refl _ _).alloc (Nat.le_refl _) _)
    have hx90 : Bx (w.alloc (Obj.cells #[.slice c.ab n c.cb, .slice c.ai m c.ci] 70)) (w.heap.size) 70 [.slice c.ab n c.cb, .slice c.ai m c.ci] := by
      have h := (Bx.new w 70 [.slice c.ab n c.cb, .slice c.ai m c.ci] _ rfl)
      exact h
    have hz9 : (w.alloc (Obj.cells #[.slice c.ab n c.cb, .slice c.ai m c.ci] 70)).heap.size = w.heap.size + 1 := by simp
    obtain ⟨w1, hq1⟩ : ∃ W9 : World, (w.alloc (Obj.cells #[.slice c.ab n c.cb, .slice c.ai m c.ci] 70)) = W9 := ⟨_, rfl⟩
    rw [hq1] at hb9 hz9 hx90
    rw [hq1]
    clear hq1
    have HB := Lib.hid hb9
    have Hs1 := Lib.hid hz9
    have Hbc := Lib.hid hx90
    clear hb9 hz9 hx90
    have bc_0 := Hbc.out.cell (i := 0) rfl
    have bc_1 := Hbc.out.cell (i := 1) rfl
    go_wp2_with fail
    go_ret
    exact ⟨rfl, HB.out⟩
  · have hd : ((n : Int) == 0) = false := by simp; omega
    by_cases h2 : n ≠ m
    · have hd2 : ((n : Int) != (m : Int)) = true := by simp; omega
      obtain rfl : b = true := by rw [hbv]; simp [h2]
      clear hbv h1 h2
      go_enter Try.func202, Try.ntmps202
      go_wp2_with fail
      have hb9 : Below w.heap.size w (w.alloc (Obj.cells #[.slice c.ab n c.cb, .slice c.ai m c.ci] 70)) := ((Below.refl _ _).alloc (Nat.le_refl _) _)
      have hx90 : Bx (w.alloc (Obj.cells #[.slice c.ab n c.cb, .slice c.ai m c.ci] 70)) (w.heap.size) 70 [.slice c.ab n c.cb, .slice c.ai m c.ci] := by
        have h := (Bx.new w 70 [.slice c.ab n c.cb, .slice c.ai m c.ci] _ rfl)
        exact h
      have hz9 : (w.alloc (Obj.cells #[.slice c.ab n c.cb, .slice c.ai m c.ci] 70)).heap.size = w.heap.size + 1 := by simp
      obtain ⟨w1, hq1⟩ : ∃ W9 : World, (w.alloc (Obj.cells #[.slice c.ab n c.cb, .slice c.ai m c.ci] 70)) = W9 := ⟨_, rfl⟩
      rw [hq1] at hb9 hz9 hx90
      rw [hq1]
      clear hq1
      have HB := Lib.hid hb9
      have Hs1 := Lib.hid hz9
      have Hbc := Lib.hid hx90
      clear hb9 hz9 hx90
      have bc_0 := Hbc.out.cell (i := 0) rfl
      have bc_1 := Hbc.out.cell (i := 1) rfl
      go_wp2_with fail
      go_ret
      exact ⟨rfl, HB.out⟩
    · have hd2 : ((n : Int) != (m : Int)) = false := by simp; omega
      obtain rfl : b = false := by rw [hbv]; simp [h1]; omega
      clear hbv h1 h2
      go_enter Try.func202, Try.ntmps202
      go_wp2_with fail
      have hb9 : Below w.heap.size w (w.alloc (Obj.cells #[.slice c.ab n c.cb, .slice c.ai m c.ci] 70)) := ((Below.refl _ _).alloc (Nat.le_refl _) _)
      have hx90 : Bx (w.alloc (Obj.cells #[.slice c.ab n c.cb, .slice c.ai m c.ci] 70)) (w.heap.size) 70 [.slice c.ab n c.cb, .slice c.ai m c.ci] := by
        have h := (Bx.new w 70 [.slice c.ab n c.cb, .slice c.ai m c.ci] _ rfl)
        exact h
      have hz9 : (w.alloc (Obj.cells #[.slice c.ab n c.cb, .slice c.ai m c.ci] 70)).heap.size = w.heap.size + 1 := by simp
      obtain ⟨w1, hq1⟩ : ∃ W9 : World, (w.alloc (Obj.cells #[.slice c.ab n c.cb, .slice c.ai m c.ci] 70)) = W9 := ⟨_, rfl⟩
      rw [hq1] at hb9 hz9 hx90
      rw [hq1]
      clear hq1
      have HB := Lib.hid hb9
      have Hs1 := Lib.hid hz9
      have Hbc := Lib.hid hx90
      clear hb9 hz9 hx90
      have bc_0 := Hbc.out.cell (i := 0) rfl
      have bc_1 := Hbc.out.cell (i := 1) rfl
      go_wp2_with fail
      go_ret
      exact ⟨rfl, HB.out⟩

set_option maxRecDepth 100000 in
set_option maxHeartbeats 1000000 in
theorem idxLong (l : List ClaimA) (al : Option Addr) (cl : Nat) (b : Bool) (hb : l.any cLong = b) (hl : l.length ≤ 64) (w : World) (hS : Sl w w.heap.size al (l.flatMap ClaimA.cells)) :
    Calls Try.prog 205 #[.slice al l.length cl, .func (.func 201) #[] #[]] w fun e w' => ∃ z : Int, e = .returned (.int .i64 z) ∧ decide (z ≥ 0) = b ∧ Below w.heap.size w w' := by
  have HS := Lib.hid hS
  have HBQ := Lib.hid hb
  clear hS hb
  go_enter Try.func205, Try.ntmps205
  go_wp2_with fail
  go_loopw [8] (fun i wr => ∃ j : Nat, j ≤ l.length ∧ i = .int .i64 j ∧ Hid (Below w.heap.size w wr) ∧ Hid ((l.take j).any cLong = false)) (fun i _ => l.length - (intOf i).toNat)
  case atStart => exact ⟨0, Nat.zero_le _, rfl, Below.refl _ _, rfl⟩
  case round =>
    obtain ⟨j, hj, rfl, HB, HAL⟩ := hrel
    by_cases hjl : j < l.length
    · skip
      obtain ⟨bl, ol, rfl, hbl, hc⟩ := (HS.out.up HB.out).elem ClaimA.cells_len (by omega) j hjl
      have hc_0 := hc 0 _ rfl
      rw [Nat.add_zero] at hc_0
      have hc_1 := hc 1 _ rfl
      clear hc
      obtain ⟨bj, hbj⟩ : ∃ x, cLong l[j] = x := ⟨_, rfl⟩
      have HBJ := Lib.hid hbj
      clear hbj
      go_wp2_with fail
      refine (shape1_any l[j] bj HBJ.out wr).mono ?_
      rintro e w1 ⟨rfl, hb9⟩
      replace HB := Lib.hid (below_up HB.out hb9)
      have Hs1 := Lib.hid (show wr.heap.size ≤ w1.heap.size from hb9.size)
      clear hb9
      cases bj
      · go_wp2_with fail
        go_roundw
        case rel => exact ⟨j + 1, by omega, by go_num, HB, any_snoc hjl HAL.out HBJ.out⟩
        case measure => simp [intOf]; omega
      · go_wp2_with fail
        go_ret
        exact ⟨j, rfl, by rw [← HBQ.out, any_take_true hjl HBJ.out]; simp, HB.out⟩
    · have hjn : j = l.length := by omega
      subst hjn
      go_wp2_with fail
      go_ret
      rw [List.take_length] at HAL
      exact ⟨-1, rfl, by rw [← HBQ.out, HAL.out]; rfl, HB.out⟩

set_option maxRecDepth 100000 in
set_option maxHeartbeats 1000000 in
theorem conLong (l : List ClaimA) (al : Option Addr) (cl : Nat) (b : Bool) (hb : l.any cLong = b) (hl : l.length ≤ 64) (w : World) (hS : Sl w w.heap.size al (l.flatMap ClaimA.cells)) :
    Calls Try.prog 200 #[.slice al l.length cl, .func (.func 201) #[] #[]] w (Gives (.bool b) w) := by
  have HS := Lib.hid hS
  have HBQ := Lib.hid hb
  clear hS hb
  unfold Gives
  go_enter Try.func200, Try.ntmps200
  go_wp2_with fail
  refine (idxLong l al cl b HBQ.out hl w HS.out).mono ?_
  rintro e w1 ⟨z, rfl, hz, hb9⟩
  have HB := Lib.hid hb9
  have Hs1 := Lib.hid (show w.heap.size ≤ w1.heap.size from hb9.size)
  clear hb9
  go_wp2_with fail
  go_ret
  exact ⟨rfl, HB.out⟩

set_option maxRecDepth 100000 in
set_option maxHeartbeats 1000000 in
theorem idxForm (l : List ClaimA) (al : Option Addr) (cl : Nat) (b : Bool) (hb : l.any cForm = b) (hl : l.length ≤ 64) (w : World) (hS : Sl w w.heap.size al (l.flatMap ClaimA.cells)) :
    Calls Try.prog 205 #[.slice al l.length cl, .func (.func 202) #[] #[]] w fun e w' => ∃ z : Int, e = .returned (.int .i64 z) ∧ decide (z ≥ 0) = b ∧ Below w.heap.size w w' := by
  have HS := Lib.hid hS
  have HBQ := Lib.hid hb
  clear hS hb
  go_enter Try.func205, Try.ntmps205
  go_wp2_with fail
  go_loopw [8] (fun i wr => ∃ j : Nat, j ≤ l.length ∧ i = .int .i64 j ∧ Hid (Below w.heap.size w wr) ∧ Hid ((l.take j).any cForm = false)) (fun i _ => l.length - (intOf i).toNat)
  case atStart => exact ⟨0, Nat.zero_le _, rfl, Below.refl _ _, rfl⟩
  case round =>
    obtain ⟨j, hj, rfl, HB, HAL⟩ := hrel
    by_cases hjl : j < l.length
    · skip
      obtain ⟨bl, ol, rfl, hbl, hc⟩ := (HS.out.up HB.out).elem ClaimA.cells_len (by omega) j hjl
      have hc_0 := hc 0 _ rfl
      rw [Nat.add_zero] at hc_0
      have hc_1 := hc 1 _ rfl
      clear hc
      obtain ⟨bj, hbj⟩ : ∃ x, cForm l[j] = x := ⟨_, rfl⟩
      have HBJ := Lib.hid hbj
      clear hbj
      go_wp2_with fail
      refine (shape2_any l[j] bj HBJ.out wr).mono ?_
      rintro e w1 ⟨rfl, hb9⟩
      replace HB := Lib.hid (below_up HB.out hb9)
      have Hs1 := Lib.hid (show wr.heap.size ≤ w1.heap.size from hb9.size)
      clear hb9
      cases bj
      · go_wp2_with fail
        go_roundw
        case rel => exact ⟨j + 1, by omega, by go_num, HB, any_snoc hjl HAL.out HBJ.out⟩
        case measure => simp [intOf]; omega
      · go_wp2_with fail
        go_ret
        exact ⟨j, rfl, by rw [← HBQ.out, any_take_true hjl HBJ.out]; simp, HB.out⟩
    · have hjn : j = l.length := by omega
      subst hjn
      go_wp2_with fail
      go_ret
      rw [List.take_length] at HAL
      exact ⟨-1, rfl, by rw [← HBQ.out, HAL.out]; rfl, HB.out⟩

set_option maxRecDepth 100000 in
set_option maxHeartbeats 1000000 in
theorem conForm (l : List ClaimA) (al : Option Addr) (cl : Nat) (b : Bool) (hb : l.any cForm = b) (hl : l.length ≤ 64) (w : World) (hS : Sl w w.heap.size al (l.flatMap ClaimA.cells)) :
    Calls Try.prog 200 #[.slice al l.length cl, .func (.func 202) #[] #[]] w (Gives (.bool b) w) := by
  have HS := Lib.hid hS
  have HBQ := Lib.hid hb
  clear hS hb
  unfold Gives
  go_enter Try.func200, Try.ntmps200
  go_wp2_with fail
  refine (idxForm l al cl b HBQ.out hl w HS.out).mono ?_
  rintro e w1 ⟨z, rfl, hz, hb9⟩
  have HB := Lib.hid hb9
  have Hs1 := Lib.hid (show w.heap.size ≤ w1.heap.size from hb9.size)
  clear hb9
  go_wp2_with fail
  go_ret
  exact ⟨rfl, HB.out⟩

set_option maxRecDepth 100000 in
set_option maxHeartbeats 1000000 in
theorem shape_any (l : List ClaimA) (al : Option Addr) (cl : Nat) (w : World) (hS : Sl w w.heap.size al (l.flatMap ClaimA.cells)) :
    Calls Try.prog 184 #[.slice al l.length cl] w (Gives (.int .i64 (shapeE l : Int)) w) := by
  have HS := Lib.hid hS
  clear hS
  obtain ⟨z, hz⟩ : ∃ z, shapeE l = z := ⟨_, rfl⟩
  obtain ⟨b1, hb1⟩ : ∃ b, l.any cLong = b := ⟨_, rfl⟩
  obtain ⟨b2, hb2⟩ : ∃ b, l.any cForm = b := ⟨_, rfl⟩
  have HB1 := Lib.hid hb1
  have HB2 := Lib.hid hb2
  have hzz : z = if (decide (64 < l.length) || b1) = true then 3 else if (decide (l.length = 0) || b2) = true then 2 else 0 := by rw [← hz, ← hb1, ← hb2]; rfl
  rw [hz]
  clear hz hb1 hb2
  unfold Gives
  by_cases h1 : 64 < l.length
  · have hd : decide ((l.length : Int) > 64) = true := by simp; omega
    obtain rfl : z = 3 := by rw [hzz]; simp [h1]
    clear hzz h1
    go_enter Try.func184, Try.ntmps184
    go_wp2_with fail
    go_ret
    exact ⟨rfl, Below.refl _ _⟩
  have hd : decide ((l.length : Int) > 64) = false := by simp; omega
  cases b1
  case true =>
    obtain rfl : z = 3 := by rw [hzz]; simp
    clear hzz
    go_enter Try.func184, Try.ntmps184
    go_wp2_with fail
    refine (conLong l al cl true HB1.out (by omega) w HS.out).mono ?_
    rintro e w1 ⟨rfl, hb9⟩
    have HB := Lib.hid hb9
    have Hs1 := Lib.hid (show w.heap.size ≤ w1.heap.size from hb9.size)
    clear hb9
    go_wp2_with fail
    go_ret
    exact ⟨rfl, HB.out⟩
  by_cases h2 : l.length = 0
  · have hd2 : ((l.length : Int) == 0) = true := by rw [beq_iff_eq]; omega
    obtain rfl : z = 2 := by rw [hzz]; simp [h1, h2]
    clear hzz h2
    go_enter Try.func184, Try.ntmps184
    go_wp2_with fail
    refine (conLong l al cl false HB1.out (by omega) w HS.out).mono ?_
    rintro e w1 ⟨rfl, hb9⟩
    have HB := Lib.hid hb9
    have Hs1 := Lib.hid (show w.heap.size ≤ w1.heap.size from hb9.size)
    clear hb9
    go_wp2_with fail
    go_ret
    exact ⟨rfl, HB.out⟩
  have hd2 : ((l.length : Int) == 0) = false := by rw [beq_eq_false_iff_ne]; omega
  cases b2
  case true =>
    obtain rfl : z = 2 := by rw [hzz]; simp [h1, h2]
    clear hzz h2
    go_enter Try.func184, Try.ntmps184
    go_wp2_with fail
    refine (conLong l al cl false HB1.out (by omega) w HS.out).mono ?_
    rintro e w1 ⟨rfl, hb9⟩
    have HB := Lib.hid hb9
    have Hs1 := Lib.hid (show w.heap.size ≤ w1.heap.size from hb9.size)
    clear hb9
    go_wp2_with fail
    refine (conForm l al cl true HB2.out (by omega) w1 (HS.out.up HB.out)).mono ?_
    rintro e w2 ⟨rfl, hb9⟩
    replace HB := Lib.hid (below_up HB.out hb9)
    have Hs2 := Lib.hid (show w1.heap.size ≤ w2.heap.size from hb9.size)
    clear hb9
    go_wp2_with fail
    go_ret
    exact ⟨rfl, HB.out⟩
  case false =>
    obtain rfl : z = 0 := by rw [hzz]; simp [h1, h2]
    clear hzz h2
    go_enter Try.func184, Try.ntmps184
    go_wp2_with fail
    refine (conLong l al cl false HB1.out (by omega) w HS.out).mono ?_
    rintro e w1 ⟨rfl, hb9⟩
    have HB := Lib.hid hb9
    have Hs1 := Lib.hid (show w.heap.size ≤ w1.heap.size from hb9.size)
    clear hb9
    go_wp2_with fail
    refine (conForm l al cl false HB2.out (by omega) w1 (HS.out.up HB.out)).mono ?_
    rintro e w2 ⟨rfl, hb9⟩
    replace HB := Lib.hid (below_up HB.out hb9)
    have Hs2 := Lib.hid (show w1.heap.size ≤ w2.heap.size from hb9.size)
    clear hb9
    go_wp2_with fail
    go_ret
    exact ⟨rfl, HB.out⟩

end Go.Proofs.Ytipgjookfdkciaa

/- The document's ciphers. No condition. -/
namespace Go.Proofs.Ytipgjookfdkciaa
open Go.RowKit

section
variable {G : GP} {aq ap : Option Addr} {cq cp : Nat}


set_option maxRecDepth 100000 in
set_option maxHeartbeats 1000000 in
theorem rRaise (ok : G.Ok) {n : Nat} {an : Option Addr} {cn : Nat} (hn : dl n ≤ 65536) (w : World) (hG : RG w G aq ap) (hN : NumAt w an n) :
    Calls Try.prog 146 #[.agg #[.int .i64 (G.size : Int), .slice aq (dl G.q.m) cq, .slice ap (dl G.p.m) cp], .slice an (dl n) cn] w fun e w' => NumR w e w' (lowN G (2 ^ n)) := by
  have OK := Lib.hid ok
  have HG := Lib.hid hG
  have HN := Lib.hid hN
  clear ok hG hN
  go_enter Try.func146, Try.ntmps146
  go_wp2_with fail
  have hb9 : Below w.heap.size w (w.alloc (Obj.cells #[.int .i64 (G.size : Int), .slice aq (dl G.q.m) cq, .slice ap (dl G.p.m) cp] 98)) := ((Below.refl _ _).alloc (Nat.le_refl _) _)
  have hx90 : Bx (w.alloc (Obj.cells #[.int .i64 (G.size : Int), .slice aq (dl G.q.m) cq, .slice ap (dl G.p.m) cp] 98)) (w.heap.size) 98 [.int .i64 (G.size : Int), .slice aq (dl G.q.m) cq, .slice ap (dl G.p.m) cp] := by
    have h := (Bx.new w 98 [.int .i64 (G.size : Int), .slice aq (dl G.q.m) cq, .slice ap (dl G.p.m) cp] _ rfl)
    exact h
  have hz9 : (w.alloc (Obj.cells #[.int .i64 (G.size : Int), .slice aq (dl G.q.m) cq, .slice ap (dl G.p.m) cp] 98)).heap.size = w.heap.size + 1 := by simp
  obtain ⟨w1, hq1⟩ : ∃ W9 : World, (w.alloc (Obj.cells #[.int .i64 (G.size : Int), .slice aq (dl G.q.m) cq, .slice ap (dl G.p.m) cp] 98)) = W9 := ⟨_, rfl⟩
  rw [hq1] at hb9 hz9 hx90
  rw [hq1]
  clear hq1
  have HB := Lib.hid hb9
  have Hs1 := Lib.hid hz9
  have Hbg := Lib.hid hx90
  clear hb9 hz9 hx90
  have bg_0 := Hbg.out.cell (i := 0) rfl
  have bg_1 := Hbg.out.cell (i := 1) rfl
  have bg_2 := Hbg.out.cell (i := 2) rfl
  go_wp2_with fail
  have HT := Lib.hid (show Below w1.heap.size w1 w1.drew from (Below.refl _ _).drew)
  have hl_bg := Hbg.out.lt
  refine wp_region_tree (fun w9 => ∃ E : Over w1, w9 = E.w) ((.qs [0, 2] (.a 1 (.a 3 (.qs [4] .done))))) (by kernel_rfl) (by kernel_rfl) (fun _ _ d _ _ h => by cases d <;> exact h) ⟨⟨_, HT.out⟩, rfl⟩ ?_
  have hov_bg := fun (E : Over w1) o => E.cell (b := w.heap.size) o hl_bg
  simp only [Tree.qs]
  repeat (refine tree_q rfl rfl ?_; go_big_quiet_step (fail); refine wpQuiet_nil ?_)
  refine tree_a rfl (fun K hK => ?_)
  go_simp
  refine (refOf_any 2 (by omega) _).mono ?_
  rintro e w2 ⟨a4, c4, rfl, hn9, hb9⟩
  replace HT := Lib.hid (below_up HT.out hb9)
  have Hs2 := Lib.hid (show w1.heap.size ≤ w2.heap.size from HT.out.size)
  clear hb9
  have HN4 := Lib.hid hn9
  clear hn9
  refine hK _ _ ⟨⟨⟨w2, HT.out⟩, rfl⟩, ?_⟩
  clear hK K
  repeat (refine tree_q rfl rfl ?_; go_big_quiet_step (fail); refine wpQuiet_nil ?_)
  refine tree_a rfl (fun K hK => ?_)
  go_simp
  refine (rPow OK.out (by decide) hn _ (HG.out.up (below_up HB.out HT.out)) HN4.out (HN.out.up (below_up HB.out HT.out))).mono ?_
  rintro e w3 ⟨a5, c5, rfl, hn9, hb9⟩
  replace HN4 := Lib.hid (HN4.out.up hb9)
  replace HT := Lib.hid (below_up HT.out hb9)
  have Hs3 := Lib.hid (show w1.heap.size ≤ w3.heap.size from HT.out.size)
  clear hb9
  have HN5 := Lib.hid hn9
  clear hn9
  refine hK _ _ ⟨⟨⟨w3, HT.out⟩, rfl⟩, ?_⟩
  clear hK K
  repeat (refine tree_q rfl rfl ?_; go_big_quiet_step (fail); refine wpQuiet_nil ?_)
  refine tree_end ?_
  clear hov_bg hl_bg
  clear bg_0 bg_1 bg_2
  replace Hbg := Lib.hid (Hbg.out.up HT.out)
  replace HB := Lib.hid (below_up HB.out HT.out)
  have Hs3 := Lib.hid (show w1.heap.size ≤ w3.heap.size from HT.out.size)
  clear HT
  have bg_0 := Hbg.out.cell (i := 0) rfl
  have bg_1 := Hbg.out.cell (i := 1) rfl
  have bg_2 := Hbg.out.cell (i := 2) rfl
  go_wp2_with fail
  go_ret
  exact ⟨a5, c5, rfl, HN5.out, HB.out⟩

theorem rProd2 (ok : G.Ok) {x y : Nat} {aa ab : Option Addr} {ca cb : Nat} (w : World) (hG : RG w G aq ap) (hA : NumAt w aa (lowN G x)) (hB : NumAt w ab (lowN G y)) :
    Calls Try.prog 110 #[.agg #[.int .i64 (G.size : Int), .slice aq (dl G.q.m) cq, .slice ap (dl G.p.m) cp], .slice aa (dl (lowN G x)) ca, .slice ab (dl (lowN G y)) cb] w fun e w' => NumR w e w' (lowN G (x * y)) := by
  have h := rProd (cq := cq) (cp := cp) (ca := ca) (cb := cb) ok (lowN_16 ok x) (lowN_16 ok y) w hG hA hB
  rwa [lowN_mul ok] at h
theorem rProdR (ok : G.Ok) {x y : Nat} (hx : x < DD ^ 16) {aa ab : Option Addr} {ca cb : Nat} (w : World) (hG : RG w G aq ap) (hA : NumAt w aa x) (hB : NumAt w ab (lowN G y)) :
    Calls Try.prog 110 #[.agg #[.int .i64 (G.size : Int), .slice aq (dl G.q.m) cq, .slice ap (dl G.p.m) cp], .slice aa (dl x) ca, .slice ab (dl (lowN G y)) cb] w fun e w' => NumR w e w' (lowN G (x * y)) := by
  have h := rProd (cq := cq) (cp := cp) (ca := ca) (cb := cb) ok hx (lowN_16 ok y) w hG hA hB
  rwa [lowN_mulR ok] at h
theorem rUnder2 (ok : G.Ok) {x : Nat} {aa : Option Addr} {ca : Nat} (w : World) (hG : RG w G aq ap) (hA : NumAt w aa (lowN G x)) :
    Calls Try.prog 148 #[.agg #[.int .i64 (G.size : Int), .slice aq (dl G.q.m) cq, .slice ap (dl G.p.m) cp], .slice aa (dl (lowN G x)) ca] w fun e w' => NumR w e w' (lowN G (x ^ (G.q.m - 1))) := by
  have h := rUnder (cq := cq) (cp := cp) (ca := ca) ok (lowN_16 ok x) w hG hA
  rwa [lowN_pow ok] at h
theorem rText2 (ok : G.Ok) {x : Nat} {an : Option Addr} {cn : Nat} (w : World) (hN : NumAt w an (lowN G x)) :
    Calls Try.prog 70 #[.slice an (dl (lowN G x)) cn, .int .i64 (G.size : Int)] w fun e w' => e = .returned (.string (textS (lowN G x) G.size)) ∧ Below w.heap.size w w' :=
  rText ok (lowN_16 ok x) w hN
theorem isEl_size {q n : Nat} {s : ByteArray} (h : isEl q n s = true) : s.size = n := by
  unfold isEl at h
  simp only [Bool.and_eq_true, decide_eq_true_eq] at h
  exact h.1.1
theorem isSc_size {q n : Nat} {s : ByteArray} (h : isSc q n s = true) : s.size = n := by
  unfold isSc at h
  simp only [Bool.and_eq_true, decide_eq_true_eq] at h
  exact h.1

set_option maxRecDepth 100000 in
set_option maxHeartbeats 1000000 in
theorem rHide (ok : G.Ok) (key : ByteArray) (hk : key.size ≤ 32) {x n : Nat} {ax an : Option Addr} {cx cn : Nat} (hx : dl x ≤ 65536) (hn : dl n ≤ 65536) (w : World) (hG : RG w G aq ap) (hX : NumAt w ax x) (hN : NumAt w an n) :
    Calls Try.prog 80 #[.agg #[.int .i64 (G.size : Int), .slice aq (dl G.q.m) cq, .slice ap (dl G.p.m) cp], .string key, .slice ax (dl x) cx, .slice an (dl n) cn] w (Gives (ciphV (textS (lowN G (2 ^ n)) G.size) (textS (lowN G (2 ^ x * numOf key ^ n)) G.size)) w) := by
  have OK := Lib.hid ok
  have HG := Lib.hid hG
  have HX := Lib.hid hX
  have HN := Lib.hid hN
  clear ok hG hN hX
  unfold Gives ciphV
  go_enter Try.func80, Try.ntmps80
  go_wp2_with fail
  have hb9 : Below w.heap.size w ((w.alloc (Obj.cells #[.int .i64 (G.size : Int), .slice aq (dl G.q.m) cq, .slice ap (dl G.p.m) cp] 98)).alloc (Obj.cells #[.string ⟨#[]⟩, .string ⟨#[]⟩] 41)) := (((Below.refl _ _).alloc (Nat.le_refl _) _).alloc (by simp) _)
  have hx90 : Bx ((w.alloc (Obj.cells #[.int .i64 (G.size : Int), .slice aq (dl G.q.m) cq, .slice ap (dl G.p.m) cp] 98)).alloc (Obj.cells #[.string ⟨#[]⟩, .string ⟨#[]⟩] 41)) (w.heap.size) 98 [.int .i64 (G.size : Int), .slice aq (dl G.q.m) cq, .slice ap (dl G.p.m) cp] := by
    have h := ((Bx.new w 98 [.int .i64 (G.size : Int), .slice aq (dl G.q.m) cq, .slice ap (dl G.p.m) cp] _ rfl).alloc (Obj.cells #[.string ⟨#[]⟩, .string ⟨#[]⟩] 41))
    exact h
  have hx91 : Bx ((w.alloc (Obj.cells #[.int .i64 (G.size : Int), .slice aq (dl G.q.m) cq, .slice ap (dl G.p.m) cp] 98)).alloc (Obj.cells #[.string ⟨#[]⟩, .string ⟨#[]⟩] 41)) (w.heap.size + 1) 41 [.string ⟨#[]⟩, .string ⟨#[]⟩] := by
    have h := (Bx.new (w.alloc (Obj.cells #[.int .i64 (G.size : Int), .slice aq (dl G.q.m) cq, .slice ap (dl G.p.m) cp] 98)) 41 [.string ⟨#[]⟩, .string ⟨#[]⟩] _ rfl)
    rw [World.size_alloc] at h
    exact h
  have hz9 : ((w.alloc (Obj.cells #[.int .i64 (G.size : Int), .slice aq (dl G.q.m) cq, .slice ap (dl G.p.m) cp] 98)).alloc (Obj.cells #[.string ⟨#[]⟩, .string ⟨#[]⟩] 41)).heap.size = w.heap.size + 2 := by simp
  obtain ⟨w1, hq1⟩ : ∃ W9 : World, ((w.alloc (Obj.cells #[.int .i64 (G.size : Int), .slice aq (dl G.q.m) cq, .slice ap (dl G.p.m) cp] 98)).alloc (Obj.cells #[.string ⟨#[]⟩, .string ⟨#[]⟩] 41)) = W9 := ⟨_, rfl⟩
  rw [hq1] at hb9 hz9 hx90 hx91
  rw [hq1]
  clear hq1
  have HB := Lib.hid hb9
  have Hs1 := Lib.hid hz9
  have Hbg := Lib.hid hx90
  have Hbc := Lib.hid hx91
  clear hb9 hz9 hx90 hx91
  have bg_0 := Hbg.out.cell (i := 0) rfl
  have bg_1 := Hbg.out.cell (i := 1) rfl
  have bg_2 := Hbg.out.cell (i := 2) rfl
  have bc_0 := Hbc.out.cell (i := 0) rfl
  have bc_1 := Hbc.out.cell (i := 1) rfl
  go_wp2_with fail
  have HT := Lib.hid (show Below w1.heap.size w1 w1.drew from (Below.refl _ _).drew)
  have hl_bg := Hbg.out.lt
  have hl_bc := Hbc.out.lt
  refine wp_region_tree (fun w9 => ∃ E : Over w1, w9 = E.w) ((.qs [0, 1, 2, 4, 5, 7] (.a 3 (.a 6 (.a 8 (.a 9 (.qs [10] .done))))))) (by kernel_rfl) (by kernel_rfl) (fun _ _ d _ _ h => by cases d <;> exact h) ⟨⟨_, HT.out⟩, rfl⟩ ?_
  have hov_bg := fun (E : Over w1) o => E.cell (b := w.heap.size) o hl_bg
  have hov_bc := fun (E : Over w1) o => E.cell (b := w.heap.size + 1) o hl_bc
  simp only [Tree.qs]
  repeat (refine tree_q rfl rfl ?_; go_big_quiet_step (fail); refine wpQuiet_nil ?_)
  refine tree_a rfl (fun K hK => ?_)
  go_simp
  refine (rRaise OK.out hx _ (HG.out.up (below_up HB.out HT.out)) (HX.out.up (below_up HB.out HT.out))).mono ?_
  rintro e w2 ⟨a4, c4, rfl, hn9, hb9⟩
  replace HT := Lib.hid (below_up HT.out hb9)
  have Hs2 := Lib.hid (show w1.heap.size ≤ w2.heap.size from HT.out.size)
  clear hb9
  have HN4 := Lib.hid hn9
  clear hn9
  refine hK _ _ ⟨⟨⟨w2, HT.out⟩, rfl⟩, ?_⟩
  clear hK K
  repeat (refine tree_q rfl rfl ?_; go_big_quiet_step (fail); refine wpQuiet_nil ?_)
  refine tree_a rfl (fun K hK => ?_)
  go_simp
  refine (refRead_any key (by omega) _).mono ?_
  rintro e w3 ⟨a5, c5, rfl, hn9, hb9⟩
  replace HN4 := Lib.hid (HN4.out.up hb9)
  replace HT := Lib.hid (below_up HT.out hb9)
  have Hs3 := Lib.hid (show w1.heap.size ≤ w3.heap.size from HT.out.size)
  clear hb9
  have HN5 := Lib.hid hn9
  clear hn9
  refine hK _ _ ⟨⟨⟨w3, HT.out⟩, rfl⟩, ?_⟩
  clear hK K
  repeat (refine tree_q rfl rfl ?_; go_big_quiet_step (fail); refine wpQuiet_nil ?_)
  refine tree_a rfl (fun K hK => ?_)
  go_simp
  refine (rPow OK.out (numOf_16 key hk) hn _ (HG.out.up (below_up HB.out HT.out)) HN5.out (HN.out.up (below_up HB.out HT.out))).mono ?_
  rintro e w4 ⟨a6, c6, rfl, hn9, hb9⟩
  replace HN4 := Lib.hid (HN4.out.up hb9)
  replace HN5 := Lib.hid (HN5.out.up hb9)
  replace HT := Lib.hid (below_up HT.out hb9)
  have Hs4 := Lib.hid (show w1.heap.size ≤ w4.heap.size from HT.out.size)
  clear hb9
  have HN6 := Lib.hid hn9
  clear hn9
  refine hK _ _ ⟨⟨⟨w4, HT.out⟩, rfl⟩, ?_⟩
  clear hK K
  repeat (refine tree_q rfl rfl ?_; go_big_quiet_step (fail); refine wpQuiet_nil ?_)
  refine tree_a rfl (fun K hK => ?_)
  go_simp
  refine (rProd2 OK.out _ (HG.out.up (below_up HB.out HT.out)) HN4.out HN6.out).mono ?_
  rintro e w5 ⟨a7, c7, rfl, hn9, hb9⟩
  replace HN4 := Lib.hid (HN4.out.up hb9)
  replace HN5 := Lib.hid (HN5.out.up hb9)
  replace HN6 := Lib.hid (HN6.out.up hb9)
  replace HT := Lib.hid (below_up HT.out hb9)
  have Hs5 := Lib.hid (show w1.heap.size ≤ w5.heap.size from HT.out.size)
  clear hb9
  have HN7 := Lib.hid hn9
  clear hn9
  refine hK _ _ ⟨⟨⟨w5, HT.out⟩, rfl⟩, ?_⟩
  clear hK K
  repeat (refine tree_q rfl rfl ?_; go_big_quiet_step (fail); refine wpQuiet_nil ?_)
  refine tree_end ?_
  clear hov_bg hl_bg hov_bc hl_bc
  clear bg_0 bg_1 bg_2
  replace Hbg := Lib.hid (Hbg.out.up HT.out)
  clear bc_0 bc_1
  replace Hbc := Lib.hid (Hbc.out.up HT.out)
  replace HB := Lib.hid (below_up HB.out HT.out)
  have Hs5 := Lib.hid (show w1.heap.size ≤ w5.heap.size from HT.out.size)
  clear HT
  have bg_0 := Hbg.out.cell (i := 0) rfl
  have bg_1 := Hbg.out.cell (i := 1) rfl
  have bg_2 := Hbg.out.cell (i := 2) rfl
  have bc_0 := Hbc.out.cell (i := 0) rfl
  have bc_1 := Hbc.out.cell (i := 1) rfl
  go_wp2_with fail
  have HT := Lib.hid (show Below w5.heap.size w5 w5.drew from (Below.refl _ _).drew)
  have hl_bg := Hbg.out.lt
  refine wp_region_tree (fun w9 => ∃ E : But w5 (some (w.heap.size + 1)), w9 = E.w) ((.qs [0, 1, 3, 4, 6, 7, 8] (.a 2 (.a 5 (.a 9 (.qs [10] (.a 11 .done))))))) (by kernel_rfl) (by kernel_rfl) (fun _ _ d _ _ h => by cases d <;> exact h) ⟨⟨_, ((below_grown HT.out).but _)⟩, rfl⟩ ?_
  have hov_bg := fun (E : But w5 (some (w.heap.size + 1))) o => E.cell (b := w.heap.size) o hl_bg (by intro e9; have a0 := Option.some.inj e9; have g0 := Hs1.out; have g1 := Hs2.out; have g2 := Hs3.out; have g3 := Hs4.out; have g4 := Hs5.out; have g5 := Hs5.out; omega)
  simp only [Tree.qs]
  repeat (refine tree_q rfl rfl ?_; go_big_quiet_step (fail); refine wpQuiet_nil ?_)
  refine tree_a rfl (fun K hK => ?_)
  go_simp
  refine (rRaise OK.out hn _ (HG.out.up (below_up HB.out HT.out)) (HN.out.up (below_up HB.out HT.out))).mono ?_
  rintro e w6 ⟨a8, c8, rfl, hn9, hb9⟩
  replace HT := Lib.hid (below_up HT.out hb9)
  have Hs6 := Lib.hid (show w5.heap.size ≤ w6.heap.size from HT.out.size)
  clear hb9
  have HN8 := Lib.hid hn9
  clear hn9
  refine hK _ _ ⟨⟨⟨w6, ((below_grown HT.out).but _)⟩, rfl⟩, ?_⟩
  clear hK K
  repeat (refine tree_q rfl rfl ?_; go_big_quiet_step (fail); refine wpQuiet_nil ?_)
  refine tree_a rfl (fun K hK => ?_)
  go_simp
  refine (rText2 OK.out _ HN8.out).mono ?_
  rintro e w7 ⟨rfl, hb9⟩
  replace HN8 := Lib.hid (HN8.out.up hb9)
  replace HT := Lib.hid (below_up HT.out hb9)
  have Hs7 := Lib.hid (show w5.heap.size ≤ w7.heap.size from HT.out.size)
  clear hb9
  refine hK _ _ ⟨⟨⟨w7, ((below_grown HT.out).but _)⟩, rfl⟩, ?_⟩
  clear hK K
  repeat (refine tree_q rfl rfl ?_; go_big_quiet_step (fail); refine wpQuiet_nil ?_)
  refine tree_a rfl (fun K hK => ?_)
  go_simp
  refine (rText2 OK.out _ (HN7.out.up HT.out)).mono ?_
  rintro e w8 ⟨rfl, hb9⟩
  replace HN8 := Lib.hid (HN8.out.up hb9)
  replace HT := Lib.hid (below_up HT.out hb9)
  have Hs8 := Lib.hid (show w5.heap.size ≤ w8.heap.size from HT.out.size)
  clear hb9
  refine hK _ _ ⟨⟨⟨w8, ((below_grown HT.out).but _)⟩, rfl⟩, ?_⟩
  clear hK K
  repeat (refine tree_q rfl rfl ?_; go_big_quiet_step (fail); refine wpQuiet_nil ?_)
  clear hov_bg hl_bg
  refine tree_a rfl (fun K hK => ?_)
  clear bg_0 bg_1 bg_2
  replace Hbg := Lib.hid (Hbg.out.up HT.out)
  clear bc_0 bc_1
  replace Hbc := Lib.hid (Hbc.out.up HT.out)
  replace HN4 := Lib.hid (HN4.out.up HT.out)
  replace HN5 := Lib.hid (HN5.out.up HT.out)
  replace HN6 := Lib.hid (HN6.out.up HT.out)
  replace HN7 := Lib.hid (HN7.out.up HT.out)
  replace HB := Lib.hid (below_up HB.out HT.out)
  have Hs8 := Lib.hid (show w5.heap.size ≤ w8.heap.size from HT.out.size)
  have bg_0 := Hbg.out.cell (i := 0) rfl
  have bg_1 := Hbg.out.cell (i := 1) rfl
  have bg_2 := Hbg.out.cell (i := 2) rfl
  have bc_0 := Hbc.out.cell (i := 0) rfl
  have bc_1 := Hbc.out.cell (i := 1) rfl
  have hgr9 : w5.grownBy ((w8.setCell ⟨w.heap.size + 1, 0, none⟩ (.string (textS (lowN G (2 ^ n)) G.size))).setCell ⟨w.heap.size + 1, 1, none⟩ (.string (textS (lowN G (2 ^ x * numOf key ^ n)) G.size))) (some (w.heap.size + 1)) := (((below_grown HT.out).but (some (w.heap.size + 1))).trans (grown_set w8 (w.heap.size + 1) 0 (.string (textS (lowN G (2 ^ n)) G.size)))).trans (grown_set (w8.setCell ⟨w.heap.size + 1, 0, none⟩ (.string (textS (lowN G (2 ^ n)) G.size))) (w.heap.size + 1) 1 (.string (textS (lowN G (2 ^ x * numOf key ^ n)) G.size)))
  have HGR := Lib.hid hgr9
  clear hgr9 HT
  clear HN8
  have f9_bc_0 := Hbc.out.frozen 0
  have f9_bc_1 := Hbc.out.frozen 1
  have o9_bg_0 := bg_0; clear bg_0
  have o9_bg_1 := bg_1; clear bg_1
  have o9_bg_2 := bg_2; clear bg_2
  have o9_bc_0 := bc_0; clear bc_0
  have o9_bc_1 := bc_1; clear bc_1
  have hx9 : Bx ((w8.setCell ⟨w.heap.size + 1, 0, none⟩ (.string (textS (lowN G (2 ^ n)) G.size))).setCell ⟨w.heap.size + 1, 1, none⟩ (.string (textS (lowN G (2 ^ x * numOf key ^ n)) G.size))) (w.heap.size + 1) 41 [.string (textS (lowN G (2 ^ n)) G.size), .string (textS (lowN G (2 ^ x * numOf key ^ n)) G.size)] := ((Hbc.out.set 0 (.string (textS (lowN G (2 ^ n)) G.size))).set 1 (.string (textS (lowN G (2 ^ x * numOf key ^ n)) G.size)))
  have hb9 : Below w.heap.size w ((w8.setCell ⟨w.heap.size + 1, 0, none⟩ (.string (textS (lowN G (2 ^ n)) G.size))).setCell ⟨w.heap.size + 1, 1, none⟩ (.string (textS (lowN G (2 ^ x * numOf key ^ n)) G.size))) := ((HB.out.setCell (show w.heap.size ≤ w.heap.size + 1 by have g0 := Hs1.out; have g1 := Hs2.out; have g2 := Hs3.out; have g3 := Hs4.out; have g4 := Hs5.out; have g5 := Hs5.out; have g6 := Hs6.out; have g7 := Hs7.out; have g8 := Hs8.out; have g9 := Hs8.out; omega) _).setCell (show w.heap.size ≤ w.heap.size + 1 by have g0 := Hs1.out; have g1 := Hs2.out; have g2 := Hs3.out; have g3 := Hs4.out; have g4 := Hs5.out; have g5 := Hs5.out; have g6 := Hs6.out; have g7 := Hs7.out; have g8 := Hs8.out; have g9 := Hs8.out; omega) _)
  have hz9 : ((w8.setCell ⟨w.heap.size + 1, 0, none⟩ (.string (textS (lowN G (2 ^ n)) G.size))).setCell ⟨w.heap.size + 1, 1, none⟩ (.string (textS (lowN G (2 ^ x * numOf key ^ n)) G.size))).heap.size = w8.heap.size := by simp [World.setCell]
  have ho9Hbg := ((Hbg.out.other (show _ ≠ w.heap.size + 1 by have g0 := Hs1.out; have g1 := Hs2.out; have g2 := Hs3.out; have g3 := Hs4.out; have g4 := Hs5.out; have g5 := Hs5.out; have g6 := Hs6.out; have g7 := Hs7.out; have g8 := Hs8.out; have g9 := Hs8.out; omega) 0 (.string (textS (lowN G (2 ^ n)) G.size))).other (show _ ≠ w.heap.size + 1 by have g0 := Hs1.out; have g1 := Hs2.out; have g2 := Hs3.out; have g3 := Hs4.out; have g4 := Hs5.out; have g5 := Hs5.out; have g6 := Hs6.out; have g7 := Hs7.out; have g8 := Hs8.out; have g9 := Hs8.out; omega) 1 (.string (textS (lowN G (2 ^ x * numOf key ^ n)) G.size)))
  clear HN4 HN5 HN6 HN7
  obtain ⟨w9, hq9⟩ : ∃ W9 : World, ((w8.setCell ⟨w.heap.size + 1, 0, none⟩ (.string (textS (lowN G (2 ^ n)) G.size))).setCell ⟨w.heap.size + 1, 1, none⟩ (.string (textS (lowN G (2 ^ x * numOf key ^ n)) G.size))) = W9 := ⟨_, rfl⟩
  rw [hq9] at hx9 hb9 hz9 ho9Hbg
  clear Hbc HB
  have Hbc := Lib.hid hx9
  have HB := Lib.hid hb9
  have Hs9 := Lib.hid hz9
  replace Hbg := Lib.hid ho9Hbg
  clear hx9 hb9 hz9 ho9Hbg
  have bg_0 := Hbg.out.cell (i := 0) rfl
  have bg_1 := Hbg.out.cell (i := 1) rfl
  have bg_2 := Hbg.out.cell (i := 2) rfl
  have bc_0 := Hbc.out.cell (i := 0) rfl
  have bc_1 := Hbc.out.cell (i := 1) rfl
  replace HGR := Lib.hid (by have h9 := HGR.out; rw [hq9] at h9; exact h9)
  go_simp
  try rw [hq9]
  refine hK _ _ ⟨⟨⟨w9, HGR.out⟩, rfl⟩, ?_⟩
  clear hK K HGR
  clear hq9 o9_bc_1 o9_bc_0 o9_bg_2 o9_bg_1 o9_bg_0 f9_bc_1 f9_bc_0
  repeat (refine tree_q rfl rfl ?_; go_big_quiet_step (fail); refine wpQuiet_nil ?_)
  refine tree_end ?_
  go_wp2_with fail
  simp [bodyPost, results, Try.results80, go_sem, bc_0, bc_1]
  exact HB.out

set_option maxRecDepth 100000 in
set_option maxHeartbeats 1000000 in
theorem rElems (ok : G.Ok) (c : ByteArray × ByteArray) (w : World) (hG : RG w G aq ap) :
    Calls Try.prog 84 #[.agg #[.int .i64 (G.size : Int), .slice aq (dl G.q.m) cq, .slice ap (dl G.p.m) cp], ciphV c.1 c.2] w (Gives (.bool (cipOk G c)) w) := by
  obtain ⟨ba, hba⟩ : ∃ x, isEl G.q.m G.size c.1 = x := ⟨_, rfl⟩
  obtain ⟨bb, hbb⟩ : ∃ x, isEl G.q.m G.size c.2 = x := ⟨_, rfl⟩
  have hea := fun W h => rIsEl (cq := cq) (cp := cp) (aq := aq) (ap := ap) (G := G) ok c.1 W h
  have heb := fun W h => rIsEl (cq := cq) (cp := cp) (aq := aq) (ap := ap) (G := G) ok c.2 W h
  rw [hba] at hea
  rw [hbb] at heb
  have HG := Lib.hid hG
  have HEA := Lib.hid hea
  have HEB := Lib.hid heb
  have HR : Hid (cipOk G c = (ba && bb)) := by show _ = _; unfold cipOk; rw [hba, hbb]
  clear hba hbb hea heb hG ok
  rw [HR.out]
  clear HR
  unfold Gives ciphV
  go_enter Try.func84, Try.ntmps84
  go_wp2_with fail
  have hb9 : Below w.heap.size w ((w.alloc (Obj.cells #[.int .i64 (G.size : Int), .slice aq (dl G.q.m) cq, .slice ap (dl G.p.m) cp] 98)).alloc (Obj.cells #[.string c.1, .string c.2] 41)) := (((Below.refl _ _).alloc (Nat.le_refl _) _).alloc (by simp) _)
  have hx90 : Bx ((w.alloc (Obj.cells #[.int .i64 (G.size : Int), .slice aq (dl G.q.m) cq, .slice ap (dl G.p.m) cp] 98)).alloc (Obj.cells #[.string c.1, .string c.2] 41)) (w.heap.size) 98 [.int .i64 (G.size : Int), .slice aq (dl G.q.m) cq, .slice ap (dl G.p.m) cp] := by
    have h := ((Bx.new w 98 [.int .i64 (G.size : Int), .slice aq (dl G.q.m) cq, .slice ap (dl G.p.m) cp] _ rfl).alloc (Obj.cells #[.string c.1, .string c.2] 41))
    exact h
  have hx91 : Bx ((w.alloc (Obj.cells #[.int .i64 (G.size : Int), .slice aq (dl G.q.m) cq, .slice ap (dl G.p.m) cp] 98)).alloc (Obj.cells #[.string c.1, .string c.2] 41)) (w.heap.size + 1) 41 [.string c.1, .string c.2] := by
    have h := (Bx.new (w.alloc (Obj.cells #[.int .i64 (G.size : Int), .slice aq (dl G.q.m) cq, .slice ap (dl G.p.m) cp] 98)) 41 [.string c.1, .string c.2] _ rfl)
    rw [World.size_alloc] at h
    exact h
  have hz9 : ((w.alloc (Obj.cells #[.int .i64 (G.size : Int), .slice aq (dl G.q.m) cq, .slice ap (dl G.p.m) cp] 98)).alloc (Obj.cells #[.string c.1, .string c.2] 41)).heap.size = w.heap.size + 2 := by simp
  obtain ⟨w1, hq1⟩ : ∃ W9 : World, ((w.alloc (Obj.cells #[.int .i64 (G.size : Int), .slice aq (dl G.q.m) cq, .slice ap (dl G.p.m) cp] 98)).alloc (Obj.cells #[.string c.1, .string c.2] 41)) = W9 := ⟨_, rfl⟩
  rw [hq1] at hb9 hz9 hx90 hx91
  rw [hq1]
  clear hq1
  have HB := Lib.hid hb9
  have Hs1 := Lib.hid hz9
  have Hbg := Lib.hid hx90
  have Hbc := Lib.hid hx91
  clear hb9 hz9 hx90 hx91
  have bg_0 := Hbg.out.cell (i := 0) rfl
  have bg_1 := Hbg.out.cell (i := 1) rfl
  have bg_2 := Hbg.out.cell (i := 2) rfl
  have bc_0 := Hbc.out.cell (i := 0) rfl
  have bc_1 := Hbc.out.cell (i := 1) rfl
  go_wp2_with fail
  refine (HEA.out w1 (HG.out.up HB.out)).mono ?_
  rintro e w2 ⟨rfl, hb9⟩
  clear bg_0 bg_1 bg_2
  replace Hbg := Lib.hid (Hbg.out.up hb9)
  clear bc_0 bc_1
  replace Hbc := Lib.hid (Hbc.out.up hb9)
  replace HB := Lib.hid (below_up HB.out hb9)
  have Hs2 := Lib.hid (show w1.heap.size ≤ w2.heap.size from hb9.size)
  clear hb9
  have bg_0 := Hbg.out.cell (i := 0) rfl
  have bg_1 := Hbg.out.cell (i := 1) rfl
  have bg_2 := Hbg.out.cell (i := 2) rfl
  have bc_0 := Hbc.out.cell (i := 0) rfl
  have bc_1 := Hbc.out.cell (i := 1) rfl
  cases ba
  · go_wp2_with fail
    go_ret
    exact ⟨rfl, HB.out⟩
  · go_wp2_with fail
    refine (HEB.out w2 (HG.out.up HB.out)).mono ?_
    rintro e w3 ⟨rfl, hb9⟩
    clear bg_0 bg_1 bg_2
    replace Hbg := Lib.hid (Hbg.out.up hb9)
    clear bc_0 bc_1
    replace Hbc := Lib.hid (Hbc.out.up hb9)
    replace HB := Lib.hid (below_up HB.out hb9)
    have Hs3 := Lib.hid (show w2.heap.size ≤ w3.heap.size from hb9.size)
    clear hb9
    have bg_0 := Hbg.out.cell (i := 0) rfl
    have bg_1 := Hbg.out.cell (i := 1) rfl
    have bg_2 := Hbg.out.cell (i := 2) rfl
    have bc_0 := Hbc.out.cell (i := 0) rfl
    have bc_1 := Hbc.out.cell (i := 1) rfl
    go_wp2_with fail
    go_ret
    exact ⟨rfl, HB.out⟩

set_option maxRecDepth 100000 in
set_option maxHeartbeats 1000000 in
theorem rBoth (ok : G.Ok) (a b : ByteArray × ByteArray) (h1 : a.1.size ≤ 32) (h2 : a.2.size ≤ 32) (h3 : b.1.size ≤ 32) (h4 : b.2.size ≤ 32) (w : World) (hG : RG w G aq ap) :
    Calls Try.prog 85 #[.agg #[.int .i64 (G.size : Int), .slice aq (dl G.q.m) cq, .slice ap (dl G.p.m) cp], ciphV a.1 a.2, ciphV b.1 b.2] w (Gives (ciphV (textS (lowN G (numOf a.1 * numOf b.1)) G.size) (textS (lowN G (numOf a.2 * numOf b.2)) G.size)) w) := by
  have OK := Lib.hid ok
  have HG := Lib.hid hG
  clear ok hG
  unfold Gives ciphV
  go_enter Try.func85, Try.ntmps85
  go_wp2_with fail
  have hb9 : Below w.heap.size w ((((w.alloc (Obj.cells #[.int .i64 (G.size : Int), .slice aq (dl G.q.m) cq, .slice ap (dl G.p.m) cp] 98)).alloc (Obj.cells #[.string a.1, .string a.2] 41)).alloc (Obj.cells #[.string b.1, .string b.2] 41)).alloc (Obj.cells #[.string ⟨#[]⟩, .string ⟨#[]⟩] 41)) := (((((Below.refl _ _).alloc (Nat.le_refl _) _).alloc (by simp) _).alloc (by simp; omega) _).alloc (by simp; omega) _)
  have hx90 : Bx ((((w.alloc (Obj.cells #[.int .i64 (G.size : Int), .slice aq (dl G.q.m) cq, .slice ap (dl G.p.m) cp] 98)).alloc (Obj.cells #[.string a.1, .string a.2] 41)).alloc (Obj.cells #[.string b.1, .string b.2] 41)).alloc (Obj.cells #[.string ⟨#[]⟩, .string ⟨#[]⟩] 41)) (w.heap.size) 98 [.int .i64 (G.size : Int), .slice aq (dl G.q.m) cq, .slice ap (dl G.p.m) cp] := by
    have h := ((((Bx.new w 98 [.int .i64 (G.size : Int), .slice aq (dl G.q.m) cq, .slice ap (dl G.p.m) cp] _ rfl).alloc (Obj.cells #[.string a.1, .string a.2] 41)).alloc (Obj.cells #[.string b.1, .string b.2] 41)).alloc (Obj.cells #[.string ⟨#[]⟩, .string ⟨#[]⟩] 41))
    exact h
  have hx91 : Bx ((((w.alloc (Obj.cells #[.int .i64 (G.size : Int), .slice aq (dl G.q.m) cq, .slice ap (dl G.p.m) cp] 98)).alloc (Obj.cells #[.string a.1, .string a.2] 41)).alloc (Obj.cells #[.string b.1, .string b.2] 41)).alloc (Obj.cells #[.string ⟨#[]⟩, .string ⟨#[]⟩] 41)) (w.heap.size + 1) 41 [.string a.1, .string a.2] := by
    have h := (((Bx.new (w.alloc (Obj.cells #[.int .i64 (G.size : Int), .slice aq (dl G.q.m) cq, .slice ap (dl G.p.m) cp] 98)) 41 [.string a.1, .string a.2] _ rfl).alloc (Obj.cells #[.string b.1, .string b.2] 41)).alloc (Obj.cells #[.string ⟨#[]⟩, .string ⟨#[]⟩] 41))
    rw [World.size_alloc] at h
    exact h
  have hx92 : Bx ((((w.alloc (Obj.cells #[.int .i64 (G.size : Int), .slice aq (dl G.q.m) cq, .slice ap (dl G.p.m) cp] 98)).alloc (Obj.cells #[.string a.1, .string a.2] 41)).alloc (Obj.cells #[.string b.1, .string b.2] 41)).alloc (Obj.cells #[.string ⟨#[]⟩, .string ⟨#[]⟩] 41)) (w.heap.size + 2) 41 [.string b.1, .string b.2] := by
    have h := ((Bx.new ((w.alloc (Obj.cells #[.int .i64 (G.size : Int), .slice aq (dl G.q.m) cq, .slice ap (dl G.p.m) cp] 98)).alloc (Obj.cells #[.string a.1, .string a.2] 41)) 41 [.string b.1, .string b.2] _ rfl).alloc (Obj.cells #[.string ⟨#[]⟩, .string ⟨#[]⟩] 41))
    rw [World.size_alloc, World.size_alloc] at h
    exact h
  have hx93 : Bx ((((w.alloc (Obj.cells #[.int .i64 (G.size : Int), .slice aq (dl G.q.m) cq, .slice ap (dl G.p.m) cp] 98)).alloc (Obj.cells #[.string a.1, .string a.2] 41)).alloc (Obj.cells #[.string b.1, .string b.2] 41)).alloc (Obj.cells #[.string ⟨#[]⟩, .string ⟨#[]⟩] 41)) (w.heap.size + 3) 41 [.string ⟨#[]⟩, .string ⟨#[]⟩] := by
    have h := (Bx.new (((w.alloc (Obj.cells #[.int .i64 (G.size : Int), .slice aq (dl G.q.m) cq, .slice ap (dl G.p.m) cp] 98)).alloc (Obj.cells #[.string a.1, .string a.2] 41)).alloc (Obj.cells #[.string b.1, .string b.2] 41)) 41 [.string ⟨#[]⟩, .string ⟨#[]⟩] _ rfl)
    rw [World.size_alloc, World.size_alloc, World.size_alloc] at h
    exact h
  have hz9 : ((((w.alloc (Obj.cells #[.int .i64 (G.size : Int), .slice aq (dl G.q.m) cq, .slice ap (dl G.p.m) cp] 98)).alloc (Obj.cells #[.string a.1, .string a.2] 41)).alloc (Obj.cells #[.string b.1, .string b.2] 41)).alloc (Obj.cells #[.string ⟨#[]⟩, .string ⟨#[]⟩] 41)).heap.size = w.heap.size + 4 := by simp
  obtain ⟨w1, hq1⟩ : ∃ W9 : World, ((((w.alloc (Obj.cells #[.int .i64 (G.size : Int), .slice aq (dl G.q.m) cq, .slice ap (dl G.p.m) cp] 98)).alloc (Obj.cells #[.string a.1, .string a.2] 41)).alloc (Obj.cells #[.string b.1, .string b.2] 41)).alloc (Obj.cells #[.string ⟨#[]⟩, .string ⟨#[]⟩] 41)) = W9 := ⟨_, rfl⟩
  rw [hq1] at hb9 hz9 hx90 hx91 hx92 hx93
  rw [hq1]
  clear hq1
  have HB := Lib.hid hb9
  have Hs1 := Lib.hid hz9
  have Hbg := Lib.hid hx90
  have Hba := Lib.hid hx91
  have Hbb := Lib.hid hx92
  have Hbc := Lib.hid hx93
  clear hb9 hz9 hx90 hx91 hx92 hx93
  have bg_0 := Hbg.out.cell (i := 0) rfl
  have bg_1 := Hbg.out.cell (i := 1) rfl
  have bg_2 := Hbg.out.cell (i := 2) rfl
  have ba_0 := Hba.out.cell (i := 0) rfl
  have ba_1 := Hba.out.cell (i := 1) rfl
  have bb_0 := Hbb.out.cell (i := 0) rfl
  have bb_1 := Hbb.out.cell (i := 1) rfl
  have bc_0 := Hbc.out.cell (i := 0) rfl
  have bc_1 := Hbc.out.cell (i := 1) rfl
  go_wp2_with fail
  have HT := Lib.hid (show Below w1.heap.size w1 w1.drew from (Below.refl _ _).drew)
  have hl_bg := Hbg.out.lt
  have hl_ba := Hba.out.lt
  have hl_bb := Hbb.out.lt
  refine wp_region_tree (fun w9 => ∃ E : But w1 (some (w.heap.size + 3)), w9 = E.w) ((.qs [0, 1, 2, 4, 5, 8, 9, 11, 12, 13, 15, 16, 19, 20] (.a 3 (.a 6 (.a 7 (.a 10 (.a 14 (.a 17 (.a 18 (.a 21 (.qs [22] (.a 23 .done)))))))))))) (by kernel_rfl) (by kernel_rfl) (fun _ _ d _ _ h => by cases d <;> exact h) ⟨⟨_, ((below_grown HT.out).but _)⟩, rfl⟩ ?_
  have hov_bg := fun (E : But w1 (some (w.heap.size + 3))) o => E.cell (b := w.heap.size) o hl_bg (by intro e9; have a0 := Option.some.inj e9; have g0 := Hs1.out; omega)
  have hov_ba := fun (E : But w1 (some (w.heap.size + 3))) o => E.cell (b := w.heap.size + 1) o hl_ba (by intro e9; have a0 := Option.some.inj e9; have g0 := Hs1.out; omega)
  have hov_bb := fun (E : But w1 (some (w.heap.size + 3))) o => E.cell (b := w.heap.size + 2) o hl_bb (by intro e9; have a0 := Option.some.inj e9; have g0 := Hs1.out; omega)
  simp only [Tree.qs]
  repeat (refine tree_q rfl rfl ?_; go_big_quiet_step (fail); refine wpQuiet_nil ?_)
  refine tree_a rfl (fun K hK => ?_)
  go_simp
  refine (refRead_any a.1 (by omega) _).mono ?_
  rintro e w2 ⟨a4, c4, rfl, hn9, hb9⟩
  replace HT := Lib.hid (below_up HT.out hb9)
  have Hs2 := Lib.hid (show w1.heap.size ≤ w2.heap.size from HT.out.size)
  clear hb9
  have HN4 := Lib.hid hn9
  clear hn9
  refine hK _ _ ⟨⟨⟨w2, ((below_grown HT.out).but _)⟩, rfl⟩, ?_⟩
  clear hK K
  repeat (refine tree_q rfl rfl ?_; go_big_quiet_step (fail); refine wpQuiet_nil ?_)
  refine tree_a rfl (fun K hK => ?_)
  go_simp
  refine (refRead_any b.1 (by omega) _).mono ?_
  rintro e w3 ⟨a5, c5, rfl, hn9, hb9⟩
  replace HN4 := Lib.hid (HN4.out.up hb9)
  replace HT := Lib.hid (below_up HT.out hb9)
  have Hs3 := Lib.hid (show w1.heap.size ≤ w3.heap.size from HT.out.size)
  clear hb9
  have HN5 := Lib.hid hn9
  clear hn9
  refine hK _ _ ⟨⟨⟨w3, ((below_grown HT.out).but _)⟩, rfl⟩, ?_⟩
  clear hK K
  repeat (refine tree_q rfl rfl ?_; go_big_quiet_step (fail); refine wpQuiet_nil ?_)
  refine tree_a rfl (fun K hK => ?_)
  go_simp
  refine (rProd OK.out (numOf_16 a.1 h1) (numOf_16 b.1 h3) _ (HG.out.up (below_up HB.out HT.out)) HN4.out HN5.out).mono ?_
  rintro e w4 ⟨a6, c6, rfl, hn9, hb9⟩
  replace HN4 := Lib.hid (HN4.out.up hb9)
  replace HN5 := Lib.hid (HN5.out.up hb9)
  replace HT := Lib.hid (below_up HT.out hb9)
  have Hs4 := Lib.hid (show w1.heap.size ≤ w4.heap.size from HT.out.size)
  clear hb9
  have HN6 := Lib.hid hn9
  clear hn9
  refine hK _ _ ⟨⟨⟨w4, ((below_grown HT.out).but _)⟩, rfl⟩, ?_⟩
  clear hK K
  repeat (refine tree_q rfl rfl ?_; go_big_quiet_step (fail); refine wpQuiet_nil ?_)
  refine tree_a rfl (fun K hK => ?_)
  go_simp
  refine (rText2 OK.out _ HN6.out).mono ?_
  rintro e w5 ⟨rfl, hb9⟩
  replace HN4 := Lib.hid (HN4.out.up hb9)
  replace HN5 := Lib.hid (HN5.out.up hb9)
  replace HN6 := Lib.hid (HN6.out.up hb9)
  replace HT := Lib.hid (below_up HT.out hb9)
  have Hs5 := Lib.hid (show w1.heap.size ≤ w5.heap.size from HT.out.size)
  clear hb9
  refine hK _ _ ⟨⟨⟨w5, ((below_grown HT.out).but _)⟩, rfl⟩, ?_⟩
  clear hK K
  repeat (refine tree_q rfl rfl ?_; go_big_quiet_step (fail); refine wpQuiet_nil ?_)
  refine tree_a rfl (fun K hK => ?_)
  go_simp
  refine (refRead_any a.2 (by omega) _).mono ?_
  rintro e w6 ⟨a7, c7, rfl, hn9, hb9⟩
  replace HN4 := Lib.hid (HN4.out.up hb9)
  replace HN5 := Lib.hid (HN5.out.up hb9)
  replace HN6 := Lib.hid (HN6.out.up hb9)
  replace HT := Lib.hid (below_up HT.out hb9)
  have Hs6 := Lib.hid (show w1.heap.size ≤ w6.heap.size from HT.out.size)
  clear hb9
  have HN7 := Lib.hid hn9
  clear hn9
  refine hK _ _ ⟨⟨⟨w6, ((below_grown HT.out).but _)⟩, rfl⟩, ?_⟩
  clear hK K
  repeat (refine tree_q rfl rfl ?_; go_big_quiet_step (fail); refine wpQuiet_nil ?_)
  refine tree_a rfl (fun K hK => ?_)
  go_simp
  refine (refRead_any b.2 (by omega) _).mono ?_
  rintro e w7 ⟨a8, c8, rfl, hn9, hb9⟩
  replace HN4 := Lib.hid (HN4.out.up hb9)
  replace HN5 := Lib.hid (HN5.out.up hb9)
  replace HN6 := Lib.hid (HN6.out.up hb9)
  replace HN7 := Lib.hid (HN7.out.up hb9)
  replace HT := Lib.hid (below_up HT.out hb9)
  have Hs7 := Lib.hid (show w1.heap.size ≤ w7.heap.size from HT.out.size)
  clear hb9
  have HN8 := Lib.hid hn9
  clear hn9
  refine hK _ _ ⟨⟨⟨w7, ((below_grown HT.out).but _)⟩, rfl⟩, ?_⟩
  clear hK K
  repeat (refine tree_q rfl rfl ?_; go_big_quiet_step (fail); refine wpQuiet_nil ?_)
  refine tree_a rfl (fun K hK => ?_)
  go_simp
  refine (rProd OK.out (numOf_16 a.2 h2) (numOf_16 b.2 h4) _ (HG.out.up (below_up HB.out HT.out)) HN7.out HN8.out).mono ?_
  rintro e w8 ⟨a9, c9, rfl, hn9, hb9⟩
  replace HN4 := Lib.hid (HN4.out.up hb9)
  replace HN5 := Lib.hid (HN5.out.up hb9)
  replace HN6 := Lib.hid (HN6.out.up hb9)
  replace HN7 := Lib.hid (HN7.out.up hb9)
  replace HN8 := Lib.hid (HN8.out.up hb9)
  replace HT := Lib.hid (below_up HT.out hb9)
  have Hs8 := Lib.hid (show w1.heap.size ≤ w8.heap.size from HT.out.size)
  clear hb9
  have HN9 := Lib.hid hn9
  clear hn9
  refine hK _ _ ⟨⟨⟨w8, ((below_grown HT.out).but _)⟩, rfl⟩, ?_⟩
  clear hK K
  repeat (refine tree_q rfl rfl ?_; go_big_quiet_step (fail); refine wpQuiet_nil ?_)
  refine tree_a rfl (fun K hK => ?_)
  go_simp
  refine (rText2 OK.out _ HN9.out).mono ?_
  rintro e w9 ⟨rfl, hb9⟩
  replace HN4 := Lib.hid (HN4.out.up hb9)
  replace HN5 := Lib.hid (HN5.out.up hb9)
  replace HN6 := Lib.hid (HN6.out.up hb9)
  replace HN7 := Lib.hid (HN7.out.up hb9)
  replace HN8 := Lib.hid (HN8.out.up hb9)
  replace HN9 := Lib.hid (HN9.out.up hb9)
  replace HT := Lib.hid (below_up HT.out hb9)
  have Hs9 := Lib.hid (show w1.heap.size ≤ w9.heap.size from HT.out.size)
  clear hb9
  refine hK _ _ ⟨⟨⟨w9, ((below_grown HT.out).but _)⟩, rfl⟩, ?_⟩
  clear hK K
  repeat (refine tree_q rfl rfl ?_; go_big_quiet_step (fail); refine wpQuiet_nil ?_)
  clear hov_bg hl_bg hov_ba hl_ba hov_bb hl_bb
  refine tree_a rfl (fun K hK => ?_)
  clear bg_0 bg_1 bg_2
  replace Hbg := Lib.hid (Hbg.out.up HT.out)
  clear ba_0 ba_1
  replace Hba := Lib.hid (Hba.out.up HT.out)
  clear bb_0 bb_1
  replace Hbb := Lib.hid (Hbb.out.up HT.out)
  clear bc_0 bc_1
  replace Hbc := Lib.hid (Hbc.out.up HT.out)
  replace HB := Lib.hid (below_up HB.out HT.out)
  have Hs9 := Lib.hid (show w1.heap.size ≤ w9.heap.size from HT.out.size)
  have bg_0 := Hbg.out.cell (i := 0) rfl
  have bg_1 := Hbg.out.cell (i := 1) rfl
  have bg_2 := Hbg.out.cell (i := 2) rfl
  have ba_0 := Hba.out.cell (i := 0) rfl
  have ba_1 := Hba.out.cell (i := 1) rfl
  have bb_0 := Hbb.out.cell (i := 0) rfl
  have bb_1 := Hbb.out.cell (i := 1) rfl
  have bc_0 := Hbc.out.cell (i := 0) rfl
  have bc_1 := Hbc.out.cell (i := 1) rfl
  have hgr9 : w1.grownBy ((w9.setCell ⟨w.heap.size + 3, 0, none⟩ (.string (textS (lowN G (numOf a.1 * numOf b.1)) G.size))).setCell ⟨w.heap.size + 3, 1, none⟩ (.string (textS (lowN G (numOf a.2 * numOf b.2)) G.size))) (some (w.heap.size + 3)) := (((below_grown HT.out).but (some (w.heap.size + 3))).trans (grown_set w9 (w.heap.size + 3) 0 (.string (textS (lowN G (numOf a.1 * numOf b.1)) G.size)))).trans (grown_set (w9.setCell ⟨w.heap.size + 3, 0, none⟩ (.string (textS (lowN G (numOf a.1 * numOf b.1)) G.size))) (w.heap.size + 3) 1 (.string (textS (lowN G (numOf a.2 * numOf b.2)) G.size)))
  have HGR := Lib.hid hgr9
  clear hgr9 HT
  clear HN4 HN5 HN6 HN7 HN8 HN9
  have f10_bc_0 := Hbc.out.frozen 0
  have f10_bc_1 := Hbc.out.frozen 1
  have o10_bg_0 := bg_0; clear bg_0
  have o10_bg_1 := bg_1; clear bg_1
  have o10_bg_2 := bg_2; clear bg_2
  have o10_ba_0 := ba_0; clear ba_0
  have o10_ba_1 := ba_1; clear ba_1
  have o10_bb_0 := bb_0; clear bb_0
  have o10_bb_1 := bb_1; clear bb_1
  have o10_bc_0 := bc_0; clear bc_0
  have o10_bc_1 := bc_1; clear bc_1
  have hx9 : Bx ((w9.setCell ⟨w.heap.size + 3, 0, none⟩ (.string (textS (lowN G (numOf a.1 * numOf b.1)) G.size))).setCell ⟨w.heap.size + 3, 1, none⟩ (.string (textS (lowN G (numOf a.2 * numOf b.2)) G.size))) (w.heap.size + 3) 41 [.string (textS (lowN G (numOf a.1 * numOf b.1)) G.size), .string (textS (lowN G (numOf a.2 * numOf b.2)) G.size)] := ((Hbc.out.set 0 (.string (textS (lowN G (numOf a.1 * numOf b.1)) G.size))).set 1 (.string (textS (lowN G (numOf a.2 * numOf b.2)) G.size)))
  have hb9 : Below w.heap.size w ((w9.setCell ⟨w.heap.size + 3, 0, none⟩ (.string (textS (lowN G (numOf a.1 * numOf b.1)) G.size))).setCell ⟨w.heap.size + 3, 1, none⟩ (.string (textS (lowN G (numOf a.2 * numOf b.2)) G.size))) := ((HB.out.setCell (show w.heap.size ≤ w.heap.size + 3 by have g0 := Hs1.out; have g1 := Hs2.out; have g2 := Hs3.out; have g3 := Hs4.out; have g4 := Hs5.out; have g5 := Hs6.out; have g6 := Hs7.out; have g7 := Hs8.out; have g8 := Hs9.out; have g9 := Hs9.out; omega) _).setCell (show w.heap.size ≤ w.heap.size + 3 by have g0 := Hs1.out; have g1 := Hs2.out; have g2 := Hs3.out; have g3 := Hs4.out; have g4 := Hs5.out; have g5 := Hs6.out; have g6 := Hs7.out; have g7 := Hs8.out; have g8 := Hs9.out; have g9 := Hs9.out; omega) _)
  have hz9 : ((w9.setCell ⟨w.heap.size + 3, 0, none⟩ (.string (textS (lowN G (numOf a.1 * numOf b.1)) G.size))).setCell ⟨w.heap.size + 3, 1, none⟩ (.string (textS (lowN G (numOf a.2 * numOf b.2)) G.size))).heap.size = w9.heap.size := by simp [World.setCell]
  have ho9Hbg := ((Hbg.out.other (show _ ≠ w.heap.size + 3 by have g0 := Hs1.out; have g1 := Hs2.out; have g2 := Hs3.out; have g3 := Hs4.out; have g4 := Hs5.out; have g5 := Hs6.out; have g6 := Hs7.out; have g7 := Hs8.out; have g8 := Hs9.out; have g9 := Hs9.out; omega) 0 (.string (textS (lowN G (numOf a.1 * numOf b.1)) G.size))).other (show _ ≠ w.heap.size + 3 by have g0 := Hs1.out; have g1 := Hs2.out; have g2 := Hs3.out; have g3 := Hs4.out; have g4 := Hs5.out; have g5 := Hs6.out; have g6 := Hs7.out; have g7 := Hs8.out; have g8 := Hs9.out; have g9 := Hs9.out; omega) 1 (.string (textS (lowN G (numOf a.2 * numOf b.2)) G.size)))
  have ho9Hba := ((Hba.out.other (show _ ≠ w.heap.size + 3 by have g0 := Hs1.out; have g1 := Hs2.out; have g2 := Hs3.out; have g3 := Hs4.out; have g4 := Hs5.out; have g5 := Hs6.out; have g6 := Hs7.out; have g7 := Hs8.out; have g8 := Hs9.out; have g9 := Hs9.out; omega) 0 (.string (textS (lowN G (numOf a.1 * numOf b.1)) G.size))).other (show _ ≠ w.heap.size + 3 by have g0 := Hs1.out; have g1 := Hs2.out; have g2 := Hs3.out; have g3 := Hs4.out; have g4 := Hs5.out; have g5 := Hs6.out; have g6 := Hs7.out; have g7 := Hs8.out; have g8 := Hs9.out; have g9 := Hs9.out; omega) 1 (.string (textS (lowN G (numOf a.2 * numOf b.2)) G.size)))
  have ho9Hbb := ((Hbb.out.other (show _ ≠ w.heap.size + 3 by have g0 := Hs1.out; have g1 := Hs2.out; have g2 := Hs3.out; have g3 := Hs4.out; have g4 := Hs5.out; have g5 := Hs6.out; have g6 := Hs7.out; have g7 := Hs8.out; have g8 := Hs9.out; have g9 := Hs9.out; omega) 0 (.string (textS (lowN G (numOf a.1 * numOf b.1)) G.size))).other (show _ ≠ w.heap.size + 3 by have g0 := Hs1.out; have g1 := Hs2.out; have g2 := Hs3.out; have g3 := Hs4.out; have g4 := Hs5.out; have g5 := Hs6.out; have g6 := Hs7.out; have g7 := Hs8.out; have g8 := Hs9.out; have g9 := Hs9.out; omega) 1 (.string (textS (lowN G (numOf a.2 * numOf b.2)) G.size)))
  obtain ⟨w10, hq10⟩ : ∃ W9 : World, ((w9.setCell ⟨w.heap.size + 3, 0, none⟩ (.string (textS (lowN G (numOf a.1 * numOf b.1)) G.size))).setCell ⟨w.heap.size + 3, 1, none⟩ (.string (textS (lowN G (numOf a.2 * numOf b.2)) G.size))) = W9 := ⟨_, rfl⟩
  rw [hq10] at hx9 hb9 hz9 ho9Hbg ho9Hba ho9Hbb
  clear Hbc HB
  have Hbc := Lib.hid hx9
  have HB := Lib.hid hb9
  have Hs10 := Lib.hid hz9
  replace Hbg := Lib.hid ho9Hbg
  replace Hba := Lib.hid ho9Hba
  replace Hbb := Lib.hid ho9Hbb
  clear hx9 hb9 hz9 ho9Hbg ho9Hba ho9Hbb
  have bg_0 := Hbg.out.cell (i := 0) rfl
  have bg_1 := Hbg.out.cell (i := 1) rfl
  have bg_2 := Hbg.out.cell (i := 2) rfl
  have ba_0 := Hba.out.cell (i := 0) rfl
  have ba_1 := Hba.out.cell (i := 1) rfl
  have bb_0 := Hbb.out.cell (i := 0) rfl
  have bb_1 := Hbb.out.cell (i := 1) rfl
  have bc_0 := Hbc.out.cell (i := 0) rfl
  have bc_1 := Hbc.out.cell (i := 1) rfl
  replace HGR := Lib.hid (by have h9 := HGR.out; rw [hq10] at h9; exact h9)
  go_simp
  try rw [hq10]
  refine hK _ _ ⟨⟨⟨w10, HGR.out⟩, rfl⟩, ?_⟩
  clear hK K HGR
  clear hq10 o10_bc_1 o10_bc_0 o10_bb_1 o10_bb_0 o10_ba_1 o10_ba_0 o10_bg_2 o10_bg_1 o10_bg_0 f10_bc_1 f10_bc_0
  repeat (refine tree_q rfl rfl ?_; go_big_quiet_step (fail); refine wpQuiet_nil ?_)
  refine tree_end ?_
  go_wp2_with fail
  simp [bodyPost, results, Try.results85, go_sem, bc_0, bc_1]
  exact HB.out

set_option maxRecDepth 100000 in
set_option maxHeartbeats 1000000 in
theorem rShown (ok : G.Ok) (x : ByteArray) (c : ByteArray × ByteArray) (hx : x.size ≤ 32) (h1 : c.1.size ≤ 32) (h2 : c.2.size ≤ 32) (w : World) (hG : RG w G aq ap) :
    Calls Try.prog 91 #[.agg #[.int .i64 (G.size : Int), .slice aq (dl G.q.m) cq, .slice ap (dl G.p.m) cp], .string x, ciphV c.1 c.2] w fun e w' => NumR w e w' (lowN G (numOf c.2 * (numOf c.1 ^ numOf x) ^ (G.q.m - 1))) := by
  have OK := Lib.hid ok
  have HG := Lib.hid hG
  clear ok hG
  unfold ciphV
  go_enter Try.func91, Try.ntmps91
  go_wp2_with fail
  have hb9 : Below w.heap.size w ((w.alloc (Obj.cells #[.int .i64 (G.size : Int), .slice aq (dl G.q.m) cq, .slice ap (dl G.p.m) cp] 98)).alloc (Obj.cells #[.string c.1, .string c.2] 41)) := (((Below.refl _ _).alloc (Nat.le_refl _) _).alloc (by simp) _)
  have hx90 : Bx ((w.alloc (Obj.cells #[.int .i64 (G.size : Int), .slice aq (dl G.q.m) cq, .slice ap (dl G.p.m) cp] 98)).alloc (Obj.cells #[.string c.1, .string c.2] 41)) (w.heap.size) 98 [.int .i64 (G.size : Int), .slice aq (dl G.q.m) cq, .slice ap (dl G.p.m) cp] := by
    have h := ((Bx.new w 98 [.int .i64 (G.size : Int), .slice aq (dl G.q.m) cq, .slice ap (dl G.p.m) cp] _ rfl).alloc (Obj.cells #[.string c.1, .string c.2] 41))
    exact h
  have hx91 : Bx ((w.alloc (Obj.cells #[.int .i64 (G.size : Int), .slice aq (dl G.q.m) cq, .slice ap (dl G.p.m) cp] 98)).alloc (Obj.cells #[.string c.1, .string c.2] 41)) (w.heap.size + 1) 41 [.string c.1, .string c.2] := by
    have h := (Bx.new (w.alloc (Obj.cells #[.int .i64 (G.size : Int), .slice aq (dl G.q.m) cq, .slice ap (dl G.p.m) cp] 98)) 41 [.string c.1, .string c.2] _ rfl)
    rw [World.size_alloc] at h
    exact h
  have hz9 : ((w.alloc (Obj.cells #[.int .i64 (G.size : Int), .slice aq (dl G.q.m) cq, .slice ap (dl G.p.m) cp] 98)).alloc (Obj.cells #[.string c.1, .string c.2] 41)).heap.size = w.heap.size + 2 := by simp
  obtain ⟨w1, hq1⟩ : ∃ W9 : World, ((w.alloc (Obj.cells #[.int .i64 (G.size : Int), .slice aq (dl G.q.m) cq, .slice ap (dl G.p.m) cp] 98)).alloc (Obj.cells #[.string c.1, .string c.2] 41)) = W9 := ⟨_, rfl⟩
  rw [hq1] at hb9 hz9 hx90 hx91
  rw [hq1]
  clear hq1
  have HB := Lib.hid hb9
  have Hs1 := Lib.hid hz9
  have Hbg := Lib.hid hx90
  have Hbb := Lib.hid hx91
  clear hb9 hz9 hx90 hx91
  have bg_0 := Hbg.out.cell (i := 0) rfl
  have bg_1 := Hbg.out.cell (i := 1) rfl
  have bg_2 := Hbg.out.cell (i := 2) rfl
  have bb_0 := Hbb.out.cell (i := 0) rfl
  have bb_1 := Hbb.out.cell (i := 1) rfl
  go_wp2_with fail
  have HT := Lib.hid (show Below w1.heap.size w1 w1.drew from (Below.refl _ _).drew)
  have hl_bg := Hbg.out.lt
  have hl_bb := Hbb.out.lt
  refine wp_region_tree (fun w9 => ∃ E : Over w1, w9 = E.w) ((.qs [0, 1, 2, 4, 5, 6, 7, 9] (.a 3 (.a 8 (.a 10 (.a 11 (.a 12 (.a 13 (.qs [14] .done))))))))) (by kernel_rfl) (by kernel_rfl) (fun _ _ d _ _ h => by cases d <;> exact h) ⟨⟨_, HT.out⟩, rfl⟩ ?_
  have hov_bg := fun (E : Over w1) o => E.cell (b := w.heap.size) o hl_bg
  have hov_bb := fun (E : Over w1) o => E.cell (b := w.heap.size + 1) o hl_bb
  simp only [Tree.qs]
  repeat (refine tree_q rfl rfl ?_; go_big_quiet_step (fail); refine wpQuiet_nil ?_)
  refine tree_a rfl (fun K hK => ?_)
  go_simp
  refine (refRead_any c.2 (by omega) _).mono ?_
  rintro e w2 ⟨a4, c4, rfl, hn9, hb9⟩
  replace HT := Lib.hid (below_up HT.out hb9)
  have Hs2 := Lib.hid (show w1.heap.size ≤ w2.heap.size from HT.out.size)
  clear hb9
  have HN4 := Lib.hid hn9
  clear hn9
  refine hK _ _ ⟨⟨⟨w2, HT.out⟩, rfl⟩, ?_⟩
  clear hK K
  repeat (refine tree_q rfl rfl ?_; go_big_quiet_step (fail); refine wpQuiet_nil ?_)
  refine tree_a rfl (fun K hK => ?_)
  go_simp
  refine (refRead_any c.1 (by omega) _).mono ?_
  rintro e w3 ⟨a5, c5, rfl, hn9, hb9⟩
  replace HN4 := Lib.hid (HN4.out.up hb9)
  replace HT := Lib.hid (below_up HT.out hb9)
  have Hs3 := Lib.hid (show w1.heap.size ≤ w3.heap.size from HT.out.size)
  clear hb9
  have HN5 := Lib.hid hn9
  clear hn9
  refine hK _ _ ⟨⟨⟨w3, HT.out⟩, rfl⟩, ?_⟩
  clear hK K
  repeat (refine tree_q rfl rfl ?_; go_big_quiet_step (fail); refine wpQuiet_nil ?_)
  refine tree_a rfl (fun K hK => ?_)
  go_simp
  refine (refRead_any x (by omega) _).mono ?_
  rintro e w4 ⟨a6, c6, rfl, hn9, hb9⟩
  replace HN4 := Lib.hid (HN4.out.up hb9)
  replace HN5 := Lib.hid (HN5.out.up hb9)
  replace HT := Lib.hid (below_up HT.out hb9)
  have Hs4 := Lib.hid (show w1.heap.size ≤ w4.heap.size from HT.out.size)
  clear hb9
  have HN6 := Lib.hid hn9
  clear hn9
  refine hK _ _ ⟨⟨⟨w4, HT.out⟩, rfl⟩, ?_⟩
  clear hK K
  repeat (refine tree_q rfl rfl ?_; go_big_quiet_step (fail); refine wpQuiet_nil ?_)
  refine tree_a rfl (fun K hK => ?_)
  go_simp
  refine (rPow OK.out (numOf_16 c.1 h1) (Nat.le_trans (dl_of_lt _ 16 (numOf_16 x hx)) (by decide)) _ (HG.out.up (below_up HB.out HT.out)) HN5.out HN6.out).mono ?_
  rintro e w5 ⟨a7, c7, rfl, hn9, hb9⟩
  replace HN4 := Lib.hid (HN4.out.up hb9)
  replace HN5 := Lib.hid (HN5.out.up hb9)
  replace HN6 := Lib.hid (HN6.out.up hb9)
  replace HT := Lib.hid (below_up HT.out hb9)
  have Hs5 := Lib.hid (show w1.heap.size ≤ w5.heap.size from HT.out.size)
  clear hb9
  have HN7 := Lib.hid hn9
  clear hn9
  refine hK _ _ ⟨⟨⟨w5, HT.out⟩, rfl⟩, ?_⟩
  clear hK K
  repeat (refine tree_q rfl rfl ?_; go_big_quiet_step (fail); refine wpQuiet_nil ?_)
  refine tree_a rfl (fun K hK => ?_)
  go_simp
  refine (rUnder2 OK.out _ (HG.out.up (below_up HB.out HT.out)) HN7.out).mono ?_
  rintro e w6 ⟨a8, c8, rfl, hn9, hb9⟩
  replace HN4 := Lib.hid (HN4.out.up hb9)
  replace HN5 := Lib.hid (HN5.out.up hb9)
  replace HN6 := Lib.hid (HN6.out.up hb9)
  replace HN7 := Lib.hid (HN7.out.up hb9)
  replace HT := Lib.hid (below_up HT.out hb9)
  have Hs6 := Lib.hid (show w1.heap.size ≤ w6.heap.size from HT.out.size)
  clear hb9
  have HN8 := Lib.hid hn9
  clear hn9
  refine hK _ _ ⟨⟨⟨w6, HT.out⟩, rfl⟩, ?_⟩
  clear hK K
  repeat (refine tree_q rfl rfl ?_; go_big_quiet_step (fail); refine wpQuiet_nil ?_)
  refine tree_a rfl (fun K hK => ?_)
  go_simp
  refine (rProdR OK.out (numOf_16 c.2 h2) _ (HG.out.up (below_up HB.out HT.out)) HN4.out HN8.out).mono ?_
  rintro e w7 ⟨a9, c9, rfl, hn9, hb9⟩
  replace HN4 := Lib.hid (HN4.out.up hb9)
  replace HN5 := Lib.hid (HN5.out.up hb9)
  replace HN6 := Lib.hid (HN6.out.up hb9)
  replace HN7 := Lib.hid (HN7.out.up hb9)
  replace HN8 := Lib.hid (HN8.out.up hb9)
  replace HT := Lib.hid (below_up HT.out hb9)
  have Hs7 := Lib.hid (show w1.heap.size ≤ w7.heap.size from HT.out.size)
  clear hb9
  have HN9 := Lib.hid hn9
  clear hn9
  refine hK _ _ ⟨⟨⟨w7, HT.out⟩, rfl⟩, ?_⟩
  clear hK K
  repeat (refine tree_q rfl rfl ?_; go_big_quiet_step (fail); refine wpQuiet_nil ?_)
  refine tree_end ?_
  clear hov_bg hl_bg hov_bb hl_bb
  clear bg_0 bg_1 bg_2
  replace Hbg := Lib.hid (Hbg.out.up HT.out)
  clear bb_0 bb_1
  replace Hbb := Lib.hid (Hbb.out.up HT.out)
  replace HB := Lib.hid (below_up HB.out HT.out)
  have Hs7 := Lib.hid (show w1.heap.size ≤ w7.heap.size from HT.out.size)
  clear HT
  have bg_0 := Hbg.out.cell (i := 0) rfl
  have bg_1 := Hbg.out.cell (i := 1) rfl
  have bg_2 := Hbg.out.cell (i := 2) rfl
  have bb_0 := Hbb.out.cell (i := 0) rfl
  have bb_1 := Hbb.out.cell (i := 1) rfl
  go_wp2_with fail
  go_ret
  exact ⟨a9, c9, rfl, HN9.out, HB.out⟩

end
end Go.Proofs.Ytipgjookfdkciaa

/- What is wrong with claims and scalars, as the document says it; powers; Extract. Condition: the lists that memory can hold. -/
namespace Go.Proofs.Ytipgjookfdkciaa
open Go.RowKit

section
variable {G : GP} {aq ap : Option Addr} {cq cp : Nat}

theorem rIsSc_b (ok : G.Ok) (s : ByteArray) (b : Bool) (hb : isSc G.q.m G.size s = b) (w : World) (hG : RG w G aq ap) :
    Calls Try.prog 66 #[.agg #[.int .i64 (G.size : Int), .slice aq (dl G.q.m) cq, .slice ap (dl G.p.m) cp], .string s] w (Gives (.bool b) w) := by
  subst hb
  exact rIsSc ok s w hG
theorem rIsEl_b (ok : G.Ok) (s : ByteArray) (b : Bool) (hb : isEl G.q.m G.size s = b) (w : World) (hG : RG w G aq ap) :
    Calls Try.prog 79 #[.agg #[.int .i64 (G.size : Int), .slice aq (dl G.q.m) cq, .slice ap (dl G.p.m) cp], .string s] w (Gives (.bool b) w) := by
  subst hb
  exact rIsEl ok s w hG

set_option maxRecDepth 100000 in
set_option maxHeartbeats 1000000 in
theorem rWrongSc (ok : G.Ok) (n : Nat) (l : List ByteArray) (al : Option Addr) (cl : Nat) (hlen : l.length ≤ 8796093022207) (w : World) (hG : RG w G aq ap) (hS : Sl w w.heap.size al (l.map Value.string)) :
    Calls Try.prog 65 #[.agg #[.int .i64 (G.size : Int), .slice aq (dl G.q.m) cq, .slice ap (dl G.p.m) cp], .int .i64 (n : Int), .slice al l.length cl] w (Gives (.int .i64 (scE G n l : Int)) w) := by
  have OK := Lib.hid ok
  have HG := Lib.hid hG
  have HS := Lib.hid hS
  clear ok hG hS
  obtain ⟨z, hz⟩ : ∃ z, scE G n l = z := ⟨_, rfl⟩
  have hzz : z = if l.length = n then if l.all (isSc G.q.m G.size) = true then 0 else 6 else 2 := hz.symm
  rw [hz]
  clear hz
  unfold Gives
  by_cases h1 : l.length = n
  · have hd : ((l.length : Int) != (n : Int)) = false := by simp; omega
    rw [if_pos h1] at hzz
    have HZZ := Lib.hid hzz
    clear hzz h1
    go_enter Try.func65, Try.ntmps65
    go_wp2_with fail
    have hb9 : Below w.heap.size w (w.alloc (Obj.cells #[.int .i64 (G.size : Int), .slice aq (dl G.q.m) cq, .slice ap (dl G.p.m) cp] 98)) := ((Below.refl _ _).alloc (Nat.le_refl _) _)
    have hx90 : Bx (w.alloc (Obj.cells #[.int .i64 (G.size : Int), .slice aq (dl G.q.m) cq, .slice ap (dl G.p.m) cp] 98)) (w.heap.size) 98 [.int .i64 (G.size : Int), .slice aq (dl G.q.m) cq, .slice ap (dl G.p.m) cp] := by
      have h := (Bx.new w 98 [.int .i64 (G.size : Int), .slice aq (dl G.q.m) cq, .slice ap (dl G.p.m) cp] _ rfl)
      exact h
    have hz9 : (w.alloc (Obj.cells #[.int .i64 (G.size : Int), .slice aq (dl G.q.m) cq, .slice ap (dl G.p.m) cp] 98)).heap.size = w.heap.size + 1 := by simp
    obtain ⟨w1, hq1⟩ : ∃ W9 : World, (w.alloc (Obj.cells #[.int .i64 (G.size : Int), .slice aq (dl G.q.m) cq, .slice ap (dl G.p.m) cp] 98)) = W9 := ⟨_, rfl⟩
    rw [hq1] at hb9 hz9 hx90
    rw [hq1]
    clear hq1
    have HB := Lib.hid hb9
    have Hs1 := Lib.hid hz9
    have Hbg := Lib.hid hx90
    clear hb9 hz9 hx90
    have bg_0 := Hbg.out.cell (i := 0) rfl
    have bg_1 := Hbg.out.cell (i := 1) rfl
    have bg_2 := Hbg.out.cell (i := 2) rfl
    go_wp2_with fail
    go_loopw [15] (fun i wr => ∃ j : Nat, j ≤ l.length ∧ i = .int .i64 j ∧ Hid (Below w1.heap.size w1 wr) ∧ Hid ((l.take j).all (isSc G.q.m G.size) = true)) (fun i _ => l.length - (intOf i).toNat)
    case atStart => exact ⟨0, Nat.zero_le _, rfl, Below.refl _ _, rfl⟩
    case round =>
      obtain ⟨j, hj, rfl, HL9, HAL⟩ := hrel
      have hb9 := HL9.out
      clear HL9
      have BL := Lib.hid (Below.refl w1.heap.size w1)
      clear bg_0 bg_1 bg_2
      replace Hbg := Lib.hid (Hbg.out.up hb9)
      replace BL := Lib.hid (below_up BL.out hb9)
      replace HB := Lib.hid (below_up HB.out hb9)
      have Hs1' := Lib.hid (show w1.heap.size ≤ wr.heap.size from hb9.size)
      clear hb9
      have bg_0 := Hbg.out.cell (i := 0) rfl
      have bg_1 := Hbg.out.cell (i := 1) rfl
      have bg_2 := Hbg.out.cell (i := 2) rfl
      by_cases hjl : j < l.length
      · obtain ⟨bl, ol, rfl, hbl, hc⟩ := (HS.out.up HB.out).at j (by simpa using hjl)
        rw [List.getElem_map] at hc
        obtain ⟨bj, hbj⟩ : ∃ x, isSc G.q.m G.size l[j] = x := ⟨_, rfl⟩
        have HBJ := Lib.hid hbj
        clear hbj
        go_wp2_with fail
        refine (rIsSc_b OK.out l[j] bj HBJ.out wr (HG.out.up HB.out)).mono ?_
        rintro e w2 ⟨rfl, hb9⟩
        clear bg_0 bg_1 bg_2
        replace Hbg := Lib.hid (Hbg.out.up hb9)
        replace BL := Lib.hid (below_up BL.out hb9)
        replace HB := Lib.hid (below_up HB.out hb9)
        have Hs2 := Lib.hid (show wr.heap.size ≤ w2.heap.size from hb9.size)
        clear hb9
        have bg_0 := Hbg.out.cell (i := 0) rfl
        have bg_1 := Hbg.out.cell (i := 1) rfl
        have bg_2 := Hbg.out.cell (i := 2) rfl
        cases bj
        · go_wp2_with fail
          go_ret
          exact ⟨by rw [HZZ.out, if_neg (by rw [all_not hjl HBJ.out]; decide)]; rfl, HB.out⟩
        · go_wp2_with fail
          go_roundw
          case rel => exact ⟨j + 1, by omega, by go_num, BL, all_snoc hjl HAL.out HBJ.out⟩
          case measure => simp [intOf]; omega
      · have hjn : j = l.length := by omega
        subst hjn
        go_wp2_with fail
        go_ret
        exact ⟨by rw [HZZ.out, if_pos (all_take_true HAL.out)]; rfl, HB.out⟩
  · have hd : ((l.length : Int) != (n : Int)) = true := by simp; omega
    obtain rfl : z = 2 := by rw [hzz, if_neg h1]
    clear hzz h1
    go_enter Try.func65, Try.ntmps65
    go_wp2_with fail
    have hb9 : Below w.heap.size w (w.alloc (Obj.cells #[.int .i64 (G.size : Int), .slice aq (dl G.q.m) cq, .slice ap (dl G.p.m) cp] 98)) := ((Below.refl _ _).alloc (Nat.le_refl _) _)
    have hx90 : Bx (w.alloc (Obj.cells #[.int .i64 (G.size : Int), .slice aq (dl G.q.m) cq, .slice ap (dl G.p.m) cp] 98)) (w.heap.size) 98 [.int .i64 (G.size : Int), .slice aq (dl G.q.m) cq, .slice ap (dl G.p.m) cp] := by
      have h := (Bx.new w 98 [.int .i64 (G.size : Int), .slice aq (dl G.q.m) cq, .slice ap (dl G.p.m) cp] _ rfl)
      exact h
    have hz9 : (w.alloc (Obj.cells #[.int .i64 (G.size : Int), .slice aq (dl G.q.m) cq, .slice ap (dl G.p.m) cp] 98)).heap.size = w.heap.size + 1 := by simp
    obtain ⟨w1, hq1⟩ : ∃ W9 : World, (w.alloc (Obj.cells #[.int .i64 (G.size : Int), .slice aq (dl G.q.m) cq, .slice ap (dl G.p.m) cp] 98)) = W9 := ⟨_, rfl⟩
    rw [hq1] at hb9 hz9 hx90
    rw [hq1]
    clear hq1
    have HB := Lib.hid hb9
    have Hs1 := Lib.hid hz9
    have Hbg := Lib.hid hx90
    clear hb9 hz9 hx90
    have bg_0 := Hbg.out.cell (i := 0) rfl
    have bg_1 := Hbg.out.cell (i := 1) rfl
    have bg_2 := Hbg.out.cell (i := 2) rfl
    go_wp2_with fail
    go_ret
    exact ⟨rfl, HB.out⟩

theorem rWrongSc_t (ok : G.Ok) (n : Nat) (l : List ByteArray) (al : Option Addr) (cl : Nat) (hlen : l.length = n) (hn : n ≤ 8796093022207) (h : l.all (isSc G.q.m G.size) = true) (w : World) (hG : RG w G aq ap) (hS : Sl w w.heap.size al (l.map Value.string)) :
    Calls Try.prog 65 #[.agg #[.int .i64 (G.size : Int), .slice aq (dl G.q.m) cq, .slice ap (dl G.p.m) cp], .int .i64 (n : Int), .slice al n cl] w (Gives (.int .i64 0) w) := by
  have h9 := rWrongSc (aq := aq) (ap := ap) (cq := cq) (cp := cp) ok n l al cl (by omega) w hG hS
  unfold scE at h9
  rw [if_pos hlen, if_pos h, hlen] at h9
  exact h9
theorem rWrongSc_f (ok : G.Ok) (n : Nat) (l : List ByteArray) (al : Option Addr) (cl : Nat) (hlen : l.length = n) (hn : n ≤ 8796093022207) (h : l.all (isSc G.q.m G.size) = false) (w : World) (hG : RG w G aq ap) (hS : Sl w w.heap.size al (l.map Value.string)) :
    Calls Try.prog 65 #[.agg #[.int .i64 (G.size : Int), .slice aq (dl G.q.m) cq, .slice ap (dl G.p.m) cp], .int .i64 (n : Int), .slice al n cl] w (Gives (.int .i64 6) w) := by
  have h9 := rWrongSc (aq := aq) (ap := ap) (cq := cq) (cp := cp) ok n l al cl (by omega) w hG hS
  unfold scE at h9
  rw [if_pos hlen, if_neg (by rw [h]; decide), hlen] at h9
  exact h9

set_option maxRecDepth 100000 in
set_option maxHeartbeats 1000000 in
theorem rPower5 (ok : G.Ok) (b : ByteArray) (hb : b.size ≤ 32) {n : Nat} {an : Option Addr} {cn : Nat} (hn : dl n ≤ 65536) (w : World) (hG : RG w G aq ap) (hN : NumAt w an n) :
    Calls Try.prog 158 #[.agg #[.int .i64 (G.size : Int), .slice aq (dl G.q.m) cq, .slice ap (dl G.p.m) cp], .string b, .slice an (dl n) cn] w fun e w' => NumR w e w' (lowN G (numOf b ^ n)) := by
  have OK := Lib.hid ok
  have HG := Lib.hid hG
  have HN := Lib.hid hN
  clear ok hG hN
  go_enter Try.func158, Try.ntmps158
  go_wp2_with fail
  have hb9 : Below w.heap.size w (w.alloc (Obj.cells #[.int .i64 (G.size : Int), .slice aq (dl G.q.m) cq, .slice ap (dl G.p.m) cp] 98)) := ((Below.refl _ _).alloc (Nat.le_refl _) _)
  have hx90 : Bx (w.alloc (Obj.cells #[.int .i64 (G.size : Int), .slice aq (dl G.q.m) cq, .slice ap (dl G.p.m) cp] 98)) (w.heap.size) 98 [.int .i64 (G.size : Int), .slice aq (dl G.q.m) cq, .slice ap (dl G.p.m) cp] := by
    have h := (Bx.new w 98 [.int .i64 (G.size : Int), .slice aq (dl G.q.m) cq, .slice ap (dl G.p.m) cp] _ rfl)
    exact h
  have hz9 : (w.alloc (Obj.cells #[.int .i64 (G.size : Int), .slice aq (dl G.q.m) cq, .slice ap (dl G.p.m) cp] 98)).heap.size = w.heap.size + 1 := by simp
  obtain ⟨w1, hq1⟩ : ∃ W9 : World, (w.alloc (Obj.cells #[.int .i64 (G.size : Int), .slice aq (dl G.q.m) cq, .slice ap (dl G.p.m) cp] 98)) = W9 := ⟨_, rfl⟩
  rw [hq1] at hb9 hz9 hx90
  rw [hq1]
  clear hq1
  have HB := Lib.hid hb9
  have Hs1 := Lib.hid hz9
  have Hbg := Lib.hid hx90
  clear hb9 hz9 hx90
  have bg_0 := Hbg.out.cell (i := 0) rfl
  have bg_1 := Hbg.out.cell (i := 1) rfl
  have bg_2 := Hbg.out.cell (i := 2) rfl
  go_wp2_with fail
  have HT := Lib.hid (show Below w1.heap.size w1 w1.drew from (Below.refl _ _).drew)
  have hl_bg := Hbg.out.lt
  refine wp_region_tree (fun wq9 => ∃ E : Over w1, wq9 = E.w) ((.qs [0, 1, 3] (.a 2 (.a 4 (.qs [5] .done))))) (by kernel_rfl) (by kernel_rfl) (fun _ _ d _ _ h => by cases d <;> exact h) ⟨⟨_, HT.out⟩, rfl⟩ ?_
  have hov_bg := fun (E : Over w1) o => E.cell (b := w.heap.size) o hl_bg
  simp only [Tree.qs]
  repeat (refine tree_q rfl rfl ?_; go_big_quiet_step (fail); refine wpQuiet_nil ?_)
  refine tree_a rfl (fun K hK => ?_)
  go_simp
  refine (refRead_any b (by omega) _).mono ?_
  rintro e w2 ⟨a4, c4, rfl, hn9, hb9⟩
  replace HT := Lib.hid (below_up HT.out hb9)
  have Hs2 := Lib.hid (show w1.heap.size ≤ w2.heap.size from HT.out.size)
  clear hb9
  have HN4 := Lib.hid hn9
  clear hn9
  refine hK _ _ ⟨⟨⟨w2, HT.out⟩, rfl⟩, ?_⟩
  clear hK K
  repeat (refine tree_q rfl rfl ?_; go_big_quiet_step (fail); refine wpQuiet_nil ?_)
  refine tree_a rfl (fun K hK => ?_)
  go_simp
  refine (rPow OK.out (numOf_16 b hb) hn _ (HG.out.up (below_up HB.out HT.out)) HN4.out (HN.out.up (below_up HB.out HT.out))).mono ?_
  rintro e w3 ⟨a5, c5, rfl, hn9, hb9⟩
  replace HN4 := Lib.hid (HN4.out.up hb9)
  replace HT := Lib.hid (below_up HT.out hb9)
  have Hs3 := Lib.hid (show w1.heap.size ≤ w3.heap.size from HT.out.size)
  clear hb9
  have HN5 := Lib.hid hn9
  clear hn9
  refine hK _ _ ⟨⟨⟨w3, HT.out⟩, rfl⟩, ?_⟩
  clear hK K
  repeat (refine tree_q rfl rfl ?_; go_big_quiet_step (fail); refine wpQuiet_nil ?_)
  refine tree_end ?_
  clear hov_bg hl_bg
  clear bg_0 bg_1 bg_2
  replace Hbg := Lib.hid (Hbg.out.up HT.out)
  replace HB := Lib.hid (below_up HB.out HT.out)
  have Hs3' := Lib.hid (show w1.heap.size ≤ w3.heap.size from HT.out.size)
  clear HT
  have bg_0 := Hbg.out.cell (i := 0) rfl
  have bg_1 := Hbg.out.cell (i := 1) rfl
  have bg_2 := Hbg.out.cell (i := 2) rfl
  go_wp2_with fail
  go_ret
  exact ⟨a5, c5, rfl, HN5.out, HB.out⟩
end

theorem size_n0 (k : Nat) (h1 : 1 ≤ k) (h3 : k ≤ 3) : (((grp k).size : Int) == 0) = false := by
  obtain rfl | rfl | rfl : k = 1 ∨ k = 2 ∨ k = 3 := by omega
  all_goals rfl
theorem size_gt0 (k : Nat) (h1 : 1 ≤ k) (h3 : k ≤ 3) : decide (((grp k).size : Int) > 0) = true := by
  obtain rfl | rfl | rfl : k = 1 ∨ k = 2 ∨ k = 3 := by omega
  all_goals rfl
theorem toList_ne {a b : ByteArray} (h : ¬ a = b) : ¬ a.toList = b.toList := fun e => h (by
  have h9 : (a == b) = true := by rw [beq_toListBytes]; exact beq_iff_eq.2 e
  obtain ⟨x⟩ := a
  obtain ⟨y⟩ := b
  have h10 : (x == y) = true := h9
  rw [eq_of_beq h10])
theorem toList_bne {a b : ByteArray} (h : ¬ a = b) : (a.toList == b.toList) = false := beq_eq_false_iff_ne.2 (toList_ne h)
theorem mod_16 {G : GP} (ok : G.Ok) (x : Nat) : x % G.q.m < DD ^ 16 := Nat.lt_of_lt_of_le (Nat.mod_lt _ ok.q.pos) (Nat.le_of_lt ok.q.lt4)
theorem sc_len {G : GP} (ok : G.Ok) {s : ByteArray} (h : isSc G.q.m G.size s = true) : s.size ≤ 32 := by rw [isSc_size h]; exact ok.size_le
theorem el_len {G : GP} (ok : G.Ok) {s : ByteArray} (h : isEl G.q.m G.size s = true) : s.size ≤ 32 := by rw [isEl_size h]; exact ok.size_le

/-- Reckoning with scalars, spelled so that no simp turns it. -/
def mulQ (G : GP) (a b : Nat) : Nat := a * b % G.q.m
def addQ (G : GP) (a b : Nat) : Nat := (a + b) % G.q.m
def subQ (G : GP) (a b : Nat) : Nat := (a + (G.q.m - b)) % G.q.m
def invQ (G : GP) (a : Nat) : Nat := a ^ (G.q.m - 2) % G.q.m
section
variable {G : GP} {aq ap : Option Addr} {cq cp : Nat}
theorem mulQ_lt (ok : G.Ok) (a b : Nat) : mulQ G a b < G.q.m := Nat.mod_lt _ ok.q.pos
theorem addQ_lt (ok : G.Ok) (a b : Nat) : addQ G a b < G.q.m := Nat.mod_lt _ ok.q.pos
theorem subQ_lt (ok : G.Ok) (a b : Nat) : subQ G a b < G.q.m := Nat.mod_lt _ ok.q.pos
theorem invQ_lt (ok : G.Ok) (a : Nat) : invQ G a < G.q.m := Nat.mod_lt _ ok.q.pos
theorem q_16 (ok : G.Ok) {x : Nat} (h : x < G.q.m) : x < DD ^ 16 := Nat.lt_trans h ok.q.lt4
theorem rMulQ (ok : G.Ok) {a b : Nat} {aa ab : Option Addr} {ca cb : Nat} (ha : a < DD ^ 16) (hb : b < DD ^ 16) (w : World) (hG : RG w G aq ap) (hA : NumAt w aa a) (hB : NumAt w ab b) :
    Calls Try.prog 71 #[.agg #[.int .i64 (G.size : Int), .slice aq (dl G.q.m) cq, .slice ap (dl G.p.m) cp], .slice aa (dl a) ca, .slice ab (dl b) cb] w fun e w' => NumR w e w' (mulQ G a b) := rMul ok ha hb w hG hA hB
theorem rAddQ (ok : G.Ok) {a b : Nat} {aa ab : Option Addr} {ca cb : Nat} (ha : a < DD ^ 16) (hb : b < DD ^ 16) (w : World) (hG : RG w G aq ap) (hA : NumAt w aa a) (hB : NumAt w ab b) :
    Calls Try.prog 152 #[.agg #[.int .i64 (G.size : Int), .slice aq (dl G.q.m) cq, .slice ap (dl G.p.m) cp], .slice aa (dl a) ca, .slice ab (dl b) cb] w fun e w' => NumR w e w' (addQ G a b) := rAdd ok ha hb w hG hA hB
theorem rSubQ (ok : G.Ok) {a b : Nat} {aa ab : Option Addr} {ca cb : Nat} (ha : a < DD ^ 16) (hb : b ≤ G.q.m) (w : World) (hG : RG w G aq ap) (hA : NumAt w aa a) (hB : NumAt w ab b) :
    Calls Try.prog 68 #[.agg #[.int .i64 (G.size : Int), .slice aq (dl G.q.m) cq, .slice ap (dl G.p.m) cp], .slice aa (dl a) ca, .slice ab (dl b) cb] w fun e w' => NumR w e w' (subQ G a b) := rSub ok ha hb w hG hA hB
theorem rInvQ (ok : G.Ok) (h2 : 2 ≤ G.q.m) {a : Nat} {aa : Option Addr} {ca : Nat} (ha : a < DD ^ 16) (w : World) (hG : RG w G aq ap) (hA : NumAt w aa a) :
    Calls Try.prog 67 #[.agg #[.int .i64 (G.size : Int), .slice aq (dl G.q.m) cq, .slice ap (dl G.p.m) cp], .slice aa (dl a) ca] w fun e w' => NumR w e w' (invQ G a) := rInv ok h2 ha w hG hA
theorem rTextQ (ok : G.Ok) {x : Nat} {an : Option Addr} {cn : Nat} (hx : x < G.q.m) (w : World) (hN : NumAt w an x) :
    Calls Try.prog 70 #[.slice an (dl x) cn, .int .i64 (G.size : Int)] w fun e w' => e = .returned (.string (textS x G.size)) ∧ Below w.heap.size w w' :=
  rText ok (q_16 ok hx) w hN
end

end Go.Proofs.Ytipgjookfdkciaa

/- Extract, as the document says it. Condition: the lists that memory can hold. -/
namespace Go.Proofs.Ytipgjookfdkciaa
open Go.RowKit

set_option maxRecDepth 100000 in
set_option maxHeartbeats 2000000 in
theorem rext_none (k : Int) (hk : ¬ (1 ≤ k ∧ k ≤ 3)) (p q : PrfA) (w : World) : Calls Try.prog 16 #[.int .i64 k, p.val, q.val] w (ExtR 1 [] w) := by
  unfold PrfA.val
  go_enter Try.func16, Try.ntmps16
  go_wp2_with fail
  have hb9 : Below w.heap.size w ((w.alloc (Obj.cells #[.string p.c, .slice p.aa p.l.length p.ca] 24)).alloc (Obj.cells #[.string q.c, .slice q.aa q.l.length q.ca] 24)) := (((Below.refl _ _).alloc (Nat.le_refl _) _).alloc (by simp) _)
  have hx90 : Bx ((w.alloc (Obj.cells #[.string p.c, .slice p.aa p.l.length p.ca] 24)).alloc (Obj.cells #[.string q.c, .slice q.aa q.l.length q.ca] 24)) (w.heap.size) 24 [.string p.c, .slice p.aa p.l.length p.ca] := by
    have h := ((Bx.new w 24 [.string p.c, .slice p.aa p.l.length p.ca] _ rfl).alloc (Obj.cells #[.string q.c, .slice q.aa q.l.length q.ca] 24))
    exact h
  have hx91 : Bx ((w.alloc (Obj.cells #[.string p.c, .slice p.aa p.l.length p.ca] 24)).alloc (Obj.cells #[.string q.c, .slice q.aa q.l.length q.ca] 24)) (w.heap.size + 1) 24 [.string q.c, .slice q.aa q.l.length q.ca] := by
    have h := (Bx.new (w.alloc (Obj.cells #[.string p.c, .slice p.aa p.l.length p.ca] 24)) 24 [.string q.c, .slice q.aa q.l.length q.ca] _ rfl)
    rw [World.size_alloc] at h
    exact h
  have hz9 : ((w.alloc (Obj.cells #[.string p.c, .slice p.aa p.l.length p.ca] 24)).alloc (Obj.cells #[.string q.c, .slice q.aa q.l.length q.ca] 24)).heap.size = w.heap.size + 2 := by simp
  obtain ⟨w1, hq1⟩ : ∃ W9 : World, ((w.alloc (Obj.cells #[.string p.c, .slice p.aa p.l.length p.ca] 24)).alloc (Obj.cells #[.string q.c, .slice q.aa q.l.length q.ca] 24)) = W9 := ⟨_, rfl⟩
  rw [hq1] at hb9 hz9 hx90 hx91
  rw [hq1]
  clear hq1
  have HB := Lib.hid hb9
  have Hs1 := Lib.hid hz9
  have Hbp := Lib.hid hx90
  have Hbq := Lib.hid hx91
  clear hb9 hz9 hx90 hx91
  have bp_0 := Hbp.out.cell (i := 0) rfl
  have bp_1 := Hbp.out.cell (i := 1) rfl
  have bq_0 := Hbq.out.cell (i := 0) rfl
  have bq_1 := Hbq.out.cell (i := 1) rfl
  go_wp2_with fail
  refine (refKind_none k hk w1).mono ?_
  rintro e w2 ⟨rfl, hb9⟩
  clear bp_0 bp_1
  replace Hbp := Lib.hid (Hbp.out.up hb9)
  clear bq_0 bq_1
  replace Hbq := Lib.hid (Hbq.out.up hb9)
  replace HB := Lib.hid (below_up HB.out hb9)
  have Hs2 := Lib.hid (show w1.heap.size ≤ w2.heap.size from hb9.size)
  clear hb9
  have bp_0 := Hbp.out.cell (i := 0) rfl
  have bp_1 := Hbp.out.cell (i := 1) rfl
  have bq_0 := Hbq.out.cell (i := 0) rfl
  have bq_1 := Hbq.out.cell (i := 1) rfl
  have o3_bp_0 := bp_0; clear bp_0
  have o3_bp_1 := bp_1; clear bp_1
  have o3_bq_0 := bq_0; clear bq_0
  have o3_bq_1 := bq_1; clear bq_1
  have hb9 : Below w2.heap.size w2 (w2.alloc (Obj.cells #[.int .i64 0, .slice none 0 0, .slice none 0 0] 98)) := ((Below.refl _ _).alloc (Nat.le_refl _) _)
  have hx90 : Bx (w2.alloc (Obj.cells #[.int .i64 0, .slice none 0 0, .slice none 0 0] 98)) (w2.heap.size) 98 [.int .i64 0, .slice none 0 0, .slice none 0 0] := by
    have h := (Bx.new w2 98 [.int .i64 0, .slice none 0 0, .slice none 0 0] _ rfl)
    exact h
  have hz9 : (w2.alloc (Obj.cells #[.int .i64 0, .slice none 0 0, .slice none 0 0] 98)).heap.size = w2.heap.size + 1 := by simp
  obtain ⟨w3, hq3⟩ : ∃ W9 : World, (w2.alloc (Obj.cells #[.int .i64 0, .slice none 0 0, .slice none 0 0] 98)) = W9 := ⟨_, rfl⟩
  rw [hq3] at hb9 hz9 hx90
  replace Hbp := Lib.hid (Hbp.out.up hb9)
  replace Hbq := Lib.hid (Hbq.out.up hb9)
  replace HB := Lib.hid (below_up HB.out hb9)
  have Hs3 := Lib.hid hz9
  have Hbg := Lib.hid hx90
  clear hb9 hz9 hx90
  have bp_0 := Hbp.out.cell (i := 0) rfl
  have bp_1 := Hbp.out.cell (i := 1) rfl
  have bq_0 := Hbq.out.cell (i := 0) rfl
  have bq_1 := Hbq.out.cell (i := 1) rfl
  have bg_0 := Hbg.out.cell (i := 0) rfl
  have bg_1 := Hbg.out.cell (i := 1) rfl
  have bg_2 := Hbg.out.cell (i := 2) rfl
  have f4_bg_0 := Hbg.out.frozen 0
  have f4_bg_1 := Hbg.out.frozen 1
  have f4_bg_2 := Hbg.out.frozen 2
  have o4_bp_0 := bp_0; clear bp_0
  have o4_bp_1 := bp_1; clear bp_1
  have o4_bq_0 := bq_0; clear bq_0
  have o4_bq_1 := bq_1; clear bq_1
  have o4_bg_0 := bg_0; clear bg_0
  have o4_bg_1 := bg_1; clear bg_1
  have o4_bg_2 := bg_2; clear bg_2
  have hx9 : Bx (((w3.setCell ⟨w2.heap.size, 0, none⟩ (.int .i64 0)).setCell ⟨w2.heap.size, 1, none⟩ (.slice none 0 0)).setCell ⟨w2.heap.size, 2, none⟩ (.slice none 0 0)) (w2.heap.size) 98 [.int .i64 0, .slice none 0 0, .slice none 0 0] := (((Hbg.out.set 0 (.int .i64 0)).set 1 (.slice none 0 0)).set 2 (.slice none 0 0))
  have hb9 : Below w.heap.size w (((w3.setCell ⟨w2.heap.size, 0, none⟩ (.int .i64 0)).setCell ⟨w2.heap.size, 1, none⟩ (.slice none 0 0)).setCell ⟨w2.heap.size, 2, none⟩ (.slice none 0 0)) := (((HB.out.setCell (show w.heap.size ≤ w2.heap.size by have g0 := Hs1.out; have g1 := Hs2.out; have g2 := Hs3.out; omega) _).setCell (show w.heap.size ≤ w2.heap.size by have g0 := Hs1.out; have g1 := Hs2.out; have g2 := Hs3.out; omega) _).setCell (show w.heap.size ≤ w2.heap.size by have g0 := Hs1.out; have g1 := Hs2.out; have g2 := Hs3.out; omega) _)
  have hz9 : (((w3.setCell ⟨w2.heap.size, 0, none⟩ (.int .i64 0)).setCell ⟨w2.heap.size, 1, none⟩ (.slice none 0 0)).setCell ⟨w2.heap.size, 2, none⟩ (.slice none 0 0)).heap.size = w3.heap.size := by simp [World.setCell]
  have ho9Hbp := (((Hbp.out.other (show _ ≠ w2.heap.size by have g0 := Hs1.out; have g1 := Hs2.out; have g2 := Hs3.out; omega) 0 (.int .i64 0)).other (show _ ≠ w2.heap.size by have g0 := Hs1.out; have g1 := Hs2.out; have g2 := Hs3.out; omega) 1 (.slice none 0 0)).other (show _ ≠ w2.heap.size by have g0 := Hs1.out; have g1 := Hs2.out; have g2 := Hs3.out; omega) 2 (.slice none 0 0))
  have ho9Hbq := (((Hbq.out.other (show _ ≠ w2.heap.size by have g0 := Hs1.out; have g1 := Hs2.out; have g2 := Hs3.out; omega) 0 (.int .i64 0)).other (show _ ≠ w2.heap.size by have g0 := Hs1.out; have g1 := Hs2.out; have g2 := Hs3.out; omega) 1 (.slice none 0 0)).other (show _ ≠ w2.heap.size by have g0 := Hs1.out; have g1 := Hs2.out; have g2 := Hs3.out; omega) 2 (.slice none 0 0))
  obtain ⟨w4, hq4⟩ : ∃ W9 : World, (((w3.setCell ⟨w2.heap.size, 0, none⟩ (.int .i64 0)).setCell ⟨w2.heap.size, 1, none⟩ (.slice none 0 0)).setCell ⟨w2.heap.size, 2, none⟩ (.slice none 0 0)) = W9 := ⟨_, rfl⟩
  rw [hq4] at hx9 hb9 hz9 ho9Hbp ho9Hbq
  clear Hbg HB
  have Hbg := Lib.hid hx9
  have HB := Lib.hid hb9
  have Hs4 := Lib.hid hz9
  replace Hbp := Lib.hid ho9Hbp
  replace Hbq := Lib.hid ho9Hbq
  clear hx9 hb9 hz9 ho9Hbp ho9Hbq
  have bp_0 := Hbp.out.cell (i := 0) rfl
  have bp_1 := Hbp.out.cell (i := 1) rfl
  have bq_0 := Hbq.out.cell (i := 0) rfl
  have bq_1 := Hbq.out.cell (i := 1) rfl
  have bg_0 := Hbg.out.cell (i := 0) rfl
  have bg_1 := Hbg.out.cell (i := 1) rfl
  have bg_2 := Hbg.out.cell (i := 2) rfl
  go_wp2_with fail
  clear hq4 o4_bg_2 o4_bg_1 o4_bg_0 o4_bq_1 o4_bq_0 o4_bp_1 o4_bp_0 f4_bg_2 f4_bg_1 f4_bg_0 hq3 o3_bq_1 o3_bq_0 o3_bp_1 o3_bp_0
  go_ret2
  exact extR_none 1 HB.out

set_option maxRecDepth 100000 in
set_option maxHeartbeats 2000000 in
theorem rext_form (k : Nat) (h1 : 1 ≤ k) (h3 : k ≤ 3) (p q : PrfA) (hno : ¬ (p.l.length = q.l.length ∧ p.l.length ≠ 0)) (w : World) : Calls Try.prog 16 #[.int .i64 (k : Int), p.val, q.val] w (ExtR 2 [] w) := by
  unfold PrfA.val
  generalize p.l.length = n at *
  generalize q.l.length = m at *
  have hs0 := size_n0 k h1 h3
  by_cases hnm : n = m
  · have hd1 : ((n : Int) != (m : Int)) = false := by simp; omega
    have hd2 : ((n : Int) == 0) = true := by simp; omega
    clear hno hnm
    go_enter Try.func16, Try.ntmps16
    go_wp2_with fail
    have hb9 : Below w.heap.size w ((w.alloc (Obj.cells #[.string p.c, .slice p.aa n p.ca] 24)).alloc (Obj.cells #[.string q.c, .slice q.aa m q.ca] 24)) := (((Below.refl _ _).alloc (Nat.le_refl _) _).alloc (by simp) _)
    have hx90 : Bx ((w.alloc (Obj.cells #[.string p.c, .slice p.aa n p.ca] 24)).alloc (Obj.cells #[.string q.c, .slice q.aa m q.ca] 24)) (w.heap.size) 24 [.string p.c, .slice p.aa n p.ca] := by
      have h := ((Bx.new w 24 [.string p.c, .slice p.aa n p.ca] _ rfl).alloc (Obj.cells #[.string q.c, .slice q.aa m q.ca] 24))
      exact h
    have hx91 : Bx ((w.alloc (Obj.cells #[.string p.c, .slice p.aa n p.ca] 24)).alloc (Obj.cells #[.string q.c, .slice q.aa m q.ca] 24)) (w.heap.size + 1) 24 [.string q.c, .slice q.aa m q.ca] := by
      have h := (Bx.new (w.alloc (Obj.cells #[.string p.c, .slice p.aa n p.ca] 24)) 24 [.string q.c, .slice q.aa m q.ca] _ rfl)
      rw [World.size_alloc] at h
      exact h
    have hz9 : ((w.alloc (Obj.cells #[.string p.c, .slice p.aa n p.ca] 24)).alloc (Obj.cells #[.string q.c, .slice q.aa m q.ca] 24)).heap.size = w.heap.size + 2 := by simp
    obtain ⟨w1, hq1⟩ : ∃ W9 : World, ((w.alloc (Obj.cells #[.string p.c, .slice p.aa n p.ca] 24)).alloc (Obj.cells #[.string q.c, .slice q.aa m q.ca] 24)) = W9 := ⟨_, rfl⟩
    rw [hq1] at hb9 hz9 hx90 hx91
    rw [hq1]
    clear hq1
    have HB := Lib.hid hb9
    have Hs1 := Lib.hid hz9
    have Hbp := Lib.hid hx90
    have Hbq := Lib.hid hx91
    clear hb9 hz9 hx90 hx91
    have bp_0 := Hbp.out.cell (i := 0) rfl
    have bp_1 := Hbp.out.cell (i := 1) rfl
    have bq_0 := Hbq.out.cell (i := 0) rfl
    have bq_1 := Hbq.out.cell (i := 1) rfl
    go_wp2_with fail
    refine (refKind_some k h1 h3 w1).mono ?_
    rintro e w2 ⟨aq, cq, ap, cp, rfl, hq9, hp9, hb9⟩
    clear bp_0 bp_1
    replace Hbp := Lib.hid (Hbp.out.up hb9)
    clear bq_0 bq_1
    replace Hbq := Lib.hid (Hbq.out.up hb9)
    replace HB := Lib.hid (below_up HB.out hb9)
    have Hs2 := Lib.hid (show w1.heap.size ≤ w2.heap.size from hb9.size)
    have HRG := Lib.hid (RG.mk (G := grp k) hq9 hp9)
    clear hq9 hp9
    clear hb9
    have bp_0 := Hbp.out.cell (i := 0) rfl
    have bp_1 := Hbp.out.cell (i := 1) rfl
    have bq_0 := Hbq.out.cell (i := 0) rfl
    have bq_1 := Hbq.out.cell (i := 1) rfl
    have HK := Lib.hid (Below.refl w2.heap.size w2)
    have o3_bp_0 := bp_0; clear bp_0
    have o3_bp_1 := bp_1; clear bp_1
    have o3_bq_0 := bq_0; clear bq_0
    have o3_bq_1 := bq_1; clear bq_1
    have hb9 : Below w2.heap.size w2 (w2.alloc (Obj.cells #[.int .i64 ((grp k).size : Int), .slice aq (dl (grp k).q.m) cq, .slice ap (dl (grp k).p.m) cp] 98)) := ((Below.refl _ _).alloc (Nat.le_refl _) _)
    have hx90 : Bx (w2.alloc (Obj.cells #[.int .i64 ((grp k).size : Int), .slice aq (dl (grp k).q.m) cq, .slice ap (dl (grp k).p.m) cp] 98)) (w2.heap.size) 98 [.int .i64 ((grp k).size : Int), .slice aq (dl (grp k).q.m) cq, .slice ap (dl (grp k).p.m) cp] := by
      have h := (Bx.new w2 98 [.int .i64 ((grp k).size : Int), .slice aq (dl (grp k).q.m) cq, .slice ap (dl (grp k).p.m) cp] _ rfl)
      exact h
    have hz9 : (w2.alloc (Obj.cells #[.int .i64 ((grp k).size : Int), .slice aq (dl (grp k).q.m) cq, .slice ap (dl (grp k).p.m) cp] 98)).heap.size = w2.heap.size + 1 := by simp
    obtain ⟨w3, hq3⟩ : ∃ W9 : World, (w2.alloc (Obj.cells #[.int .i64 ((grp k).size : Int), .slice aq (dl (grp k).q.m) cq, .slice ap (dl (grp k).p.m) cp] 98)) = W9 := ⟨_, rfl⟩
    rw [hq3] at hb9 hz9 hx90
    replace Hbp := Lib.hid (Hbp.out.up hb9)
    replace Hbq := Lib.hid (Hbq.out.up hb9)
    replace HK := Lib.hid (below_up HK.out hb9)
    replace HB := Lib.hid (below_up HB.out hb9)
    have Hs3 := Lib.hid hz9
    have Hbg := Lib.hid hx90
    clear hb9 hz9 hx90
    have bp_0 := Hbp.out.cell (i := 0) rfl
    have bp_1 := Hbp.out.cell (i := 1) rfl
    have bq_0 := Hbq.out.cell (i := 0) rfl
    have bq_1 := Hbq.out.cell (i := 1) rfl
    have bg_0 := Hbg.out.cell (i := 0) rfl
    have bg_1 := Hbg.out.cell (i := 1) rfl
    have bg_2 := Hbg.out.cell (i := 2) rfl
    go_wp2_with fail
    clear hq3 o3_bq_1 o3_bq_0 o3_bp_1 o3_bp_0
    go_ret2
    exact extR_none 2 HB.out
  · have hd1 : ((n : Int) != (m : Int)) = true := by simp; omega
    clear hno hnm
    go_enter Try.func16, Try.ntmps16
    go_wp2_with fail
    have hb9 : Below w.heap.size w ((w.alloc (Obj.cells #[.string p.c, .slice p.aa n p.ca] 24)).alloc (Obj.cells #[.string q.c, .slice q.aa m q.ca] 24)) := (((Below.refl _ _).alloc (Nat.le_refl _) _).alloc (by simp) _)
    have hx90 : Bx ((w.alloc (Obj.cells #[.string p.c, .slice p.aa n p.ca] 24)).alloc (Obj.cells #[.string q.c, .slice q.aa m q.ca] 24)) (w.heap.size) 24 [.string p.c, .slice p.aa n p.ca] := by
      have h := ((Bx.new w 24 [.string p.c, .slice p.aa n p.ca] _ rfl).alloc (Obj.cells #[.string q.c, .slice q.aa m q.ca] 24))
      exact h
    have hx91 : Bx ((w.alloc (Obj.cells #[.string p.c, .slice p.aa n p.ca] 24)).alloc (Obj.cells #[.string q.c, .slice q.aa m q.ca] 24)) (w.heap.size + 1) 24 [.string q.c, .slice q.aa m q.ca] := by
      have h := (Bx.new (w.alloc (Obj.cells #[.string p.c, .slice p.aa n p.ca] 24)) 24 [.string q.c, .slice q.aa m q.ca] _ rfl)
      rw [World.size_alloc] at h
      exact h
    have hz9 : ((w.alloc (Obj.cells #[.string p.c, .slice p.aa n p.ca] 24)).alloc (Obj.cells #[.string q.c, .slice q.aa m q.ca] 24)).heap.size = w.heap.size + 2 := by simp
    obtain ⟨w1, hq1⟩ : ∃ W9 : World, ((w.alloc (Obj.cells #[.string p.c, .slice p.aa n p.ca] 24)).alloc (Obj.cells #[.string q.c, .slice q.aa m q.ca] 24)) = W9 := ⟨_, rfl⟩
    rw [hq1] at hb9 hz9 hx90 hx91
    rw [hq1]
    clear hq1
    have HB := Lib.hid hb9
    have Hs1 := Lib.hid hz9
    have Hbp := Lib.hid hx90
    have Hbq := Lib.hid hx91
    clear hb9 hz9 hx90 hx91
    have bp_0 := Hbp.out.cell (i := 0) rfl
    have bp_1 := Hbp.out.cell (i := 1) rfl
    have bq_0 := Hbq.out.cell (i := 0) rfl
    have bq_1 := Hbq.out.cell (i := 1) rfl
    go_wp2_with fail
    refine (refKind_some k h1 h3 w1).mono ?_
    rintro e w2 ⟨aq, cq, ap, cp, rfl, hq9, hp9, hb9⟩
    clear bp_0 bp_1
    replace Hbp := Lib.hid (Hbp.out.up hb9)
    clear bq_0 bq_1
    replace Hbq := Lib.hid (Hbq.out.up hb9)
    replace HB := Lib.hid (below_up HB.out hb9)
    have Hs2 := Lib.hid (show w1.heap.size ≤ w2.heap.size from hb9.size)
    have HRG := Lib.hid (RG.mk (G := grp k) hq9 hp9)
    clear hq9 hp9
    clear hb9
    have bp_0 := Hbp.out.cell (i := 0) rfl
    have bp_1 := Hbp.out.cell (i := 1) rfl
    have bq_0 := Hbq.out.cell (i := 0) rfl
    have bq_1 := Hbq.out.cell (i := 1) rfl
    have HK := Lib.hid (Below.refl w2.heap.size w2)
    have o3_bp_0 := bp_0; clear bp_0
    have o3_bp_1 := bp_1; clear bp_1
    have o3_bq_0 := bq_0; clear bq_0
    have o3_bq_1 := bq_1; clear bq_1
    have hb9 : Below w2.heap.size w2 (w2.alloc (Obj.cells #[.int .i64 ((grp k).size : Int), .slice aq (dl (grp k).q.m) cq, .slice ap (dl (grp k).p.m) cp] 98)) := ((Below.refl _ _).alloc (Nat.le_refl _) _)
    have hx90 : Bx (w2.alloc (Obj.cells #[.int .i64 ((grp k).size : Int), .slice aq (dl (grp k).q.m) cq, .slice ap (dl (grp k).p.m) cp] 98)) (w2.heap.size) 98 [.int .i64 ((grp k).size : Int), .slice aq (dl (grp k).q.m) cq, .slice ap (dl (grp k).p.m) cp] := by
      have h := (Bx.new w2 98 [.int .i64 ((grp k).size : Int), .slice aq (dl (grp k).q.m) cq, .slice ap (dl (grp k).p.m) cp] _ rfl)
      exact h
    have hz9 : (w2.alloc (Obj.cells #[.int .i64 ((grp k).size : Int), .slice aq (dl (grp k).q.m) cq, .slice ap (dl (grp k).p.m) cp] 98)).heap.size = w2.heap.size + 1 := by simp
    obtain ⟨w3, hq3⟩ : ∃ W9 : World, (w2.alloc (Obj.cells #[.int .i64 ((grp k).size : Int), .slice aq (dl (grp k).q.m) cq, .slice ap (dl (grp k).p.m) cp] 98)) = W9 := ⟨_, rfl⟩
    rw [hq3] at hb9 hz9 hx90
    replace Hbp := Lib.hid (Hbp.out.up hb9)
    replace Hbq := Lib.hid (Hbq.out.up hb9)
    replace HK := Lib.hid (below_up HK.out hb9)
    replace HB := Lib.hid (below_up HB.out hb9)
    have Hs3 := Lib.hid hz9
    have Hbg := Lib.hid hx90
    clear hb9 hz9 hx90
    have bp_0 := Hbp.out.cell (i := 0) rfl
    have bp_1 := Hbp.out.cell (i := 1) rfl
    have bq_0 := Hbq.out.cell (i := 0) rfl
    have bq_1 := Hbq.out.cell (i := 1) rfl
    have bg_0 := Hbg.out.cell (i := 0) rfl
    have bg_1 := Hbg.out.cell (i := 1) rfl
    have bg_2 := Hbg.out.cell (i := 2) rfl
    go_wp2_with fail
    clear hq3 o3_bq_1 o3_bq_0 o3_bp_1 o3_bp_0
    go_ret2
    exact extR_none 2 HB.out

set_option maxRecDepth 100000 in
set_option maxHeartbeats 4000000 in
theorem rext_body (k : Nat) (h1 : 1 ≤ k) (h3 : k ≤ 3) (c d : ByteArray) (l m : List ByteArray) (n : Nat) (hl : l.length = n) (hm : m.length = n) (hn0 : n ≠ 0) (hn : n ≤ 8796093022206) (aa ab : Option Addr) (ca cb : Nat) (bl bm bc bd : Bool) (hbl : l.all (isSc (grp k).q.m (grp k).size) = bl) (hbm : m.all (isSc (grp k).q.m (grp k).size) = bm) (hbc : isSc (grp k).q.m (grp k).size c = bc) (hbd : isSc (grp k).q.m (grp k).size d = bd)
    (er : Int) (L : List ByteArray) (hr6 : ((bc && bl) && (bd && bm)) = false → er = 6 ∧ L = []) (hr9 : ((bc && bl) && (bd && bm)) = true → c = d → er = 9 ∧ L = []) (hr0 : ((bc && bl) && (bd && bm)) = true → c ≠ d → er = 0 ∧ L = List.zipWith (exF (grp k) (exI (grp k) c d)) l m)
    (w : World) (hA : Sl w w.heap.size aa (l.map Value.string)) (hB : Sl w w.heap.size ab (m.map Value.string)) :
    Calls Try.prog 16 #[.int .i64 (k : Int), .agg #[.string c, .slice aa n ca], .agg #[.string d, .slice ab n cb]] w (ExtR er L w) := by
  have OK := Lib.hid (grp_ok k h1 h3)
  have HA := Lib.hid hA
  have HBB := Lib.hid hB
  have HL := Lib.hid hl
  have HM := Lib.hid hm
  have HBL := Lib.hid hbl
  have HBM := Lib.hid hbm
  have HBC := Lib.hid hbc
  have HBD := Lib.hid hbd
  have HR6 := Lib.hid hr6
  have HR9 := Lib.hid hr9
  have HR0 := Lib.hid hr0
  have hd1 : ((n : Int) != (n : Int)) = false := by simp
  have hd2 : ((n : Int) == 0) = false := by simp; omega
  have hs0 := size_n0 k h1 h3
  have H2 := Lib.hid (grp_prime_q k h1 h3).1
  clear hA hB hl hm hbl hbm hbc hbd hr6 hr9 hr0
  go_enter Try.func16, Try.ntmps16
  go_wp2_with fail
  have hb9 : Below w.heap.size w ((w.alloc (Obj.cells #[.string c, .slice aa n ca] 24)).alloc (Obj.cells #[.string d, .slice ab n cb] 24)) := (((Below.refl _ _).alloc (Nat.le_refl _) _).alloc (by simp) _)
  have hx90 : Bx ((w.alloc (Obj.cells #[.string c, .slice aa n ca] 24)).alloc (Obj.cells #[.string d, .slice ab n cb] 24)) (w.heap.size) 24 [.string c, .slice aa n ca] := by
    have h := ((Bx.new w 24 [.string c, .slice aa n ca] _ rfl).alloc (Obj.cells #[.string d, .slice ab n cb] 24))
    exact h
  have hx91 : Bx ((w.alloc (Obj.cells #[.string c, .slice aa n ca] 24)).alloc (Obj.cells #[.string d, .slice ab n cb] 24)) (w.heap.size + 1) 24 [.string d, .slice ab n cb] := by
    have h := (Bx.new (w.alloc (Obj.cells #[.string c, .slice aa n ca] 24)) 24 [.string d, .slice ab n cb] _ rfl)
    rw [World.size_alloc] at h
    exact h
  have hz9 : ((w.alloc (Obj.cells #[.string c, .slice aa n ca] 24)).alloc (Obj.cells #[.string d, .slice ab n cb] 24)).heap.size = w.heap.size + 2 := by simp
  obtain ⟨w1, hq1⟩ : ∃ W9 : World, ((w.alloc (Obj.cells #[.string c, .slice aa n ca] 24)).alloc (Obj.cells #[.string d, .slice ab n cb] 24)) = W9 := ⟨_, rfl⟩
  rw [hq1] at hb9 hz9 hx90 hx91
  rw [hq1]
  clear hq1
  have HB := Lib.hid hb9
  have Hs1 := Lib.hid hz9
  have Hbp := Lib.hid hx90
  have Hbq := Lib.hid hx91
  clear hb9 hz9 hx90 hx91
  have bp_0 := Hbp.out.cell (i := 0) rfl
  have bp_1 := Hbp.out.cell (i := 1) rfl
  have bq_0 := Hbq.out.cell (i := 0) rfl
  have bq_1 := Hbq.out.cell (i := 1) rfl
  go_wp2_with fail
  refine (refKind_some k h1 h3 w1).mono ?_
  rintro e w2 ⟨aq, cq, ap, cp, rfl, hq9, hp9, hb9⟩
  clear bp_0 bp_1
  replace Hbp := Lib.hid (Hbp.out.up hb9)
  clear bq_0 bq_1
  replace Hbq := Lib.hid (Hbq.out.up hb9)
  replace HB := Lib.hid (below_up HB.out hb9)
  have Hs2 := Lib.hid (show w1.heap.size ≤ w2.heap.size from hb9.size)
  have HRG := Lib.hid (RG.mk (G := grp k) hq9 hp9)
  clear hq9 hp9
  clear hb9
  have bp_0 := Hbp.out.cell (i := 0) rfl
  have bp_1 := Hbp.out.cell (i := 1) rfl
  have bq_0 := Hbq.out.cell (i := 0) rfl
  have bq_1 := Hbq.out.cell (i := 1) rfl
  have HK := Lib.hid (Below.refl w2.heap.size w2)
  have o3_bp_0 := bp_0; clear bp_0
  have o3_bp_1 := bp_1; clear bp_1
  have o3_bq_0 := bq_0; clear bq_0
  have o3_bq_1 := bq_1; clear bq_1
  have hb9 : Below w2.heap.size w2 (w2.alloc (Obj.cells #[.int .i64 ((grp k).size : Int), .slice aq (dl (grp k).q.m) cq, .slice ap (dl (grp k).p.m) cp] 98)) := ((Below.refl _ _).alloc (Nat.le_refl _) _)
  have hx90 : Bx (w2.alloc (Obj.cells #[.int .i64 ((grp k).size : Int), .slice aq (dl (grp k).q.m) cq, .slice ap (dl (grp k).p.m) cp] 98)) (w2.heap.size) 98 [.int .i64 ((grp k).size : Int), .slice aq (dl (grp k).q.m) cq, .slice ap (dl (grp k).p.m) cp] := by
    have h := (Bx.new w2 98 [.int .i64 ((grp k).size : Int), .slice aq (dl (grp k).q.m) cq, .slice ap (dl (grp k).p.m) cp] _ rfl)
    exact h
  have hz9 : (w2.alloc (Obj.cells #[.int .i64 ((grp k).size : Int), .slice aq (dl (grp k).q.m) cq, .slice ap (dl (grp k).p.m) cp] 98)).heap.size = w2.heap.size + 1 := by simp
  obtain ⟨w3, hq3⟩ : ∃ W9 : World, (w2.alloc (Obj.cells #[.int .i64 ((grp k).size : Int), .slice aq (dl (grp k).q.m) cq, .slice ap (dl (grp k).p.m) cp] 98)) = W9 := ⟨_, rfl⟩
  rw [hq3] at hb9 hz9 hx90
  replace Hbp := Lib.hid (Hbp.out.up hb9)
  replace Hbq := Lib.hid (Hbq.out.up hb9)
  replace HK := Lib.hid (below_up HK.out hb9)
  replace HB := Lib.hid (below_up HB.out hb9)
  have Hs3 := Lib.hid hz9
  have Hbg := Lib.hid hx90
  clear hb9 hz9 hx90
  have bp_0 := Hbp.out.cell (i := 0) rfl
  have bp_1 := Hbp.out.cell (i := 1) rfl
  have bq_0 := Hbq.out.cell (i := 0) rfl
  have bq_1 := Hbq.out.cell (i := 1) rfl
  have bg_0 := Hbg.out.cell (i := 0) rfl
  have bg_1 := Hbg.out.cell (i := 1) rfl
  have bg_2 := Hbg.out.cell (i := 2) rfl
  go_wp2_with fail
  clear hq3 o3_bq_1 o3_bq_0 o3_bp_1 o3_bp_0
  cases bl
  case false =>
    refine (rWrongSc_f OK.out n l aa ca HL.out (by omega) HBL.out w3 (HRG.out.up HK.out) (HA.out.up HB.out)).mono ?_
    rintro e w4 ⟨rfl, hb9⟩
    clear bp_0 bp_1
    replace Hbp := Lib.hid (Hbp.out.up hb9)
    clear bq_0 bq_1
    replace Hbq := Lib.hid (Hbq.out.up hb9)
    clear bg_0 bg_1 bg_2
    replace Hbg := Lib.hid (Hbg.out.up hb9)
    replace HK := Lib.hid (below_up HK.out hb9)
    replace HB := Lib.hid (below_up HB.out hb9)
    have Hs4 := Lib.hid (show w3.heap.size ≤ w4.heap.size from hb9.size)
    clear hb9
    have bp_0 := Hbp.out.cell (i := 0) rfl
    have bp_1 := Hbp.out.cell (i := 1) rfl
    have bq_0 := Hbq.out.cell (i := 0) rfl
    have bq_1 := Hbq.out.cell (i := 1) rfl
    have bg_0 := Hbg.out.cell (i := 0) rfl
    have bg_1 := Hbg.out.cell (i := 1) rfl
    have bg_2 := Hbg.out.cell (i := 2) rfl
    obtain ⟨rfl, rfl⟩ := HR6.out (by simp)
    go_wp2_with fail
    go_ret2
    exact extR_none 6 HB.out
  refine (rWrongSc_t OK.out n l aa ca HL.out (by omega) HBL.out w3 (HRG.out.up HK.out) (HA.out.up HB.out)).mono ?_
  rintro e w4 ⟨rfl, hb9⟩
  clear bp_0 bp_1
  replace Hbp := Lib.hid (Hbp.out.up hb9)
  clear bq_0 bq_1
  replace Hbq := Lib.hid (Hbq.out.up hb9)
  clear bg_0 bg_1 bg_2
  replace Hbg := Lib.hid (Hbg.out.up hb9)
  replace HK := Lib.hid (below_up HK.out hb9)
  replace HB := Lib.hid (below_up HB.out hb9)
  have Hs4 := Lib.hid (show w3.heap.size ≤ w4.heap.size from hb9.size)
  clear hb9
  have bp_0 := Hbp.out.cell (i := 0) rfl
  have bp_1 := Hbp.out.cell (i := 1) rfl
  have bq_0 := Hbq.out.cell (i := 0) rfl
  have bq_1 := Hbq.out.cell (i := 1) rfl
  have bg_0 := Hbg.out.cell (i := 0) rfl
  have bg_1 := Hbg.out.cell (i := 1) rfl
  have bg_2 := Hbg.out.cell (i := 2) rfl
  go_wp2_with fail
  cases bm
  case false =>
    refine (rWrongSc_f OK.out n m ab cb HM.out (by omega) HBM.out w4 (HRG.out.up HK.out) (HBB.out.up HB.out)).mono ?_
    rintro e w5 ⟨rfl, hb9⟩
    clear bp_0 bp_1
    replace Hbp := Lib.hid (Hbp.out.up hb9)
    clear bq_0 bq_1
    replace Hbq := Lib.hid (Hbq.out.up hb9)
    clear bg_0 bg_1 bg_2
    replace Hbg := Lib.hid (Hbg.out.up hb9)
    replace HK := Lib.hid (below_up HK.out hb9)
    replace HB := Lib.hid (below_up HB.out hb9)
    have Hs5 := Lib.hid (show w4.heap.size ≤ w5.heap.size from hb9.size)
    clear hb9
    have bp_0 := Hbp.out.cell (i := 0) rfl
    have bp_1 := Hbp.out.cell (i := 1) rfl
    have bq_0 := Hbq.out.cell (i := 0) rfl
    have bq_1 := Hbq.out.cell (i := 1) rfl
    have bg_0 := Hbg.out.cell (i := 0) rfl
    have bg_1 := Hbg.out.cell (i := 1) rfl
    have bg_2 := Hbg.out.cell (i := 2) rfl
    obtain ⟨rfl, rfl⟩ := HR6.out (by simp)
    go_wp2_with fail
    go_ret2
    exact extR_none 6 HB.out
  refine (rWrongSc_t OK.out n m ab cb HM.out (by omega) HBM.out w4 (HRG.out.up HK.out) (HBB.out.up HB.out)).mono ?_
  rintro e w5 ⟨rfl, hb9⟩
  clear bp_0 bp_1
  replace Hbp := Lib.hid (Hbp.out.up hb9)
  clear bq_0 bq_1
  replace Hbq := Lib.hid (Hbq.out.up hb9)
  clear bg_0 bg_1 bg_2
  replace Hbg := Lib.hid (Hbg.out.up hb9)
  replace HK := Lib.hid (below_up HK.out hb9)
  replace HB := Lib.hid (below_up HB.out hb9)
  have Hs5 := Lib.hid (show w4.heap.size ≤ w5.heap.size from hb9.size)
  clear hb9
  have bp_0 := Hbp.out.cell (i := 0) rfl
  have bp_1 := Hbp.out.cell (i := 1) rfl
  have bq_0 := Hbq.out.cell (i := 0) rfl
  have bq_1 := Hbq.out.cell (i := 1) rfl
  have bg_0 := Hbg.out.cell (i := 0) rfl
  have bg_1 := Hbg.out.cell (i := 1) rfl
  have bg_2 := Hbg.out.cell (i := 2) rfl
  go_wp2_with fail
  refine (rIsSc_b OK.out c bc HBC.out w5 (HRG.out.up HK.out)).mono ?_
  rintro e w6 ⟨rfl, hb9⟩
  clear bp_0 bp_1
  replace Hbp := Lib.hid (Hbp.out.up hb9)
  clear bq_0 bq_1
  replace Hbq := Lib.hid (Hbq.out.up hb9)
  clear bg_0 bg_1 bg_2
  replace Hbg := Lib.hid (Hbg.out.up hb9)
  replace HK := Lib.hid (below_up HK.out hb9)
  replace HB := Lib.hid (below_up HB.out hb9)
  have Hs6 := Lib.hid (show w5.heap.size ≤ w6.heap.size from hb9.size)
  clear hb9
  have bp_0 := Hbp.out.cell (i := 0) rfl
  have bp_1 := Hbp.out.cell (i := 1) rfl
  have bq_0 := Hbq.out.cell (i := 0) rfl
  have bq_1 := Hbq.out.cell (i := 1) rfl
  have bg_0 := Hbg.out.cell (i := 0) rfl
  have bg_1 := Hbg.out.cell (i := 1) rfl
  have bg_2 := Hbg.out.cell (i := 2) rfl
  cases bc
  case false =>
    obtain ⟨rfl, rfl⟩ := HR6.out (by simp)
    go_wp2_with fail
    go_ret2
    exact extR_none 6 HB.out
  go_wp2_with fail
  refine (rIsSc_b OK.out d bd HBD.out w6 (HRG.out.up HK.out)).mono ?_
  rintro e w7 ⟨rfl, hb9⟩
  clear bp_0 bp_1
  replace Hbp := Lib.hid (Hbp.out.up hb9)
  clear bq_0 bq_1
  replace Hbq := Lib.hid (Hbq.out.up hb9)
  clear bg_0 bg_1 bg_2
  replace Hbg := Lib.hid (Hbg.out.up hb9)
  replace HK := Lib.hid (below_up HK.out hb9)
  replace HB := Lib.hid (below_up HB.out hb9)
  have Hs7 := Lib.hid (show w6.heap.size ≤ w7.heap.size from hb9.size)
  clear hb9
  have bp_0 := Hbp.out.cell (i := 0) rfl
  have bp_1 := Hbp.out.cell (i := 1) rfl
  have bq_0 := Hbq.out.cell (i := 0) rfl
  have bq_1 := Hbq.out.cell (i := 1) rfl
  have bg_0 := Hbg.out.cell (i := 0) rfl
  have bg_1 := Hbg.out.cell (i := 1) rfl
  have bg_2 := Hbg.out.cell (i := 2) rfl
  cases bd
  case false =>
    obtain ⟨rfl, rfl⟩ := HR6.out (by simp)
    go_wp2_with fail
    go_ret2
    exact extR_none 6 HB.out
  by_cases hcd : c = d
  case pos =>
    obtain ⟨rfl, rfl⟩ := HR9.out (by simp) hcd
    subst hcd
    go_wp2_with fail
    go_ret2
    exact extR_none 9 HB.out
  obtain ⟨rfl, rfl⟩ := HR0.out (by simp) hcd
  clear HR0 HR6 HR9
  have hcd2 := toList_bne hcd
  clear hcd
  have HSC := Lib.hid (sc_len OK.out HBC.out)
  have HSD := Lib.hid (sc_len OK.out HBD.out)
  have HLE := Lib.hid (isSc_le HBD.out)
  have HML := Lib.hid (fun s (hs : s ∈ m) => isSc_le (List.all_eq_true.1 HBM.out s hs))
  have HLS := Lib.hid (fun s (hs : s ∈ l) => sc_len OK.out (List.all_eq_true.1 HBL.out s hs))
  have HMS := Lib.hid (fun s (hs : s ∈ m) => sc_len OK.out (List.all_eq_true.1 HBM.out s hs))
  go_upto_region 11 with fail
  have HT := Lib.hid (show Below w7.heap.size w7 w7.drew from (Below.refl _ _).drew)
  have hl_bp := Hbp.out.lt
  have hl_bq := Hbq.out.lt
  have hl_bg := Hbg.out.lt
  refine wp_region_tree (fun wq9 => ∃ E : Over w7, wq9 = E.w) ((.qs [0, 1, 2, 3, 5, 6] (.a 4 (.a 7 (.a 8 (.a 9 (.qs [10] .done))))))) (by kernel_rfl) (by kernel_rfl) (fun _ _ d _ _ h => by cases d <;> exact h) ⟨⟨_, HT.out⟩, rfl⟩ ?_
  have hov_bp := fun (E : Over w7) o => E.cell (b := w.heap.size) o hl_bp
  have hov_bq := fun (E : Over w7) o => E.cell (b := w.heap.size + 1) o hl_bq
  have hov_bg := fun (E : Over w7) o => E.cell (b := w2.heap.size) o hl_bg
  simp only [Tree.qs]
  repeat (refine tree_q rfl rfl ?_; go_big_quiet_step (fail); refine wpQuiet_nil ?_)
  refine tree_a rfl (fun K hK => ?_)
  go_simp
  refine (refRead_any c (Nat.le_trans HSC.out (by decide)) _).mono ?_
  rintro e w8 ⟨a1, c1, rfl, hn9, hb9⟩
  replace HT := Lib.hid (below_up HT.out hb9)
  have Hs8 := Lib.hid (show w7.heap.size ≤ w8.heap.size from HT.out.size)
  clear hb9
  have HN1 := Lib.hid hn9
  clear hn9
  refine hK _ _ ⟨⟨⟨w8, HT.out⟩, rfl⟩, ?_⟩
  clear hK K
  repeat (refine tree_q rfl rfl ?_; go_big_quiet_step (fail); refine wpQuiet_nil ?_)
  refine tree_a rfl (fun K hK => ?_)
  go_simp
  refine (refRead_any d (Nat.le_trans HSD.out (by decide)) _).mono ?_
  rintro e w9 ⟨a2, c2, rfl, hn9, hb9⟩
  replace HN1 := Lib.hid (HN1.out.up hb9)
  replace HT := Lib.hid (below_up HT.out hb9)
  have Hs9 := Lib.hid (show w7.heap.size ≤ w9.heap.size from HT.out.size)
  clear hb9
  have HN2 := Lib.hid hn9
  clear hn9
  refine hK _ _ ⟨⟨⟨w9, HT.out⟩, rfl⟩, ?_⟩
  clear hK K
  repeat (refine tree_q rfl rfl ?_; go_big_quiet_step (fail); refine wpQuiet_nil ?_)
  refine tree_a rfl (fun K hK => ?_)
  go_simp
  refine (rSubQ OK.out (numOf_16 c HSC.out) HLE.out _ (HRG.out.up (below_up HK.out HT.out)) HN1.out HN2.out).mono ?_
  rintro e w10 ⟨a3, c3, rfl, hn9, hb9⟩
  replace HN1 := Lib.hid (HN1.out.up hb9)
  replace HN2 := Lib.hid (HN2.out.up hb9)
  replace HT := Lib.hid (below_up HT.out hb9)
  have Hs10 := Lib.hid (show w7.heap.size ≤ w10.heap.size from HT.out.size)
  clear hb9
  have HN3 := Lib.hid hn9
  clear hn9
  refine hK _ _ ⟨⟨⟨w10, HT.out⟩, rfl⟩, ?_⟩
  clear hK K
  repeat (refine tree_q rfl rfl ?_; go_big_quiet_step (fail); refine wpQuiet_nil ?_)
  refine tree_a rfl (fun K hK => ?_)
  go_simp
  refine (rInvQ OK.out H2.out (q_16 OK.out (subQ_lt OK.out _ _)) _ (HRG.out.up (below_up HK.out HT.out)) HN3.out).mono ?_
  rintro e w11 ⟨a4, c4, rfl, hn9, hb9⟩
  replace HN1 := Lib.hid (HN1.out.up hb9)
  replace HN2 := Lib.hid (HN2.out.up hb9)
  replace HN3 := Lib.hid (HN3.out.up hb9)
  replace HT := Lib.hid (below_up HT.out hb9)
  have Hs11 := Lib.hid (show w7.heap.size ≤ w11.heap.size from HT.out.size)
  clear hb9
  have HN4 := Lib.hid hn9
  clear hn9
  refine hK _ _ ⟨⟨⟨w11, HT.out⟩, rfl⟩, ?_⟩
  clear hK K
  repeat (refine tree_q rfl rfl ?_; go_big_quiet_step (fail); refine wpQuiet_nil ?_)
  refine tree_end ?_
  clear hov_bp hl_bp hov_bq hl_bq hov_bg hl_bg
  clear bp_0 bp_1
  replace Hbp := Lib.hid (Hbp.out.up HT.out)
  clear bq_0 bq_1
  replace Hbq := Lib.hid (Hbq.out.up HT.out)
  clear bg_0 bg_1 bg_2
  replace Hbg := Lib.hid (Hbg.out.up HT.out)
  replace HK := Lib.hid (below_up HK.out HT.out)
  replace HB := Lib.hid (below_up HB.out HT.out)
  have Hs11' := Lib.hid (show w7.heap.size ≤ w11.heap.size from HT.out.size)
  clear HT
  have bp_0 := Hbp.out.cell (i := 0) rfl
  have bp_1 := Hbp.out.cell (i := 1) rfl
  have bq_0 := Hbq.out.cell (i := 0) rfl
  have bq_1 := Hbq.out.cell (i := 1) rfl
  have bg_0 := Hbg.out.cell (i := 0) rfl
  have bg_1 := Hbg.out.cell (i := 1) rfl
  have bg_2 := Hbg.out.cell (i := 2) rfl
  have BL := Lib.hid (Below.refl w11.heap.size w11)
  have HN := Lib.hid HN4.out
  clear HN4
  go_wp2_with fail
  go_loopw [12, 11] (fun i v wr => ∃ (j : Nat) (g : Option Addr) (c9 : Nat), j ≤ n ∧ i = .int .i64 j ∧ v = .slice g j c9 ∧ Hid (Below w11.heap.size w11 wr) ∧ Hid (RowO w11.heap.size wr 9 1 (.slice g j c9) j (((List.zipWith (exF (grp k) (exI (grp k) c d)) l m).take j).map Value.string))) (fun i _ _ => n - (intOf i).toNat)
  case atStart => exact ⟨0, none, 0, Nat.zero_le _, rfl, rfl, BL, RowO.nil⟩
  case round =>
    obtain ⟨j, g, c9, hj, rfl, rfl, HL9, Hr⟩ := hrel
    have hb9 := HL9.out
    clear HL9
    clear bp_0 bp_1
    replace Hbp := Lib.hid (Hbp.out.up hb9)
    clear bq_0 bq_1
    replace Hbq := Lib.hid (Hbq.out.up hb9)
    clear bg_0 bg_1 bg_2
    replace Hbg := Lib.hid (Hbg.out.up hb9)
    replace HN1 := Lib.hid (HN1.out.up hb9)
    replace HN2 := Lib.hid (HN2.out.up hb9)
    replace HN3 := Lib.hid (HN3.out.up hb9)
    replace HK := Lib.hid (below_up HK.out hb9)
    replace BL := Lib.hid (below_up BL.out hb9)
    replace HB := Lib.hid (below_up HB.out hb9)
    have Hs11'' := Lib.hid (show w11.heap.size ≤ wr.heap.size from hb9.size)
    clear hb9
    have bp_0 := Hbp.out.cell (i := 0) rfl
    have bp_1 := Hbp.out.cell (i := 1) rfl
    have bq_0 := Hbq.out.cell (i := 0) rfl
    have bq_1 := Hbq.out.cell (i := 1) rfl
    have bg_0 := Hbg.out.cell (i := 0) rfl
    have bg_1 := Hbg.out.cell (i := 1) rfl
    have bg_2 := Hbg.out.cell (i := 2) rfl
    by_cases hjn : j < n
    · have hjl : j < l.length := by rw [HL.out]; exact hjn
      have hjm : j < m.length := by rw [HM.out]; exact hjn
      obtain ⟨bx, ox, rfl, hbx0, hbx, hcx⟩ := HA.out.atUp HB.out j (by simpa using hjl)
      obtain ⟨by_, oy, rfl, hby0, hby, hcy⟩ := HBB.out.atUp HB.out j (by simpa using hjm)
      have HBX0 := Lib.hid hbx0
      have HBY0 := Lib.hid hby0
      rw [List.getElem_map] at hcx hcy
      have HAS := Lib.hid (HLS.out l[j] (List.getElem_mem hjl))
      have HBS := Lib.hid (HMS.out m[j] (List.getElem_mem hjm))
      have HBN := Lib.hid (HML.out m[j] (List.getElem_mem hjm))
      have HSN := Lib.hid (zip_snoc (exF (grp k) (exI (grp k) c d)) l m j hjl hjm)
      generalize l[j] = a at *
      generalize m[j] = b at *
      go_wp2_with fail
      have HT := Lib.hid (show Below wr.heap.size wr wr.drew from (Below.refl _ _).drew)
      have hl_bp := Hbp.out.lt
      have hl_bq := Hbq.out.lt
      have hl_bg := Hbg.out.lt
      refine wp_region_tree (fun wq9 => ∃ E : But wr (Value.ownBlock (.slice g j c9)), wq9 = E.w) ((.qs [0, 1, 2, 3, 4, 5, 6, 7, 8, 10, 11, 12, 13, 14, 18, 19] (.a 9 (.a 15 (.a 16 (.a 17 (.a 20 (.a 21 (.a 22 (.qs [23] .done)))))))))) (by kernel_rfl) (by kernel_rfl) (fun _ _ d _ _ h => by cases d <;> exact h) ⟨⟨_, ((below_grown HT.out).but _)⟩, rfl⟩ ?_
      have hov_bp := fun (E : But wr (Value.ownBlock (.slice g j c9))) o => E.cell (b := w.heap.size) o hl_bp (by intro e9; have a1 := Hr.out.lt _ e9; have g0 := Hs1.out; have g1 := Hs2.out; have g2 := Hs3.out; have g3 := Hs4.out; have g4 := Hs5.out; have g5 := Hs6.out; have g6 := Hs7.out; have g7 := Hs8.out; have g8 := Hs9.out; have g9 := Hs10.out; have g10 := Hs11.out; have g11 := Hs11'.out; have g12 := Hs11''.out; have g13 := HBX0.out; have g14 := HBY0.out; omega)
      have hov_bq := fun (E : But wr (Value.ownBlock (.slice g j c9))) o => E.cell (b := w.heap.size + 1) o hl_bq (by intro e9; have a1 := Hr.out.lt _ e9; have g0 := Hs1.out; have g1 := Hs2.out; have g2 := Hs3.out; have g3 := Hs4.out; have g4 := Hs5.out; have g5 := Hs6.out; have g6 := Hs7.out; have g7 := Hs8.out; have g8 := Hs9.out; have g9 := Hs10.out; have g10 := Hs11.out; have g11 := Hs11'.out; have g12 := Hs11''.out; have g13 := HBX0.out; have g14 := HBY0.out; omega)
      have hov_bg := fun (E : But wr (Value.ownBlock (.slice g j c9))) o => E.cell (b := w2.heap.size) o hl_bg (by intro e9; have a1 := Hr.out.lt _ e9; have g0 := Hs1.out; have g1 := Hs2.out; have g2 := Hs3.out; have g3 := Hs4.out; have g4 := Hs5.out; have g5 := Hs6.out; have g6 := Hs7.out; have g7 := Hs8.out; have g8 := Hs9.out; have g9 := Hs10.out; have g10 := Hs11.out; have g11 := Hs11'.out; have g12 := Hs11''.out; have g13 := HBX0.out; have g14 := HBY0.out; omega)
      have hov_bx := fun (E : But wr (Value.ownBlock (.slice g j c9))) o => E.cell (b := bx) o hbx (by intro e9; have a1 := Hr.out.lt _ e9; have g0 := Hs1.out; have g1 := Hs2.out; have g2 := Hs3.out; have g3 := Hs4.out; have g4 := Hs5.out; have g5 := Hs6.out; have g6 := Hs7.out; have g7 := Hs8.out; have g8 := Hs9.out; have g9 := Hs10.out; have g10 := Hs11.out; have g11 := Hs11'.out; have g12 := Hs11''.out; have g13 := HBX0.out; have g14 := HBY0.out; omega)
      have hov_by_ := fun (E : But wr (Value.ownBlock (.slice g j c9))) o => E.cell (b := by_) o hby (by intro e9; have a1 := Hr.out.lt _ e9; have g0 := Hs1.out; have g1 := Hs2.out; have g2 := Hs3.out; have g3 := Hs4.out; have g4 := Hs5.out; have g5 := Hs6.out; have g6 := Hs7.out; have g7 := Hs8.out; have g8 := Hs9.out; have g9 := Hs10.out; have g10 := Hs11.out; have g11 := Hs11'.out; have g12 := Hs11''.out; have g13 := HBX0.out; have g14 := HBY0.out; omega)
      simp only [Tree.qs]
      repeat (refine tree_q rfl rfl ?_; go_big_quiet_step (fail); refine wpQuiet_nil ?_)
      refine tree_a rfl (fun K hK => ?_)
      go_simp
      refine (refRead_any a (Nat.le_trans HAS.out (by decide)) _).mono ?_
      rintro e w12 ⟨a5, c5, rfl, hn9, hb9⟩
      replace HT := Lib.hid (below_up HT.out hb9)
      have Hs12 := Lib.hid (show wr.heap.size ≤ w12.heap.size from HT.out.size)
      clear hb9
      have HN5 := Lib.hid hn9
      clear hn9
      refine hK _ _ ⟨⟨⟨w12, ((below_grown HT.out).but _)⟩, rfl⟩, ?_⟩
      clear hK K
      repeat (refine tree_q rfl rfl ?_; go_big_quiet_step (fail); refine wpQuiet_nil ?_)
      refine tree_a rfl (fun K hK => ?_)
      go_simp
      refine (refRead_any b (Nat.le_trans HBS.out (by decide)) _).mono ?_
      rintro e w13 ⟨a6, c6, rfl, hn9, hb9⟩
      replace HN5 := Lib.hid (HN5.out.up hb9)
      replace HT := Lib.hid (below_up HT.out hb9)
      have Hs13 := Lib.hid (show wr.heap.size ≤ w13.heap.size from HT.out.size)
      clear hb9
      have HN6 := Lib.hid hn9
      clear hn9
      refine hK _ _ ⟨⟨⟨w13, ((below_grown HT.out).but _)⟩, rfl⟩, ?_⟩
      clear hK K
      repeat (refine tree_q rfl rfl ?_; go_big_quiet_step (fail); refine wpQuiet_nil ?_)
      refine tree_a rfl (fun K hK => ?_)
      go_simp
      refine (rSubQ OK.out (numOf_16 a HAS.out) HBN.out _ (HRG.out.up (below_up HK.out HT.out)) HN5.out HN6.out).mono ?_
      rintro e w14 ⟨a7, c7, rfl, hn9, hb9⟩
      replace HN5 := Lib.hid (HN5.out.up hb9)
      replace HN6 := Lib.hid (HN6.out.up hb9)
      replace HT := Lib.hid (below_up HT.out hb9)
      have Hs14 := Lib.hid (show wr.heap.size ≤ w14.heap.size from HT.out.size)
      clear hb9
      have HN7 := Lib.hid hn9
      clear hn9
      refine hK _ _ ⟨⟨⟨w14, ((below_grown HT.out).but _)⟩, rfl⟩, ?_⟩
      clear hK K
      repeat (refine tree_q rfl rfl ?_; go_big_quiet_step (fail); refine wpQuiet_nil ?_)
      refine tree_a rfl (fun K hK => ?_)
      go_simp
      refine (rMulQ OK.out (q_16 OK.out (invQ_lt OK.out _)) (q_16 OK.out (subQ_lt OK.out _ _)) _ (HRG.out.up (below_up HK.out HT.out)) (HN.out.up (below_up BL.out HT.out)) HN7.out).mono ?_
      rintro e w15 ⟨a8, c8, rfl, hn9, hb9⟩
      replace HN5 := Lib.hid (HN5.out.up hb9)
      replace HN6 := Lib.hid (HN6.out.up hb9)
      replace HN7 := Lib.hid (HN7.out.up hb9)
      replace HT := Lib.hid (below_up HT.out hb9)
      have Hs15 := Lib.hid (show wr.heap.size ≤ w15.heap.size from HT.out.size)
      clear hb9
      have HN8 := Lib.hid hn9
      clear hn9
      refine hK _ _ ⟨⟨⟨w15, ((below_grown HT.out).but _)⟩, rfl⟩, ?_⟩
      clear hK K
      repeat (refine tree_q rfl rfl ?_; go_big_quiet_step (fail); refine wpQuiet_nil ?_)
      refine tree_a rfl (fun K hK => ?_)
      go_simp
      refine (rTextQ OK.out (mulQ_lt OK.out _ _) _ HN8.out).mono ?_
      rintro e w16 ⟨rfl, hb9⟩
      replace HN5 := Lib.hid (HN5.out.up hb9)
      replace HN6 := Lib.hid (HN6.out.up hb9)
      replace HN7 := Lib.hid (HN7.out.up hb9)
      replace HN8 := Lib.hid (HN8.out.up hb9)
      replace HT := Lib.hid (below_up HT.out hb9)
      have Hs16 := Lib.hid (show wr.heap.size ≤ w16.heap.size from HT.out.size)
      clear hb9
      refine hK _ _ ⟨⟨⟨w16, ((below_grown HT.out).but _)⟩, rfl⟩, ?_⟩
      clear hK K
      repeat (refine tree_q rfl rfl ?_; go_big_quiet_step (fail); refine wpQuiet_nil ?_)
      clear hov_bp hl_bp hov_bq hl_bq hov_bg hl_bg hov_bx hov_by_
      refine tree_a rfl (fun K hK => ?_)
      go_simp
      refine hK _ _ ⟨⟨⟨_, (below_grown (HT.out.alloc HT.out.size _)).but _⟩, rfl⟩, ?_⟩
      clear hK K
      obtain ⟨i9, hi9, hz90, hz91, hz92⟩ := info_parts infoStr
      have HG1 := Lib.hid ((below_grown HT.out).but (Value.ownBlock (.slice g j c9)))
      clear bp_0 bp_1
      replace Hbp := Lib.hid (Hbp.out.up HT.out)
      clear bq_0 bq_1
      replace Hbq := Lib.hid (Hbq.out.up HT.out)
      clear bg_0 bg_1 bg_2
      replace Hbg := Lib.hid (Hbg.out.up HT.out)
      replace Hr := Lib.hid (Hr.out.up HT.out)
      replace HN1 := Lib.hid (HN1.out.up HT.out)
      replace HN2 := Lib.hid (HN2.out.up HT.out)
      replace HN3 := Lib.hid (HN3.out.up HT.out)
      replace HK := Lib.hid (below_up HK.out HT.out)
      replace BL := Lib.hid (below_up BL.out HT.out)
      replace HB := Lib.hid (below_up HB.out HT.out)
      have Hs16' := Lib.hid (show wr.heap.size ≤ w16.heap.size from HT.out.size)
      refine tree_a rfl (fun K hK => ?_)
      refine step_pushR (w11.heap.size) w16 (by have g0 := Hs1.out; have g1 := Hs2.out; have g2 := Hs3.out; have g3 := Hs4.out; have g4 := Hs5.out; have g5 := Hs6.out; have g6 := Hs7.out; have g7 := Hs8.out; have g8 := Hs9.out; have g9 := Hs10.out; have g10 := Hs11.out; have g11 := Hs11'.out; have g12 := Hs11''.out; have g13 := HBX0.out; have g14 := HBY0.out; have g15 := Hs12.out; have g16 := Hs13.out; have g17 := Hs14.out; have g18 := Hs15.out; have g19 := Hs16.out; have g20 := Hs16'.out; omega) rfl _ _ 22 rfl 9 i9 _ 1 16 Try.underlying22 hi9 hz90 hz91 hz92 rfl (by omega) ((.slice g j c9)) (j) ((((List.zipWith (exF (grp k) (exI (grp k) c d)) l m).take j).map Value.string)) rfl Hr.out _ _ _ rfl rfl rfl (by simp [Value.oneCell']) (by omega) (by unfold maxLen; omega) ?_
      intro g17 c17 w17 hown9 hg9
      have HGR := Lib.hid (HG1.out.trans hg9)
      have hb9 := Below.grown HB.out hg9 (by have g0 := Hs1.out; have g1 := Hs2.out; have g2 := Hs3.out; have g3 := Hs4.out; have g4 := Hs5.out; have g5 := Hs6.out; have g6 := Hs7.out; have g7 := Hs8.out; have g8 := Hs9.out; have g9 := Hs10.out; have g10 := Hs11.out; have g11 := Hs11'.out; have g12 := Hs11''.out; have g13 := HBX0.out; have g14 := HBY0.out; have g15 := Hs12.out; have g16 := Hs13.out; have g17 := Hs14.out; have g18 := Hs15.out; have g19 := Hs16.out; have g20 := Hs16'.out; omega) (fun q hq => Nat.le_trans (show w.heap.size ≤ w11.heap.size by have g0 := Hs1.out; have g1 := Hs2.out; have g2 := Hs3.out; have g3 := Hs4.out; have g4 := Hs5.out; have g5 := Hs6.out; have g6 := Hs7.out; have g7 := Hs8.out; have g8 := Hs9.out; have g9 := Hs10.out; have g10 := Hs11.out; have g11 := Hs11'.out; have g12 := Hs11''.out; have g13 := HBX0.out; have g14 := HBY0.out; have g15 := Hs12.out; have g16 := Hs13.out; have g17 := Hs14.out; have g18 := Hs15.out; have g19 := Hs16.out; have g20 := Hs16'.out; omega) (Hr.out.lt q hq).1)
      replace Hbp := Lib.hid (Hbp.out.grown hg9 (fun e9 => by have a1 := Hr.out.lt _ e9; have g0 := Hs1.out; have g1 := Hs2.out; have g2 := Hs3.out; have g3 := Hs4.out; have g4 := Hs5.out; have g5 := Hs6.out; have g6 := Hs7.out; have g7 := Hs8.out; have g8 := Hs9.out; have g9 := Hs10.out; have g10 := Hs11.out; have g11 := Hs11'.out; have g12 := Hs11''.out; have g13 := HBX0.out; have g14 := HBY0.out; have g15 := Hs12.out; have g16 := Hs13.out; have g17 := Hs14.out; have g18 := Hs15.out; have g19 := Hs16.out; have g20 := Hs16'.out; omega))
      replace Hbq := Lib.hid (Hbq.out.grown hg9 (fun e9 => by have a1 := Hr.out.lt _ e9; have g0 := Hs1.out; have g1 := Hs2.out; have g2 := Hs3.out; have g3 := Hs4.out; have g4 := Hs5.out; have g5 := Hs6.out; have g6 := Hs7.out; have g7 := Hs8.out; have g8 := Hs9.out; have g9 := Hs10.out; have g10 := Hs11.out; have g11 := Hs11'.out; have g12 := Hs11''.out; have g13 := HBX0.out; have g14 := HBY0.out; have g15 := Hs12.out; have g16 := Hs13.out; have g17 := Hs14.out; have g18 := Hs15.out; have g19 := Hs16.out; have g20 := Hs16'.out; omega))
      replace Hbg := Lib.hid (Hbg.out.grown hg9 (fun e9 => by have a1 := Hr.out.lt _ e9; have g0 := Hs1.out; have g1 := Hs2.out; have g2 := Hs3.out; have g3 := Hs4.out; have g4 := Hs5.out; have g5 := Hs6.out; have g6 := Hs7.out; have g7 := Hs8.out; have g8 := Hs9.out; have g9 := Hs10.out; have g10 := Hs11.out; have g11 := Hs11'.out; have g12 := Hs11''.out; have g13 := HBX0.out; have g14 := HBY0.out; have g15 := Hs12.out; have g16 := Hs13.out; have g17 := Hs14.out; have g18 := Hs15.out; have g19 := Hs16.out; have g20 := Hs16'.out; omega))
      clear HN1 HN2 HN3 HN5 HN6 HN7 HN8
      replace HK := Lib.hid (Below.grown HK.out hg9 (by have g0 := Hs1.out; have g1 := Hs2.out; have g2 := Hs3.out; have g3 := Hs4.out; have g4 := Hs5.out; have g5 := Hs6.out; have g6 := Hs7.out; have g7 := Hs8.out; have g8 := Hs9.out; have g9 := Hs10.out; have g10 := Hs11.out; have g11 := Hs11'.out; have g12 := Hs11''.out; have g13 := HBX0.out; have g14 := HBY0.out; have g15 := Hs12.out; have g16 := Hs13.out; have g17 := Hs14.out; have g18 := Hs15.out; have g19 := Hs16.out; have g20 := Hs16'.out; omega) (fun q hq => Nat.le_trans (show w2.heap.size ≤ w11.heap.size by have g0 := Hs1.out; have g1 := Hs2.out; have g2 := Hs3.out; have g3 := Hs4.out; have g4 := Hs5.out; have g5 := Hs6.out; have g6 := Hs7.out; have g7 := Hs8.out; have g8 := Hs9.out; have g9 := Hs10.out; have g10 := Hs11.out; have g11 := Hs11'.out; have g12 := Hs11''.out; have g13 := HBX0.out; have g14 := HBY0.out; have g15 := Hs12.out; have g16 := Hs13.out; have g17 := Hs14.out; have g18 := Hs15.out; have g19 := Hs16.out; have g20 := Hs16'.out; omega) (Hr.out.lt q hq).1))
      replace BL := Lib.hid (Below.grown BL.out hg9 (by have g0 := Hs1.out; have g1 := Hs2.out; have g2 := Hs3.out; have g3 := Hs4.out; have g4 := Hs5.out; have g5 := Hs6.out; have g6 := Hs7.out; have g7 := Hs8.out; have g8 := Hs9.out; have g9 := Hs10.out; have g10 := Hs11.out; have g11 := Hs11'.out; have g12 := Hs11''.out; have g13 := HBX0.out; have g14 := HBY0.out; have g15 := Hs12.out; have g16 := Hs13.out; have g17 := Hs14.out; have g18 := Hs15.out; have g19 := Hs16.out; have g20 := Hs16'.out; omega) (fun q hq => Nat.le_trans (show w11.heap.size ≤ w11.heap.size by have g0 := Hs1.out; have g1 := Hs2.out; have g2 := Hs3.out; have g3 := Hs4.out; have g4 := Hs5.out; have g5 := Hs6.out; have g6 := Hs7.out; have g7 := Hs8.out; have g8 := Hs9.out; have g9 := Hs10.out; have g10 := Hs11.out; have g11 := Hs11'.out; have g12 := Hs11''.out; have g13 := HBX0.out; have g14 := HBY0.out; have g15 := Hs12.out; have g16 := Hs13.out; have g17 := Hs14.out; have g18 := Hs15.out; have g19 := Hs16.out; have g20 := Hs16'.out; omega) (Hr.out.lt q hq).1))
      have Hs17 := Lib.hid hg9.size
      clear Hr HB HT HG1
      have Hr := Lib.hid hown9
      have HB := Lib.hid hb9
      clear hb9 hown9 hg9 hi9 hz90 hz91 hz92
      refine hK _ _ ⟨⟨⟨w17, HGR.out⟩, rfl⟩, ?_⟩
      clear hK K HGR
      have bp_0 := Hbp.out.cell (i := 0) rfl
      have bp_1 := Hbp.out.cell (i := 1) rfl
      have bq_0 := Hbq.out.cell (i := 0) rfl
      have bq_1 := Hbq.out.cell (i := 1) rfl
      have bg_0 := Hbg.out.cell (i := 0) rfl
      have bg_1 := Hbg.out.cell (i := 1) rfl
      have bg_2 := Hbg.out.cell (i := 2) rfl
      try simp only [Act.put, List.setIfInBounds_toArray, List.set_cons_succ, List.set_cons_zero]
      repeat (refine tree_q rfl rfl ?_; go_big_quiet_step (fail); refine wpQuiet_nil ?_)
      refine tree_end ?_
      go_wp2_with fail
      go_roundw
      case rel => exact ⟨j + 1, _, _, by omega, by go_num, rfl, BL, Hr.out.eq HSN.out.symm rfl⟩
      case measure => simp [intOf]; omega
    · have hjn' : j = n := by omega
      subst hjn'
      have HLN := Lib.hid (zip_len (exF (grp k) (exI (grp k) c d)) l m j HL.out HM.out)
      have HT := Lib.hid (zip_take (exF (grp k) (exI (grp k) c d)) l m j HL.out HM.out)
      rw [HT.out] at Hr
      obtain ⟨g0, rfl⟩ := RowO.some Hr.out hn0
      go_wp2_with fail
      go_ret2
      exact ⟨HB.out, _, c9, by rw [HLN.out]; rfl, Hr.out.sl, by rw [HLN.out]; simp [hn0], by simp⟩

end Go.Proofs.Ytipgjookfdkciaa

/- ExtractAny of the package sigma. Condition: the lists that memory can hold. -/
namespace Go.Proofs.Ytipgjookfdkciaa
open Go.RowKit

/-! Extract, of any kind. -/
def exEk (k : Int) (p q : PrfA) : Int := if 1 ≤ k ∧ k ≤ 3 then exE (grp k.toNat) p q else 1
def exLk (k : Int) (p q : PrfA) : List ByteArray := if 1 ≤ k ∧ k ≤ 3 then exL (grp k.toNat) p q else []
theorem isSc_numOf {G : GP} {s t : ByteArray} (h : isSc G.q.m G.size s = true) (g : isSc G.q.m G.size t = true) (e : numOf s = numOf t) : s = t := numOf_inj (by
  unfold isSc at h g
  simp only [Bool.and_eq_true, decide_eq_true_eq] at h g
  rw [h.1, g.1]) e
theorem isSc_lt1 {G : GP} {s : ByteArray} (h : isSc G.q.m G.size s = true) : numOf s < G.q.m := by
  unfold isSc at h
  simp only [Bool.and_eq_true, decide_eq_true_eq] at h
  exact h.2
theorem ext_any (k : Int) (p q : PrfA) (hp : p.l.length ≤ 8796093022206) (w : World) (hP : p.At w) (hQ : q.At w) : Calls Try.prog 15 #[.int .i64 k, p.val, q.val] w (ExtR (exEk k p q) (exLk k p q) w) := by
  by_cases hk : 1 ≤ k ∧ k ≤ 3
  · unfold exEk exLk
    rw [if_pos hk, if_pos hk]
    obtain ⟨j, rfl⟩ : ∃ j : Nat, k = j := ⟨k.toNat, by omega⟩
    simp only [Int.toNat_natCast]
    have h1 : 1 ≤ j := by omega
    have h3 : j ≤ 3 := by omega
    have ok := grp_ok j h1 h3
    by_cases hf : p.l.length = q.l.length ∧ p.l.length ≠ 0
    · have hee : exE (grp j) p q = if ((p.c :: p.l).all (isSc (grp j).q.m (grp j).size) && (q.c :: q.l).all (isSc (grp j).q.m (grp j).size)) = true then (if p.c = q.c then 9 else 0) else 6 := by unfold exE; rw [if_pos hf]
      have h := ext_body j h1 h3 p.c q.c p.l q.l p.l.length rfl hf.1.symm hf.2 (by omega) p.aa q.aa p.ca q.ca _ _ (decide (mont (grp j).q.m (numOf p.c) = mont (grp j).q.m (numOf q.c))) rfl rfl (exE (grp j) p q) (exL (grp j) p q) (fun _ _ => rfl) ?_ ?_ ?_ w hP.s hP.n hQ.s hQ.n
      · unfold PrfA.val
        rwa [← hf.1]
      · intro h9
        rw [h9, if_neg (by decide)] at hee
        exact ⟨hee, by unfold exL; rw [hee, if_neg (by decide)]⟩
      · intro h9 h8
        rw [h9, if_pos rfl] at hee
        have h7 := (Bool.and_eq_true _ _).mp h9
        have e1 : p.c = q.c := isSc_numOf (List.all_eq_true.1 h7.1 _ (by simp)) (List.all_eq_true.1 h7.2 _ (by simp)) (mont_inj ok.q.low (isSc_lt1 (List.all_eq_true.1 h7.1 _ (by simp))) (isSc_lt1 (List.all_eq_true.1 h7.2 _ (by simp))) (of_decide_eq_true h8))
        rw [if_pos e1] at hee
        exact ⟨hee, by unfold exL; rw [hee, if_neg (by decide)]⟩
      · intro h9 h8
        rw [h9, if_pos rfl] at hee
        have e1 : ¬ p.c = q.c := fun e => of_decide_eq_false h8 (by rw [e])
        rw [if_neg e1] at hee
        exact ⟨hee, by unfold exL; rw [hee, if_pos rfl]⟩
    · have hee : exE (grp j) p q = 2 := by unfold exE; rw [if_neg hf]
      have hll : exL (grp j) p q = [] := by unfold exL; rw [hee, if_neg (by decide)]
      rw [hee, hll]
      exact ext_form j h1 h3 p q hf w
  · unfold exEk exLk
    rw [if_neg hk, if_neg hk]
    exact ext_none k hk p q w

/-- Answers to several sets, as they came in. -/
structure EithA where
  ac : Option Addr
  cc : Nat
  cs : List ByteArray
  ar : Option Addr
  cr : Nat
  rs : List RowA
def EithA.val (x : EithA) : Value := .agg #[.slice x.ac x.cs.length x.cc, .slice x.ar x.rs.length x.cr]
structure EithA.At (x : EithA) (w : World) : Prop where
  c : Sl w w.heap.size x.ac (x.cs.map Value.string)
  r : RowsAt w x.ar x.rs
  n : ∀ r ∈ x.rs, r.a = none → r.c = 0
theorem EithA.At.up {x : EithA} {w w' : World} (h : x.At w) (hb : Below w.heap.size w w') : x.At w' := ⟨h.c.up hb, h.r.up hb, h.n⟩
theorem RowsAt.cell {w0 w : World} {a : Option Addr} {l : List RowA} (h : RowsAt w0 a l) (hb : Below w0.heap.size w0 w) (i : Nat) (hi : i < l.length) :
    ∃ b off, a = some ⟨b, off, none⟩ ∧ b < w0.heap.size ∧ b < w.heap.size ∧ w.cell? ⟨b, off + i, none⟩ = some (.slice l[i].a l[i].l.length l[i].c) := by
  obtain ⟨b, off, e, h1, h2, h3⟩ := h.s.elemUp hb RowA.cells_len (by omega) i hi
  exact ⟨b, off, e, h1, h2, by have := h3 0 _ rfl; rwa [Nat.mul_one, Nat.add_zero] at this⟩
def fit2 (r s : RowA) : Bool := decide (r.l.length ≠ 0 ∧ r.l.length = s.l.length)
def fitB (x y : EithA) : Bool := decide (x.cs.length ≠ 0 ∧ y.cs.length = x.cs.length ∧ x.rs.length = x.cs.length ∧ y.rs.length = x.cs.length) && (List.zipWith fit2 x.rs y.rs).all id
theorem zip_all_snoc {α β : Type} {f : α → β → Bool} {l : List α} {m : List β} {j : Nat} (hl : j < l.length) (hm : j < m.length) (h : ((List.zipWith f l m).take j).all id = true) (h1 : f l[j] m[j] = true) : ((List.zipWith f l m).take (j + 1)).all id = true := by
  rw [List.take_succ_eq_append_getElem (by rw [List.length_zipWith]; omega), List.all_append, h, List.getElem_zipWith, h1]
  rfl
theorem zip_all_not {α β : Type} {f : α → β → Bool} {l : List α} {m : List β} {j : Nat} (hl : j < l.length) (hm : j < m.length) (h1 : f l[j] m[j] = false) : (List.zipWith f l m).all id = false := by
  rw [List.all_eq_false]
  exact ⟨(List.zipWith f l m)[j]'(by rw [List.length_zipWith]; omega), List.getElem_mem _, by rw [List.getElem_zipWith]; simp [h1]⟩
theorem zip_all_end {α β : Type} {f : α → β → Bool} {l : List α} {m : List β} {n : Nat} (hl : l.length = n) (h : ((List.zipWith f l m).take n).all id = true) : (List.zipWith f l m).all id = true := by
  rwa [List.take_of_length_le (by rw [List.length_zipWith]; omega)] at h

set_option maxRecDepth 100000 in
set_option maxHeartbeats 1000000 in
theorem fits_no (n m r1 r2 : Nat) (ac ar bc br : Option Addr) (cc cr dc dr : Nat) (h : ¬ (n ≠ 0 ∧ m = n ∧ r1 = n ∧ r2 = n)) (w : World) :
    Calls Try.prog 72 #[.agg #[.slice ac n cc, .slice ar r1 cr], .agg #[.slice bc m dc, .slice br r2 dr]] w (Gives (.bool false) w) := by
  unfold Gives
  by_cases h1 : n = 0
  · have hd : ((n : Int) == 0) = true := by simp; omega
    clear h h1
    go_enter Try.func72, Try.ntmps72
    go_wp2_with fail
    have hb9 : Below w.heap.size w ((w.alloc (Obj.cells #[.slice ac n cc, .slice ar r1 cr] 27)).alloc (Obj.cells #[.slice bc m dc, .slice br r2 dr] 27)) := (((Below.refl _ _).alloc (Nat.le_refl _) _).alloc (by simp) _)
    have hx90 : Bx ((w.alloc (Obj.cells #[.slice ac n cc, .slice ar r1 cr] 27)).alloc (Obj.cells #[.slice bc m dc, .slice br r2 dr] 27)) (w.heap.size) 27 [.slice ac n cc, .slice ar r1 cr] := by
      have h := ((Bx.new w 27 [.slice ac n cc, .slice ar r1 cr] _ rfl).alloc (Obj.cells #[.slice bc m dc, .slice br r2 dr] 27))
      exact h
    have hx91 : Bx ((w.alloc (Obj.cells #[.slice ac n cc, .slice ar r1 cr] 27)).alloc (Obj.cells #[.slice bc m dc, .slice br r2 dr] 27)) (w.heap.size + 1) 27 [.slice bc m dc, .slice br r2 dr] := by
      have h := (Bx.new (w.alloc (Obj.cells #[.slice ac n cc, .slice ar r1 cr] 27)) 27 [.slice bc m dc, .slice br r2 dr] _ rfl)
      rw [World.size_alloc] at h
      exact h
    have hz9 : ((w.alloc (Obj.cells #[.slice ac n cc, .slice ar r1 cr] 27)).alloc (Obj.cells #[.slice bc m dc, .slice br r2 dr] 27)).heap.size = w.heap.size + 2 := by simp
    obtain ⟨w1, hq1⟩ : ∃ W9 : World, ((w.alloc (Obj.cells #[.slice ac n cc, .slice ar r1 cr] 27)).alloc (Obj.cells #[.slice bc m dc, .slice br r2 dr] 27)) = W9 := ⟨_, rfl⟩
    rw [hq1] at hb9 hz9 hx90 hx91
    rw [hq1]
    clear hq1
    have HB := Lib.hid hb9
    have Hs1 := Lib.hid hz9
    have Hbx := Lib.hid hx90
    have Hby := Lib.hid hx91
    clear hb9 hz9 hx90 hx91
    have bx_0 := Hbx.out.cell (i := 0) rfl
    have bx_1 := Hbx.out.cell (i := 1) rfl
    have by_0 := Hby.out.cell (i := 0) rfl
    have by_1 := Hby.out.cell (i := 1) rfl
    go_wp2_with fail
    go_ret
    exact ⟨rfl, HB.out⟩
  have hd : ((n : Int) == 0) = false := by simp; omega
  by_cases h2 : m = n
  case neg =>
    have hd2 : ((m : Int) != (n : Int)) = true := by simp; omega
    clear h h1 h2
    go_enter Try.func72, Try.ntmps72
    go_wp2_with fail
    have hb9 : Below w.heap.size w ((w.alloc (Obj.cells #[.slice ac n cc, .slice ar r1 cr] 27)).alloc (Obj.cells #[.slice bc m dc, .slice br r2 dr] 27)) := (((Below.refl _ _).alloc (Nat.le_refl _) _).alloc (by simp) _)
    have hx90 : Bx ((w.alloc (Obj.cells #[.slice ac n cc, .slice ar r1 cr] 27)).alloc (Obj.cells #[.slice bc m dc, .slice br r2 dr] 27)) (w.heap.size) 27 [.slice ac n cc, .slice ar r1 cr] := by
      have h := ((Bx.new w 27 [.slice ac n cc, .slice ar r1 cr] _ rfl).alloc (Obj.cells #[.slice bc m dc, .slice br r2 dr] 27))
      exact h
    have hx91 : Bx ((w.alloc (Obj.cells #[.slice ac n cc, .slice ar r1 cr] 27)).alloc (Obj.cells #[.slice bc m dc, .slice br r2 dr] 27)) (w.heap.size + 1) 27 [.slice bc m dc, .slice br r2 dr] := by
      have h := (Bx.new (w.alloc (Obj.cells #[.slice ac n cc, .slice ar r1 cr] 27)) 27 [.slice bc m dc, .slice br r2 dr] _ rfl)
      rw [World.size_alloc] at h
      exact h
    have hz9 : ((w.alloc (Obj.cells #[.slice ac n cc, .slice ar r1 cr] 27)).alloc (Obj.cells #[.slice bc m dc, .slice br r2 dr] 27)).heap.size = w.heap.size + 2 := by simp
    obtain ⟨w1, hq1⟩ : ∃ W9 : World, ((w.alloc (Obj.cells #[.slice ac n cc, .slice ar r1 cr] 27)).alloc (Obj.cells #[.slice bc m dc, .slice br r2 dr] 27)) = W9 := ⟨_, rfl⟩
    rw [hq1] at hb9 hz9 hx90 hx91
    rw [hq1]
    clear hq1
    have HB := Lib.hid hb9
    have Hs1 := Lib.hid hz9
    have Hbx := Lib.hid hx90
    have Hby := Lib.hid hx91
    clear hb9 hz9 hx90 hx91
    have bx_0 := Hbx.out.cell (i := 0) rfl
    have bx_1 := Hbx.out.cell (i := 1) rfl
    have by_0 := Hby.out.cell (i := 0) rfl
    have by_1 := Hby.out.cell (i := 1) rfl
    go_wp2_with fail
    go_ret
    exact ⟨rfl, HB.out⟩
  have hd2 : ((m : Int) != (n : Int)) = false := by simp; omega
  by_cases h3 : r1 = n
  case neg =>
    have hd3 : ((r1 : Int) != (n : Int)) = true := by simp; omega
    clear h h1 h2 h3
    go_enter Try.func72, Try.ntmps72
    go_wp2_with fail
    have hb9 : Below w.heap.size w ((w.alloc (Obj.cells #[.slice ac n cc, .slice ar r1 cr] 27)).alloc (Obj.cells #[.slice bc m dc, .slice br r2 dr] 27)) := (((Below.refl _ _).alloc (Nat.le_refl _) _).alloc (by simp) _)
    have hx90 : Bx ((w.alloc (Obj.cells #[.slice ac n cc, .slice ar r1 cr] 27)).alloc (Obj.cells #[.slice bc m dc, .slice br r2 dr] 27)) (w.heap.size) 27 [.slice ac n cc, .slice ar r1 cr] := by
      have h := ((Bx.new w 27 [.slice ac n cc, .slice ar r1 cr] _ rfl).alloc (Obj.cells #[.slice bc m dc, .slice br r2 dr] 27))
      exact h
    have hx91 : Bx ((w.alloc (Obj.cells #[.slice ac n cc, .slice ar r1 cr] 27)).alloc (Obj.cells #[.slice bc m dc, .slice br r2 dr] 27)) (w.heap.size + 1) 27 [.slice bc m dc, .slice br r2 dr] := by
      have h := (Bx.new (w.alloc (Obj.cells #[.slice ac n cc, .slice ar r1 cr] 27)) 27 [.slice bc m dc, .slice br r2 dr] _ rfl)
      rw [World.size_alloc] at h
      exact h
    have hz9 : ((w.alloc (Obj.cells #[.slice ac n cc, .slice ar r1 cr] 27)).alloc (Obj.cells #[.slice bc m dc, .slice br r2 dr] 27)).heap.size = w.heap.size + 2 := by simp
    obtain ⟨w1, hq1⟩ : ∃ W9 : World, ((w.alloc (Obj.cells #[.slice ac n cc, .slice ar r1 cr] 27)).alloc (Obj.cells #[.slice bc m dc, .slice br r2 dr] 27)) = W9 := ⟨_, rfl⟩
    rw [hq1] at hb9 hz9 hx90 hx91
    rw [hq1]
    clear hq1
    have HB := Lib.hid hb9
    have Hs1 := Lib.hid hz9
    have Hbx := Lib.hid hx90
    have Hby := Lib.hid hx91
    clear hb9 hz9 hx90 hx91
    have bx_0 := Hbx.out.cell (i := 0) rfl
    have bx_1 := Hbx.out.cell (i := 1) rfl
    have by_0 := Hby.out.cell (i := 0) rfl
    have by_1 := Hby.out.cell (i := 1) rfl
    go_wp2_with fail
    go_ret
    exact ⟨rfl, HB.out⟩
  have hd3 : ((r1 : Int) != (n : Int)) = false := by simp; omega
  have hd4 : ((r2 : Int) != (n : Int)) = true := by simp; omega
  clear h h1 h2 h3
  go_enter Try.func72, Try.ntmps72
  go_wp2_with fail
  have hb9 : Below w.heap.size w ((w.alloc (Obj.cells #[.slice ac n cc, .slice ar r1 cr] 27)).alloc (Obj.cells #[.slice bc m dc, .slice br r2 dr] 27)) := (((Below.refl _ _).alloc (Nat.le_refl _) _).alloc (by simp) _)
  have hx90 : Bx ((w.alloc (Obj.cells #[.slice ac n cc, .slice ar r1 cr] 27)).alloc (Obj.cells #[.slice bc m dc, .slice br r2 dr] 27)) (w.heap.size) 27 [.slice ac n cc, .slice ar r1 cr] := by
    have h := ((Bx.new w 27 [.slice ac n cc, .slice ar r1 cr] _ rfl).alloc (Obj.cells #[.slice bc m dc, .slice br r2 dr] 27))
    exact h
  have hx91 : Bx ((w.alloc (Obj.cells #[.slice ac n cc, .slice ar r1 cr] 27)).alloc (Obj.cells #[.slice bc m dc, .slice br r2 dr] 27)) (w.heap.size + 1) 27 [.slice bc m dc, .slice br r2 dr] := by
    have h := (Bx.new (w.alloc (Obj.cells #[.slice ac n cc, .slice ar r1 cr] 27)) 27 [.slice bc m dc, .slice br r2 dr] _ rfl)
    rw [World.size_alloc] at h
    exact h
  have hz9 : ((w.alloc (Obj.cells #[.slice ac n cc, .slice ar r1 cr] 27)).alloc (Obj.cells #[.slice bc m dc, .slice br r2 dr] 27)).heap.size = w.heap.size + 2 := by simp
  obtain ⟨w1, hq1⟩ : ∃ W9 : World, ((w.alloc (Obj.cells #[.slice ac n cc, .slice ar r1 cr] 27)).alloc (Obj.cells #[.slice bc m dc, .slice br r2 dr] 27)) = W9 := ⟨_, rfl⟩
  rw [hq1] at hb9 hz9 hx90 hx91
  rw [hq1]
  clear hq1
  have HB := Lib.hid hb9
  have Hs1 := Lib.hid hz9
  have Hbx := Lib.hid hx90
  have Hby := Lib.hid hx91
  clear hb9 hz9 hx90 hx91
  have bx_0 := Hbx.out.cell (i := 0) rfl
  have bx_1 := Hbx.out.cell (i := 1) rfl
  have by_0 := Hby.out.cell (i := 0) rfl
  have by_1 := Hby.out.cell (i := 1) rfl
  go_wp2_with fail
  go_ret
  exact ⟨rfl, HB.out⟩

set_option maxRecDepth 100000 in
set_option maxHeartbeats 2000000 in
theorem fits_yes (n : Nat) (hn0 : n ≠ 0) (hn : n ≤ 8796093022206) (rs ss : List RowA) (hrs : rs.length = n) (hss : ss.length = n) (b : Bool) (hb : (List.zipWith fit2 rs ss).all id = b) (ac ar bc br : Option Addr) (cc cr dc dr : Nat) (w : World) (hR : RowsAt w ar rs) (hS : RowsAt w br ss) :
    Calls Try.prog 72 #[.agg #[.slice ac n cc, .slice ar n cr], .agg #[.slice bc n dc, .slice br n dr]] w (Gives (.bool b) w) := by
  unfold Gives
  have hd : ((n : Int) == 0) = false := by simp; omega
  have hd2 : ((n : Int) != (n : Int)) = false := by simp
  have HR := Lib.hid hR
  have HS := Lib.hid hS
  have HBB := Lib.hid hb
  have HRL := Lib.hid hrs
  have HSL := Lib.hid hss
  clear hR hS hb hrs hss
  go_enter Try.func72, Try.ntmps72
  go_wp2_with fail
  have hb9 : Below w.heap.size w ((w.alloc (Obj.cells #[.slice ac n cc, .slice ar n cr] 27)).alloc (Obj.cells #[.slice bc n dc, .slice br n dr] 27)) := (((Below.refl _ _).alloc (Nat.le_refl _) _).alloc (by simp) _)
  have hx90 : Bx ((w.alloc (Obj.cells #[.slice ac n cc, .slice ar n cr] 27)).alloc (Obj.cells #[.slice bc n dc, .slice br n dr] 27)) (w.heap.size) 27 [.slice ac n cc, .slice ar n cr] := by
    have h := ((Bx.new w 27 [.slice ac n cc, .slice ar n cr] _ rfl).alloc (Obj.cells #[.slice bc n dc, .slice br n dr] 27))
    exact h
  have hx91 : Bx ((w.alloc (Obj.cells #[.slice ac n cc, .slice ar n cr] 27)).alloc (Obj.cells #[.slice bc n dc, .slice br n dr] 27)) (w.heap.size + 1) 27 [.slice bc n dc, .slice br n dr] := by
    have h := (Bx.new (w.alloc (Obj.cells #[.slice ac n cc, .slice ar n cr] 27)) 27 [.slice bc n dc, .slice br n dr] _ rfl)
    rw [World.size_alloc] at h
    exact h
  have hz9 : ((w.alloc (Obj.cells #[.slice ac n cc, .slice ar n cr] 27)).alloc (Obj.cells #[.slice bc n dc, .slice br n dr] 27)).heap.size = w.heap.size + 2 := by simp
  obtain ⟨w1, hq1⟩ : ∃ W9 : World, ((w.alloc (Obj.cells #[.slice ac n cc, .slice ar n cr] 27)).alloc (Obj.cells #[.slice bc n dc, .slice br n dr] 27)) = W9 := ⟨_, rfl⟩
  rw [hq1] at hb9 hz9 hx90 hx91
  rw [hq1]
  clear hq1
  have HB := Lib.hid hb9
  have Hs1 := Lib.hid hz9
  have Hbx := Lib.hid hx90
  have Hby := Lib.hid hx91
  clear hb9 hz9 hx90 hx91
  have bx_0 := Hbx.out.cell (i := 0) rfl
  have bx_1 := Hbx.out.cell (i := 1) rfl
  have by_0 := Hby.out.cell (i := 0) rfl
  have by_1 := Hby.out.cell (i := 1) rfl
  have BL := Lib.hid (Below.refl w1.heap.size w1)
  go_wp2_with fail
  go_loopw [36] (fun i wr => ∃ j : Nat, j ≤ n ∧ i = .int .i64 j ∧ Hid (Below w1.heap.size w1 wr) ∧ Hid (((List.zipWith fit2 rs ss).take j).all id = true)) (fun i _ => n - (intOf i).toNat)
  case atStart => exact ⟨0, Nat.zero_le _, rfl, BL, rfl⟩
  case round =>
    obtain ⟨j, hj, rfl, HL9, HAL⟩ := hrel
    have hb9 := HL9.out
    clear HL9
    clear bx_0 bx_1
    replace Hbx := Lib.hid (Hbx.out.up hb9)
    clear by_0 by_1
    replace Hby := Lib.hid (Hby.out.up hb9)
    replace BL := Lib.hid (below_up BL.out hb9)
    replace HB := Lib.hid (below_up HB.out hb9)
    have Hs1' := Lib.hid (show w1.heap.size ≤ wr.heap.size from hb9.size)
    clear hb9
    have bx_0 := Hbx.out.cell (i := 0) rfl
    have bx_1 := Hbx.out.cell (i := 1) rfl
    have by_0 := Hby.out.cell (i := 0) rfl
    have by_1 := Hby.out.cell (i := 1) rfl
    by_cases hjn : j < n
    · have hjr : j < rs.length := by rw [HRL.out]; exact hjn
      have hjs : j < ss.length := by rw [HSL.out]; exact hjn
      obtain ⟨b1, o1, rfl, hb10, hb1, hc1⟩ := HR.out.cell HB.out j hjr
      obtain ⟨b2, o2, rfl, hb20, hb2, hc2⟩ := HS.out.cell HB.out j hjs
      have HSN := Lib.hid (zip_all_snoc (f := fit2) hjr hjs HAL.out)
      have HNO := Lib.hid (zip_all_not (f := fit2) hjr hjs)
      generalize rs[j] = r at *
      generalize ss[j] = s at *
      have hfr : fit2 r s = decide (r.l.length ≠ 0 ∧ r.l.length = s.l.length) := rfl
      generalize r.l.length = la at *
      generalize s.l.length = lb at *
      by_cases h1 : la = 0
      · have hq : ((la : Int) == 0) = true := by simp; omega
        have hf : fit2 r s = false := by rw [hfr]; simp [h1]
        obtain rfl : b = false := by rw [← HBB.out, HNO.out hf]
        clear hf hfr h1
        go_wp2_with fail
        have hl_bx := Hbx.out.lt
        have hl_by := Hby.out.lt
        refine wp_region_over (by kernel_rfl) (by kernel_rfl) ?_
        have hov_bx := fun (E : Over wr) o => E.cell (b := w.heap.size) o hl_bx
        have hov_by := fun (E : Over wr) o => E.cell (b := w.heap.size + 1) o hl_by
        have hov_b1 := fun (E : Over wr) o => E.cell (b := b1) o hb1
        have hov_b2 := fun (E : Over wr) o => E.cell (b := b2) o hb2
        repeat (go_big_quiet_step (first | fail))
        all_goals (try unfold elV limbV)
        repeat (go_big_quiet_step (first | fail))
        all_goals (try unfold elV limbV)
        repeat (go_big_quiet_step (first | fail))
        all_goals (try unfold ciphV)
        refine wpQuiet_nil ?_
        rintro _ ⟨E, rfl⟩
        clear hov_bx hl_bx hov_by hl_by hov_b1 hov_b2
        clear bx_0 bx_1
        replace Hbx := Lib.hid (Hbx.out.up E.h)
        clear by_0 by_1
        replace Hby := Lib.hid (Hby.out.up E.h)
        replace BL := Lib.hid (below_up BL.out E.h)
        replace HB := Lib.hid (below_up HB.out E.h)
        have Hs2 := Lib.hid (show wr.heap.size ≤ E.w.heap.size from E.h.size)
        obtain ⟨w2, hq9⟩ : ∃ W9 : World, E.w = W9 := ⟨_, rfl⟩
        rw [hq9] at Hbx Hby BL HB Hs2 ⊢
        clear hq9 E
        have bx_0 := Hbx.out.cell (i := 0) rfl
        have bx_1 := Hbx.out.cell (i := 1) rfl
        have by_0 := Hby.out.cell (i := 0) rfl
        have by_1 := Hby.out.cell (i := 1) rfl
        go_wp2_with fail
        go_ret
        exact ⟨rfl, HB.out⟩
      have hq : ((la : Int) == 0) = false := by simp; omega
      by_cases h2 : la = lb
      · have hq2 : ((la : Int) != (lb : Int)) = false := by simp; omega
        have hf : fit2 r s = true := by rw [hfr]; simp [h1, h2]; omega
        have HF := Lib.hid (HSN.out hf)
        clear hf hfr h1 h2
        go_wp2_with fail
        have hl_bx := Hbx.out.lt
        have hl_by := Hby.out.lt
        refine wp_region_over (by kernel_rfl) (by kernel_rfl) ?_
        have hov_bx := fun (E : Over wr) o => E.cell (b := w.heap.size) o hl_bx
        have hov_by := fun (E : Over wr) o => E.cell (b := w.heap.size + 1) o hl_by
        have hov_b1 := fun (E : Over wr) o => E.cell (b := b1) o hb1
        have hov_b2 := fun (E : Over wr) o => E.cell (b := b2) o hb2
        repeat (go_big_quiet_step (first | fail))
        all_goals (try unfold elV limbV)
        repeat (go_big_quiet_step (first | fail))
        all_goals (try unfold elV limbV)
        repeat (go_big_quiet_step (first | fail))
        all_goals (try unfold ciphV)
        refine wpQuiet_nil ?_
        rintro _ ⟨E, rfl⟩
        clear hov_bx hl_bx hov_by hl_by hov_b1 hov_b2
        clear bx_0 bx_1
        replace Hbx := Lib.hid (Hbx.out.up E.h)
        clear by_0 by_1
        replace Hby := Lib.hid (Hby.out.up E.h)
        replace BL := Lib.hid (below_up BL.out E.h)
        replace HB := Lib.hid (below_up HB.out E.h)
        have Hs2 := Lib.hid (show wr.heap.size ≤ E.w.heap.size from E.h.size)
        obtain ⟨w2, hq9⟩ : ∃ W9 : World, E.w = W9 := ⟨_, rfl⟩
        rw [hq9] at Hbx Hby BL HB Hs2 ⊢
        clear hq9 E
        have bx_0 := Hbx.out.cell (i := 0) rfl
        have bx_1 := Hbx.out.cell (i := 1) rfl
        have by_0 := Hby.out.cell (i := 0) rfl
        have by_1 := Hby.out.cell (i := 1) rfl
        go_wp2_with fail
        go_roundw
        case rel => exact ⟨j + 1, by omega, by go_num, BL, HF⟩
        case measure => simp [intOf]; omega
      · have hq2 : ((la : Int) != (lb : Int)) = true := by simp; omega
        have hf : fit2 r s = false := by rw [hfr]; simp [h2]
        obtain rfl : b = false := by rw [← HBB.out, HNO.out hf]
        clear hf hfr h1 h2
        go_wp2_with fail
        have hl_bx := Hbx.out.lt
        have hl_by := Hby.out.lt
        refine wp_region_over (by kernel_rfl) (by kernel_rfl) ?_
        have hov_bx := fun (E : Over wr) o => E.cell (b := w.heap.size) o hl_bx
        have hov_by := fun (E : Over wr) o => E.cell (b := w.heap.size + 1) o hl_by
        have hov_b1 := fun (E : Over wr) o => E.cell (b := b1) o hb1
        have hov_b2 := fun (E : Over wr) o => E.cell (b := b2) o hb2
        repeat (go_big_quiet_step (first | fail))
        all_goals (try unfold elV limbV)
        repeat (go_big_quiet_step (first | fail))
        all_goals (try unfold elV limbV)
        repeat (go_big_quiet_step (first | fail))
        all_goals (try unfold ciphV)
        refine wpQuiet_nil ?_
        rintro _ ⟨E, rfl⟩
        clear hov_bx hl_bx hov_by hl_by hov_b1 hov_b2
        clear bx_0 bx_1
        replace Hbx := Lib.hid (Hbx.out.up E.h)
        clear by_0 by_1
        replace Hby := Lib.hid (Hby.out.up E.h)
        replace BL := Lib.hid (below_up BL.out E.h)
        replace HB := Lib.hid (below_up HB.out E.h)
        have Hs2 := Lib.hid (show wr.heap.size ≤ E.w.heap.size from E.h.size)
        obtain ⟨w2, hq9⟩ : ∃ W9 : World, E.w = W9 := ⟨_, rfl⟩
        rw [hq9] at Hbx Hby BL HB Hs2 ⊢
        clear hq9 E
        have bx_0 := Hbx.out.cell (i := 0) rfl
        have bx_1 := Hbx.out.cell (i := 1) rfl
        have by_0 := Hby.out.cell (i := 0) rfl
        have by_1 := Hby.out.cell (i := 1) rfl
        go_wp2_with fail
        go_ret
        exact ⟨rfl, HB.out⟩
    · have hjn' : j = n := by omega
      subst hjn'
      obtain rfl : b = true := by rw [← HBB.out, zip_all_end HRL.out HAL.out]
      go_wp2_with fail
      go_ret
      exact ⟨rfl, HB.out⟩

theorem fits_any (x y : EithA) (hn : x.cs.length ≤ 8796093022206) (w : World) (hX : x.At w) (hY : y.At w) : Calls Try.prog 72 #[x.val, y.val] w (Gives (.bool (fitB x y)) w) := by
  by_cases h : x.cs.length ≠ 0 ∧ y.cs.length = x.cs.length ∧ x.rs.length = x.cs.length ∧ y.rs.length = x.cs.length
  · unfold fitB EithA.val
    rw [decide_eq_true h, Bool.true_and, h.2.1, h.2.2.1, h.2.2.2]
    exact fits_yes _ h.1 hn x.rs y.rs h.2.2.1 h.2.2.2 _ rfl _ _ _ _ _ _ _ _ w hX.r hY.r
  · unfold fitB EithA.val
    rw [decide_eq_false h, Bool.false_and]
    exact fits_no _ _ _ _ _ _ _ _ _ _ _ _ h w

end Go.Proofs.Ytipgjookfdkciaa

/- ExtractAny of the package sigma: the walk. Condition: the lists that memory can hold. -/
namespace Go.Proofs.Ytipgjookfdkciaa
open Go.RowKit

def prfAt (x : EithA) (i : Nat) : PrfA := ⟨x.cs.getD i ⟨#[]⟩, (x.rs.getD i ⟨none, 0, []⟩).a, (x.rs.getD i ⟨none, 0, []⟩).c, (x.rs.getD i ⟨none, 0, []⟩).l⟩
def EE (k : Int) (x y : EithA) (i : Nat) : Int := exEk k (prfAt x i) (prfAt y i)
def XX (k : Int) (x y : EithA) (i : Nat) : List ByteArray := exLk k (prfAt x i) (prfAt y i)
/-- What ExtractAny answers. -/
def AnySpec (k : Int) (x y : EithA) (er : Int) (idx : Nat) (lst : List ByteArray) : Prop :=
  (¬ (1 ≤ k ∧ k ≤ 3) ∧ er = 1 ∧ idx = 0 ∧ lst = []) ∨ ((1 ≤ k ∧ k ≤ 3) ∧ fitB x y = false ∧ er = 2 ∧ idx = 0 ∧ lst = []) ∨
  ((1 ≤ k ∧ k ≤ 3) ∧ fitB x y = true ∧ ((∃ i, i < x.cs.length ∧ EE k x y i = 6) ∧ er = 6 ∧ idx = 0 ∧ lst = [] ∨
    (∀ i, i < x.cs.length → EE k x y i ≠ 6) ∧ (∀ i, i < x.cs.length → EE k x y i ≠ 0) ∧ er = 9 ∧ idx = 0 ∧ lst = [] ∨
    (∀ i, i < x.cs.length → EE k x y i ≠ 6) ∧ ∃ f, f < x.cs.length ∧ EE k x y f = 0 ∧ (∀ i, i < f → EE k x y i ≠ 0) ∧ er = 0 ∧ idx = f ∧ lst = XX k x y f))
def AnyR (er : Int) (idx : Nat) (lst : List ByteArray) (w : World) (e : Ending) (w' : World) : Prop :=
  Below w.heap.size w w' ∧ ∃ a c, e = .returned (.tuple #[.int .i64 (idx : Int), .slice a lst.length c, .int .i64 er]) ∧ Sl w' w'.heap.size a (lst.map Value.string)
def AnyA (k : Int) (x y : EithA) (w : World) (e : Ending) (w' : World) : Prop := ∃ er idx lst, AnySpec k x y er idx lst ∧ AnyR er idx lst w e w'
theorem anySpec_one {k : Int} {x y : EithA} {er er' : Int} {idx idx' : Nat} {lst lst' : List ByteArray} (h : AnySpec k x y er idx lst) (g : AnySpec k x y er' idx' lst') : er = er' ∧ idx = idx' ∧ lst = lst' := by
  rcases h with ⟨h1, rfl, rfl, rfl⟩ | ⟨h1, h2, rfl, rfl, rfl⟩ | ⟨h1, h2, h⟩
  · rcases g with ⟨_, rfl, rfl, rfl⟩ | ⟨g1, _⟩ | ⟨g1, _⟩
    · exact ⟨rfl, rfl, rfl⟩
    · exact absurd g1 h1
    · exact absurd g1 h1
  · rcases g with ⟨g1, _⟩ | ⟨_, _, rfl, rfl, rfl⟩ | ⟨_, g2, _⟩
    · exact absurd h1 g1
    · exact ⟨rfl, rfl, rfl⟩
    · rw [h2] at g2; cases g2
  · rcases g with ⟨g1, _⟩ | ⟨_, g2, _⟩ | ⟨_, _, g⟩
    · exact absurd h1 g1
    · rw [h2] at g2; cases g2
    · rcases h with ⟨⟨i, hi, h3⟩, rfl, rfl, rfl⟩ | ⟨h3, h4, rfl, rfl, rfl⟩ | ⟨h3, f, hf, h4, h5, rfl, rfl, rfl⟩
      · rcases g with ⟨_, rfl, rfl, rfl⟩ | ⟨g3, _⟩ | ⟨g3, _⟩
        · exact ⟨rfl, rfl, rfl⟩
        · exact absurd h3 (g3 i hi)
        · exact absurd h3 (g3 i hi)
      · rcases g with ⟨⟨i, hi, g3⟩, _⟩ | ⟨_, _, rfl, rfl, rfl⟩ | ⟨_, f, hf, g4, _⟩
        · exact absurd g3 (h3 i hi)
        · exact ⟨rfl, rfl, rfl⟩
        · exact absurd g4 (h4 f hf)
      · rcases g with ⟨⟨i, hi, g3⟩, _⟩ | ⟨_, g4, _⟩ | ⟨_, f', hf', g4, g5, rfl, rfl, rfl⟩
        · exact absurd g3 (h3 i hi)
        · exact absurd h4 (g4 idx hf)
        · have : idx = idx' := by
            rcases Nat.lt_trichotomy idx idx' with h | h | h
            · exact absurd h4 (g5 idx h)
            · exact h
            · exact absurd g4 (h5 idx' h)
          subst this
          exact ⟨rfl, rfl, rfl⟩

theorem prfAt_eq {x : EithA} {i : Nat} (hi : i < x.cs.length) (hi2 : i < x.rs.length) : prfAt x i = ⟨x.cs[i], x.rs[i].a, x.rs[i].c, x.rs[i].l⟩ := by
  unfold prfAt
  simp [List.getD, hi, hi2]
/-- What stands at one place of both. -/
theorem prfAt_cells {x : EithA} {w0 w : World} (h : x.At w0) (hb : Below w0.heap.size w0 w) (i : Nat) (hi : i < x.cs.length) (hr : x.rs.length = x.cs.length) :
    (prfAt x i).At w0 ∧ (∃ b off, x.ac = some ⟨b, off, none⟩ ∧ b < w.heap.size ∧ w.cell? ⟨b, off + i, none⟩ = some (.string (prfAt x i).c)) ∧ (∃ b off, x.ar = some ⟨b, off, none⟩ ∧ b < w.heap.size ∧ w.cell? ⟨b, off + i, none⟩ = some (.slice (prfAt x i).aa (prfAt x i).l.length (prfAt x i).ca)) := by
  have hi2 : i < x.rs.length := by omega
  rw [prfAt_eq hi hi2]
  obtain ⟨b, o, h1, _, h2, h3⟩ := h.c.atUp hb i (by simpa using hi)
  rw [List.getElem_map] at h3
  obtain ⟨b', o', g1, _, g2, g3⟩ := h.r.cell hb i hi2
  exact ⟨⟨h.r.one i hi2, h.n _ (List.getElem_mem hi2)⟩, ⟨b, o, h1, h2, h3⟩, ⟨b', o', g1, g2, g3⟩⟩

theorem fitB_lens {x y : EithA} (h : fitB x y = true) : x.cs.length ≠ 0 ∧ y.cs.length = x.cs.length ∧ x.rs.length = x.cs.length ∧ y.rs.length = x.cs.length ∧ ∀ i, i < x.cs.length → (prfAt x i).l.length ≠ 0 ∧ (prfAt x i).l.length = (prfAt y i).l.length := by
  unfold fitB at h
  simp only [Bool.and_eq_true, decide_eq_true_eq] at h
  obtain ⟨⟨h1, h2, h3, h4⟩, h5⟩ := h
  refine ⟨h1, h2, h3, h4, fun i hi => ?_⟩
  have h6 := List.all_eq_true.1 h5 ((List.zipWith fit2 x.rs y.rs)[i]'(by rw [List.length_zipWith]; omega)) (List.getElem_mem _)
  rw [List.getElem_zipWith] at h6
  unfold fit2 at h6
  simp only [id, decide_eq_true_eq] at h6
  rw [prfAt_eq hi (by omega), prfAt_eq (show i < y.cs.length by omega) (by omega)]
  exact h6
theorem EE_vals {k : Int} (hk : 1 ≤ k ∧ k ≤ 3) {x y : EithA} {i : Nat} (h : (prfAt x i).l.length ≠ 0 ∧ (prfAt x i).l.length = (prfAt y i).l.length) : EE k x y i = 0 ∧ (XX k x y i).length ≠ 0 ∨ EE k x y i = 6 ∨ EE k x y i = 9 := by
  unfold EE XX exEk exLk
  rw [if_pos hk, if_pos hk]
  have he : exE (grp k.toNat) (prfAt x i) (prfAt y i) = 0 ∨ exE (grp k.toNat) (prfAt x i) (prfAt y i) = 6 ∨ exE (grp k.toNat) (prfAt x i) (prfAt y i) = 9 := by
    unfold exE
    rw [if_pos ⟨h.2, h.1⟩]
    split
    · split
      · exact Or.inr (Or.inr rfl)
      · exact Or.inl rfl
    · exact Or.inr (Or.inl rfl)
  rcases he with he | he | he
  · refine Or.inl ⟨he, ?_⟩
    unfold exL
    rw [if_pos he, List.length_zipWith]
    omega
  · exact Or.inr (Or.inl he)
  · exact Or.inr (Or.inr he)

set_option maxRecDepth 100000 in
set_option maxHeartbeats 1000000 in
theorem exAny_none (k : Int) (hk : ¬ (1 ≤ k ∧ k ≤ 3)) (x y : EithA) (w : World) : Calls Try.prog 18 #[.int .i64 k, x.val, y.val] w (AnyR 1 0 [] w) := by
  unfold EithA.val
  generalize x.cs.length = n1 at *
  generalize x.rs.length = n2 at *
  generalize y.cs.length = n3 at *
  generalize y.rs.length = n4 at *
  go_enter Try.func18, Try.ntmps18
  go_wp2_with fail
  have hb9 : Below w.heap.size w ((w.alloc (Obj.cells #[.slice x.ac n1 x.cc, .slice x.ar n2 x.cr] 27)).alloc (Obj.cells #[.slice y.ac n3 y.cc, .slice y.ar n4 y.cr] 27)) := (((Below.refl _ _).alloc (Nat.le_refl _) _).alloc (by simp) _)
  have hx90 : Bx ((w.alloc (Obj.cells #[.slice x.ac n1 x.cc, .slice x.ar n2 x.cr] 27)).alloc (Obj.cells #[.slice y.ac n3 y.cc, .slice y.ar n4 y.cr] 27)) (w.heap.size) 27 [.slice x.ac n1 x.cc, .slice x.ar n2 x.cr] := by
    have h := ((Bx.new w 27 [.slice x.ac n1 x.cc, .slice x.ar n2 x.cr] _ rfl).alloc (Obj.cells #[.slice y.ac n3 y.cc, .slice y.ar n4 y.cr] 27))
    exact h
  have hx91 : Bx ((w.alloc (Obj.cells #[.slice x.ac n1 x.cc, .slice x.ar n2 x.cr] 27)).alloc (Obj.cells #[.slice y.ac n3 y.cc, .slice y.ar n4 y.cr] 27)) (w.heap.size + 1) 27 [.slice y.ac n3 y.cc, .slice y.ar n4 y.cr] := by
    have h := (Bx.new (w.alloc (Obj.cells #[.slice x.ac n1 x.cc, .slice x.ar n2 x.cr] 27)) 27 [.slice y.ac n3 y.cc, .slice y.ar n4 y.cr] _ rfl)
    rw [World.size_alloc] at h
    exact h
  have hz9 : ((w.alloc (Obj.cells #[.slice x.ac n1 x.cc, .slice x.ar n2 x.cr] 27)).alloc (Obj.cells #[.slice y.ac n3 y.cc, .slice y.ar n4 y.cr] 27)).heap.size = w.heap.size + 2 := by simp
  obtain ⟨w1, hq1⟩ : ∃ W9 : World, ((w.alloc (Obj.cells #[.slice x.ac n1 x.cc, .slice x.ar n2 x.cr] 27)).alloc (Obj.cells #[.slice y.ac n3 y.cc, .slice y.ar n4 y.cr] 27)) = W9 := ⟨_, rfl⟩
  rw [hq1] at hb9 hz9 hx90 hx91
  rw [hq1]
  clear hq1
  have HB := Lib.hid hb9
  have Hs1 := Lib.hid hz9
  have Hbx := Lib.hid hx90
  have Hby := Lib.hid hx91
  clear hb9 hz9 hx90 hx91
  have bx_0 := Hbx.out.cell (i := 0) rfl
  have bx_1 := Hbx.out.cell (i := 1) rfl
  have by_0 := Hby.out.cell (i := 0) rfl
  have by_1 := Hby.out.cell (i := 1) rfl
  go_wp2_with fail
  refine (of_none k hk _).mono ?_
  rintro e w2 ⟨rfl, rfl⟩
  go_wp2_with fail
  simp [bodyPost, results, Try.results18, go_sem]
  exact ⟨HB.out, none, 0, rfl, Or.inl rfl⟩

set_option maxRecDepth 100000 in
set_option maxHeartbeats 1000000 in
theorem exAny_form (k : Nat) (h1 : 1 ≤ k) (h3 : k ≤ 3) (x y : EithA) (hn : x.cs.length ≤ 8796093022206) (hf : fitB x y = false) (w : World) (hX : x.At w) (hY : y.At w) : Calls Try.prog 18 #[.int .i64 (k : Int), x.val, y.val] w (AnyR 2 0 [] w) := by
  have HF := Lib.hid (fun w1 (hb : Below w.heap.size w w1) => fits_any x y hn w1 (hX.up hb) (hY.up hb))
  rw [hf] at HF
  unfold EithA.val at HF
  clear hX hY hf hn
  unfold EithA.val
  generalize x.cs.length = n1 at *
  generalize x.rs.length = n2 at *
  generalize y.cs.length = n3 at *
  generalize y.rs.length = n4 at *
  go_enter Try.func18, Try.ntmps18
  go_wp2_with fail
  have hb9 : Below w.heap.size w ((w.alloc (Obj.cells #[.slice x.ac n1 x.cc, .slice x.ar n2 x.cr] 27)).alloc (Obj.cells #[.slice y.ac n3 y.cc, .slice y.ar n4 y.cr] 27)) := (((Below.refl _ _).alloc (Nat.le_refl _) _).alloc (by simp) _)
  have hx90 : Bx ((w.alloc (Obj.cells #[.slice x.ac n1 x.cc, .slice x.ar n2 x.cr] 27)).alloc (Obj.cells #[.slice y.ac n3 y.cc, .slice y.ar n4 y.cr] 27)) (w.heap.size) 27 [.slice x.ac n1 x.cc, .slice x.ar n2 x.cr] := by
    have h := ((Bx.new w 27 [.slice x.ac n1 x.cc, .slice x.ar n2 x.cr] _ rfl).alloc (Obj.cells #[.slice y.ac n3 y.cc, .slice y.ar n4 y.cr] 27))
    exact h
  have hx91 : Bx ((w.alloc (Obj.cells #[.slice x.ac n1 x.cc, .slice x.ar n2 x.cr] 27)).alloc (Obj.cells #[.slice y.ac n3 y.cc, .slice y.ar n4 y.cr] 27)) (w.heap.size + 1) 27 [.slice y.ac n3 y.cc, .slice y.ar n4 y.cr] := by
    have h := (Bx.new (w.alloc (Obj.cells #[.slice x.ac n1 x.cc, .slice x.ar n2 x.cr] 27)) 27 [.slice y.ac n3 y.cc, .slice y.ar n4 y.cr] _ rfl)
    rw [World.size_alloc] at h
    exact h
  have hz9 : ((w.alloc (Obj.cells #[.slice x.ac n1 x.cc, .slice x.ar n2 x.cr] 27)).alloc (Obj.cells #[.slice y.ac n3 y.cc, .slice y.ar n4 y.cr] 27)).heap.size = w.heap.size + 2 := by simp
  obtain ⟨w1, hq1⟩ : ∃ W9 : World, ((w.alloc (Obj.cells #[.slice x.ac n1 x.cc, .slice x.ar n2 x.cr] 27)).alloc (Obj.cells #[.slice y.ac n3 y.cc, .slice y.ar n4 y.cr] 27)) = W9 := ⟨_, rfl⟩
  rw [hq1] at hb9 hz9 hx90 hx91
  rw [hq1]
  clear hq1
  have HB := Lib.hid hb9
  have Hs1 := Lib.hid hz9
  have Hbx := Lib.hid hx90
  have Hby := Lib.hid hx91
  clear hb9 hz9 hx90 hx91
  have bx_0 := Hbx.out.cell (i := 0) rfl
  have bx_1 := Hbx.out.cell (i := 1) rfl
  have by_0 := Hby.out.cell (i := 0) rfl
  have by_1 := Hby.out.cell (i := 1) rfl
  go_wp2_with fail
  refine (of_some k h1 h3 w1).mono ?_
  rintro e w2 ⟨rfl, hg9, hb9⟩
  clear bx_0 bx_1
  replace Hbx := Lib.hid (Hbx.out.up hb9)
  clear by_0 by_1
  replace Hby := Lib.hid (Hby.out.up hb9)
  replace HB := Lib.hid (below_up HB.out hb9)
  have Hs2 := Lib.hid (show w1.heap.size ≤ w2.heap.size from hb9.size)
  have HG := Lib.hid hg9
  clear hg9
  clear hb9
  have bx_0 := Hbx.out.cell (i := 0) rfl
  have bx_1 := Hbx.out.cell (i := 1) rfl
  have by_0 := Hby.out.cell (i := 0) rfl
  have by_1 := Hby.out.cell (i := 1) rfl
  go_wp2_with fail
  refine (HF.out _ HB.out).mono ?_
  rintro e w3 ⟨rfl, hb9⟩
  clear bx_0 bx_1
  replace Hbx := Lib.hid (Hbx.out.up hb9)
  clear by_0 by_1
  replace Hby := Lib.hid (Hby.out.up hb9)
  replace HG := Lib.hid (HG.out.up hb9)
  replace HB := Lib.hid (below_up HB.out hb9)
  have Hs3 := Lib.hid (show w2.heap.size ≤ w3.heap.size from hb9.size)
  clear hb9
  have bx_0 := Hbx.out.cell (i := 0) rfl
  have bx_1 := Hbx.out.cell (i := 1) rfl
  have by_0 := Hby.out.cell (i := 0) rfl
  have by_1 := Hby.out.cell (i := 1) rfl
  go_wp2_with fail
  simp [bodyPost, results, Try.results18, go_sem]
  exact ⟨HB.out, none, 0, rfl, Or.inl rfl⟩


set_option maxRecDepth 100000 in
set_option maxHeartbeats 4000000 in
theorem exAny_body (k : Nat) (h1 : 1 ≤ k) (h3 : k ≤ 3) (x y : EithA) (n : Nat) (hxn : x.cs.length = n) (hn0 : n ≠ 0) (hn : n ≤ 8796093022206) (hf : fitB x y = true) (hl : ∀ i, i < n → (prfAt x i).l.length ≤ 8796093022206) (ac ar bc br : Option Addr) (hac : x.ac = ac) (har : x.ar = ar) (hbc : y.ac = bc) (hbr : y.ar = br) (w : World) (hX : x.At w) (hY : y.At w) :
    Calls Try.prog 18 #[.int .i64 (k : Int), .agg #[.slice ac n x.cc, .slice ar n x.cr], .agg #[.slice bc n y.cc, .slice br n y.cr]] w (AnyA (k : Int) x y w) := by
  obtain ⟨f1, f2, f3, f4, f5⟩ := fitB_lens hf
  have hk : (1 : Int) ≤ (k : Int) ∧ (k : Int) ≤ 3 := by omega
  have HN := Lib.hid (show x.cs.length = n ∧ x.rs.length = n ∧ y.cs.length = n ∧ y.rs.length = n by omega)
  have HV := Lib.hid (fun i (hi : i < n) => EE_vals hk (f5 i (by omega)))
  have HLE := Lib.hid hl
  have HFB := Lib.hid hf
  have HX := Lib.hid hX
  have HY := Lib.hid hY
  have HSP := Lib.hid (fun (er : Int) (idx : Nat) (lst : List ByteArray) (h : _ ∨ _ ∨ _) => (show AnySpec (k : Int) x y er idx lst from Or.inr (Or.inr ⟨hk, hf, h⟩)))
  have HFI := Lib.hid (fun w1 (hb : Below w.heap.size w w1) => fits_any x y (by omega) w1 (hX.up hb) (hY.up hb))
  unfold EithA.val at HFI
  rw [hf, HN.out.1, HN.out.2.1, HN.out.2.2.1, HN.out.2.2.2, hac, har, hbc, hbr] at HFI
  rw [HN.out.1] at HSP
  have HAC := Lib.hid hac
  have HAR := Lib.hid har
  have HBC := Lib.hid hbc
  have HBR := Lib.hid hbr
  clear hX hY hf f1 f2 f3 f4 f5 hl hk hac har hbc hbr
  have hnil := fun (W : World) (a : Option Addr) (n c : Nat) => Lib.run_eql_slice_nil (P := Try.prog) W 22 9 a n c 0 0 Try.underlying22
  go_enter Try.func18, Try.ntmps18
  go_wp2_with fail
  have hb9 : Below w.heap.size w ((w.alloc (Obj.cells #[.slice ac n x.cc, .slice ar n x.cr] 27)).alloc (Obj.cells #[.slice bc n y.cc, .slice br n y.cr] 27)) := (((Below.refl _ _).alloc (Nat.le_refl _) _).alloc (by simp) _)
  have hx90 : Bx ((w.alloc (Obj.cells #[.slice ac n x.cc, .slice ar n x.cr] 27)).alloc (Obj.cells #[.slice bc n y.cc, .slice br n y.cr] 27)) (w.heap.size) 27 [.slice ac n x.cc, .slice ar n x.cr] := by
    have h := ((Bx.new w 27 [.slice ac n x.cc, .slice ar n x.cr] _ rfl).alloc (Obj.cells #[.slice bc n y.cc, .slice br n y.cr] 27))
    exact h
  have hx91 : Bx ((w.alloc (Obj.cells #[.slice ac n x.cc, .slice ar n x.cr] 27)).alloc (Obj.cells #[.slice bc n y.cc, .slice br n y.cr] 27)) (w.heap.size + 1) 27 [.slice bc n y.cc, .slice br n y.cr] := by
    have h := (Bx.new (w.alloc (Obj.cells #[.slice ac n x.cc, .slice ar n x.cr] 27)) 27 [.slice bc n y.cc, .slice br n y.cr] _ rfl)
    rw [World.size_alloc] at h
    exact h
  have hz9 : ((w.alloc (Obj.cells #[.slice ac n x.cc, .slice ar n x.cr] 27)).alloc (Obj.cells #[.slice bc n y.cc, .slice br n y.cr] 27)).heap.size = w.heap.size + 2 := by simp
  obtain ⟨w1, hq1⟩ : ∃ W9 : World, ((w.alloc (Obj.cells #[.slice ac n x.cc, .slice ar n x.cr] 27)).alloc (Obj.cells #[.slice bc n y.cc, .slice br n y.cr] 27)) = W9 := ⟨_, rfl⟩
  rw [hq1] at hb9 hz9 hx90 hx91
  rw [hq1]
  clear hq1
  have HB := Lib.hid hb9
  have Hs1 := Lib.hid hz9
  have Hbx := Lib.hid hx90
  have Hby := Lib.hid hx91
  clear hb9 hz9 hx90 hx91
  have bx_0 := Hbx.out.cell (i := 0) rfl
  have bx_1 := Hbx.out.cell (i := 1) rfl
  have by_0 := Hby.out.cell (i := 0) rfl
  have by_1 := Hby.out.cell (i := 1) rfl
  go_wp2_with fail
  refine (of_some k h1 h3 w1).mono ?_
  rintro e w2 ⟨rfl, hg9, hb9⟩
  clear bx_0 bx_1
  replace Hbx := Lib.hid (Hbx.out.up hb9)
  clear by_0 by_1
  replace Hby := Lib.hid (Hby.out.up hb9)
  replace HB := Lib.hid (below_up HB.out hb9)
  have Hs2 := Lib.hid (show w1.heap.size ≤ w2.heap.size from hb9.size)
  have HG := Lib.hid hg9
  clear hg9
  clear hb9
  have bx_0 := Hbx.out.cell (i := 0) rfl
  have bx_1 := Hbx.out.cell (i := 1) rfl
  have by_0 := Hby.out.cell (i := 0) rfl
  have by_1 := Hby.out.cell (i := 1) rfl
  go_wp2_with fail
  refine (HFI.out _ HB.out).mono ?_
  rintro e w3 ⟨rfl, hb9⟩
  clear bx_0 bx_1
  replace Hbx := Lib.hid (Hbx.out.up hb9)
  clear by_0 by_1
  replace Hby := Lib.hid (Hby.out.up hb9)
  replace HG := Lib.hid (HG.out.up hb9)
  replace HB := Lib.hid (below_up HB.out hb9)
  have Hs3 := Lib.hid (show w2.heap.size ≤ w3.heap.size from hb9.size)
  clear hb9
  have bx_0 := Hbx.out.cell (i := 0) rfl
  have bx_1 := Hbx.out.cell (i := 1) rfl
  have by_0 := Hby.out.cell (i := 0) rfl
  have by_1 := Hby.out.cell (i := 1) rfl
  have BL := Lib.hid (Below.refl w3.heap.size w3)
  go_wp2_with fail
  go_loopw [9, 10, 24] (fun u v i wr => ∃ j : Nat, j ≤ n ∧ i = .int .i64 j ∧ Hid (Below w3.heap.size w3 wr) ∧ Hid (∀ i, i < j → EE k x y i ≠ 6) ∧ (u = .int .i64 0 ∧ v = .slice none 0 0 ∧ Hid (∀ i, i < j → EE k x y i ≠ 0) ∨ ∃ (f : Nat) (b o c : Nat), u = .int .i64 f ∧ v = .slice (some ⟨b, o, none⟩) (XX k x y f).length c ∧ Hid (f < j ∧ EE k x y f = 0 ∧ ∀ i, i < f → EE k x y i ≠ 0) ∧ Hid (Sl wr wr.heap.size (some ⟨b, o, none⟩) ((XX k x y f).map Value.string)))) (fun _ _ i _ => n - (intOf i).toNat)
  case atStart => exact ⟨0, Nat.zero_le _, rfl, BL, fun _ h => absurd h (by omega), Or.inl ⟨rfl, rfl, fun _ h => absurd h (by omega)⟩⟩
  case round =>
    obtain ⟨j, hj, rfl, HL9, H6, ⟨rfl, rfl, H0⟩ | ⟨f, b, o, c, rfl, rfl, HF, HS⟩⟩ := hrel
    · have hb9 := HL9.out
      clear HL9
      clear bx_0 bx_1
      replace Hbx := Lib.hid (Hbx.out.up hb9)
      clear by_0 by_1
      replace Hby := Lib.hid (Hby.out.up hb9)
      replace HG := Lib.hid (HG.out.up hb9)
      replace BL := Lib.hid (below_up BL.out hb9)
      replace HB := Lib.hid (below_up HB.out hb9)
      have Hs3' := Lib.hid (show w3.heap.size ≤ wr.heap.size from hb9.size)
      clear hb9
      have bx_0 := Hbx.out.cell (i := 0) rfl
      have bx_1 := Hbx.out.cell (i := 1) rfl
      have by_0 := Hby.out.cell (i := 0) rfl
      have by_1 := Hby.out.cell (i := 1) rfl
      have BS := Lib.hid (Below.refl wr.heap.size wr)
      by_cases hjn : j < n
      · obtain ⟨hpx, ⟨b1, o1, e1, hb1, hc1⟩, ⟨b2, o2, e2, hb2, hc2⟩⟩ := prfAt_cells HX.out HB.out j (by rw [HN.out.1]; exact hjn) (by rw [HN.out.1]; exact HN.out.2.1)
        obtain ⟨hpy, ⟨b3, o3, e3, hb3, hc3⟩, ⟨b4, o4, e4, hb4, hc4⟩⟩ := prfAt_cells HY.out HB.out j (by rw [HN.out.2.2.1]; exact hjn) (by rw [HN.out.2.2.1]; exact HN.out.2.2.2)
        have HPX := Lib.hid hpx
        have HPY := Lib.hid hpy
        have HEV := Lib.hid (HV.out j hjn)
        have HPL := Lib.hid (HLE.out j hjn)
        have HEJ := Lib.hid (show EE k x y j = exEk k (prfAt x j) (prfAt y j) from rfl)
        have HXJ := Lib.hid (show XX k x y j = exLk k (prfAt x j) (prfAt y j) from rfl)
        generalize prfAt x j = P at *
        generalize prfAt y j = Q at *
        obtain rfl := HAC.out.symm.trans e1
        obtain rfl := HAR.out.symm.trans e2
        obtain rfl := HBC.out.symm.trans e3
        obtain rfl := HBR.out.symm.trans e4
        obtain ⟨z, hz⟩ : ∃ z, exEk (k : Int) P Q = z := ⟨_, rfl⟩
        have HZ := Lib.hid hz
        have HPC := Lib.hid (fun w1 h1 h2 => ext_any (k : Int) P Q HPL.out w1 h1 h2)
        rw [hz] at HPC
        unfold PrfA.val at HPC
        clear hpx hpy e1 e2 e3 e4 hz
        go_wp2_with fail
        have HT := Lib.hid (show Below wr.heap.size wr wr.drew from (Below.refl _ _).drew)
        have hl_bx := Hbx.out.lt
        have hl_by := Hby.out.lt
        refine wp_region_tree (fun wq9 => ∃ E : Over wr, wq9 = E.w) ((.qs [0, 1, 2, 3, 4, 5, 6, 7, 8, 9, 10, 11, 12, 13, 14, 15, 16, 17, 18, 19, 20, 21, 22] (.a 23 (.qs [24, 25, 26, 27, 28] .done)))) (by kernel_rfl) (by kernel_rfl) (fun _ _ d _ _ h => by cases d <;> exact h) ⟨⟨_, HT.out⟩, rfl⟩ ?_
        have hov_bx := fun (E : Over wr) o => E.cell (b := w.heap.size) o hl_bx
        have hov_by := fun (E : Over wr) o => E.cell (b := w.heap.size + 1) o hl_by
        have hov_b1 := fun (E : Over wr) o => E.cell (b := b1) o hb1
        have hov_b2 := fun (E : Over wr) o => E.cell (b := b2) o hb2
        have hov_b3 := fun (E : Over wr) o => E.cell (b := b3) o hb3
        have hov_b4 := fun (E : Over wr) o => E.cell (b := b4) o hb4
        simp only [Tree.qs]
        repeat (refine tree_q rfl rfl ?_; go_big_quiet_step (fail); refine wpQuiet_nil ?_)
        refine tree_a rfl (fun K hK => ?_)
        go_simp
        refine (HPC.out _ (HPX.out.up (below_up HB.out HT.out)) (HPY.out.up (below_up HB.out HT.out))).mono ?_
        rintro e w4 ⟨hb9, a9, c9, rfl, hs9, hn9, hc9⟩
        replace HT := Lib.hid (below_up HT.out hb9)
        have Hs4 := Lib.hid (show wr.heap.size ≤ w4.heap.size from HT.out.size)
        clear hb9
        have HSL := Lib.hid hs9
        clear hs9
        have HNL := Lib.hid hn9
        clear hn9
        clear hc9
        refine hK _ _ ⟨⟨⟨w4, HT.out⟩, rfl⟩, ?_⟩
        clear hK K
        repeat (refine tree_q rfl rfl ?_; go_big_quiet_step (fail); refine wpQuiet_nil ?_)
        refine tree_end ?_
        clear hov_bx hl_bx hov_by hl_by hov_b1 hov_b2 hov_b3 hov_b4
        clear bx_0 bx_1
        replace Hbx := Lib.hid (Hbx.out.up HT.out)
        clear by_0 by_1
        replace Hby := Lib.hid (Hby.out.up HT.out)
        replace HG := Lib.hid (HG.out.up HT.out)
        replace BL := Lib.hid (below_up BL.out HT.out)
        replace BS := Lib.hid (below_up BS.out HT.out)
        replace HB := Lib.hid (below_up HB.out HT.out)
        have Hs4' := Lib.hid (show wr.heap.size ≤ w4.heap.size from HT.out.size)
        clear HT
        have bx_0 := Hbx.out.cell (i := 0) rfl
        have bx_1 := Hbx.out.cell (i := 1) rfl
        have by_0 := Hby.out.cell (i := 0) rfl
        have by_1 := Hby.out.cell (i := 1) rfl
        have hev := HEV.out
        rw [HEJ.out, HXJ.out, HZ.out] at hev
        have hj6 : z ≠ 6 → ∀ i, i < j + 1 → EE (k : Int) x y i ≠ 6 := fun h i hi => by
          by_cases h9 : i < j
          · exact H6.out i h9
          · obtain rfl : i = j := by omega
            rw [HEJ.out, HZ.out]; exact h
        have HJ6 := Lib.hid hj6
        clear hj6
        rcases hev with ⟨rfl, hlen⟩ | rfl | rfl
        · obtain ⟨b9, o9, rfl, _⟩ := HSL.out.adr (by simp only [ne_eq, List.map_eq_nil_iff]; exact fun e => hlen (by rw [e]; rfl))
          clear hlen
          go_wp2_with fail
          go_roundw
          case rel => exact ⟨j + 1, by omega, by go_num, BL, HJ6.out (by decide), Or.inr ⟨j, b9, o9, c9, rfl, by rw [HXJ.out], ⟨by omega, by rw [HEJ.out, HZ.out], H0.out⟩, by rw [HXJ.out]; exact HSL⟩⟩
          case measure => simp [intOf]; omega
        · go_wp2_with fail
          simp [bodyPost, results, Try.results18, go_sem]
          exact ⟨6, 0, [], HSP.out _ _ _ (Or.inl ⟨⟨j, hjn, by rw [HEJ.out, HZ.out]⟩, rfl, rfl, rfl⟩), HB.out, none, 0, rfl, Or.inl rfl⟩
        · go_wp2_with fail
          go_roundw
          case rel => exact ⟨j + 1, by omega, by go_num, BL, HJ6.out (by decide), Or.inl ⟨rfl, rfl, fun i hi => by
            by_cases h9 : i < j
            · exact H0.out i h9
            · obtain rfl : i = j := by omega
              rw [HEJ.out, HZ.out]; decide⟩⟩
          case measure => simp [intOf]; omega
      · have hjn' : j = n := by omega
        subst hjn'
        go_wp2_with fail
        simp [bodyPost, results, Try.results18, go_sem]
        exact ⟨9, 0, [], HSP.out _ _ _ (Or.inr (Or.inl ⟨H6.out, H0.out, rfl, rfl, rfl⟩)), HB.out, none, 0, rfl, Or.inl rfl⟩
    · have hb9 := HL9.out
      clear HL9
      clear bx_0 bx_1
      replace Hbx := Lib.hid (Hbx.out.up hb9)
      clear by_0 by_1
      replace Hby := Lib.hid (Hby.out.up hb9)
      replace HG := Lib.hid (HG.out.up hb9)
      replace BL := Lib.hid (below_up BL.out hb9)
      replace HB := Lib.hid (below_up HB.out hb9)
      have Hs3' := Lib.hid (show w3.heap.size ≤ wr.heap.size from hb9.size)
      clear hb9
      have bx_0 := Hbx.out.cell (i := 0) rfl
      have bx_1 := Hbx.out.cell (i := 1) rfl
      have by_0 := Hby.out.cell (i := 0) rfl
      have by_1 := Hby.out.cell (i := 1) rfl
      have BS := Lib.hid (Below.refl wr.heap.size wr)
      by_cases hjn : j < n
      · obtain ⟨hpx, ⟨b1, o1, e1, hb1, hc1⟩, ⟨b2, o2, e2, hb2, hc2⟩⟩ := prfAt_cells HX.out HB.out j (by rw [HN.out.1]; exact hjn) (by rw [HN.out.1]; exact HN.out.2.1)
        obtain ⟨hpy, ⟨b3, o3, e3, hb3, hc3⟩, ⟨b4, o4, e4, hb4, hc4⟩⟩ := prfAt_cells HY.out HB.out j (by rw [HN.out.2.2.1]; exact hjn) (by rw [HN.out.2.2.1]; exact HN.out.2.2.2)
        have HPX := Lib.hid hpx
        have HPY := Lib.hid hpy
        have HEV := Lib.hid (HV.out j hjn)
        have HPL := Lib.hid (HLE.out j hjn)
        have HEJ := Lib.hid (show EE k x y j = exEk k (prfAt x j) (prfAt y j) from rfl)
        have HXJ := Lib.hid (show XX k x y j = exLk k (prfAt x j) (prfAt y j) from rfl)
        generalize prfAt x j = P at *
        generalize prfAt y j = Q at *
        obtain rfl := HAC.out.symm.trans e1
        obtain rfl := HAR.out.symm.trans e2
        obtain rfl := HBC.out.symm.trans e3
        obtain rfl := HBR.out.symm.trans e4
        obtain ⟨z, hz⟩ : ∃ z, exEk (k : Int) P Q = z := ⟨_, rfl⟩
        have HZ := Lib.hid hz
        have HPC := Lib.hid (fun w1 h1 h2 => ext_any (k : Int) P Q HPL.out w1 h1 h2)
        rw [hz] at HPC
        unfold PrfA.val at HPC
        clear hpx hpy e1 e2 e3 e4 hz
        go_wp2_with fail
        have HT := Lib.hid (show Below wr.heap.size wr wr.drew from (Below.refl _ _).drew)
        have hl_bx := Hbx.out.lt
        have hl_by := Hby.out.lt
        refine wp_region_tree (fun wq9 => ∃ E : Over wr, wq9 = E.w) ((.qs [0, 1, 2, 3, 4, 5, 6, 7, 8, 9, 10, 11, 12, 13, 14, 15, 16, 17, 18, 19, 20, 21, 22] (.a 23 (.qs [24, 25, 26, 27, 28] .done)))) (by kernel_rfl) (by kernel_rfl) (fun _ _ d _ _ h => by cases d <;> exact h) ⟨⟨_, HT.out⟩, rfl⟩ ?_
        have hov_bx := fun (E : Over wr) o => E.cell (b := w.heap.size) o hl_bx
        have hov_by := fun (E : Over wr) o => E.cell (b := w.heap.size + 1) o hl_by
        have hov_b1 := fun (E : Over wr) o => E.cell (b := b1) o hb1
        have hov_b2 := fun (E : Over wr) o => E.cell (b := b2) o hb2
        have hov_b3 := fun (E : Over wr) o => E.cell (b := b3) o hb3
        have hov_b4 := fun (E : Over wr) o => E.cell (b := b4) o hb4
        simp only [Tree.qs]
        repeat (refine tree_q rfl rfl ?_; go_big_quiet_step (fail); refine wpQuiet_nil ?_)
        refine tree_a rfl (fun K hK => ?_)
        go_simp
        refine (HPC.out _ (HPX.out.up (below_up HB.out HT.out)) (HPY.out.up (below_up HB.out HT.out))).mono ?_
        rintro e w4 ⟨hb9, a9, c9, rfl, hs9, hn9, hc9⟩
        replace HT := Lib.hid (below_up HT.out hb9)
        have Hs4 := Lib.hid (show wr.heap.size ≤ w4.heap.size from HT.out.size)
        clear hb9
        have HSL := Lib.hid hs9
        clear hs9
        have HNL := Lib.hid hn9
        clear hn9
        clear hc9
        refine hK _ _ ⟨⟨⟨w4, HT.out⟩, rfl⟩, ?_⟩
        clear hK K
        repeat (refine tree_q rfl rfl ?_; go_big_quiet_step (fail); refine wpQuiet_nil ?_)
        refine tree_end ?_
        clear hov_bx hl_bx hov_by hl_by hov_b1 hov_b2 hov_b3 hov_b4
        clear bx_0 bx_1
        replace Hbx := Lib.hid (Hbx.out.up HT.out)
        clear by_0 by_1
        replace Hby := Lib.hid (Hby.out.up HT.out)
        replace HG := Lib.hid (HG.out.up HT.out)
        replace BL := Lib.hid (below_up BL.out HT.out)
        replace BS := Lib.hid (below_up BS.out HT.out)
        replace HB := Lib.hid (below_up HB.out HT.out)
        have Hs4' := Lib.hid (show wr.heap.size ≤ w4.heap.size from HT.out.size)
        clear HT
        have bx_0 := Hbx.out.cell (i := 0) rfl
        have bx_1 := Hbx.out.cell (i := 1) rfl
        have by_0 := Hby.out.cell (i := 0) rfl
        have by_1 := Hby.out.cell (i := 1) rfl
        have hev := HEV.out
        rw [HEJ.out, HXJ.out, HZ.out] at hev
        have hj6 : z ≠ 6 → ∀ i, i < j + 1 → EE (k : Int) x y i ≠ 6 := fun h i hi => by
          by_cases h9 : i < j
          · exact H6.out i h9
          · obtain rfl : i = j := by omega
            rw [HEJ.out, HZ.out]; exact h
        have HJ6 := Lib.hid hj6
        clear hj6
        rcases hev with ⟨rfl, hlen⟩ | rfl | rfl
        · clear hlen
          go_wp2_with fail
          go_roundw
          case rel => exact ⟨j + 1, by omega, by go_num, BL, HJ6.out (by decide), Or.inr ⟨f, b, o, c, rfl, rfl, ⟨by have := HF.out.1; omega, HF.out.2⟩, HS.out.up BS.out⟩⟩
          case measure => simp [intOf]; omega
        · go_wp2_with fail
          simp [bodyPost, results, Try.results18, go_sem]
          exact ⟨6, 0, [], HSP.out _ _ _ (Or.inl ⟨⟨j, hjn, by rw [HEJ.out, HZ.out]⟩, rfl, rfl, rfl⟩), HB.out, none, 0, rfl, Or.inl rfl⟩
        · go_wp2_with fail
          go_roundw
          case rel => exact ⟨j + 1, by omega, by go_num, BL, HJ6.out (by decide), Or.inr ⟨f, b, o, c, rfl, rfl, ⟨by have := HF.out.1; omega, HF.out.2⟩, HS.out.up BS.out⟩⟩
          case measure => simp [intOf]; omega
      · have hjn' : j = n := by omega
        subst hjn'
        go_wp2_with fail
        simp [bodyPost, results, Try.results18, go_sem]
        exact ⟨0, f, XX (k : Int) x y f, HSP.out _ _ _ (Or.inr (Or.inr ⟨H6.out, f, HF.out.1, HF.out.2.1, HF.out.2.2, rfl, rfl, rfl⟩)), HB.out, _, c, rfl, HS.out⟩

theorem exAny_any (k : Int) (x y : EithA) (hn : x.cs.length ≤ 8796093022206) (hl : ∀ r ∈ x.rs, r.l.length ≤ 8796093022206) (w : World) (hX : x.At w) (hY : y.At w) : Calls Try.prog 18 #[.int .i64 k, x.val, y.val] w (AnyA k x y w) := by
  by_cases hk : 1 ≤ k ∧ k ≤ 3
  · obtain ⟨j, rfl⟩ : ∃ j : Nat, k = j := ⟨k.toNat, by omega⟩
    cases hf : fitB x y with
    | false => exact (exAny_form j (by omega) (by omega) x y hn hf w hX hY).mono fun e w' h => ⟨2, 0, [], Or.inr (Or.inl ⟨hk, hf, rfl, rfl, rfl⟩), h⟩
    | true =>
      obtain ⟨f1, f2, f3, f4, f5⟩ := fitB_lens hf
      have h := exAny_body j (by omega) (by omega) x y _ rfl f1 hn hf (fun i hi => by rw [prfAt_eq hi (by omega)]; exact hl _ (List.getElem_mem _)) _ _ _ _ rfl rfl rfl rfl w hX hY
      unfold EithA.val
      rwa [f2, f3, f4]
  · exact (exAny_none k hk x y w).mono fun e w' h => ⟨1, 0, [], Or.inl ⟨hk, rfl, rfl, rfl⟩, h⟩

end Go.Proofs.Ytipgjookfdkciaa
