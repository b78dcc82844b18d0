/- Texts of this seat, one behind the other: what SigmaExtracts leans on. No condition beyond those that each names. -/
import Derived.Test.YtipgjookfdkciaaZSigmaExtracts4

/- Encrypt, Renew, Decrypt of the package ballot. No condition. -/
namespace Go.Proofs.Ytipgjookfdkciaa
open Go.RowKit

def cipE (e : Int) : Value := .tuple #[ciphV ⟨#[]⟩ ⟨#[]⟩, .int .i64 e]

set_option maxRecDepth 100000 in
set_option maxHeartbeats 1000000 in
theorem enc_none (k : Int) (hk : ¬ (1 ≤ k ∧ k ≤ 3)) (key x n : ByteArray) (w : World) : Calls Try.prog 21 #[.int .i64 k, .string key, .string x, .string n] w (Gives (cipE 1) w) := by
  unfold Gives cipE ciphV
  go_enter Try.func21, Try.ntmps21
  go_wp2_with fail
  have hb9 : Below w.heap.size w (w.alloc (Obj.cells #[.string ⟨#[]⟩, .string ⟨#[]⟩] 41)) := ((Below.refl _ _).alloc (Nat.le_refl _) _)
  have hx90 : Bx (w.alloc (Obj.cells #[.string ⟨#[]⟩, .string ⟨#[]⟩] 41)) (w.heap.size) 41 [.string ⟨#[]⟩, .string ⟨#[]⟩] := by
    have h := (Bx.new w 41 [.string ⟨#[]⟩, .string ⟨#[]⟩] _ rfl)
    exact h
  have hz9 : (w.alloc (Obj.cells #[.string ⟨#[]⟩, .string ⟨#[]⟩] 41)).heap.size = w.heap.size + 1 := by simp
  obtain ⟨w1, hq1⟩ : ∃ W9 : World, (w.alloc (Obj.cells #[.string ⟨#[]⟩, .string ⟨#[]⟩] 41)) = W9 := ⟨_, rfl⟩
  rw [hq1] at hb9 hz9 hx90
  rw [hq1]
  clear hq1
  have HB := Lib.hid hb9
  have Hs1 := Lib.hid hz9
  have Hbc := Lib.hid hx90
  clear hb9 hz9 hx90
  have bc_0 := Hbc.out.cell (i := 0) rfl
  have bc_1 := Hbc.out.cell (i := 1) rfl
  go_wp2_with fail
  refine (bopen_none k hk key w1).mono ?_
  rintro e w2 ⟨rfl, hb9⟩
  clear bc_0 bc_1
  replace Hbc := Lib.hid (Hbc.out.up hb9)
  replace HB := Lib.hid (below_up HB.out hb9)
  have Hs2 := Lib.hid (show w1.heap.size ≤ w2.heap.size from hb9.size)
  clear hb9
  have bc_0 := Hbc.out.cell (i := 0) rfl
  have bc_1 := Hbc.out.cell (i := 1) rfl
  unfold box0
  have o3_bc_0 := bc_0; clear bc_0
  have o3_bc_1 := bc_1; clear bc_1
  have hb9 : Below w2.heap.size w2 (w2.alloc (Obj.cells #[.pointer none, .int .u64 0, .int .u64 0, .int .u64 0, .int .u64 0] 113)) := ((Below.refl _ _).alloc (Nat.le_refl _) _)
  have hx90 : Bx (w2.alloc (Obj.cells #[.pointer none, .int .u64 0, .int .u64 0, .int .u64 0, .int .u64 0] 113)) (w2.heap.size) 113 [.pointer none, .int .u64 0, .int .u64 0, .int .u64 0, .int .u64 0] := by
    have h := (Bx.new w2 113 [.pointer none, .int .u64 0, .int .u64 0, .int .u64 0, .int .u64 0] _ rfl)
    exact h
  have hz9 : (w2.alloc (Obj.cells #[.pointer none, .int .u64 0, .int .u64 0, .int .u64 0, .int .u64 0] 113)).heap.size = w2.heap.size + 1 := by simp
  obtain ⟨w3, hq3⟩ : ∃ W9 : World, (w2.alloc (Obj.cells #[.pointer none, .int .u64 0, .int .u64 0, .int .u64 0, .int .u64 0] 113)) = W9 := ⟨_, rfl⟩
  rw [hq3] at hb9 hz9 hx90
  replace Hbc := Lib.hid (Hbc.out.up hb9)
  replace HB := Lib.hid (below_up HB.out hb9)
  have Hs3 := Lib.hid hz9
  have Hbk := Lib.hid hx90
  clear hb9 hz9 hx90
  have bc_0 := Hbc.out.cell (i := 0) rfl
  have bc_1 := Hbc.out.cell (i := 1) rfl
  have bk_0 := Hbk.out.cell (i := 0) rfl
  have bk_1 := Hbk.out.cell (i := 1) rfl
  have bk_2 := Hbk.out.cell (i := 2) rfl
  have bk_3 := Hbk.out.cell (i := 3) rfl
  have bk_4 := Hbk.out.cell (i := 4) rfl
  have f4_bk_0 := Hbk.out.frozen 0
  have f4_bk_1 := Hbk.out.frozen 1
  have f4_bk_2 := Hbk.out.frozen 2
  have f4_bk_3 := Hbk.out.frozen 3
  have f4_bk_4 := Hbk.out.frozen 4
  have o4_bc_0 := bc_0; clear bc_0
  have o4_bc_1 := bc_1; clear bc_1
  have o4_bk_0 := bk_0; clear bk_0
  have o4_bk_1 := bk_1; clear bk_1
  have o4_bk_2 := bk_2; clear bk_2
  have o4_bk_3 := bk_3; clear bk_3
  have o4_bk_4 := bk_4; clear bk_4
  have hx9 : Bx (((((w3.setCell ⟨w2.heap.size, 0, none⟩ (.pointer none)).setCell ⟨w2.heap.size, 1, none⟩ (.int .u64 0)).setCell ⟨w2.heap.size, 2, none⟩ (.int .u64 0)).setCell ⟨w2.heap.size, 3, none⟩ (.int .u64 0)).setCell ⟨w2.heap.size, 4, none⟩ (.int .u64 0)) (w2.heap.size) 113 [.pointer none, .int .u64 0, .int .u64 0, .int .u64 0, .int .u64 0] := (((((Hbk.out.set 0 (.pointer none)).set 1 (.int .u64 0)).set 2 (.int .u64 0)).set 3 (.int .u64 0)).set 4 (.int .u64 0))
  have hb9 : Below w.heap.size w (((((w3.setCell ⟨w2.heap.size, 0, none⟩ (.pointer none)).setCell ⟨w2.heap.size, 1, none⟩ (.int .u64 0)).setCell ⟨w2.heap.size, 2, none⟩ (.int .u64 0)).setCell ⟨w2.heap.size, 3, none⟩ (.int .u64 0)).setCell ⟨w2.heap.size, 4, none⟩ (.int .u64 0)) := (((((HB.out.setCell (show w.heap.size ≤ w2.heap.size by have g0 := Hs1.out; have g1 := Hs2.out; have g2 := Hs3.out; omega) _).setCell (show w.heap.size ≤ w2.heap.size by have g0 := Hs1.out; have g1 := Hs2.out; have g2 := Hs3.out; omega) _).setCell (show w.heap.size ≤ w2.heap.size by have g0 := Hs1.out; have g1 := Hs2.out; have g2 := Hs3.out; omega) _).setCell (show w.heap.size ≤ w2.heap.size by have g0 := Hs1.out; have g1 := Hs2.out; have g2 := Hs3.out; omega) _).setCell (show w.heap.size ≤ w2.heap.size by have g0 := Hs1.out; have g1 := Hs2.out; have g2 := Hs3.out; omega) _)
  have hz9 : (((((w3.setCell ⟨w2.heap.size, 0, none⟩ (.pointer none)).setCell ⟨w2.heap.size, 1, none⟩ (.int .u64 0)).setCell ⟨w2.heap.size, 2, none⟩ (.int .u64 0)).setCell ⟨w2.heap.size, 3, none⟩ (.int .u64 0)).setCell ⟨w2.heap.size, 4, none⟩ (.int .u64 0)).heap.size = w3.heap.size := by simp [World.setCell]
  have ho9Hbc := (((((Hbc.out.other (show _ ≠ w2.heap.size by have g0 := Hs1.out; have g1 := Hs2.out; have g2 := Hs3.out; omega) 0 (.pointer none)).other (show _ ≠ w2.heap.size by have g0 := Hs1.out; have g1 := Hs2.out; have g2 := Hs3.out; omega) 1 (.int .u64 0)).other (show _ ≠ w2.heap.size by have g0 := Hs1.out; have g1 := Hs2.out; have g2 := Hs3.out; omega) 2 (.int .u64 0)).other (show _ ≠ w2.heap.size by have g0 := Hs1.out; have g1 := Hs2.out; have g2 := Hs3.out; omega) 3 (.int .u64 0)).other (show _ ≠ w2.heap.size by have g0 := Hs1.out; have g1 := Hs2.out; have g2 := Hs3.out; omega) 4 (.int .u64 0))
  obtain ⟨w4, hq4⟩ : ∃ W9 : World, (((((w3.setCell ⟨w2.heap.size, 0, none⟩ (.pointer none)).setCell ⟨w2.heap.size, 1, none⟩ (.int .u64 0)).setCell ⟨w2.heap.size, 2, none⟩ (.int .u64 0)).setCell ⟨w2.heap.size, 3, none⟩ (.int .u64 0)).setCell ⟨w2.heap.size, 4, none⟩ (.int .u64 0)) = W9 := ⟨_, rfl⟩
  rw [hq4] at hx9 hb9 hz9 ho9Hbc
  clear Hbk HB
  have Hbk := Lib.hid hx9
  have HB := Lib.hid hb9
  have Hs4 := Lib.hid hz9
  replace Hbc := Lib.hid ho9Hbc
  clear hx9 hb9 hz9 ho9Hbc
  have bc_0 := Hbc.out.cell (i := 0) rfl
  have bc_1 := Hbc.out.cell (i := 1) rfl
  have bk_0 := Hbk.out.cell (i := 0) rfl
  have bk_1 := Hbk.out.cell (i := 1) rfl
  have bk_2 := Hbk.out.cell (i := 2) rfl
  have bk_3 := Hbk.out.cell (i := 3) rfl
  have bk_4 := Hbk.out.cell (i := 4) rfl
  have f5_bc_0 := Hbc.out.frozen 0
  have f5_bc_1 := Hbc.out.frozen 1
  have o5_bc_0 := bc_0; clear bc_0
  have o5_bc_1 := bc_1; clear bc_1
  have o5_bk_0 := bk_0; clear bk_0
  have o5_bk_1 := bk_1; clear bk_1
  have o5_bk_2 := bk_2; clear bk_2
  have o5_bk_3 := bk_3; clear bk_3
  have o5_bk_4 := bk_4; clear bk_4
  have hx9 : Bx ((w4.setCell ⟨w.heap.size, 0, none⟩ (.string ⟨#[]⟩)).setCell ⟨w.heap.size, 1, none⟩ (.string ⟨#[]⟩)) (w.heap.size) 41 [.string ⟨#[]⟩, .string ⟨#[]⟩] := ((Hbc.out.set 0 (.string ⟨#[]⟩)).set 1 (.string ⟨#[]⟩))
  have hb9 : Below w.heap.size w ((w4.setCell ⟨w.heap.size, 0, none⟩ (.string ⟨#[]⟩)).setCell ⟨w.heap.size, 1, none⟩ (.string ⟨#[]⟩)) := ((HB.out.setCell (show w.heap.size ≤ w.heap.size by have g0 := Hs1.out; have g1 := Hs2.out; have g2 := Hs3.out; have g3 := Hs4.out; omega) _).setCell (show w.heap.size ≤ w.heap.size by have g0 := Hs1.out; have g1 := Hs2.out; have g2 := Hs3.out; have g3 := Hs4.out; omega) _)
  have hz9 : ((w4.setCell ⟨w.heap.size, 0, none⟩ (.string ⟨#[]⟩)).setCell ⟨w.heap.size, 1, none⟩ (.string ⟨#[]⟩)).heap.size = w4.heap.size := by simp [World.setCell]
  have ho9Hbk := ((Hbk.out.other (show _ ≠ w.heap.size by have g0 := Hs1.out; have g1 := Hs2.out; have g2 := Hs3.out; have g3 := Hs4.out; omega) 0 (.string ⟨#[]⟩)).other (show _ ≠ w.heap.size by have g0 := Hs1.out; have g1 := Hs2.out; have g2 := Hs3.out; have g3 := Hs4.out; omega) 1 (.string ⟨#[]⟩))
  obtain ⟨w5, hq5⟩ : ∃ W9 : World, ((w4.setCell ⟨w.heap.size, 0, none⟩ (.string ⟨#[]⟩)).setCell ⟨w.heap.size, 1, none⟩ (.string ⟨#[]⟩)) = W9 := ⟨_, rfl⟩
  rw [hq5] at hx9 hb9 hz9 ho9Hbk
  clear Hbc HB
  have Hbc := Lib.hid hx9
  have HB := Lib.hid hb9
  have Hs5 := Lib.hid hz9
  replace Hbk := Lib.hid ho9Hbk
  clear hx9 hb9 hz9 ho9Hbk
  have bc_0 := Hbc.out.cell (i := 0) rfl
  have bc_1 := Hbc.out.cell (i := 1) rfl
  have bk_0 := Hbk.out.cell (i := 0) rfl
  have bk_1 := Hbk.out.cell (i := 1) rfl
  have bk_2 := Hbk.out.cell (i := 2) rfl
  have bk_3 := Hbk.out.cell (i := 3) rfl
  have bk_4 := Hbk.out.cell (i := 4) rfl
  go_wp2_with fail
  clear hq5 o5_bk_4 o5_bk_3 o5_bk_2 o5_bk_1 o5_bk_0 o5_bc_1 o5_bc_0 f5_bc_1 f5_bc_0 hq4 o4_bk_4 o4_bk_3 o4_bk_2 o4_bk_1 o4_bk_0 o4_bc_1 o4_bc_0 f4_bk_4 f4_bk_3 f4_bk_2 f4_bk_1 f4_bk_0 hq3 o3_bc_1 o3_bc_0
  simp [bodyPost, results, Try.results21, go_sem, bc_0, bc_1]
  exact HB.out

set_option maxRecDepth 100000 in
set_option maxHeartbeats 1000000 in
theorem enc_no (k : Nat) (h1 : 1 ≤ k) (h3 : k ≤ 3) (key x n : ByteArray) (hk : isEl (grp k).q.m (grp k).size key = false) (w : World) : Calls Try.prog 21 #[.int .i64 (k : Int), .string key, .string x, .string n] w (Gives (cipE 7) w) := by
  have HK := Lib.hid hk
  clear hk
  unfold Gives cipE ciphV
  go_enter Try.func21, Try.ntmps21
  go_wp2_with fail
  have hb9 : Below w.heap.size w (w.alloc (Obj.cells #[.string ⟨#[]⟩, .string ⟨#[]⟩] 41)) := ((Below.refl _ _).alloc (Nat.le_refl _) _)
  have hx90 : Bx (w.alloc (Obj.cells #[.string ⟨#[]⟩, .string ⟨#[]⟩] 41)) (w.heap.size) 41 [.string ⟨#[]⟩, .string ⟨#[]⟩] := by
    have h := (Bx.new w 41 [.string ⟨#[]⟩, .string ⟨#[]⟩] _ rfl)
    exact h
  have hz9 : (w.alloc (Obj.cells #[.string ⟨#[]⟩, .string ⟨#[]⟩] 41)).heap.size = w.heap.size + 1 := by simp
  obtain ⟨w1, hq1⟩ : ∃ W9 : World, (w.alloc (Obj.cells #[.string ⟨#[]⟩, .string ⟨#[]⟩] 41)) = W9 := ⟨_, rfl⟩
  rw [hq1] at hb9 hz9 hx90
  rw [hq1]
  clear hq1
  have HB := Lib.hid hb9
  have Hs1 := Lib.hid hz9
  have Hbc := Lib.hid hx90
  clear hb9 hz9 hx90
  have bc_0 := Hbc.out.cell (i := 0) rfl
  have bc_1 := Hbc.out.cell (i := 1) rfl
  go_wp2_with fail
  refine (bopen_no k h1 h3 key HK.out w1).mono ?_
  rintro e w2 ⟨rfl, hb9⟩
  clear bc_0 bc_1
  replace Hbc := Lib.hid (Hbc.out.up hb9)
  replace HB := Lib.hid (below_up HB.out hb9)
  have Hs2 := Lib.hid (show w1.heap.size ≤ w2.heap.size from hb9.size)
  clear hb9
  have bc_0 := Hbc.out.cell (i := 0) rfl
  have bc_1 := Hbc.out.cell (i := 1) rfl
  unfold box0
  have o3_bc_0 := bc_0; clear bc_0
  have o3_bc_1 := bc_1; clear bc_1
  have hb9 : Below w2.heap.size w2 (w2.alloc (Obj.cells #[.pointer none, .int .u64 0, .int .u64 0, .int .u64 0, .int .u64 0] 113)) := ((Below.refl _ _).alloc (Nat.le_refl _) _)
  have hx90 : Bx (w2.alloc (Obj.cells #[.pointer none, .int .u64 0, .int .u64 0, .int .u64 0, .int .u64 0] 113)) (w2.heap.size) 113 [.pointer none, .int .u64 0, .int .u64 0, .int .u64 0, .int .u64 0] := by
    have h := (Bx.new w2 113 [.pointer none, .int .u64 0, .int .u64 0, .int .u64 0, .int .u64 0] _ rfl)
    exact h
  have hz9 : (w2.alloc (Obj.cells #[.pointer none, .int .u64 0, .int .u64 0, .int .u64 0, .int .u64 0] 113)).heap.size = w2.heap.size + 1 := by simp
  obtain ⟨w3, hq3⟩ : ∃ W9 : World, (w2.alloc (Obj.cells #[.pointer none, .int .u64 0, .int .u64 0, .int .u64 0, .int .u64 0] 113)) = W9 := ⟨_, rfl⟩
  rw [hq3] at hb9 hz9 hx90
  replace Hbc := Lib.hid (Hbc.out.up hb9)
  replace HB := Lib.hid (below_up HB.out hb9)
  have Hs3 := Lib.hid hz9
  have Hbk := Lib.hid hx90
  clear hb9 hz9 hx90
  have bc_0 := Hbc.out.cell (i := 0) rfl
  have bc_1 := Hbc.out.cell (i := 1) rfl
  have bk_0 := Hbk.out.cell (i := 0) rfl
  have bk_1 := Hbk.out.cell (i := 1) rfl
  have bk_2 := Hbk.out.cell (i := 2) rfl
  have bk_3 := Hbk.out.cell (i := 3) rfl
  have bk_4 := Hbk.out.cell (i := 4) rfl
  have f4_bk_0 := Hbk.out.frozen 0
  have f4_bk_1 := Hbk.out.frozen 1
  have f4_bk_2 := Hbk.out.frozen 2
  have f4_bk_3 := Hbk.out.frozen 3
  have f4_bk_4 := Hbk.out.frozen 4
  have o4_bc_0 := bc_0; clear bc_0
  have o4_bc_1 := bc_1; clear bc_1
  have o4_bk_0 := bk_0; clear bk_0
  have o4_bk_1 := bk_1; clear bk_1
  have o4_bk_2 := bk_2; clear bk_2
  have o4_bk_3 := bk_3; clear bk_3
  have o4_bk_4 := bk_4; clear bk_4
  have hx9 : Bx (((((w3.setCell ⟨w2.heap.size, 0, none⟩ (.pointer none)).setCell ⟨w2.heap.size, 1, none⟩ (.int .u64 0)).setCell ⟨w2.heap.size, 2, none⟩ (.int .u64 0)).setCell ⟨w2.heap.size, 3, none⟩ (.int .u64 0)).setCell ⟨w2.heap.size, 4, none⟩ (.int .u64 0)) (w2.heap.size) 113 [.pointer none, .int .u64 0, .int .u64 0, .int .u64 0, .int .u64 0] := (((((Hbk.out.set 0 (.pointer none)).set 1 (.int .u64 0)).set 2 (.int .u64 0)).set 3 (.int .u64 0)).set 4 (.int .u64 0))
  have hb9 : Below w.heap.size w (((((w3.setCell ⟨w2.heap.size, 0, none⟩ (.pointer none)).setCell ⟨w2.heap.size, 1, none⟩ (.int .u64 0)).setCell ⟨w2.heap.size, 2, none⟩ (.int .u64 0)).setCell ⟨w2.heap.size, 3, none⟩ (.int .u64 0)).setCell ⟨w2.heap.size, 4, none⟩ (.int .u64 0)) := (((((HB.out.setCell (show w.heap.size ≤ w2.heap.size by have g0 := Hs1.out; have g1 := Hs2.out; have g2 := Hs3.out; omega) _).setCell (show w.heap.size ≤ w2.heap.size by have g0 := Hs1.out; have g1 := Hs2.out; have g2 := Hs3.out; omega) _).setCell (show w.heap.size ≤ w2.heap.size by have g0 := Hs1.out; have g1 := Hs2.out; have g2 := Hs3.out; omega) _).setCell (show w.heap.size ≤ w2.heap.size by have g0 := Hs1.out; have g1 := Hs2.out; have g2 := Hs3.out; omega) _).setCell (show w.heap.size ≤ w2.heap.size by have g0 := Hs1.out; have g1 := Hs2.out; have g2 := Hs3.out; omega) _)
  have hz9 : (((((w3.setCell ⟨w2.heap.size, 0, none⟩ (.pointer none)).setCell ⟨w2.heap.size, 1, none⟩ (.int .u64 0)).setCell ⟨w2.heap.size, 2, none⟩ (.int .u64 0)).setCell ⟨w2.heap.size, 3, none⟩ (.int .u64 0)).setCell ⟨w2.heap.size, 4, none⟩ (.int .u64 0)).heap.size = w3.heap.size := by simp [World.setCell]
  have ho9Hbc := (((((Hbc.out.other (show _ ≠ w2.heap.size by have g0 := Hs1.out; have g1 := Hs2.out; have g2 := Hs3.out; omega) 0 (.pointer none)).other (show _ ≠ w2.heap.size by have g0 := Hs1.out; have g1 := Hs2.out; have g2 := Hs3.out; omega) 1 (.int .u64 0)).other (show _ ≠ w2.heap.size by have g0 := Hs1.out; have g1 := Hs2.out; have g2 := Hs3.out; omega) 2 (.int .u64 0)).other (show _ ≠ w2.heap.size by have g0 := Hs1.out; have g1 := Hs2.out; have g2 := Hs3.out; omega) 3 (.int .u64 0)).other (show _ ≠ w2.heap.size by have g0 := Hs1.out; have g1 := Hs2.out; have g2 := Hs3.out; omega) 4 (.int .u64 0))
  obtain ⟨w4, hq4⟩ : ∃ W9 : World, (((((w3.setCell ⟨w2.heap.size, 0, none⟩ (.pointer none)).setCell ⟨w2.heap.size, 1, none⟩ (.int .u64 0)).setCell ⟨w2.heap.size, 2, none⟩ (.int .u64 0)).setCell ⟨w2.heap.size, 3, none⟩ (.int .u64 0)).setCell ⟨w2.heap.size, 4, none⟩ (.int .u64 0)) = W9 := ⟨_, rfl⟩
  rw [hq4] at hx9 hb9 hz9 ho9Hbc
  clear Hbk HB
  have Hbk := Lib.hid hx9
  have HB := Lib.hid hb9
  have Hs4 := Lib.hid hz9
  replace Hbc := Lib.hid ho9Hbc
  clear hx9 hb9 hz9 ho9Hbc
  have bc_0 := Hbc.out.cell (i := 0) rfl
  have bc_1 := Hbc.out.cell (i := 1) rfl
  have bk_0 := Hbk.out.cell (i := 0) rfl
  have bk_1 := Hbk.out.cell (i := 1) rfl
  have bk_2 := Hbk.out.cell (i := 2) rfl
  have bk_3 := Hbk.out.cell (i := 3) rfl
  have bk_4 := Hbk.out.cell (i := 4) rfl
  have f5_bc_0 := Hbc.out.frozen 0
  have f5_bc_1 := Hbc.out.frozen 1
  have o5_bc_0 := bc_0; clear bc_0
  have o5_bc_1 := bc_1; clear bc_1
  have o5_bk_0 := bk_0; clear bk_0
  have o5_bk_1 := bk_1; clear bk_1
  have o5_bk_2 := bk_2; clear bk_2
  have o5_bk_3 := bk_3; clear bk_3
  have o5_bk_4 := bk_4; clear bk_4
  have hx9 : Bx ((w4.setCell ⟨w.heap.size, 0, none⟩ (.string ⟨#[]⟩)).setCell ⟨w.heap.size, 1, none⟩ (.string ⟨#[]⟩)) (w.heap.size) 41 [.string ⟨#[]⟩, .string ⟨#[]⟩] := ((Hbc.out.set 0 (.string ⟨#[]⟩)).set 1 (.string ⟨#[]⟩))
  have hb9 : Below w.heap.size w ((w4.setCell ⟨w.heap.size, 0, none⟩ (.string ⟨#[]⟩)).setCell ⟨w.heap.size, 1, none⟩ (.string ⟨#[]⟩)) := ((HB.out.setCell (show w.heap.size ≤ w.heap.size by have g0 := Hs1.out; have g1 := Hs2.out; have g2 := Hs3.out; have g3 := Hs4.out; omega) _).setCell (show w.heap.size ≤ w.heap.size by have g0 := Hs1.out; have g1 := Hs2.out; have g2 := Hs3.out; have g3 := Hs4.out; omega) _)
  have hz9 : ((w4.setCell ⟨w.heap.size, 0, none⟩ (.string ⟨#[]⟩)).setCell ⟨w.heap.size, 1, none⟩ (.string ⟨#[]⟩)).heap.size = w4.heap.size := by simp [World.setCell]
  have ho9Hbk := ((Hbk.out.other (show _ ≠ w.heap.size by have g0 := Hs1.out; have g1 := Hs2.out; have g2 := Hs3.out; have g3 := Hs4.out; omega) 0 (.string ⟨#[]⟩)).other (show _ ≠ w.heap.size by have g0 := Hs1.out; have g1 := Hs2.out; have g2 := Hs3.out; have g3 := Hs4.out; omega) 1 (.string ⟨#[]⟩))
  obtain ⟨w5, hq5⟩ : ∃ W9 : World, ((w4.setCell ⟨w.heap.size, 0, none⟩ (.string ⟨#[]⟩)).setCell ⟨w.heap.size, 1, none⟩ (.string ⟨#[]⟩)) = W9 := ⟨_, rfl⟩
  rw [hq5] at hx9 hb9 hz9 ho9Hbk
  clear Hbc HB
  have Hbc := Lib.hid hx9
  have HB := Lib.hid hb9
  have Hs5 := Lib.hid hz9
  replace Hbk := Lib.hid ho9Hbk
  clear hx9 hb9 hz9 ho9Hbk
  have bc_0 := Hbc.out.cell (i := 0) rfl
  have bc_1 := Hbc.out.cell (i := 1) rfl
  have bk_0 := Hbk.out.cell (i := 0) rfl
  have bk_1 := Hbk.out.cell (i := 1) rfl
  have bk_2 := Hbk.out.cell (i := 2) rfl
  have bk_3 := Hbk.out.cell (i := 3) rfl
  have bk_4 := Hbk.out.cell (i := 4) rfl
  go_wp2_with fail
  clear hq5 o5_bk_4 o5_bk_3 o5_bk_2 o5_bk_1 o5_bk_0 o5_bc_1 o5_bc_0 f5_bc_1 f5_bc_0 hq4 o4_bk_4 o4_bk_3 o4_bk_2 o4_bk_1 o4_bk_0 o4_bc_1 o4_bc_0 f4_bk_4 f4_bk_3 f4_bk_2 f4_bk_1 f4_bk_0 hq3 o3_bc_1 o3_bc_0
  simp [bodyPost, results, Try.results21, go_sem, bc_0, bc_1]
  exact HB.out

set_option maxRecDepth 100000 in
set_option maxHeartbeats 1000000 in
theorem enc_yes (k : Nat) (h1 : 1 ≤ k) (h3 : k ≤ 3) (key x n : ByteArray) (hk : isEl (grp k).q.m (grp k).size key = true) (bx bn : Bool) (hx : isSc (grp k).q.m (grp k).size x = bx) (hn : isSc (grp k).q.m (grp k).size n = bn) (w : World) :
    Calls Try.prog 21 #[.int .i64 (k : Int), .string key, .string x, .string n] w (Gives (if bx && bn then .tuple #[ciphV (textS (lowN (grp k) (2 ^ (numOf n % (grp k).q.m))) (grp k).size) (textS (lowN (grp k) (numOf key ^ (numOf n % (grp k).q.m) * 2 ^ (numOf x % (grp k).q.m))) (grp k).size), .int .i64 0] else cipE 6) w) := by
  have HK := Lib.hid hk
  have HX := Lib.hid hx
  have HN := Lib.hid hn
  have OK := Lib.hid (grp_ok k h1 h3)
  clear hk hx hn
  unfold Gives cipE ciphV
  go_enter Try.func21, Try.ntmps21
  go_wp2_with fail
  have hb9 : Below w.heap.size w (w.alloc (Obj.cells #[.string ⟨#[]⟩, .string ⟨#[]⟩] 41)) := ((Below.refl _ _).alloc (Nat.le_refl _) _)
  have hx90 : Bx (w.alloc (Obj.cells #[.string ⟨#[]⟩, .string ⟨#[]⟩] 41)) (w.heap.size) 41 [.string ⟨#[]⟩, .string ⟨#[]⟩] := by
    have h := (Bx.new w 41 [.string ⟨#[]⟩, .string ⟨#[]⟩] _ rfl)
    exact h
  have hz9 : (w.alloc (Obj.cells #[.string ⟨#[]⟩, .string ⟨#[]⟩] 41)).heap.size = w.heap.size + 1 := by simp
  obtain ⟨w1, hq1⟩ : ∃ W9 : World, (w.alloc (Obj.cells #[.string ⟨#[]⟩, .string ⟨#[]⟩] 41)) = W9 := ⟨_, rfl⟩
  rw [hq1] at hb9 hz9 hx90
  rw [hq1]
  clear hq1
  have HB := Lib.hid hb9
  have Hs1 := Lib.hid hz9
  have Hbc := Lib.hid hx90
  clear hb9 hz9 hx90
  have bc_0 := Hbc.out.cell (i := 0) rfl
  have bc_1 := Hbc.out.cell (i := 1) rfl
  go_wp2_with fail
  refine (bopen_yes k h1 h3 key HK.out w1).mono ?_
  rintro e w2 ⟨gb, rfl, hg9, hb9, hn9⟩
  clear bc_0 bc_1
  replace Hbc := Lib.hid (Hbc.out.up hb9)
  replace HB := Lib.hid (below_up HB.out hb9)
  have Hs2 := Lib.hid (show w1.heap.size ≤ w2.heap.size from hb9.size)
  have HG := Lib.hid hg9
  clear hg9
  have HGB := Lib.hid hn9
  clear hn9
  clear hb9
  have bc_0 := Hbc.out.cell (i := 0) rfl
  have bc_1 := Hbc.out.cell (i := 1) rfl
  unfold boxV
  have o3_bc_0 := bc_0; clear bc_0
  have o3_bc_1 := bc_1; clear bc_1
  have hb9 : Below w2.heap.size w2 (w2.alloc (Obj.cells #[.pointer (some ⟨gb, 0, none⟩), .int .u64 (dig (mont (grp k).p.m (numOf key)) 0 : Int), .int .u64 (dig (mont (grp k).p.m (numOf key)) 1 : Int), .int .u64 (dig (mont (grp k).p.m (numOf key)) 2 : Int), .int .u64 (dig (mont (grp k).p.m (numOf key)) 3 : Int)] 113)) := ((Below.refl _ _).alloc (Nat.le_refl _) _)
  have hx90 : Bx (w2.alloc (Obj.cells #[.pointer (some ⟨gb, 0, none⟩), .int .u64 (dig (mont (grp k).p.m (numOf key)) 0 : Int), .int .u64 (dig (mont (grp k).p.m (numOf key)) 1 : Int), .int .u64 (dig (mont (grp k).p.m (numOf key)) 2 : Int), .int .u64 (dig (mont (grp k).p.m (numOf key)) 3 : Int)] 113)) (w2.heap.size) 113 [.pointer (some ⟨gb, 0, none⟩), .int .u64 (dig (mont (grp k).p.m (numOf key)) 0 : Int), .int .u64 (dig (mont (grp k).p.m (numOf key)) 1 : Int), .int .u64 (dig (mont (grp k).p.m (numOf key)) 2 : Int), .int .u64 (dig (mont (grp k).p.m (numOf key)) 3 : Int)] := by
    have h := (Bx.new w2 113 [.pointer (some ⟨gb, 0, none⟩), .int .u64 (dig (mont (grp k).p.m (numOf key)) 0 : Int), .int .u64 (dig (mont (grp k).p.m (numOf key)) 1 : Int), .int .u64 (dig (mont (grp k).p.m (numOf key)) 2 : Int), .int .u64 (dig (mont (grp k).p.m (numOf key)) 3 : Int)] _ rfl)
    exact h
  have hz9 : (w2.alloc (Obj.cells #[.pointer (some ⟨gb, 0, none⟩), .int .u64 (dig (mont (grp k).p.m (numOf key)) 0 : Int), .int .u64 (dig (mont (grp k).p.m (numOf key)) 1 : Int), .int .u64 (dig (mont (grp k).p.m (numOf key)) 2 : Int), .int .u64 (dig (mont (grp k).p.m (numOf key)) 3 : Int)] 113)).heap.size = w2.heap.size + 1 := by simp
  obtain ⟨w3, hq3⟩ : ∃ W9 : World, (w2.alloc (Obj.cells #[.pointer (some ⟨gb, 0, none⟩), .int .u64 (dig (mont (grp k).p.m (numOf key)) 0 : Int), .int .u64 (dig (mont (grp k).p.m (numOf key)) 1 : Int), .int .u64 (dig (mont (grp k).p.m (numOf key)) 2 : Int), .int .u64 (dig (mont (grp k).p.m (numOf key)) 3 : Int)] 113)) = W9 := ⟨_, rfl⟩
  rw [hq3] at hb9 hz9 hx90
  replace Hbc := Lib.hid (Hbc.out.up hb9)
  replace HG := Lib.hid (HG.out.up hb9)
  replace HB := Lib.hid (below_up HB.out hb9)
  have Hs3 := Lib.hid hz9
  have Hbk := Lib.hid hx90
  clear hb9 hz9 hx90
  have bc_0 := Hbc.out.cell (i := 0) rfl
  have bc_1 := Hbc.out.cell (i := 1) rfl
  have bk_0 := Hbk.out.cell (i := 0) rfl
  have bk_1 := Hbk.out.cell (i := 1) rfl
  have bk_2 := Hbk.out.cell (i := 2) rfl
  have bk_3 := Hbk.out.cell (i := 3) rfl
  have bk_4 := Hbk.out.cell (i := 4) rfl
  go_wp2_with fail
  clear hq3 o3_bc_1 o3_bc_0
  refine (gScalar_m (grp k) OK.out gb x bx HX.out w3 HG.out).mono ?_
  rintro e w4 ⟨sx, rfl, hb9, hx9⟩
  clear bc_0 bc_1
  replace Hbc := Lib.hid (Hbc.out.up hb9)
  clear bk_0 bk_1 bk_2 bk_3 bk_4
  replace Hbk := Lib.hid (Hbk.out.up hb9)
  replace HG := Lib.hid (HG.out.up hb9)
  replace HB := Lib.hid (below_up HB.out hb9)
  have Hs4 := Lib.hid (show w3.heap.size ≤ w4.heap.size from hb9.size)
  have HSX := Lib.hid hx9
  clear hx9
  clear hb9
  have bc_0 := Hbc.out.cell (i := 0) rfl
  have bc_1 := Hbc.out.cell (i := 1) rfl
  have bk_0 := Hbk.out.cell (i := 0) rfl
  have bk_1 := Hbk.out.cell (i := 1) rfl
  have bk_2 := Hbk.out.cell (i := 2) rfl
  have bk_3 := Hbk.out.cell (i := 3) rfl
  have bk_4 := Hbk.out.cell (i := 4) rfl
  unfold limbV
  have o5_bc_0 := bc_0; clear bc_0
  have o5_bc_1 := bc_1; clear bc_1
  have o5_bk_0 := bk_0; clear bk_0
  have o5_bk_1 := bk_1; clear bk_1
  have o5_bk_2 := bk_2; clear bk_2
  have o5_bk_3 := bk_3; clear bk_3
  have o5_bk_4 := bk_4; clear bk_4
  have hb9 : Below w4.heap.size w4 (w4.alloc (Obj.cells #[.int .u64 (dig (sx) 0 : Int), .int .u64 (dig (sx) 1 : Int), .int .u64 (dig (sx) 2 : Int), .int .u64 (dig (sx) 3 : Int)] 91)) := ((Below.refl _ _).alloc (Nat.le_refl _) _)
  have hx90 : Bx (w4.alloc (Obj.cells #[.int .u64 (dig (sx) 0 : Int), .int .u64 (dig (sx) 1 : Int), .int .u64 (dig (sx) 2 : Int), .int .u64 (dig (sx) 3 : Int)] 91)) (w4.heap.size) 91 [.int .u64 (dig (sx) 0 : Int), .int .u64 (dig (sx) 1 : Int), .int .u64 (dig (sx) 2 : Int), .int .u64 (dig (sx) 3 : Int)] := by
    have h := (Bx.new w4 91 [.int .u64 (dig (sx) 0 : Int), .int .u64 (dig (sx) 1 : Int), .int .u64 (dig (sx) 2 : Int), .int .u64 (dig (sx) 3 : Int)] _ rfl)
    exact h
  have hz9 : (w4.alloc (Obj.cells #[.int .u64 (dig (sx) 0 : Int), .int .u64 (dig (sx) 1 : Int), .int .u64 (dig (sx) 2 : Int), .int .u64 (dig (sx) 3 : Int)] 91)).heap.size = w4.heap.size + 1 := by simp
  obtain ⟨w5, hq5⟩ : ∃ W9 : World, (w4.alloc (Obj.cells #[.int .u64 (dig (sx) 0 : Int), .int .u64 (dig (sx) 1 : Int), .int .u64 (dig (sx) 2 : Int), .int .u64 (dig (sx) 3 : Int)] 91)) = W9 := ⟨_, rfl⟩
  rw [hq5] at hb9 hz9 hx90
  replace Hbc := Lib.hid (Hbc.out.up hb9)
  replace Hbk := Lib.hid (Hbk.out.up hb9)
  replace HG := Lib.hid (HG.out.up hb9)
  replace HB := Lib.hid (below_up HB.out hb9)
  have Hs5 := Lib.hid hz9
  have Hbx := Lib.hid hx90
  clear hb9 hz9 hx90
  have bc_0 := Hbc.out.cell (i := 0) rfl
  have bc_1 := Hbc.out.cell (i := 1) rfl
  have bk_0 := Hbk.out.cell (i := 0) rfl
  have bk_1 := Hbk.out.cell (i := 1) rfl
  have bk_2 := Hbk.out.cell (i := 2) rfl
  have bk_3 := Hbk.out.cell (i := 3) rfl
  have bk_4 := Hbk.out.cell (i := 4) rfl
  have bx_0 := Hbx.out.cell (i := 0) rfl
  have bx_1 := Hbx.out.cell (i := 1) rfl
  have bx_2 := Hbx.out.cell (i := 2) rfl
  have bx_3 := Hbx.out.cell (i := 3) rfl
  go_wp2_with fail
  clear hq5 o5_bk_4 o5_bk_3 o5_bk_2 o5_bk_1 o5_bk_0 o5_bc_1 o5_bc_0
  refine (gScalar_m (grp k) OK.out gb n bn HN.out w5 HG.out).mono ?_
  rintro e w6 ⟨sn, rfl, hb9, hn9⟩
  clear bc_0 bc_1
  replace Hbc := Lib.hid (Hbc.out.up hb9)
  clear bk_0 bk_1 bk_2 bk_3 bk_4
  replace Hbk := Lib.hid (Hbk.out.up hb9)
  clear bx_0 bx_1 bx_2 bx_3
  replace Hbx := Lib.hid (Hbx.out.up hb9)
  replace HG := Lib.hid (HG.out.up hb9)
  replace HB := Lib.hid (below_up HB.out hb9)
  have Hs6 := Lib.hid (show w5.heap.size ≤ w6.heap.size from hb9.size)
  have HSN := Lib.hid hn9
  clear hn9
  clear hb9
  have bc_0 := Hbc.out.cell (i := 0) rfl
  have bc_1 := Hbc.out.cell (i := 1) rfl
  have bk_0 := Hbk.out.cell (i := 0) rfl
  have bk_1 := Hbk.out.cell (i := 1) rfl
  have bk_2 := Hbk.out.cell (i := 2) rfl
  have bk_3 := Hbk.out.cell (i := 3) rfl
  have bk_4 := Hbk.out.cell (i := 4) rfl
  have bx_0 := Hbx.out.cell (i := 0) rfl
  have bx_1 := Hbx.out.cell (i := 1) rfl
  have bx_2 := Hbx.out.cell (i := 2) rfl
  have bx_3 := Hbx.out.cell (i := 3) rfl
  unfold limbV
  have o7_bc_0 := bc_0; clear bc_0
  have o7_bc_1 := bc_1; clear bc_1
  have o7_bk_0 := bk_0; clear bk_0
  have o7_bk_1 := bk_1; clear bk_1
  have o7_bk_2 := bk_2; clear bk_2
  have o7_bk_3 := bk_3; clear bk_3
  have o7_bk_4 := bk_4; clear bk_4
  have o7_bx_0 := bx_0; clear bx_0
  have o7_bx_1 := bx_1; clear bx_1
  have o7_bx_2 := bx_2; clear bx_2
  have o7_bx_3 := bx_3; clear bx_3
  have hb9 : Below w6.heap.size w6 (w6.alloc (Obj.cells #[.int .u64 (dig (sn) 0 : Int), .int .u64 (dig (sn) 1 : Int), .int .u64 (dig (sn) 2 : Int), .int .u64 (dig (sn) 3 : Int)] 91)) := ((Below.refl _ _).alloc (Nat.le_refl _) _)
  have hx90 : Bx (w6.alloc (Obj.cells #[.int .u64 (dig (sn) 0 : Int), .int .u64 (dig (sn) 1 : Int), .int .u64 (dig (sn) 2 : Int), .int .u64 (dig (sn) 3 : Int)] 91)) (w6.heap.size) 91 [.int .u64 (dig (sn) 0 : Int), .int .u64 (dig (sn) 1 : Int), .int .u64 (dig (sn) 2 : Int), .int .u64 (dig (sn) 3 : Int)] := by
    have h := (Bx.new w6 91 [.int .u64 (dig (sn) 0 : Int), .int .u64 (dig (sn) 1 : Int), .int .u64 (dig (sn) 2 : Int), .int .u64 (dig (sn) 3 : Int)] _ rfl)
    exact h
  have hz9 : (w6.alloc (Obj.cells #[.int .u64 (dig (sn) 0 : Int), .int .u64 (dig (sn) 1 : Int), .int .u64 (dig (sn) 2 : Int), .int .u64 (dig (sn) 3 : Int)] 91)).heap.size = w6.heap.size + 1 := by simp
  obtain ⟨w7, hq7⟩ : ∃ W9 : World, (w6.alloc (Obj.cells #[.int .u64 (dig (sn) 0 : Int), .int .u64 (dig (sn) 1 : Int), .int .u64 (dig (sn) 2 : Int), .int .u64 (dig (sn) 3 : Int)] 91)) = W9 := ⟨_, rfl⟩
  rw [hq7] at hb9 hz9 hx90
  replace Hbc := Lib.hid (Hbc.out.up hb9)
  replace Hbk := Lib.hid (Hbk.out.up hb9)
  replace Hbx := Lib.hid (Hbx.out.up hb9)
  replace HG := Lib.hid (HG.out.up hb9)
  replace HB := Lib.hid (below_up HB.out hb9)
  have Hs7 := Lib.hid hz9
  have Hby := Lib.hid hx90
  clear hb9 hz9 hx90
  have bc_0 := Hbc.out.cell (i := 0) rfl
  have bc_1 := Hbc.out.cell (i := 1) rfl
  have bk_0 := Hbk.out.cell (i := 0) rfl
  have bk_1 := Hbk.out.cell (i := 1) rfl
  have bk_2 := Hbk.out.cell (i := 2) rfl
  have bk_3 := Hbk.out.cell (i := 3) rfl
  have bk_4 := Hbk.out.cell (i := 4) rfl
  have bx_0 := Hbx.out.cell (i := 0) rfl
  have bx_1 := Hbx.out.cell (i := 1) rfl
  have bx_2 := Hbx.out.cell (i := 2) rfl
  have bx_3 := Hbx.out.cell (i := 3) rfl
  have by_0 := Hby.out.cell (i := 0) rfl
  have by_1 := Hby.out.cell (i := 1) rfl
  have by_2 := Hby.out.cell (i := 2) rfl
  have by_3 := Hby.out.cell (i := 3) rfl
  cases bx
  · have f8_bc_0 := Hbc.out.frozen 0
    have f8_bc_1 := Hbc.out.frozen 1
    have o8_bc_0 := bc_0; clear bc_0
    have o8_bc_1 := bc_1; clear bc_1
    have o8_bk_0 := bk_0; clear bk_0
    have o8_bk_1 := bk_1; clear bk_1
    have o8_bk_2 := bk_2; clear bk_2
    have o8_bk_3 := bk_3; clear bk_3
    have o8_bk_4 := bk_4; clear bk_4
    have o8_bx_0 := bx_0; clear bx_0
    have o8_bx_1 := bx_1; clear bx_1
    have o8_bx_2 := bx_2; clear bx_2
    have o8_bx_3 := bx_3; clear bx_3
    have o8_by_0 := by_0; clear by_0
    have o8_by_1 := by_1; clear by_1
    have o8_by_2 := by_2; clear by_2
    have o8_by_3 := by_3; clear by_3
    have hx9 : Bx ((w7.setCell ⟨w.heap.size, 0, none⟩ (.string ⟨#[]⟩)).setCell ⟨w.heap.size, 1, none⟩ (.string ⟨#[]⟩)) (w.heap.size) 41 [.string ⟨#[]⟩, .string ⟨#[]⟩] := ((Hbc.out.set 0 (.string ⟨#[]⟩)).set 1 (.string ⟨#[]⟩))
    have hb9 : Below w.heap.size w ((w7.setCell ⟨w.heap.size, 0, none⟩ (.string ⟨#[]⟩)).setCell ⟨w.heap.size, 1, none⟩ (.string ⟨#[]⟩)) := ((HB.out.setCell (show w.heap.size ≤ w.heap.size by have g0 := Hs1.out; have g1 := Hs2.out; have g2 := HGB.out; have g3 := Hs3.out; have g4 := Hs4.out; have g5 := Hs5.out; have g6 := Hs6.out; have g7 := Hs7.out; omega) _).setCell (show w.heap.size ≤ w.heap.size by have g0 := Hs1.out; have g1 := Hs2.out; have g2 := HGB.out; have g3 := Hs3.out; have g4 := Hs4.out; have g5 := Hs5.out; have g6 := Hs6.out; have g7 := Hs7.out; omega) _)
    have hz9 : ((w7.setCell ⟨w.heap.size, 0, none⟩ (.string ⟨#[]⟩)).setCell ⟨w.heap.size, 1, none⟩ (.string ⟨#[]⟩)).heap.size = w7.heap.size := by simp [World.setCell]
    have ho9Hbk := ((Hbk.out.other (show _ ≠ w.heap.size by have g0 := Hs1.out; have g1 := Hs2.out; have g2 := HGB.out; have g3 := Hs3.out; have g4 := Hs4.out; have g5 := Hs5.out; have g6 := Hs6.out; have g7 := Hs7.out; omega) 0 (.string ⟨#[]⟩)).other (show _ ≠ w.heap.size by have g0 := Hs1.out; have g1 := Hs2.out; have g2 := HGB.out; have g3 := Hs3.out; have g4 := Hs4.out; have g5 := Hs5.out; have g6 := Hs6.out; have g7 := Hs7.out; omega) 1 (.string ⟨#[]⟩))
    have ho9Hbx := ((Hbx.out.other (show _ ≠ w.heap.size by have g0 := Hs1.out; have g1 := Hs2.out; have g2 := HGB.out; have g3 := Hs3.out; have g4 := Hs4.out; have g5 := Hs5.out; have g6 := Hs6.out; have g7 := Hs7.out; omega) 0 (.string ⟨#[]⟩)).other (show _ ≠ w.heap.size by have g0 := Hs1.out; have g1 := Hs2.out; have g2 := HGB.out; have g3 := Hs3.out; have g4 := Hs4.out; have g5 := Hs5.out; have g6 := Hs6.out; have g7 := Hs7.out; omega) 1 (.string ⟨#[]⟩))
    have ho9Hby := ((Hby.out.other (show _ ≠ w.heap.size by have g0 := Hs1.out; have g1 := Hs2.out; have g2 := HGB.out; have g3 := Hs3.out; have g4 := Hs4.out; have g5 := Hs5.out; have g6 := Hs6.out; have g7 := Hs7.out; omega) 0 (.string ⟨#[]⟩)).other (show _ ≠ w.heap.size by have g0 := Hs1.out; have g1 := Hs2.out; have g2 := HGB.out; have g3 := Hs3.out; have g4 := Hs4.out; have g5 := Hs5.out; have g6 := Hs6.out; have g7 := Hs7.out; omega) 1 (.string ⟨#[]⟩))
    have ho9HG := ((HG.out.other (show _ ≠ w.heap.size by have g0 := Hs1.out; have g1 := Hs2.out; have g2 := HGB.out; have g3 := Hs3.out; have g4 := Hs4.out; have g5 := Hs5.out; have g6 := Hs6.out; have g7 := Hs7.out; omega) 0 (.string ⟨#[]⟩)).other (show _ ≠ w.heap.size by have g0 := Hs1.out; have g1 := Hs2.out; have g2 := HGB.out; have g3 := Hs3.out; have g4 := Hs4.out; have g5 := Hs5.out; have g6 := Hs6.out; have g7 := Hs7.out; omega) 1 (.string ⟨#[]⟩))
    obtain ⟨w8, hq8⟩ : ∃ W9 : World, ((w7.setCell ⟨w.heap.size, 0, none⟩ (.string ⟨#[]⟩)).setCell ⟨w.heap.size, 1, none⟩ (.string ⟨#[]⟩)) = W9 := ⟨_, rfl⟩
    rw [hq8] at hx9 hb9 hz9 ho9Hbk ho9Hbx ho9Hby ho9HG
    clear Hbc HB
    have Hbc := Lib.hid hx9
    have HB := Lib.hid hb9
    have Hs8 := Lib.hid hz9
    replace Hbk := Lib.hid ho9Hbk
    replace Hbx := Lib.hid ho9Hbx
    replace Hby := Lib.hid ho9Hby
    replace HG := Lib.hid ho9HG
    clear hx9 hb9 hz9 ho9Hbk ho9Hbx ho9Hby ho9HG
    have bc_0 := Hbc.out.cell (i := 0) rfl
    have bc_1 := Hbc.out.cell (i := 1) rfl
    have bk_0 := Hbk.out.cell (i := 0) rfl
    have bk_1 := Hbk.out.cell (i := 1) rfl
    have bk_2 := Hbk.out.cell (i := 2) rfl
    have bk_3 := Hbk.out.cell (i := 3) rfl
    have bk_4 := Hbk.out.cell (i := 4) rfl
    have bx_0 := Hbx.out.cell (i := 0) rfl
    have bx_1 := Hbx.out.cell (i := 1) rfl
    have bx_2 := Hbx.out.cell (i := 2) rfl
    have bx_3 := Hbx.out.cell (i := 3) rfl
    have by_0 := Hby.out.cell (i := 0) rfl
    have by_1 := Hby.out.cell (i := 1) rfl
    have by_2 := Hby.out.cell (i := 2) rfl
    have by_3 := Hby.out.cell (i := 3) rfl
    go_wp2_with fail
    clear hq8 o8_by_3 o8_by_2 o8_by_1 o8_by_0 o8_bx_3 o8_bx_2 o8_bx_1 o8_bx_0 o8_bk_4 o8_bk_3 o8_bk_2 o8_bk_1 o8_bk_0 o8_bc_1 o8_bc_0 f8_bc_1 f8_bc_0 hq7 o7_bx_3 o7_bx_2 o7_bx_1 o7_bx_0 o7_bk_4 o7_bk_3 o7_bk_2 o7_bk_1 o7_bk_0 o7_bc_1 o7_bc_0
    simp [bodyPost, results, Try.results21, go_sem, bc_0, bc_1]
    exact HB.out
  · cases bn
    · have f8_bc_0 := Hbc.out.frozen 0
      have f8_bc_1 := Hbc.out.frozen 1
      have o8_bc_0 := bc_0; clear bc_0
      have o8_bc_1 := bc_1; clear bc_1
      have o8_bk_0 := bk_0; clear bk_0
      have o8_bk_1 := bk_1; clear bk_1
      have o8_bk_2 := bk_2; clear bk_2
      have o8_bk_3 := bk_3; clear bk_3
      have o8_bk_4 := bk_4; clear bk_4
      have o8_bx_0 := bx_0; clear bx_0
      have o8_bx_1 := bx_1; clear bx_1
      have o8_bx_2 := bx_2; clear bx_2
      have o8_bx_3 := bx_3; clear bx_3
      have o8_by_0 := by_0; clear by_0
      have o8_by_1 := by_1; clear by_1
      have o8_by_2 := by_2; clear by_2
      have o8_by_3 := by_3; clear by_3
      have hx9 : Bx ((w7.setCell ⟨w.heap.size, 0, none⟩ (.string ⟨#[]⟩)).setCell ⟨w.heap.size, 1, none⟩ (.string ⟨#[]⟩)) (w.heap.size) 41 [.string ⟨#[]⟩, .string ⟨#[]⟩] := ((Hbc.out.set 0 (.string ⟨#[]⟩)).set 1 (.string ⟨#[]⟩))
      have hb9 : Below w.heap.size w ((w7.setCell ⟨w.heap.size, 0, none⟩ (.string ⟨#[]⟩)).setCell ⟨w.heap.size, 1, none⟩ (.string ⟨#[]⟩)) := ((HB.out.setCell (show w.heap.size ≤ w.heap.size by have g0 := Hs1.out; have g1 := Hs2.out; have g2 := HGB.out; have g3 := Hs3.out; have g4 := Hs4.out; have g5 := Hs5.out; have g6 := Hs6.out; have g7 := Hs7.out; omega) _).setCell (show w.heap.size ≤ w.heap.size by have g0 := Hs1.out; have g1 := Hs2.out; have g2 := HGB.out; have g3 := Hs3.out; have g4 := Hs4.out; have g5 := Hs5.out; have g6 := Hs6.out; have g7 := Hs7.out; omega) _)
      have hz9 : ((w7.setCell ⟨w.heap.size, 0, none⟩ (.string ⟨#[]⟩)).setCell ⟨w.heap.size, 1, none⟩ (.string ⟨#[]⟩)).heap.size = w7.heap.size := by simp [World.setCell]
      have ho9Hbk := ((Hbk.out.other (show _ ≠ w.heap.size by have g0 := Hs1.out; have g1 := Hs2.out; have g2 := HGB.out; have g3 := Hs3.out; have g4 := Hs4.out; have g5 := Hs5.out; have g6 := Hs6.out; have g7 := Hs7.out; omega) 0 (.string ⟨#[]⟩)).other (show _ ≠ w.heap.size by have g0 := Hs1.out; have g1 := Hs2.out; have g2 := HGB.out; have g3 := Hs3.out; have g4 := Hs4.out; have g5 := Hs5.out; have g6 := Hs6.out; have g7 := Hs7.out; omega) 1 (.string ⟨#[]⟩))
      have ho9Hbx := ((Hbx.out.other (show _ ≠ w.heap.size by have g0 := Hs1.out; have g1 := Hs2.out; have g2 := HGB.out; have g3 := Hs3.out; have g4 := Hs4.out; have g5 := Hs5.out; have g6 := Hs6.out; have g7 := Hs7.out; omega) 0 (.string ⟨#[]⟩)).other (show _ ≠ w.heap.size by have g0 := Hs1.out; have g1 := Hs2.out; have g2 := HGB.out; have g3 := Hs3.out; have g4 := Hs4.out; have g5 := Hs5.out; have g6 := Hs6.out; have g7 := Hs7.out; omega) 1 (.string ⟨#[]⟩))
      have ho9Hby := ((Hby.out.other (show _ ≠ w.heap.size by have g0 := Hs1.out; have g1 := Hs2.out; have g2 := HGB.out; have g3 := Hs3.out; have g4 := Hs4.out; have g5 := Hs5.out; have g6 := Hs6.out; have g7 := Hs7.out; omega) 0 (.string ⟨#[]⟩)).other (show _ ≠ w.heap.size by have g0 := Hs1.out; have g1 := Hs2.out; have g2 := HGB.out; have g3 := Hs3.out; have g4 := Hs4.out; have g5 := Hs5.out; have g6 := Hs6.out; have g7 := Hs7.out; omega) 1 (.string ⟨#[]⟩))
      have ho9HG := ((HG.out.other (show _ ≠ w.heap.size by have g0 := Hs1.out; have g1 := Hs2.out; have g2 := HGB.out; have g3 := Hs3.out; have g4 := Hs4.out; have g5 := Hs5.out; have g6 := Hs6.out; have g7 := Hs7.out; omega) 0 (.string ⟨#[]⟩)).other (show _ ≠ w.heap.size by have g0 := Hs1.out; have g1 := Hs2.out; have g2 := HGB.out; have g3 := Hs3.out; have g4 := Hs4.out; have g5 := Hs5.out; have g6 := Hs6.out; have g7 := Hs7.out; omega) 1 (.string ⟨#[]⟩))
      obtain ⟨w8, hq8⟩ : ∃ W9 : World, ((w7.setCell ⟨w.heap.size, 0, none⟩ (.string ⟨#[]⟩)).setCell ⟨w.heap.size, 1, none⟩ (.string ⟨#[]⟩)) = W9 := ⟨_, rfl⟩
      rw [hq8] at hx9 hb9 hz9 ho9Hbk ho9Hbx ho9Hby ho9HG
      clear Hbc HB
      have Hbc := Lib.hid hx9
      have HB := Lib.hid hb9
      have Hs8 := Lib.hid hz9
      replace Hbk := Lib.hid ho9Hbk
      replace Hbx := Lib.hid ho9Hbx
      replace Hby := Lib.hid ho9Hby
      replace HG := Lib.hid ho9HG
      clear hx9 hb9 hz9 ho9Hbk ho9Hbx ho9Hby ho9HG
      have bc_0 := Hbc.out.cell (i := 0) rfl
      have bc_1 := Hbc.out.cell (i := 1) rfl
      have bk_0 := Hbk.out.cell (i := 0) rfl
      have bk_1 := Hbk.out.cell (i := 1) rfl
      have bk_2 := Hbk.out.cell (i := 2) rfl
      have bk_3 := Hbk.out.cell (i := 3) rfl
      have bk_4 := Hbk.out.cell (i := 4) rfl
      have bx_0 := Hbx.out.cell (i := 0) rfl
      have bx_1 := Hbx.out.cell (i := 1) rfl
      have bx_2 := Hbx.out.cell (i := 2) rfl
      have bx_3 := Hbx.out.cell (i := 3) rfl
      have by_0 := Hby.out.cell (i := 0) rfl
      have by_1 := Hby.out.cell (i := 1) rfl
      have by_2 := Hby.out.cell (i := 2) rfl
      have by_3 := Hby.out.cell (i := 3) rfl
      go_wp2_with fail
      clear hq8 o8_by_3 o8_by_2 o8_by_1 o8_by_0 o8_bx_3 o8_bx_2 o8_bx_1 o8_bx_0 o8_bk_4 o8_bk_3 o8_bk_2 o8_bk_1 o8_bk_0 o8_bc_1 o8_bc_0 f8_bc_1 f8_bc_0 hq7 o7_bx_3 o7_bx_2 o7_bx_1 o7_bx_0 o7_bk_4 o7_bk_3 o7_bk_2 o7_bk_1 o7_bk_0 o7_bc_1 o7_bc_0
      simp [bodyPost, results, Try.results21, go_sem, bc_0, bc_1]
      exact HB.out
    · obtain rfl := HSX.out rfl
      obtain rfl := HSN.out rfl
      go_wp2_with fail
      clear hq7 o7_bx_3 o7_bx_2 o7_bx_1 o7_bx_0 o7_bk_4 o7_bk_3 o7_bk_2 o7_bk_1 o7_bk_0 o7_bc_1 o7_bc_0
      have hl_bc := Hbc.out.lt
      have hl_bk := Hbk.out.lt
      have hl_bx := Hbx.out.lt
      have hl_by := Hby.out.lt
      refine wp_region_otail 7 (by kernel_rfl) (by kernel_rfl) ?_
      simp only [List.take_succ_cons, List.take_zero, List.drop_succ_cons, List.drop_zero]
      have hov_bc := fun (E : Over w7) o => E.cell (b := w.heap.size) o hl_bc
      have hov_bk := fun (E : Over w7) o => E.cell (b := w2.heap.size) o hl_bk
      have hov_bx := fun (E : Over w7) o => E.cell (b := w4.heap.size) o hl_bx
      have hov_by := fun (E : Over w7) o => E.cell (b := w6.heap.size) o hl_by
      repeat (go_big_quiet_step (first | (go_at_call 77; exact calls_over (hide_any (grp k) OK.out gb _ _ _ _ (HG.out.up (Over.h _)))) | (go_at_call 78; exact calls_over (pairText_any (grp k) OK.out gb _ _ _ (HG.out.up (Over.h _))))))
      all_goals (try unfold elV limbV)
      repeat (go_big_quiet_step (first | (go_at_call 77; exact calls_over (hide_any (grp k) OK.out gb _ _ _ _ (HG.out.up (Over.h _)))) | (go_at_call 78; exact calls_over (pairText_any (grp k) OK.out gb _ _ _ (HG.out.up (Over.h _))))))
      all_goals (try unfold elV limbV)
      repeat (go_big_quiet_step (first | (go_at_call 77; exact calls_over (hide_any (grp k) OK.out gb _ _ _ _ (HG.out.up (Over.h _)))) | (go_at_call 78; exact calls_over (pairText_any (grp k) OK.out gb _ _ _ (HG.out.up (Over.h _))))))
      all_goals (try unfold ciphV)
      refine wpQuiet_nil ?_
      rintro _ ⟨E, rfl⟩
      clear hov_bc hl_bc hov_bk hl_bk hov_bx hl_bx hov_by hl_by
      clear bc_0 bc_1
      replace Hbc := Lib.hid (Hbc.out.up E.h)
      clear bk_0 bk_1 bk_2 bk_3 bk_4
      replace Hbk := Lib.hid (Hbk.out.up E.h)
      clear bx_0 bx_1 bx_2 bx_3
      replace Hbx := Lib.hid (Hbx.out.up E.h)
      clear by_0 by_1 by_2 by_3
      replace Hby := Lib.hid (Hby.out.up E.h)
      replace HG := Lib.hid (HG.out.up E.h)
      replace HB := Lib.hid (below_up HB.out E.h)
      have Hs8 := Lib.hid (show w7.heap.size ≤ E.w.heap.size from E.h.size)
      have bc_0 := Hbc.out.cell (i := 0) rfl
      have bc_1 := Hbc.out.cell (i := 1) rfl
      have bk_0 := Hbk.out.cell (i := 0) rfl
      have bk_1 := Hbk.out.cell (i := 1) rfl
      have bk_2 := Hbk.out.cell (i := 2) rfl
      have bk_3 := Hbk.out.cell (i := 3) rfl
      have bk_4 := Hbk.out.cell (i := 4) rfl
      have bx_0 := Hbx.out.cell (i := 0) rfl
      have bx_1 := Hbx.out.cell (i := 1) rfl
      have bx_2 := Hbx.out.cell (i := 2) rfl
      have bx_3 := Hbx.out.cell (i := 3) rfl
      have by_0 := Hby.out.cell (i := 0) rfl
      have by_1 := Hby.out.cell (i := 1) rfl
      have by_2 := Hby.out.cell (i := 2) rfl
      have by_3 := Hby.out.cell (i := 3) rfl
      generalize E.w = w8 at *
      have f9_bc_0 := Hbc.out.frozen 0
      have f9_bc_1 := Hbc.out.frozen 1
      have o9_bc_0 := bc_0; clear bc_0
      have o9_bc_1 := bc_1; clear bc_1
      have o9_bk_0 := bk_0; clear bk_0
      have o9_bk_1 := bk_1; clear bk_1
      have o9_bk_2 := bk_2; clear bk_2
      have o9_bk_3 := bk_3; clear bk_3
      have o9_bk_4 := bk_4; clear bk_4
      have o9_bx_0 := bx_0; clear bx_0
      have o9_bx_1 := bx_1; clear bx_1
      have o9_bx_2 := bx_2; clear bx_2
      have o9_bx_3 := bx_3; clear bx_3
      have o9_by_0 := by_0; clear by_0
      have o9_by_1 := by_1; clear by_1
      have o9_by_2 := by_2; clear by_2
      have o9_by_3 := by_3; clear by_3
      have hx9 : Bx ((w8.setCell ⟨w.heap.size, 0, none⟩ (.string (textS (lowN (grp k) (2 ^ (numOf n % (grp k).q.m))) (grp k).size))).setCell ⟨w.heap.size, 1, none⟩ (.string (textS (lowN (grp k) (numOf key ^ (numOf n % (grp k).q.m) * 2 ^ (numOf x % (grp k).q.m))) (grp k).size))) (w.heap.size) 41 [.string (textS (lowN (grp k) (2 ^ (numOf n % (grp k).q.m))) (grp k).size), .string (textS (lowN (grp k) (numOf key ^ (numOf n % (grp k).q.m) * 2 ^ (numOf x % (grp k).q.m))) (grp k).size)] := ((Hbc.out.set 0 (.string (textS (lowN (grp k) (2 ^ (numOf n % (grp k).q.m))) (grp k).size))).set 1 (.string (textS (lowN (grp k) (numOf key ^ (numOf n % (grp k).q.m) * 2 ^ (numOf x % (grp k).q.m))) (grp k).size)))
      have hb9 : Below w.heap.size w ((w8.setCell ⟨w.heap.size, 0, none⟩ (.string (textS (lowN (grp k) (2 ^ (numOf n % (grp k).q.m))) (grp k).size))).setCell ⟨w.heap.size, 1, none⟩ (.string (textS (lowN (grp k) (numOf key ^ (numOf n % (grp k).q.m) * 2 ^ (numOf x % (grp k).q.m))) (grp k).size))) := ((HB.out.setCell (show w.heap.size ≤ w.heap.size by have g0 := Hs1.out; have g1 := Hs2.out; have g2 := HGB.out; have g3 := Hs3.out; have g4 := Hs4.out; have g5 := Hs5.out; have g6 := Hs6.out; have g7 := Hs7.out; have g8 := Hs8.out; omega) _).setCell (show w.heap.size ≤ w.heap.size by have g0 := Hs1.out; have g1 := Hs2.out; have g2 := HGB.out; have g3 := Hs3.out; have g4 := Hs4.out; have g5 := Hs5.out; have g6 := Hs6.out; have g7 := Hs7.out; have g8 := Hs8.out; omega) _)
      have hz9 : ((w8.setCell ⟨w.heap.size, 0, none⟩ (.string (textS (lowN (grp k) (2 ^ (numOf n % (grp k).q.m))) (grp k).size))).setCell ⟨w.heap.size, 1, none⟩ (.string (textS (lowN (grp k) (numOf key ^ (numOf n % (grp k).q.m) * 2 ^ (numOf x % (grp k).q.m))) (grp k).size))).heap.size = w8.heap.size := by simp [World.setCell]
      have ho9Hbk := ((Hbk.out.other (show _ ≠ w.heap.size by have g0 := Hs1.out; have g1 := Hs2.out; have g2 := HGB.out; have g3 := Hs3.out; have g4 := Hs4.out; have g5 := Hs5.out; have g6 := Hs6.out; have g7 := Hs7.out; have g8 := Hs8.out; omega) 0 (.string (textS (lowN (grp k) (2 ^ (numOf n % (grp k).q.m))) (grp k).size))).other (show _ ≠ w.heap.size by have g0 := Hs1.out; have g1 := Hs2.out; have g2 := HGB.out; have g3 := Hs3.out; have g4 := Hs4.out; have g5 := Hs5.out; have g6 := Hs6.out; have g7 := Hs7.out; have g8 := Hs8.out; omega) 1 (.string (textS (lowN (grp k) (numOf key ^ (numOf n % (grp k).q.m) * 2 ^ (numOf x % (grp k).q.m))) (grp k).size)))
      have ho9Hbx := ((Hbx.out.other (show _ ≠ w.heap.size by have g0 := Hs1.out; have g1 := Hs2.out; have g2 := HGB.out; have g3 := Hs3.out; have g4 := Hs4.out; have g5 := Hs5.out; have g6 := Hs6.out; have g7 := Hs7.out; have g8 := Hs8.out; omega) 0 (.string (textS (lowN (grp k) (2 ^ (numOf n % (grp k).q.m))) (grp k).size))).other (show _ ≠ w.heap.size by have g0 := Hs1.out; have g1 := Hs2.out; have g2 := HGB.out; have g3 := Hs3.out; have g4 := Hs4.out; have g5 := Hs5.out; have g6 := Hs6.out; have g7 := Hs7.out; have g8 := Hs8.out; omega) 1 (.string (textS (lowN (grp k) (numOf key ^ (numOf n % (grp k).q.m) * 2 ^ (numOf x % (grp k).q.m))) (grp k).size)))
      have ho9Hby := ((Hby.out.other (show _ ≠ w.heap.size by have g0 := Hs1.out; have g1 := Hs2.out; have g2 := HGB.out; have g3 := Hs3.out; have g4 := Hs4.out; have g5 := Hs5.out; have g6 := Hs6.out; have g7 := Hs7.out; have g8 := Hs8.out; omega) 0 (.string (textS (lowN (grp k) (2 ^ (numOf n % (grp k).q.m))) (grp k).size))).other (show _ ≠ w.heap.size by have g0 := Hs1.out; have g1 := Hs2.out; have g2 := HGB.out; have g3 := Hs3.out; have g4 := Hs4.out; have g5 := Hs5.out; have g6 := Hs6.out; have g7 := Hs7.out; have g8 := Hs8.out; omega) 1 (.string (textS (lowN (grp k) (numOf key ^ (numOf n % (grp k).q.m) * 2 ^ (numOf x % (grp k).q.m))) (grp k).size)))
      have ho9HG := ((HG.out.other (show _ ≠ w.heap.size by have g0 := Hs1.out; have g1 := Hs2.out; have g2 := HGB.out; have g3 := Hs3.out; have g4 := Hs4.out; have g5 := Hs5.out; have g6 := Hs6.out; have g7 := Hs7.out; have g8 := Hs8.out; omega) 0 (.string (textS (lowN (grp k) (2 ^ (numOf n % (grp k).q.m))) (grp k).size))).other (show _ ≠ w.heap.size by have g0 := Hs1.out; have g1 := Hs2.out; have g2 := HGB.out; have g3 := Hs3.out; have g4 := Hs4.out; have g5 := Hs5.out; have g6 := Hs6.out; have g7 := Hs7.out; have g8 := Hs8.out; omega) 1 (.string (textS (lowN (grp k) (numOf key ^ (numOf n % (grp k).q.m) * 2 ^ (numOf x % (grp k).q.m))) (grp k).size)))
      obtain ⟨w9, hq9⟩ : ∃ W9 : World, ((w8.setCell ⟨w.heap.size, 0, none⟩ (.string (textS (lowN (grp k) (2 ^ (numOf n % (grp k).q.m))) (grp k).size))).setCell ⟨w.heap.size, 1, none⟩ (.string (textS (lowN (grp k) (numOf key ^ (numOf n % (grp k).q.m) * 2 ^ (numOf x % (grp k).q.m))) (grp k).size))) = W9 := ⟨_, rfl⟩
      rw [hq9] at hx9 hb9 hz9 ho9Hbk ho9Hbx ho9Hby ho9HG
      clear Hbc HB
      have Hbc := Lib.hid hx9
      have HB := Lib.hid hb9
      have Hs9 := Lib.hid hz9
      replace Hbk := Lib.hid ho9Hbk
      replace Hbx := Lib.hid ho9Hbx
      replace Hby := Lib.hid ho9Hby
      replace HG := Lib.hid ho9HG
      clear hx9 hb9 hz9 ho9Hbk ho9Hbx ho9Hby ho9HG
      have bc_0 := Hbc.out.cell (i := 0) rfl
      have bc_1 := Hbc.out.cell (i := 1) rfl
      have bk_0 := Hbk.out.cell (i := 0) rfl
      have bk_1 := Hbk.out.cell (i := 1) rfl
      have bk_2 := Hbk.out.cell (i := 2) rfl
      have bk_3 := Hbk.out.cell (i := 3) rfl
      have bk_4 := Hbk.out.cell (i := 4) rfl
      have bx_0 := Hbx.out.cell (i := 0) rfl
      have bx_1 := Hbx.out.cell (i := 1) rfl
      have bx_2 := Hbx.out.cell (i := 2) rfl
      have bx_3 := Hbx.out.cell (i := 3) rfl
      have by_0 := Hby.out.cell (i := 0) rfl
      have by_1 := Hby.out.cell (i := 1) rfl
      have by_2 := Hby.out.cell (i := 2) rfl
      have by_3 := Hby.out.cell (i := 3) rfl
      go_wp2_with fail
      clear hq9 o9_by_3 o9_by_2 o9_by_1 o9_by_0 o9_bx_3 o9_bx_2 o9_bx_1 o9_bx_0 o9_bk_4 o9_bk_3 o9_bk_2 o9_bk_1 o9_bk_0 o9_bc_1 o9_bc_0 f9_bc_1 f9_bc_0
      simp [bodyPost, results, Try.results21, go_sem, bc_0, bc_1]
      exact HB.out

set_option maxRecDepth 100000 in
set_option maxHeartbeats 1000000 in
theorem renew_none (k : Int) (hk : ¬ (1 ≤ k ∧ k ≤ 3)) (key a b n : ByteArray) (w : World) : Calls Try.prog 25 #[.int .i64 k, .string key, ciphV a b, .string n] w (Gives (cipE 1) w) := by
  unfold Gives cipE ciphV
  go_enter Try.func25, Try.ntmps25
  go_wp2_with fail
  have hb9 : Below w.heap.size w ((w.alloc (Obj.cells #[.string a, .string b] 41)).alloc (Obj.cells #[.string ⟨#[]⟩, .string ⟨#[]⟩] 41)) := (((Below.refl _ _).alloc (Nat.le_refl _) _).alloc (by simp) _)
  have hx90 : Bx ((w.alloc (Obj.cells #[.string a, .string b] 41)).alloc (Obj.cells #[.string ⟨#[]⟩, .string ⟨#[]⟩] 41)) (w.heap.size) 41 [.string a, .string b] := by
    have h := ((Bx.new w 41 [.string a, .string b] _ rfl).alloc (Obj.cells #[.string ⟨#[]⟩, .string ⟨#[]⟩] 41))
    exact h
  have hx91 : Bx ((w.alloc (Obj.cells #[.string a, .string b] 41)).alloc (Obj.cells #[.string ⟨#[]⟩, .string ⟨#[]⟩] 41)) (w.heap.size + 1) 41 [.string ⟨#[]⟩, .string ⟨#[]⟩] := by
    have h := (Bx.new (w.alloc (Obj.cells #[.string a, .string b] 41)) 41 [.string ⟨#[]⟩, .string ⟨#[]⟩] _ rfl)
    rw [World.size_alloc] at h
    exact h
  have hz9 : ((w.alloc (Obj.cells #[.string a, .string b] 41)).alloc (Obj.cells #[.string ⟨#[]⟩, .string ⟨#[]⟩] 41)).heap.size = w.heap.size + 2 := by simp
  obtain ⟨w1, hq1⟩ : ∃ W9 : World, ((w.alloc (Obj.cells #[.string a, .string b] 41)).alloc (Obj.cells #[.string ⟨#[]⟩, .string ⟨#[]⟩] 41)) = W9 := ⟨_, rfl⟩
  rw [hq1] at hb9 hz9 hx90 hx91
  rw [hq1]
  clear hq1
  have HB := Lib.hid hb9
  have Hs1 := Lib.hid hz9
  have Hbi := Lib.hid hx90
  have Hbc := Lib.hid hx91
  clear hb9 hz9 hx90 hx91
  have bi_0 := Hbi.out.cell (i := 0) rfl
  have bi_1 := Hbi.out.cell (i := 1) rfl
  have bc_0 := Hbc.out.cell (i := 0) rfl
  have bc_1 := Hbc.out.cell (i := 1) rfl
  go_wp2_with fail
  refine (bopen_none k hk key w1).mono ?_
  rintro e w2 ⟨rfl, hb9⟩
  clear bi_0 bi_1
  replace Hbi := Lib.hid (Hbi.out.up hb9)
  clear bc_0 bc_1
  replace Hbc := Lib.hid (Hbc.out.up hb9)
  replace HB := Lib.hid (below_up HB.out hb9)
  have Hs2 := Lib.hid (show w1.heap.size ≤ w2.heap.size from hb9.size)
  clear hb9
  have bi_0 := Hbi.out.cell (i := 0) rfl
  have bi_1 := Hbi.out.cell (i := 1) rfl
  have bc_0 := Hbc.out.cell (i := 0) rfl
  have bc_1 := Hbc.out.cell (i := 1) rfl
  unfold box0
  have o3_bi_0 := bi_0; clear bi_0
  have o3_bi_1 := bi_1; clear bi_1
  have o3_bc_0 := bc_0; clear bc_0
  have o3_bc_1 := bc_1; clear bc_1
  have hb9 : Below w2.heap.size w2 (w2.alloc (Obj.cells #[.pointer none, .int .u64 0, .int .u64 0, .int .u64 0, .int .u64 0] 113)) := ((Below.refl _ _).alloc (Nat.le_refl _) _)
  have hx90 : Bx (w2.alloc (Obj.cells #[.pointer none, .int .u64 0, .int .u64 0, .int .u64 0, .int .u64 0] 113)) (w2.heap.size) 113 [.pointer none, .int .u64 0, .int .u64 0, .int .u64 0, .int .u64 0] := by
    have h := (Bx.new w2 113 [.pointer none, .int .u64 0, .int .u64 0, .int .u64 0, .int .u64 0] _ rfl)
    exact h
  have hz9 : (w2.alloc (Obj.cells #[.pointer none, .int .u64 0, .int .u64 0, .int .u64 0, .int .u64 0] 113)).heap.size = w2.heap.size + 1 := by simp
  obtain ⟨w3, hq3⟩ : ∃ W9 : World, (w2.alloc (Obj.cells #[.pointer none, .int .u64 0, .int .u64 0, .int .u64 0, .int .u64 0] 113)) = W9 := ⟨_, rfl⟩
  rw [hq3] at hb9 hz9 hx90
  replace Hbi := Lib.hid (Hbi.out.up hb9)
  replace Hbc := Lib.hid (Hbc.out.up hb9)
  replace HB := Lib.hid (below_up HB.out hb9)
  have Hs3 := Lib.hid hz9
  have Hbk := Lib.hid hx90
  clear hb9 hz9 hx90
  have bi_0 := Hbi.out.cell (i := 0) rfl
  have bi_1 := Hbi.out.cell (i := 1) rfl
  have bc_0 := Hbc.out.cell (i := 0) rfl
  have bc_1 := Hbc.out.cell (i := 1) rfl
  have bk_0 := Hbk.out.cell (i := 0) rfl
  have bk_1 := Hbk.out.cell (i := 1) rfl
  have bk_2 := Hbk.out.cell (i := 2) rfl
  have bk_3 := Hbk.out.cell (i := 3) rfl
  have bk_4 := Hbk.out.cell (i := 4) rfl
  have f4_bk_0 := Hbk.out.frozen 0
  have f4_bk_1 := Hbk.out.frozen 1
  have f4_bk_2 := Hbk.out.frozen 2
  have f4_bk_3 := Hbk.out.frozen 3
  have f4_bk_4 := Hbk.out.frozen 4
  have o4_bi_0 := bi_0; clear bi_0
  have o4_bi_1 := bi_1; clear bi_1
  have o4_bc_0 := bc_0; clear bc_0
  have o4_bc_1 := bc_1; clear bc_1
  have o4_bk_0 := bk_0; clear bk_0
  have o4_bk_1 := bk_1; clear bk_1
  have o4_bk_2 := bk_2; clear bk_2
  have o4_bk_3 := bk_3; clear bk_3
  have o4_bk_4 := bk_4; clear bk_4
  have hx9 : Bx (((((w3.setCell ⟨w2.heap.size, 0, none⟩ (.pointer none)).setCell ⟨w2.heap.size, 1, none⟩ (.int .u64 0)).setCell ⟨w2.heap.size, 2, none⟩ (.int .u64 0)).setCell ⟨w2.heap.size, 3, none⟩ (.int .u64 0)).setCell ⟨w2.heap.size, 4, none⟩ (.int .u64 0)) (w2.heap.size) 113 [.pointer none, .int .u64 0, .int .u64 0, .int .u64 0, .int .u64 0] := (((((Hbk.out.set 0 (.pointer none)).set 1 (.int .u64 0)).set 2 (.int .u64 0)).set 3 (.int .u64 0)).set 4 (.int .u64 0))
  have hb9 : Below w.heap.size w (((((w3.setCell ⟨w2.heap.size, 0, none⟩ (.pointer none)).setCell ⟨w2.heap.size, 1, none⟩ (.int .u64 0)).setCell ⟨w2.heap.size, 2, none⟩ (.int .u64 0)).setCell ⟨w2.heap.size, 3, none⟩ (.int .u64 0)).setCell ⟨w2.heap.size, 4, none⟩ (.int .u64 0)) := (((((HB.out.setCell (show w.heap.size ≤ w2.heap.size by have g0 := Hs1.out; have g1 := Hs2.out; have g2 := Hs3.out; omega) _).setCell (show w.heap.size ≤ w2.heap.size by have g0 := Hs1.out; have g1 := Hs2.out; have g2 := Hs3.out; omega) _).setCell (show w.heap.size ≤ w2.heap.size by have g0 := Hs1.out; have g1 := Hs2.out; have g2 := Hs3.out; omega) _).setCell (show w.heap.size ≤ w2.heap.size by have g0 := Hs1.out; have g1 := Hs2.out; have g2 := Hs3.out; omega) _).setCell (show w.heap.size ≤ w2.heap.size by have g0 := Hs1.out; have g1 := Hs2.out; have g2 := Hs3.out; omega) _)
  have hz9 : (((((w3.setCell ⟨w2.heap.size, 0, none⟩ (.pointer none)).setCell ⟨w2.heap.size, 1, none⟩ (.int .u64 0)).setCell ⟨w2.heap.size, 2, none⟩ (.int .u64 0)).setCell ⟨w2.heap.size, 3, none⟩ (.int .u64 0)).setCell ⟨w2.heap.size, 4, none⟩ (.int .u64 0)).heap.size = w3.heap.size := by simp [World.setCell]
  have ho9Hbi := (((((Hbi.out.other (show _ ≠ w2.heap.size by have g0 := Hs1.out; have g1 := Hs2.out; have g2 := Hs3.out; omega) 0 (.pointer none)).other (show _ ≠ w2.heap.size by have g0 := Hs1.out; have g1 := Hs2.out; have g2 := Hs3.out; omega) 1 (.int .u64 0)).other (show _ ≠ w2.heap.size by have g0 := Hs1.out; have g1 := Hs2.out; have g2 := Hs3.out; omega) 2 (.int .u64 0)).other (show _ ≠ w2.heap.size by have g0 := Hs1.out; have g1 := Hs2.out; have g2 := Hs3.out; omega) 3 (.int .u64 0)).other (show _ ≠ w2.heap.size by have g0 := Hs1.out; have g1 := Hs2.out; have g2 := Hs3.out; omega) 4 (.int .u64 0))
  have ho9Hbc := (((((Hbc.out.other (show _ ≠ w2.heap.size by have g0 := Hs1.out; have g1 := Hs2.out; have g2 := Hs3.out; omega) 0 (.pointer none)).other (show _ ≠ w2.heap.size by have g0 := Hs1.out; have g1 := Hs2.out; have g2 := Hs3.out; omega) 1 (.int .u64 0)).other (show _ ≠ w2.heap.size by have g0 := Hs1.out; have g1 := Hs2.out; have g2 := Hs3.out; omega) 2 (.int .u64 0)).other (show _ ≠ w2.heap.size by have g0 := Hs1.out; have g1 := Hs2.out; have g2 := Hs3.out; omega) 3 (.int .u64 0)).other (show _ ≠ w2.heap.size by have g0 := Hs1.out; have g1 := Hs2.out; have g2 := Hs3.out; omega) 4 (.int .u64 0))
  obtain ⟨w4, hq4⟩ : ∃ W9 : World, (((((w3.setCell ⟨w2.heap.size, 0, none⟩ (.pointer none)).setCell ⟨w2.heap.size, 1, none⟩ (.int .u64 0)).setCell ⟨w2.heap.size, 2, none⟩ (.int .u64 0)).setCell ⟨w2.heap.size, 3, none⟩ (.int .u64 0)).setCell ⟨w2.heap.size, 4, none⟩ (.int .u64 0)) = W9 := ⟨_, rfl⟩
  rw [hq4] at hx9 hb9 hz9 ho9Hbi ho9Hbc
  clear Hbk HB
  have Hbk := Lib.hid hx9
  have HB := Lib.hid hb9
  have Hs4 := Lib.hid hz9
  replace Hbi := Lib.hid ho9Hbi
  replace Hbc := Lib.hid ho9Hbc
  clear hx9 hb9 hz9 ho9Hbi ho9Hbc
  have bi_0 := Hbi.out.cell (i := 0) rfl
  have bi_1 := Hbi.out.cell (i := 1) rfl
  have bc_0 := Hbc.out.cell (i := 0) rfl
  have bc_1 := Hbc.out.cell (i := 1) rfl
  have bk_0 := Hbk.out.cell (i := 0) rfl
  have bk_1 := Hbk.out.cell (i := 1) rfl
  have bk_2 := Hbk.out.cell (i := 2) rfl
  have bk_3 := Hbk.out.cell (i := 3) rfl
  have bk_4 := Hbk.out.cell (i := 4) rfl
  have f5_bc_0 := Hbc.out.frozen 0
  have f5_bc_1 := Hbc.out.frozen 1
  have o5_bi_0 := bi_0; clear bi_0
  have o5_bi_1 := bi_1; clear bi_1
  have o5_bc_0 := bc_0; clear bc_0
  have o5_bc_1 := bc_1; clear bc_1
  have o5_bk_0 := bk_0; clear bk_0
  have o5_bk_1 := bk_1; clear bk_1
  have o5_bk_2 := bk_2; clear bk_2
  have o5_bk_3 := bk_3; clear bk_3
  have o5_bk_4 := bk_4; clear bk_4
  have hx9 : Bx ((w4.setCell ⟨w.heap.size + 1, 0, none⟩ (.string ⟨#[]⟩)).setCell ⟨w.heap.size + 1, 1, none⟩ (.string ⟨#[]⟩)) (w.heap.size + 1) 41 [.string ⟨#[]⟩, .string ⟨#[]⟩] := ((Hbc.out.set 0 (.string ⟨#[]⟩)).set 1 (.string ⟨#[]⟩))
  have hb9 : Below w.heap.size w ((w4.setCell ⟨w.heap.size + 1, 0, none⟩ (.string ⟨#[]⟩)).setCell ⟨w.heap.size + 1, 1, none⟩ (.string ⟨#[]⟩)) := ((HB.out.setCell (show w.heap.size ≤ w.heap.size + 1 by have g0 := Hs1.out; have g1 := Hs2.out; have g2 := Hs3.out; have g3 := Hs4.out; omega) _).setCell (show w.heap.size ≤ w.heap.size + 1 by have g0 := Hs1.out; have g1 := Hs2.out; have g2 := Hs3.out; have g3 := Hs4.out; omega) _)
  have hz9 : ((w4.setCell ⟨w.heap.size + 1, 0, none⟩ (.string ⟨#[]⟩)).setCell ⟨w.heap.size + 1, 1, none⟩ (.string ⟨#[]⟩)).heap.size = w4.heap.size := by simp [World.setCell]
  have ho9Hbi := ((Hbi.out.other (show _ ≠ w.heap.size + 1 by have g0 := Hs1.out; have g1 := Hs2.out; have g2 := Hs3.out; have g3 := Hs4.out; omega) 0 (.string ⟨#[]⟩)).other (show _ ≠ w.heap.size + 1 by have g0 := Hs1.out; have g1 := Hs2.out; have g2 := Hs3.out; have g3 := Hs4.out; omega) 1 (.string ⟨#[]⟩))
  have ho9Hbk := ((Hbk.out.other (show _ ≠ w.heap.size + 1 by have g0 := Hs1.out; have g1 := Hs2.out; have g2 := Hs3.out; have g3 := Hs4.out; omega) 0 (.string ⟨#[]⟩)).other (show _ ≠ w.heap.size + 1 by have g0 := Hs1.out; have g1 := Hs2.out; have g2 := Hs3.out; have g3 := Hs4.out; omega) 1 (.string ⟨#[]⟩))
  obtain ⟨w5, hq5⟩ : ∃ W9 : World, ((w4.setCell ⟨w.heap.size + 1, 0, none⟩ (.string ⟨#[]⟩)).setCell ⟨w.heap.size + 1, 1, none⟩ (.string ⟨#[]⟩)) = W9 := ⟨_, rfl⟩
  rw [hq5] at hx9 hb9 hz9 ho9Hbi ho9Hbk
  clear Hbc HB
  have Hbc := Lib.hid hx9
  have HB := Lib.hid hb9
  have Hs5 := Lib.hid hz9
  replace Hbi := Lib.hid ho9Hbi
  replace Hbk := Lib.hid ho9Hbk
  clear hx9 hb9 hz9 ho9Hbi ho9Hbk
  have bi_0 := Hbi.out.cell (i := 0) rfl
  have bi_1 := Hbi.out.cell (i := 1) rfl
  have bc_0 := Hbc.out.cell (i := 0) rfl
  have bc_1 := Hbc.out.cell (i := 1) rfl
  have bk_0 := Hbk.out.cell (i := 0) rfl
  have bk_1 := Hbk.out.cell (i := 1) rfl
  have bk_2 := Hbk.out.cell (i := 2) rfl
  have bk_3 := Hbk.out.cell (i := 3) rfl
  have bk_4 := Hbk.out.cell (i := 4) rfl
  go_wp2_with fail
  clear hq5 o5_bk_4 o5_bk_3 o5_bk_2 o5_bk_1 o5_bk_0 o5_bc_1 o5_bc_0 o5_bi_1 o5_bi_0 f5_bc_1 f5_bc_0 hq4 o4_bk_4 o4_bk_3 o4_bk_2 o4_bk_1 o4_bk_0 o4_bc_1 o4_bc_0 o4_bi_1 o4_bi_0 f4_bk_4 f4_bk_3 f4_bk_2 f4_bk_1 f4_bk_0 hq3 o3_bc_1 o3_bc_0 o3_bi_1 o3_bi_0
  simp [bodyPost, results, Try.results25, go_sem, bc_0, bc_1]
  exact HB.out

set_option maxRecDepth 100000 in
set_option maxHeartbeats 1000000 in
theorem renew_no (k : Nat) (h1 : 1 ≤ k) (h3 : k ≤ 3) (key a b n : ByteArray) (hk : isEl (grp k).q.m (grp k).size key = false) (w : World) : Calls Try.prog 25 #[.int .i64 (k : Int), .string key, ciphV a b, .string n] w (Gives (cipE 7) w) := by
  have HK := Lib.hid hk
  clear hk
  unfold Gives cipE ciphV
  go_enter Try.func25, Try.ntmps25
  go_wp2_with fail
  have hb9 : Below w.heap.size w ((w.alloc (Obj.cells #[.string a, .string b] 41)).alloc (Obj.cells #[.string ⟨#[]⟩, .string ⟨#[]⟩] 41)) := (((Below.refl _ _).alloc (Nat.le_refl _) _).alloc (by simp) _)
  have hx90 : Bx ((w.alloc (Obj.cells #[.string a, .string b] 41)).alloc (Obj.cells #[.string ⟨#[]⟩, .string ⟨#[]⟩] 41)) (w.heap.size) 41 [.string a, .string b] := by
    have h := ((Bx.new w 41 [.string a, .string b] _ rfl).alloc (Obj.cells #[.string ⟨#[]⟩, .string ⟨#[]⟩] 41))
    exact h
  have hx91 : Bx ((w.alloc (Obj.cells #[.string a, .string b] 41)).alloc (Obj.cells #[.string ⟨#[]⟩, .string ⟨#[]⟩] 41)) (w.heap.size + 1) 41 [.string ⟨#[]⟩, .string ⟨#[]⟩] := by
    have h := (Bx.new (w.alloc (Obj.cells #[.string a, .string b] 41)) 41 [.string ⟨#[]⟩, .string ⟨#[]⟩] _ rfl)
    rw [World.size_alloc] at h
    exact h
  have hz9 : ((w.alloc (Obj.cells #[.string a, .string b] 41)).alloc (Obj.cells #[.string ⟨#[]⟩, .string ⟨#[]⟩] 41)).heap.size = w.heap.size + 2 := by simp
  obtain ⟨w1, hq1⟩ : ∃ W9 : World, ((w.alloc (Obj.cells #[.string a, .string b] 41)).alloc (Obj.cells #[.string ⟨#[]⟩, .string ⟨#[]⟩] 41)) = W9 := ⟨_, rfl⟩
  rw [hq1] at hb9 hz9 hx90 hx91
  rw [hq1]
  clear hq1
  have HB := Lib.hid hb9
  have Hs1 := Lib.hid hz9
  have Hbi := Lib.hid hx90
  have Hbc := Lib.hid hx91
  clear hb9 hz9 hx90 hx91
  have bi_0 := Hbi.out.cell (i := 0) rfl
  have bi_1 := Hbi.out.cell (i := 1) rfl
  have bc_0 := Hbc.out.cell (i := 0) rfl
  have bc_1 := Hbc.out.cell (i := 1) rfl
  go_wp2_with fail
  refine (bopen_no k h1 h3 key HK.out w1).mono ?_
  rintro e w2 ⟨rfl, hb9⟩
  clear bi_0 bi_1
  replace Hbi := Lib.hid (Hbi.out.up hb9)
  clear bc_0 bc_1
  replace Hbc := Lib.hid (Hbc.out.up hb9)
  replace HB := Lib.hid (below_up HB.out hb9)
  have Hs2 := Lib.hid (show w1.heap.size ≤ w2.heap.size from hb9.size)
  clear hb9
  have bi_0 := Hbi.out.cell (i := 0) rfl
  have bi_1 := Hbi.out.cell (i := 1) rfl
  have bc_0 := Hbc.out.cell (i := 0) rfl
  have bc_1 := Hbc.out.cell (i := 1) rfl
  unfold box0
  have o3_bi_0 := bi_0; clear bi_0
  have o3_bi_1 := bi_1; clear bi_1
  have o3_bc_0 := bc_0; clear bc_0
  have o3_bc_1 := bc_1; clear bc_1
  have hb9 : Below w2.heap.size w2 (w2.alloc (Obj.cells #[.pointer none, .int .u64 0, .int .u64 0, .int .u64 0, .int .u64 0] 113)) := ((Below.refl _ _).alloc (Nat.le_refl _) _)
  have hx90 : Bx (w2.alloc (Obj.cells #[.pointer none, .int .u64 0, .int .u64 0, .int .u64 0, .int .u64 0] 113)) (w2.heap.size) 113 [.pointer none, .int .u64 0, .int .u64 0, .int .u64 0, .int .u64 0] := by
    have h := (Bx.new w2 113 [.pointer none, .int .u64 0, .int .u64 0, .int .u64 0, .int .u64 0] _ rfl)
    exact h
  have hz9 : (w2.alloc (Obj.cells #[.pointer none, .int .u64 0, .int .u64 0, .int .u64 0, .int .u64 0] 113)).heap.size = w2.heap.size + 1 := by simp
  obtain ⟨w3, hq3⟩ : ∃ W9 : World, (w2.alloc (Obj.cells #[.pointer none, .int .u64 0, .int .u64 0, .int .u64 0, .int .u64 0] 113)) = W9 := ⟨_, rfl⟩
  rw [hq3] at hb9 hz9 hx90
  replace Hbi := Lib.hid (Hbi.out.up hb9)
  replace Hbc := Lib.hid (Hbc.out.up hb9)
  replace HB := Lib.hid (below_up HB.out hb9)
  have Hs3 := Lib.hid hz9
  have Hbk := Lib.hid hx90
  clear hb9 hz9 hx90
  have bi_0 := Hbi.out.cell (i := 0) rfl
  have bi_1 := Hbi.out.cell (i := 1) rfl
  have bc_0 := Hbc.out.cell (i := 0) rfl
  have bc_1 := Hbc.out.cell (i := 1) rfl
  have bk_0 := Hbk.out.cell (i := 0) rfl
  have bk_1 := Hbk.out.cell (i := 1) rfl
  have bk_2 := Hbk.out.cell (i := 2) rfl
  have bk_3 := Hbk.out.cell (i := 3) rfl
  have bk_4 := Hbk.out.cell (i := 4) rfl
  have f4_bk_0 := Hbk.out.frozen 0
  have f4_bk_1 := Hbk.out.frozen 1
  have f4_bk_2 := Hbk.out.frozen 2
  have f4_bk_3 := Hbk.out.frozen 3
  have f4_bk_4 := Hbk.out.frozen 4
  have o4_bi_0 := bi_0; clear bi_0
  have o4_bi_1 := bi_1; clear bi_1
  have o4_bc_0 := bc_0; clear bc_0
  have o4_bc_1 := bc_1; clear bc_1
  have o4_bk_0 := bk_0; clear bk_0
  have o4_bk_1 := bk_1; clear bk_1
  have o4_bk_2 := bk_2; clear bk_2
  have o4_bk_3 := bk_3; clear bk_3
  have o4_bk_4 := bk_4; clear bk_4
  have hx9 : Bx (((((w3.setCell ⟨w2.heap.size, 0, none⟩ (.pointer none)).setCell ⟨w2.heap.size, 1, none⟩ (.int .u64 0)).setCell ⟨w2.heap.size, 2, none⟩ (.int .u64 0)).setCell ⟨w2.heap.size, 3, none⟩ (.int .u64 0)).setCell ⟨w2.heap.size, 4, none⟩ (.int .u64 0)) (w2.heap.size) 113 [.pointer none, .int .u64 0, .int .u64 0, .int .u64 0, .int .u64 0] := (((((Hbk.out.set 0 (.pointer none)).set 1 (.int .u64 0)).set 2 (.int .u64 0)).set 3 (.int .u64 0)).set 4 (.int .u64 0))
  have hb9 : Below w.heap.size w (((((w3.setCell ⟨w2.heap.size, 0, none⟩ (.pointer none)).setCell ⟨w2.heap.size, 1, none⟩ (.int .u64 0)).setCell ⟨w2.heap.size, 2, none⟩ (.int .u64 0)).setCell ⟨w2.heap.size, 3, none⟩ (.int .u64 0)).setCell ⟨w2.heap.size, 4, none⟩ (.int .u64 0)) := (((((HB.out.setCell (show w.heap.size ≤ w2.heap.size by have g0 := Hs1.out; have g1 := Hs2.out; have g2 := Hs3.out; omega) _).setCell (show w.heap.size ≤ w2.heap.size by have g0 := Hs1.out; have g1 := Hs2.out; have g2 := Hs3.out; omega) _).setCell (show w.heap.size ≤ w2.heap.size by have g0 := Hs1.out; have g1 := Hs2.out; have g2 := Hs3.out; omega) _).setCell (show w.heap.size ≤ w2.heap.size by have g0 := Hs1.out; have g1 := Hs2.out; have g2 := Hs3.out; omega) _).setCell (show w.heap.size ≤ w2.heap.size by have g0 := Hs1.out; have g1 := Hs2.out; have g2 := Hs3.out; omega) _)
  have hz9 : (((((w3.setCell ⟨w2.heap.size, 0, none⟩ (.pointer none)).setCell ⟨w2.heap.size, 1, none⟩ (.int .u64 0)).setCell ⟨w2.heap.size, 2, none⟩ (.int .u64 0)).setCell ⟨w2.heap.size, 3, none⟩ (.int .u64 0)).setCell ⟨w2.heap.size, 4, none⟩ (.int .u64 0)).heap.size = w3.heap.size := by simp [World.setCell]
  have ho9Hbi := (((((Hbi.out.other (show _ ≠ w2.heap.size by have g0 := Hs1.out; have g1 := Hs2.out; have g2 := Hs3.out; omega) 0 (.pointer none)).other (show _ ≠ w2.heap.size by have g0 := Hs1.out; have g1 := Hs2.out; have g2 := Hs3.out; omega) 1 (.int .u64 0)).other (show _ ≠ w2.heap.size by have g0 := Hs1.out; have g1 := Hs2.out; have g2 := Hs3.out; omega) 2 (.int .u64 0)).other (show _ ≠ w2.heap.size by have g0 := Hs1.out; have g1 := Hs2.out; have g2 := Hs3.out; omega) 3 (.int .u64 0)).other (show _ ≠ w2.heap.size by have g0 := Hs1.out; have g1 := Hs2.out; have g2 := Hs3.out; omega) 4 (.int .u64 0))
  have ho9Hbc := (((((Hbc.out.other (show _ ≠ w2.heap.size by have g0 := Hs1.out; have g1 := Hs2.out; have g2 := Hs3.out; omega) 0 (.pointer none)).other (show _ ≠ w2.heap.size by have g0 := Hs1.out; have g1 := Hs2.out; have g2 := Hs3.out; omega) 1 (.int .u64 0)).other (show _ ≠ w2.heap.size by have g0 := Hs1.out; have g1 := Hs2.out; have g2 := Hs3.out; omega) 2 (.int .u64 0)).other (show _ ≠ w2.heap.size by have g0 := Hs1.out; have g1 := Hs2.out; have g2 := Hs3.out; omega) 3 (.int .u64 0)).other (show _ ≠ w2.heap.size by have g0 := Hs1.out; have g1 := Hs2.out; have g2 := Hs3.out; omega) 4 (.int .u64 0))
  obtain ⟨w4, hq4⟩ : ∃ W9 : World, (((((w3.setCell ⟨w2.heap.size, 0, none⟩ (.pointer none)).setCell ⟨w2.heap.size, 1, none⟩ (.int .u64 0)).setCell ⟨w2.heap.size, 2, none⟩ (.int .u64 0)).setCell ⟨w2.heap.size, 3, none⟩ (.int .u64 0)).setCell ⟨w2.heap.size, 4, none⟩ (.int .u64 0)) = W9 := ⟨_, rfl⟩
  rw [hq4] at hx9 hb9 hz9 ho9Hbi ho9Hbc
  clear Hbk HB
  have Hbk := Lib.hid hx9
  have HB := Lib.hid hb9
  have Hs4 := Lib.hid hz9
  replace Hbi := Lib.hid ho9Hbi
  replace Hbc := Lib.hid ho9Hbc
  clear hx9 hb9 hz9 ho9Hbi ho9Hbc
  have bi_0 := Hbi.out.cell (i := 0) rfl
  have bi_1 := Hbi.out.cell (i := 1) rfl
  have bc_0 := Hbc.out.cell (i := 0) rfl
  have bc_1 := Hbc.out.cell (i := 1) rfl
  have bk_0 := Hbk.out.cell (i := 0) rfl
  have bk_1 := Hbk.out.cell (i := 1) rfl
  have bk_2 := Hbk.out.cell (i := 2) rfl
  have bk_3 := Hbk.out.cell (i := 3) rfl
  have bk_4 := Hbk.out.cell (i := 4) rfl
  have f5_bc_0 := Hbc.out.frozen 0
  have f5_bc_1 := Hbc.out.frozen 1
  have o5_bi_0 := bi_0; clear bi_0
  have o5_bi_1 := bi_1; clear bi_1
  have o5_bc_0 := bc_0; clear bc_0
  have o5_bc_1 := bc_1; clear bc_1
  have o5_bk_0 := bk_0; clear bk_0
  have o5_bk_1 := bk_1; clear bk_1
  have o5_bk_2 := bk_2; clear bk_2
  have o5_bk_3 := bk_3; clear bk_3
  have o5_bk_4 := bk_4; clear bk_4
  have hx9 : Bx ((w4.setCell ⟨w.heap.size + 1, 0, none⟩ (.string ⟨#[]⟩)).setCell ⟨w.heap.size + 1, 1, none⟩ (.string ⟨#[]⟩)) (w.heap.size + 1) 41 [.string ⟨#[]⟩, .string ⟨#[]⟩] := ((Hbc.out.set 0 (.string ⟨#[]⟩)).set 1 (.string ⟨#[]⟩))
  have hb9 : Below w.heap.size w ((w4.setCell ⟨w.heap.size + 1, 0, none⟩ (.string ⟨#[]⟩)).setCell ⟨w.heap.size + 1, 1, none⟩ (.string ⟨#[]⟩)) := ((HB.out.setCell (show w.heap.size ≤ w.heap.size + 1 by have g0 := Hs1.out; have g1 := Hs2.out; have g2 := Hs3.out; have g3 := Hs4.out; omega) _).setCell (show w.heap.size ≤ w.heap.size + 1 by have g0 := Hs1.out; have g1 := Hs2.out; have g2 := Hs3.out; have g3 := Hs4.out; omega) _)
  have hz9 : ((w4.setCell ⟨w.heap.size + 1, 0, none⟩ (.string ⟨#[]⟩)).setCell ⟨w.heap.size + 1, 1, none⟩ (.string ⟨#[]⟩)).heap.size = w4.heap.size := by simp [World.setCell]
  have ho9Hbi := ((Hbi.out.other (show _ ≠ w.heap.size + 1 by have g0 := Hs1.out; have g1 := Hs2.out; have g2 := Hs3.out; have g3 := Hs4.out; omega) 0 (.string ⟨#[]⟩)).other (show _ ≠ w.heap.size + 1 by have g0 := Hs1.out; have g1 := Hs2.out; have g2 := Hs3.out; have g3 := Hs4.out; omega) 1 (.string ⟨#[]⟩))
  have ho9Hbk := ((Hbk.out.other (show _ ≠ w.heap.size + 1 by have g0 := Hs1.out; have g1 := Hs2.out; have g2 := Hs3.out; have g3 := Hs4.out; omega) 0 (.string ⟨#[]⟩)).other (show _ ≠ w.heap.size + 1 by have g0 := Hs1.out; have g1 := Hs2.out; have g2 := Hs3.out; have g3 := Hs4.out; omega) 1 (.string ⟨#[]⟩))
  obtain ⟨w5, hq5⟩ : ∃ W9 : World, ((w4.setCell ⟨w.heap.size + 1, 0, none⟩ (.string ⟨#[]⟩)).setCell ⟨w.heap.size + 1, 1, none⟩ (.string ⟨#[]⟩)) = W9 := ⟨_, rfl⟩
  rw [hq5] at hx9 hb9 hz9 ho9Hbi ho9Hbk
  clear Hbc HB
  have Hbc := Lib.hid hx9
  have HB := Lib.hid hb9
  have Hs5 := Lib.hid hz9
  replace Hbi := Lib.hid ho9Hbi
  replace Hbk := Lib.hid ho9Hbk
  clear hx9 hb9 hz9 ho9Hbi ho9Hbk
  have bi_0 := Hbi.out.cell (i := 0) rfl
  have bi_1 := Hbi.out.cell (i := 1) rfl
  have bc_0 := Hbc.out.cell (i := 0) rfl
  have bc_1 := Hbc.out.cell (i := 1) rfl
  have bk_0 := Hbk.out.cell (i := 0) rfl
  have bk_1 := Hbk.out.cell (i := 1) rfl
  have bk_2 := Hbk.out.cell (i := 2) rfl
  have bk_3 := Hbk.out.cell (i := 3) rfl
  have bk_4 := Hbk.out.cell (i := 4) rfl
  go_wp2_with fail
  clear hq5 o5_bk_4 o5_bk_3 o5_bk_2 o5_bk_1 o5_bk_0 o5_bc_1 o5_bc_0 o5_bi_1 o5_bi_0 f5_bc_1 f5_bc_0 hq4 o4_bk_4 o4_bk_3 o4_bk_2 o4_bk_1 o4_bk_0 o4_bc_1 o4_bc_0 o4_bi_1 o4_bi_0 f4_bk_4 f4_bk_3 f4_bk_2 f4_bk_1 f4_bk_0 hq3 o3_bc_1 o3_bc_0 o3_bi_1 o3_bi_0
  simp [bodyPost, results, Try.results25, go_sem, bc_0, bc_1]
  exact HB.out

set_option maxRecDepth 100000 in
set_option maxHeartbeats 1000000 in
theorem renew_yes (k : Nat) (h1 : 1 ≤ k) (h3 : k ≤ 3) (key a b n : ByteArray) (hk : isEl (grp k).q.m (grp k).size key = true) (ba bb bn : Bool) (ha : isEl (grp k).q.m (grp k).size a = ba) (hb : isEl (grp k).q.m (grp k).size b = bb) (hn : isSc (grp k).q.m (grp k).size n = bn) (w : World) :
    Calls Try.prog 25 #[.int .i64 (k : Int), .string key, ciphV a b, .string n] w (Gives (if ba && bb then if bn then .tuple #[ciphV (textS (lowN (grp k) (numOf a * 2 ^ (numOf n % (grp k).q.m))) (grp k).size) (textS (lowN (grp k) (numOf b * numOf key ^ (numOf n % (grp k).q.m))) (grp k).size), .int .i64 0] else cipE 6 else cipE 7) w) := by
  have HK := Lib.hid hk
  have HA := Lib.hid ha
  have HBB := Lib.hid hb
  have HN := Lib.hid hn
  have OK := Lib.hid (grp_ok k h1 h3)
  obtain ⟨bab, hbab⟩ : ∃ x, (ba && bb) = x := ⟨_, rfl⟩
  have hrd := fun gb W h => bread_any (grp k) OK.out gb a b ba bb HA.out HBB.out W h
  rw [hbab] at hrd ⊢
  have HRD := Lib.hid hrd
  clear hk ha hb hn hrd hbab
  unfold Gives cipE ciphV
  go_enter Try.func25, Try.ntmps25
  go_wp2_with fail
  have hb9 : Below w.heap.size w ((w.alloc (Obj.cells #[.string a, .string b] 41)).alloc (Obj.cells #[.string ⟨#[]⟩, .string ⟨#[]⟩] 41)) := (((Below.refl _ _).alloc (Nat.le_refl _) _).alloc (by simp) _)
  have hx90 : Bx ((w.alloc (Obj.cells #[.string a, .string b] 41)).alloc (Obj.cells #[.string ⟨#[]⟩, .string ⟨#[]⟩] 41)) (w.heap.size) 41 [.string a, .string b] := by
    have h := ((Bx.new w 41 [.string a, .string b] _ rfl).alloc (Obj.cells #[.string ⟨#[]⟩, .string ⟨#[]⟩] 41))
    exact h
  have hx91 : Bx ((w.alloc (Obj.cells #[.string a, .string b] 41)).alloc (Obj.cells #[.string ⟨#[]⟩, .string ⟨#[]⟩] 41)) (w.heap.size + 1) 41 [.string ⟨#[]⟩, .string ⟨#[]⟩] := by
    have h := (Bx.new (w.alloc (Obj.cells #[.string a, .string b] 41)) 41 [.string ⟨#[]⟩, .string ⟨#[]⟩] _ rfl)
    rw [World.size_alloc] at h
    exact h
  have hz9 : ((w.alloc (Obj.cells #[.string a, .string b] 41)).alloc (Obj.cells #[.string ⟨#[]⟩, .string ⟨#[]⟩] 41)).heap.size = w.heap.size + 2 := by simp
  obtain ⟨w1, hq1⟩ : ∃ W9 : World, ((w.alloc (Obj.cells #[.string a, .string b] 41)).alloc (Obj.cells #[.string ⟨#[]⟩, .string ⟨#[]⟩] 41)) = W9 := ⟨_, rfl⟩
  rw [hq1] at hb9 hz9 hx90 hx91
  rw [hq1]
  clear hq1
  have HB := Lib.hid hb9
  have Hs1 := Lib.hid hz9
  have Hbi := Lib.hid hx90
  have Hbc := Lib.hid hx91
  clear hb9 hz9 hx90 hx91
  have bi_0 := Hbi.out.cell (i := 0) rfl
  have bi_1 := Hbi.out.cell (i := 1) rfl
  have bc_0 := Hbc.out.cell (i := 0) rfl
  have bc_1 := Hbc.out.cell (i := 1) rfl
  go_wp2_with fail
  refine (bopen_yes k h1 h3 key HK.out w1).mono ?_
  rintro e w2 ⟨gb, rfl, hg9, hb9, hn9⟩
  clear bi_0 bi_1
  replace Hbi := Lib.hid (Hbi.out.up hb9)
  clear bc_0 bc_1
  replace Hbc := Lib.hid (Hbc.out.up hb9)
  replace HB := Lib.hid (below_up HB.out hb9)
  have Hs2 := Lib.hid (show w1.heap.size ≤ w2.heap.size from hb9.size)
  have HG := Lib.hid hg9
  clear hg9
  have HGB := Lib.hid hn9
  clear hn9
  clear hb9
  have bi_0 := Hbi.out.cell (i := 0) rfl
  have bi_1 := Hbi.out.cell (i := 1) rfl
  have bc_0 := Hbc.out.cell (i := 0) rfl
  have bc_1 := Hbc.out.cell (i := 1) rfl
  unfold boxV
  have o3_bi_0 := bi_0; clear bi_0
  have o3_bi_1 := bi_1; clear bi_1
  have o3_bc_0 := bc_0; clear bc_0
  have o3_bc_1 := bc_1; clear bc_1
  have hb9 : Below w2.heap.size w2 (w2.alloc (Obj.cells #[.pointer (some ⟨gb, 0, none⟩), .int .u64 (dig (mont (grp k).p.m (numOf key)) 0 : Int), .int .u64 (dig (mont (grp k).p.m (numOf key)) 1 : Int), .int .u64 (dig (mont (grp k).p.m (numOf key)) 2 : Int), .int .u64 (dig (mont (grp k).p.m (numOf key)) 3 : Int)] 113)) := ((Below.refl _ _).alloc (Nat.le_refl _) _)
  have hx90 : Bx (w2.alloc (Obj.cells #[.pointer (some ⟨gb, 0, none⟩), .int .u64 (dig (mont (grp k).p.m (numOf key)) 0 : Int), .int .u64 (dig (mont (grp k).p.m (numOf key)) 1 : Int), .int .u64 (dig (mont (grp k).p.m (numOf key)) 2 : Int), .int .u64 (dig (mont (grp k).p.m (numOf key)) 3 : Int)] 113)) (w2.heap.size) 113 [.pointer (some ⟨gb, 0, none⟩), .int .u64 (dig (mont (grp k).p.m (numOf key)) 0 : Int), .int .u64 (dig (mont (grp k).p.m (numOf key)) 1 : Int), .int .u64 (dig (mont (grp k).p.m (numOf key)) 2 : Int), .int .u64 (dig (mont (grp k).p.m (numOf key)) 3 : Int)] := by
    have h := (Bx.new w2 113 [.pointer (some ⟨gb, 0, none⟩), .int .u64 (dig (mont (grp k).p.m (numOf key)) 0 : Int), .int .u64 (dig (mont (grp k).p.m (numOf key)) 1 : Int), .int .u64 (dig (mont (grp k).p.m (numOf key)) 2 : Int), .int .u64 (dig (mont (grp k).p.m (numOf key)) 3 : Int)] _ rfl)
    exact h
  have hz9 : (w2.alloc (Obj.cells #[.pointer (some ⟨gb, 0, none⟩), .int .u64 (dig (mont (grp k).p.m (numOf key)) 0 : Int), .int .u64 (dig (mont (grp k).p.m (numOf key)) 1 : Int), .int .u64 (dig (mont (grp k).p.m (numOf key)) 2 : Int), .int .u64 (dig (mont (grp k).p.m (numOf key)) 3 : Int)] 113)).heap.size = w2.heap.size + 1 := by simp
  obtain ⟨w3, hq3⟩ : ∃ W9 : World, (w2.alloc (Obj.cells #[.pointer (some ⟨gb, 0, none⟩), .int .u64 (dig (mont (grp k).p.m (numOf key)) 0 : Int), .int .u64 (dig (mont (grp k).p.m (numOf key)) 1 : Int), .int .u64 (dig (mont (grp k).p.m (numOf key)) 2 : Int), .int .u64 (dig (mont (grp k).p.m (numOf key)) 3 : Int)] 113)) = W9 := ⟨_, rfl⟩
  rw [hq3] at hb9 hz9 hx90
  replace Hbi := Lib.hid (Hbi.out.up hb9)
  replace Hbc := Lib.hid (Hbc.out.up hb9)
  replace HG := Lib.hid (HG.out.up hb9)
  replace HB := Lib.hid (below_up HB.out hb9)
  have Hs3 := Lib.hid hz9
  have Hbk := Lib.hid hx90
  clear hb9 hz9 hx90
  have bi_0 := Hbi.out.cell (i := 0) rfl
  have bi_1 := Hbi.out.cell (i := 1) rfl
  have bc_0 := Hbc.out.cell (i := 0) rfl
  have bc_1 := Hbc.out.cell (i := 1) rfl
  have bk_0 := Hbk.out.cell (i := 0) rfl
  have bk_1 := Hbk.out.cell (i := 1) rfl
  have bk_2 := Hbk.out.cell (i := 2) rfl
  have bk_3 := Hbk.out.cell (i := 3) rfl
  have bk_4 := Hbk.out.cell (i := 4) rfl
  go_wp2_with fail
  clear hq3 o3_bc_1 o3_bc_0 o3_bi_1 o3_bi_0
  refine (HRD.out gb w3 HG.out).mono ?_
  rintro e w4 ⟨sx, sy, rfl, hb9, hx9⟩
  clear bi_0 bi_1
  replace Hbi := Lib.hid (Hbi.out.up hb9)
  clear bc_0 bc_1
  replace Hbc := Lib.hid (Hbc.out.up hb9)
  clear bk_0 bk_1 bk_2 bk_3 bk_4
  replace Hbk := Lib.hid (Hbk.out.up hb9)
  replace HG := Lib.hid (HG.out.up hb9)
  replace HB := Lib.hid (below_up HB.out hb9)
  have Hs4 := Lib.hid (show w3.heap.size ≤ w4.heap.size from hb9.size)
  have HSX := Lib.hid hx9
  clear hx9
  clear hb9
  have bi_0 := Hbi.out.cell (i := 0) rfl
  have bi_1 := Hbi.out.cell (i := 1) rfl
  have bc_0 := Hbc.out.cell (i := 0) rfl
  have bc_1 := Hbc.out.cell (i := 1) rfl
  have bk_0 := Hbk.out.cell (i := 0) rfl
  have bk_1 := Hbk.out.cell (i := 1) rfl
  have bk_2 := Hbk.out.cell (i := 2) rfl
  have bk_3 := Hbk.out.cell (i := 3) rfl
  have bk_4 := Hbk.out.cell (i := 4) rfl
  unfold pairL
  have o5_bi_0 := bi_0; clear bi_0
  have o5_bi_1 := bi_1; clear bi_1
  have o5_bc_0 := bc_0; clear bc_0
  have o5_bc_1 := bc_1; clear bc_1
  have o5_bk_0 := bk_0; clear bk_0
  have o5_bk_1 := bk_1; clear bk_1
  have o5_bk_2 := bk_2; clear bk_2
  have o5_bk_3 := bk_3; clear bk_3
  have o5_bk_4 := bk_4; clear bk_4
  have hb9 : Below w4.heap.size w4 (w4.alloc (Obj.cells #[.int .u64 (dig (sx) 0 : Int), .int .u64 (dig (sx) 1 : Int), .int .u64 (dig (sx) 2 : Int), .int .u64 (dig (sx) 3 : Int), .int .u64 (dig (sy) 0 : Int), .int .u64 (dig (sy) 1 : Int), .int .u64 (dig (sy) 2 : Int), .int .u64 (dig (sy) 3 : Int)] 118)) := ((Below.refl _ _).alloc (Nat.le_refl _) _)
  have hx90 : Bx (w4.alloc (Obj.cells #[.int .u64 (dig (sx) 0 : Int), .int .u64 (dig (sx) 1 : Int), .int .u64 (dig (sx) 2 : Int), .int .u64 (dig (sx) 3 : Int), .int .u64 (dig (sy) 0 : Int), .int .u64 (dig (sy) 1 : Int), .int .u64 (dig (sy) 2 : Int), .int .u64 (dig (sy) 3 : Int)] 118)) (w4.heap.size) 118 [.int .u64 (dig (sx) 0 : Int), .int .u64 (dig (sx) 1 : Int), .int .u64 (dig (sx) 2 : Int), .int .u64 (dig (sx) 3 : Int), .int .u64 (dig (sy) 0 : Int), .int .u64 (dig (sy) 1 : Int), .int .u64 (dig (sy) 2 : Int), .int .u64 (dig (sy) 3 : Int)] := by
    have h := (Bx.new w4 118 [.int .u64 (dig (sx) 0 : Int), .int .u64 (dig (sx) 1 : Int), .int .u64 (dig (sx) 2 : Int), .int .u64 (dig (sx) 3 : Int), .int .u64 (dig (sy) 0 : Int), .int .u64 (dig (sy) 1 : Int), .int .u64 (dig (sy) 2 : Int), .int .u64 (dig (sy) 3 : Int)] _ rfl)
    exact h
  have hz9 : (w4.alloc (Obj.cells #[.int .u64 (dig (sx) 0 : Int), .int .u64 (dig (sx) 1 : Int), .int .u64 (dig (sx) 2 : Int), .int .u64 (dig (sx) 3 : Int), .int .u64 (dig (sy) 0 : Int), .int .u64 (dig (sy) 1 : Int), .int .u64 (dig (sy) 2 : Int), .int .u64 (dig (sy) 3 : Int)] 118)).heap.size = w4.heap.size + 1 := by simp
  obtain ⟨w5, hq5⟩ : ∃ W9 : World, (w4.alloc (Obj.cells #[.int .u64 (dig (sx) 0 : Int), .int .u64 (dig (sx) 1 : Int), .int .u64 (dig (sx) 2 : Int), .int .u64 (dig (sx) 3 : Int), .int .u64 (dig (sy) 0 : Int), .int .u64 (dig (sy) 1 : Int), .int .u64 (dig (sy) 2 : Int), .int .u64 (dig (sy) 3 : Int)] 118)) = W9 := ⟨_, rfl⟩
  rw [hq5] at hb9 hz9 hx90
  replace Hbi := Lib.hid (Hbi.out.up hb9)
  replace Hbc := Lib.hid (Hbc.out.up hb9)
  replace Hbk := Lib.hid (Hbk.out.up hb9)
  replace HG := Lib.hid (HG.out.up hb9)
  replace HB := Lib.hid (below_up HB.out hb9)
  have Hs5 := Lib.hid hz9
  have Hbp := Lib.hid hx90
  clear hb9 hz9 hx90
  have bi_0 := Hbi.out.cell (i := 0) rfl
  have bi_1 := Hbi.out.cell (i := 1) rfl
  have bc_0 := Hbc.out.cell (i := 0) rfl
  have bc_1 := Hbc.out.cell (i := 1) rfl
  have bk_0 := Hbk.out.cell (i := 0) rfl
  have bk_1 := Hbk.out.cell (i := 1) rfl
  have bk_2 := Hbk.out.cell (i := 2) rfl
  have bk_3 := Hbk.out.cell (i := 3) rfl
  have bk_4 := Hbk.out.cell (i := 4) rfl
  have bp_0 := Hbp.out.cell (i := 0) rfl
  have bp_1 := Hbp.out.cell (i := 1) rfl
  have bp_2 := Hbp.out.cell (i := 2) rfl
  have bp_3 := Hbp.out.cell (i := 3) rfl
  have bp_4 := Hbp.out.cell (i := 4) rfl
  have bp_5 := Hbp.out.cell (i := 5) rfl
  have bp_6 := Hbp.out.cell (i := 6) rfl
  have bp_7 := Hbp.out.cell (i := 7) rfl
  cases bab
  · have f6_bc_0 := Hbc.out.frozen 0
    have f6_bc_1 := Hbc.out.frozen 1
    have o6_bi_0 := bi_0; clear bi_0
    have o6_bi_1 := bi_1; clear bi_1
    have o6_bc_0 := bc_0; clear bc_0
    have o6_bc_1 := bc_1; clear bc_1
    have o6_bk_0 := bk_0; clear bk_0
    have o6_bk_1 := bk_1; clear bk_1
    have o6_bk_2 := bk_2; clear bk_2
    have o6_bk_3 := bk_3; clear bk_3
    have o6_bk_4 := bk_4; clear bk_4
    have o6_bp_0 := bp_0; clear bp_0
    have o6_bp_1 := bp_1; clear bp_1
    have o6_bp_2 := bp_2; clear bp_2
    have o6_bp_3 := bp_3; clear bp_3
    have o6_bp_4 := bp_4; clear bp_4
    have o6_bp_5 := bp_5; clear bp_5
    have o6_bp_6 := bp_6; clear bp_6
    have o6_bp_7 := bp_7; clear bp_7
    have hx9 : Bx ((w5.setCell ⟨w.heap.size + 1, 0, none⟩ (.string ⟨#[]⟩)).setCell ⟨w.heap.size + 1, 1, none⟩ (.string ⟨#[]⟩)) (w.heap.size + 1) 41 [.string ⟨#[]⟩, .string ⟨#[]⟩] := ((Hbc.out.set 0 (.string ⟨#[]⟩)).set 1 (.string ⟨#[]⟩))
    have hb9 : Below w.heap.size w ((w5.setCell ⟨w.heap.size + 1, 0, none⟩ (.string ⟨#[]⟩)).setCell ⟨w.heap.size + 1, 1, none⟩ (.string ⟨#[]⟩)) := ((HB.out.setCell (show w.heap.size ≤ w.heap.size + 1 by have g0 := Hs1.out; have g1 := Hs2.out; have g2 := HGB.out; have g3 := Hs3.out; have g4 := Hs4.out; have g5 := Hs5.out; omega) _).setCell (show w.heap.size ≤ w.heap.size + 1 by have g0 := Hs1.out; have g1 := Hs2.out; have g2 := HGB.out; have g3 := Hs3.out; have g4 := Hs4.out; have g5 := Hs5.out; omega) _)
    have hz9 : ((w5.setCell ⟨w.heap.size + 1, 0, none⟩ (.string ⟨#[]⟩)).setCell ⟨w.heap.size + 1, 1, none⟩ (.string ⟨#[]⟩)).heap.size = w5.heap.size := by simp [World.setCell]
    have ho9Hbi := ((Hbi.out.other (show _ ≠ w.heap.size + 1 by have g0 := Hs1.out; have g1 := Hs2.out; have g2 := HGB.out; have g3 := Hs3.out; have g4 := Hs4.out; have g5 := Hs5.out; omega) 0 (.string ⟨#[]⟩)).other (show _ ≠ w.heap.size + 1 by have g0 := Hs1.out; have g1 := Hs2.out; have g2 := HGB.out; have g3 := Hs3.out; have g4 := Hs4.out; have g5 := Hs5.out; omega) 1 (.string ⟨#[]⟩))
    have ho9Hbk := ((Hbk.out.other (show _ ≠ w.heap.size + 1 by have g0 := Hs1.out; have g1 := Hs2.out; have g2 := HGB.out; have g3 := Hs3.out; have g4 := Hs4.out; have g5 := Hs5.out; omega) 0 (.string ⟨#[]⟩)).other (show _ ≠ w.heap.size + 1 by have g0 := Hs1.out; have g1 := Hs2.out; have g2 := HGB.out; have g3 := Hs3.out; have g4 := Hs4.out; have g5 := Hs5.out; omega) 1 (.string ⟨#[]⟩))
    have ho9Hbp := ((Hbp.out.other (show _ ≠ w.heap.size + 1 by have g0 := Hs1.out; have g1 := Hs2.out; have g2 := HGB.out; have g3 := Hs3.out; have g4 := Hs4.out; have g5 := Hs5.out; omega) 0 (.string ⟨#[]⟩)).other (show _ ≠ w.heap.size + 1 by have g0 := Hs1.out; have g1 := Hs2.out; have g2 := HGB.out; have g3 := Hs3.out; have g4 := Hs4.out; have g5 := Hs5.out; omega) 1 (.string ⟨#[]⟩))
    have ho9HG := ((HG.out.other (show _ ≠ w.heap.size + 1 by have g0 := Hs1.out; have g1 := Hs2.out; have g2 := HGB.out; have g3 := Hs3.out; have g4 := Hs4.out; have g5 := Hs5.out; omega) 0 (.string ⟨#[]⟩)).other (show _ ≠ w.heap.size + 1 by have g0 := Hs1.out; have g1 := Hs2.out; have g2 := HGB.out; have g3 := Hs3.out; have g4 := Hs4.out; have g5 := Hs5.out; omega) 1 (.string ⟨#[]⟩))
    obtain ⟨w6, hq6⟩ : ∃ W9 : World, ((w5.setCell ⟨w.heap.size + 1, 0, none⟩ (.string ⟨#[]⟩)).setCell ⟨w.heap.size + 1, 1, none⟩ (.string ⟨#[]⟩)) = W9 := ⟨_, rfl⟩
    rw [hq6] at hx9 hb9 hz9 ho9Hbi ho9Hbk ho9Hbp ho9HG
    clear Hbc HB
    have Hbc := Lib.hid hx9
    have HB := Lib.hid hb9
    have Hs6 := Lib.hid hz9
    replace Hbi := Lib.hid ho9Hbi
    replace Hbk := Lib.hid ho9Hbk
    replace Hbp := Lib.hid ho9Hbp
    replace HG := Lib.hid ho9HG
    clear hx9 hb9 hz9 ho9Hbi ho9Hbk ho9Hbp ho9HG
    have bi_0 := Hbi.out.cell (i := 0) rfl
    have bi_1 := Hbi.out.cell (i := 1) rfl
    have bc_0 := Hbc.out.cell (i := 0) rfl
    have bc_1 := Hbc.out.cell (i := 1) rfl
    have bk_0 := Hbk.out.cell (i := 0) rfl
    have bk_1 := Hbk.out.cell (i := 1) rfl
    have bk_2 := Hbk.out.cell (i := 2) rfl
    have bk_3 := Hbk.out.cell (i := 3) rfl
    have bk_4 := Hbk.out.cell (i := 4) rfl
    have bp_0 := Hbp.out.cell (i := 0) rfl
    have bp_1 := Hbp.out.cell (i := 1) rfl
    have bp_2 := Hbp.out.cell (i := 2) rfl
    have bp_3 := Hbp.out.cell (i := 3) rfl
    have bp_4 := Hbp.out.cell (i := 4) rfl
    have bp_5 := Hbp.out.cell (i := 5) rfl
    have bp_6 := Hbp.out.cell (i := 6) rfl
    have bp_7 := Hbp.out.cell (i := 7) rfl
    go_wp2_with fail
    clear hq6 o6_bp_7 o6_bp_6 o6_bp_5 o6_bp_4 o6_bp_3 o6_bp_2 o6_bp_1 o6_bp_0 o6_bk_4 o6_bk_3 o6_bk_2 o6_bk_1 o6_bk_0 o6_bc_1 o6_bc_0 o6_bi_1 o6_bi_0 f6_bc_1 f6_bc_0 hq5 o5_bk_4 o5_bk_3 o5_bk_2 o5_bk_1 o5_bk_0 o5_bc_1 o5_bc_0 o5_bi_1 o5_bi_0
    simp [bodyPost, results, Try.results25, go_sem, bc_0, bc_1]
    exact HB.out
  · obtain ⟨rfl, rfl⟩ := HSX.out rfl
    go_wp2_with fail
    clear hq5 o5_bk_4 o5_bk_3 o5_bk_2 o5_bk_1 o5_bk_0 o5_bc_1 o5_bc_0 o5_bi_1 o5_bi_0
    refine (gScalar_m (grp k) OK.out gb n bn HN.out w5 HG.out).mono ?_
    rintro e w6 ⟨sn, rfl, hb9, hn9⟩
    clear bi_0 bi_1
    replace Hbi := Lib.hid (Hbi.out.up hb9)
    clear bc_0 bc_1
    replace Hbc := Lib.hid (Hbc.out.up hb9)
    clear bk_0 bk_1 bk_2 bk_3 bk_4
    replace Hbk := Lib.hid (Hbk.out.up hb9)
    clear bp_0 bp_1 bp_2 bp_3 bp_4 bp_5 bp_6 bp_7
    replace Hbp := Lib.hid (Hbp.out.up hb9)
    replace HG := Lib.hid (HG.out.up hb9)
    replace HB := Lib.hid (below_up HB.out hb9)
    have Hs6 := Lib.hid (show w5.heap.size ≤ w6.heap.size from hb9.size)
    have HSN := Lib.hid hn9
    clear hn9
    clear hb9
    have bi_0 := Hbi.out.cell (i := 0) rfl
    have bi_1 := Hbi.out.cell (i := 1) rfl
    have bc_0 := Hbc.out.cell (i := 0) rfl
    have bc_1 := Hbc.out.cell (i := 1) rfl
    have bk_0 := Hbk.out.cell (i := 0) rfl
    have bk_1 := Hbk.out.cell (i := 1) rfl
    have bk_2 := Hbk.out.cell (i := 2) rfl
    have bk_3 := Hbk.out.cell (i := 3) rfl
    have bk_4 := Hbk.out.cell (i := 4) rfl
    have bp_0 := Hbp.out.cell (i := 0) rfl
    have bp_1 := Hbp.out.cell (i := 1) rfl
    have bp_2 := Hbp.out.cell (i := 2) rfl
    have bp_3 := Hbp.out.cell (i := 3) rfl
    have bp_4 := Hbp.out.cell (i := 4) rfl
    have bp_5 := Hbp.out.cell (i := 5) rfl
    have bp_6 := Hbp.out.cell (i := 6) rfl
    have bp_7 := Hbp.out.cell (i := 7) rfl
    unfold limbV
    have o7_bi_0 := bi_0; clear bi_0
    have o7_bi_1 := bi_1; clear bi_1
    have o7_bc_0 := bc_0; clear bc_0
    have o7_bc_1 := bc_1; clear bc_1
    have o7_bk_0 := bk_0; clear bk_0
    have o7_bk_1 := bk_1; clear bk_1
    have o7_bk_2 := bk_2; clear bk_2
    have o7_bk_3 := bk_3; clear bk_3
    have o7_bk_4 := bk_4; clear bk_4
    have o7_bp_0 := bp_0; clear bp_0
    have o7_bp_1 := bp_1; clear bp_1
    have o7_bp_2 := bp_2; clear bp_2
    have o7_bp_3 := bp_3; clear bp_3
    have o7_bp_4 := bp_4; clear bp_4
    have o7_bp_5 := bp_5; clear bp_5
    have o7_bp_6 := bp_6; clear bp_6
    have o7_bp_7 := bp_7; clear bp_7
    have hb9 : Below w6.heap.size w6 (w6.alloc (Obj.cells #[.int .u64 (dig (sn) 0 : Int), .int .u64 (dig (sn) 1 : Int), .int .u64 (dig (sn) 2 : Int), .int .u64 (dig (sn) 3 : Int)] 91)) := ((Below.refl _ _).alloc (Nat.le_refl _) _)
    have hx90 : Bx (w6.alloc (Obj.cells #[.int .u64 (dig (sn) 0 : Int), .int .u64 (dig (sn) 1 : Int), .int .u64 (dig (sn) 2 : Int), .int .u64 (dig (sn) 3 : Int)] 91)) (w6.heap.size) 91 [.int .u64 (dig (sn) 0 : Int), .int .u64 (dig (sn) 1 : Int), .int .u64 (dig (sn) 2 : Int), .int .u64 (dig (sn) 3 : Int)] := by
      have h := (Bx.new w6 91 [.int .u64 (dig (sn) 0 : Int), .int .u64 (dig (sn) 1 : Int), .int .u64 (dig (sn) 2 : Int), .int .u64 (dig (sn) 3 : Int)] _ rfl)
      exact h
    have hz9 : (w6.alloc (Obj.cells #[.int .u64 (dig (sn) 0 : Int), .int .u64 (dig (sn) 1 : Int), .int .u64 (dig (sn) 2 : Int), .int .u64 (dig (sn) 3 : Int)] 91)).heap.size = w6.heap.size + 1 := by simp
    obtain ⟨w7, hq7⟩ : ∃ W9 : World, (w6.alloc (Obj.cells #[.int .u64 (dig (sn) 0 : Int), .int .u64 (dig (sn) 1 : Int), .int .u64 (dig (sn) 2 : Int), .int .u64 (dig (sn) 3 : Int)] 91)) = W9 := ⟨_, rfl⟩
    rw [hq7] at hb9 hz9 hx90
    replace Hbi := Lib.hid (Hbi.out.up hb9)
    replace Hbc := Lib.hid (Hbc.out.up hb9)
    replace Hbk := Lib.hid (Hbk.out.up hb9)
    replace Hbp := Lib.hid (Hbp.out.up hb9)
    replace HG := Lib.hid (HG.out.up hb9)
    replace HB := Lib.hid (below_up HB.out hb9)
    have Hs7 := Lib.hid hz9
    have Hbn := Lib.hid hx90
    clear hb9 hz9 hx90
    have bi_0 := Hbi.out.cell (i := 0) rfl
    have bi_1 := Hbi.out.cell (i := 1) rfl
    have bc_0 := Hbc.out.cell (i := 0) rfl
    have bc_1 := Hbc.out.cell (i := 1) rfl
    have bk_0 := Hbk.out.cell (i := 0) rfl
    have bk_1 := Hbk.out.cell (i := 1) rfl
    have bk_2 := Hbk.out.cell (i := 2) rfl
    have bk_3 := Hbk.out.cell (i := 3) rfl
    have bk_4 := Hbk.out.cell (i := 4) rfl
    have bp_0 := Hbp.out.cell (i := 0) rfl
    have bp_1 := Hbp.out.cell (i := 1) rfl
    have bp_2 := Hbp.out.cell (i := 2) rfl
    have bp_3 := Hbp.out.cell (i := 3) rfl
    have bp_4 := Hbp.out.cell (i := 4) rfl
    have bp_5 := Hbp.out.cell (i := 5) rfl
    have bp_6 := Hbp.out.cell (i := 6) rfl
    have bp_7 := Hbp.out.cell (i := 7) rfl
    have bn_0 := Hbn.out.cell (i := 0) rfl
    have bn_1 := Hbn.out.cell (i := 1) rfl
    have bn_2 := Hbn.out.cell (i := 2) rfl
    have bn_3 := Hbn.out.cell (i := 3) rfl
    cases bn
    · have f8_bc_0 := Hbc.out.frozen 0
      have f8_bc_1 := Hbc.out.frozen 1
      have o8_bi_0 := bi_0; clear bi_0
      have o8_bi_1 := bi_1; clear bi_1
      have o8_bc_0 := bc_0; clear bc_0
      have o8_bc_1 := bc_1; clear bc_1
      have o8_bk_0 := bk_0; clear bk_0
      have o8_bk_1 := bk_1; clear bk_1
      have o8_bk_2 := bk_2; clear bk_2
      have o8_bk_3 := bk_3; clear bk_3
      have o8_bk_4 := bk_4; clear bk_4
      have o8_bp_0 := bp_0; clear bp_0
      have o8_bp_1 := bp_1; clear bp_1
      have o8_bp_2 := bp_2; clear bp_2
      have o8_bp_3 := bp_3; clear bp_3
      have o8_bp_4 := bp_4; clear bp_4
      have o8_bp_5 := bp_5; clear bp_5
      have o8_bp_6 := bp_6; clear bp_6
      have o8_bp_7 := bp_7; clear bp_7
      have o8_bn_0 := bn_0; clear bn_0
      have o8_bn_1 := bn_1; clear bn_1
      have o8_bn_2 := bn_2; clear bn_2
      have o8_bn_3 := bn_3; clear bn_3
      have hx9 : Bx ((w7.setCell ⟨w.heap.size + 1, 0, none⟩ (.string ⟨#[]⟩)).setCell ⟨w.heap.size + 1, 1, none⟩ (.string ⟨#[]⟩)) (w.heap.size + 1) 41 [.string ⟨#[]⟩, .string ⟨#[]⟩] := ((Hbc.out.set 0 (.string ⟨#[]⟩)).set 1 (.string ⟨#[]⟩))
      have hb9 : Below w.heap.size w ((w7.setCell ⟨w.heap.size + 1, 0, none⟩ (.string ⟨#[]⟩)).setCell ⟨w.heap.size + 1, 1, none⟩ (.string ⟨#[]⟩)) := ((HB.out.setCell (show w.heap.size ≤ w.heap.size + 1 by have g0 := Hs1.out; have g1 := Hs2.out; have g2 := HGB.out; have g3 := Hs3.out; have g4 := Hs4.out; have g5 := Hs5.out; have g6 := Hs6.out; have g7 := Hs7.out; omega) _).setCell (show w.heap.size ≤ w.heap.size + 1 by have g0 := Hs1.out; have g1 := Hs2.out; have g2 := HGB.out; have g3 := Hs3.out; have g4 := Hs4.out; have g5 := Hs5.out; have g6 := Hs6.out; have g7 := Hs7.out; omega) _)
      have hz9 : ((w7.setCell ⟨w.heap.size + 1, 0, none⟩ (.string ⟨#[]⟩)).setCell ⟨w.heap.size + 1, 1, none⟩ (.string ⟨#[]⟩)).heap.size = w7.heap.size := by simp [World.setCell]
      have ho9Hbi := ((Hbi.out.other (show _ ≠ w.heap.size + 1 by have g0 := Hs1.out; have g1 := Hs2.out; have g2 := HGB.out; have g3 := Hs3.out; have g4 := Hs4.out; have g5 := Hs5.out; have g6 := Hs6.out; have g7 := Hs7.out; omega) 0 (.string ⟨#[]⟩)).other (show _ ≠ w.heap.size + 1 by have g0 := Hs1.out; have g1 := Hs2.out; have g2 := HGB.out; have g3 := Hs3.out; have g4 := Hs4.out; have g5 := Hs5.out; have g6 := Hs6.out; have g7 := Hs7.out; omega) 1 (.string ⟨#[]⟩))
      have ho9Hbk := ((Hbk.out.other (show _ ≠ w.heap.size + 1 by have g0 := Hs1.out; have g1 := Hs2.out; have g2 := HGB.out; have g3 := Hs3.out; have g4 := Hs4.out; have g5 := Hs5.out; have g6 := Hs6.out; have g7 := Hs7.out; omega) 0 (.string ⟨#[]⟩)).other (show _ ≠ w.heap.size + 1 by have g0 := Hs1.out; have g1 := Hs2.out; have g2 := HGB.out; have g3 := Hs3.out; have g4 := Hs4.out; have g5 := Hs5.out; have g6 := Hs6.out; have g7 := Hs7.out; omega) 1 (.string ⟨#[]⟩))
      have ho9Hbp := ((Hbp.out.other (show _ ≠ w.heap.size + 1 by have g0 := Hs1.out; have g1 := Hs2.out; have g2 := HGB.out; have g3 := Hs3.out; have g4 := Hs4.out; have g5 := Hs5.out; have g6 := Hs6.out; have g7 := Hs7.out; omega) 0 (.string ⟨#[]⟩)).other (show _ ≠ w.heap.size + 1 by have g0 := Hs1.out; have g1 := Hs2.out; have g2 := HGB.out; have g3 := Hs3.out; have g4 := Hs4.out; have g5 := Hs5.out; have g6 := Hs6.out; have g7 := Hs7.out; omega) 1 (.string ⟨#[]⟩))
      have ho9Hbn := ((Hbn.out.other (show _ ≠ w.heap.size + 1 by have g0 := Hs1.out; have g1 := Hs2.out; have g2 := HGB.out; have g3 := Hs3.out; have g4 := Hs4.out; have g5 := Hs5.out; have g6 := Hs6.out; have g7 := Hs7.out; omega) 0 (.string ⟨#[]⟩)).other (show _ ≠ w.heap.size + 1 by have g0 := Hs1.out; have g1 := Hs2.out; have g2 := HGB.out; have g3 := Hs3.out; have g4 := Hs4.out; have g5 := Hs5.out; have g6 := Hs6.out; have g7 := Hs7.out; omega) 1 (.string ⟨#[]⟩))
      have ho9HG := ((HG.out.other (show _ ≠ w.heap.size + 1 by have g0 := Hs1.out; have g1 := Hs2.out; have g2 := HGB.out; have g3 := Hs3.out; have g4 := Hs4.out; have g5 := Hs5.out; have g6 := Hs6.out; have g7 := Hs7.out; omega) 0 (.string ⟨#[]⟩)).other (show _ ≠ w.heap.size + 1 by have g0 := Hs1.out; have g1 := Hs2.out; have g2 := HGB.out; have g3 := Hs3.out; have g4 := Hs4.out; have g5 := Hs5.out; have g6 := Hs6.out; have g7 := Hs7.out; omega) 1 (.string ⟨#[]⟩))
      obtain ⟨w8, hq8⟩ : ∃ W9 : World, ((w7.setCell ⟨w.heap.size + 1, 0, none⟩ (.string ⟨#[]⟩)).setCell ⟨w.heap.size + 1, 1, none⟩ (.string ⟨#[]⟩)) = W9 := ⟨_, rfl⟩
      rw [hq8] at hx9 hb9 hz9 ho9Hbi ho9Hbk ho9Hbp ho9Hbn ho9HG
      clear Hbc HB
      have Hbc := Lib.hid hx9
      have HB := Lib.hid hb9
      have Hs8 := Lib.hid hz9
      replace Hbi := Lib.hid ho9Hbi
      replace Hbk := Lib.hid ho9Hbk
      replace Hbp := Lib.hid ho9Hbp
      replace Hbn := Lib.hid ho9Hbn
      replace HG := Lib.hid ho9HG
      clear hx9 hb9 hz9 ho9Hbi ho9Hbk ho9Hbp ho9Hbn ho9HG
      have bi_0 := Hbi.out.cell (i := 0) rfl
      have bi_1 := Hbi.out.cell (i := 1) rfl
      have bc_0 := Hbc.out.cell (i := 0) rfl
      have bc_1 := Hbc.out.cell (i := 1) rfl
      have bk_0 := Hbk.out.cell (i := 0) rfl
      have bk_1 := Hbk.out.cell (i := 1) rfl
      have bk_2 := Hbk.out.cell (i := 2) rfl
      have bk_3 := Hbk.out.cell (i := 3) rfl
      have bk_4 := Hbk.out.cell (i := 4) rfl
      have bp_0 := Hbp.out.cell (i := 0) rfl
      have bp_1 := Hbp.out.cell (i := 1) rfl
      have bp_2 := Hbp.out.cell (i := 2) rfl
      have bp_3 := Hbp.out.cell (i := 3) rfl
      have bp_4 := Hbp.out.cell (i := 4) rfl
      have bp_5 := Hbp.out.cell (i := 5) rfl
      have bp_6 := Hbp.out.cell (i := 6) rfl
      have bp_7 := Hbp.out.cell (i := 7) rfl
      have bn_0 := Hbn.out.cell (i := 0) rfl
      have bn_1 := Hbn.out.cell (i := 1) rfl
      have bn_2 := Hbn.out.cell (i := 2) rfl
      have bn_3 := Hbn.out.cell (i := 3) rfl
      go_wp2_with fail
      clear hq8 o8_bn_3 o8_bn_2 o8_bn_1 o8_bn_0 o8_bp_7 o8_bp_6 o8_bp_5 o8_bp_4 o8_bp_3 o8_bp_2 o8_bp_1 o8_bp_0 o8_bk_4 o8_bk_3 o8_bk_2 o8_bk_1 o8_bk_0 o8_bc_1 o8_bc_0 o8_bi_1 o8_bi_0 f8_bc_1 f8_bc_0 hq7 o7_bp_7 o7_bp_6 o7_bp_5 o7_bp_4 o7_bp_3 o7_bp_2 o7_bp_1 o7_bp_0 o7_bk_4 o7_bk_3 o7_bk_2 o7_bk_1 o7_bk_0 o7_bc_1 o7_bc_0 o7_bi_1 o7_bi_0
      simp [bodyPost, results, Try.results25, go_sem, bc_0, bc_1]
      exact HB.out
    · obtain rfl := HSN.out rfl
      go_wp2_with fail
      clear hq7 o7_bp_7 o7_bp_6 o7_bp_5 o7_bp_4 o7_bp_3 o7_bp_2 o7_bp_1 o7_bp_0 o7_bk_4 o7_bk_3 o7_bk_2 o7_bk_1 o7_bk_0 o7_bc_1 o7_bc_0 o7_bi_1 o7_bi_0
      have hl_bi := Hbi.out.lt
      have hl_bc := Hbc.out.lt
      have hl_bk := Hbk.out.lt
      have hl_bp := Hbp.out.lt
      have hl_bn := Hbn.out.lt
      refine wp_region_otail 10 (by kernel_rfl) (by kernel_rfl) ?_
      simp only [List.take_succ_cons, List.take_zero, List.drop_succ_cons, List.drop_zero]
      have hov_bi := fun (E : Over w7) o => E.cell (b := w.heap.size) o hl_bi
      have hov_bc := fun (E : Over w7) o => E.cell (b := w.heap.size + 1) o hl_bc
      have hov_bk := fun (E : Over w7) o => E.cell (b := w2.heap.size) o hl_bk
      have hov_bp := fun (E : Over w7) o => E.cell (b := w4.heap.size) o hl_bp
      have hov_bn := fun (E : Over w7) o => E.cell (b := w6.heap.size) o hl_bn
      repeat (go_big_quiet_step (first | (go_at_call 88; exact calls_over (nothing_any (grp k) OK.out gb _ _ _ (HG.out.up (Over.h _)))) | (go_at_call 87; exact calls_over (pairTimes_any (grp k) OK.out gb _ _ _ _ _ (HG.out.up (Over.h _)))) | (go_at_call 78; exact calls_over (pairText_any (grp k) OK.out gb _ _ _ (HG.out.up (Over.h _))))))
      all_goals (try unfold elV limbV)
      repeat (go_big_quiet_step (first | (go_at_call 88; exact calls_over (nothing_any (grp k) OK.out gb _ _ _ (HG.out.up (Over.h _)))) | (go_at_call 87; exact calls_over (pairTimes_any (grp k) OK.out gb _ _ _ _ _ (HG.out.up (Over.h _)))) | (go_at_call 78; exact calls_over (pairText_any (grp k) OK.out gb _ _ _ (HG.out.up (Over.h _))))))
      all_goals (try unfold elV limbV)
      repeat (go_big_quiet_step (first | (go_at_call 88; exact calls_over (nothing_any (grp k) OK.out gb _ _ _ (HG.out.up (Over.h _)))) | (go_at_call 87; exact calls_over (pairTimes_any (grp k) OK.out gb _ _ _ _ _ (HG.out.up (Over.h _)))) | (go_at_call 78; exact calls_over (pairText_any (grp k) OK.out gb _ _ _ (HG.out.up (Over.h _))))))
      all_goals (try unfold ciphV)
      refine wpQuiet_nil ?_
      rintro _ ⟨E, rfl⟩
      clear hov_bi hl_bi hov_bc hl_bc hov_bk hl_bk hov_bp hl_bp hov_bn hl_bn
      clear bi_0 bi_1
      replace Hbi := Lib.hid (Hbi.out.up E.h)
      clear bc_0 bc_1
      replace Hbc := Lib.hid (Hbc.out.up E.h)
      clear bk_0 bk_1 bk_2 bk_3 bk_4
      replace Hbk := Lib.hid (Hbk.out.up E.h)
      clear bp_0 bp_1 bp_2 bp_3 bp_4 bp_5 bp_6 bp_7
      replace Hbp := Lib.hid (Hbp.out.up E.h)
      clear bn_0 bn_1 bn_2 bn_3
      replace Hbn := Lib.hid (Hbn.out.up E.h)
      replace HG := Lib.hid (HG.out.up E.h)
      replace HB := Lib.hid (below_up HB.out E.h)
      have Hs8 := Lib.hid (show w7.heap.size ≤ E.w.heap.size from E.h.size)
      have bi_0 := Hbi.out.cell (i := 0) rfl
      have bi_1 := Hbi.out.cell (i := 1) rfl
      have bc_0 := Hbc.out.cell (i := 0) rfl
      have bc_1 := Hbc.out.cell (i := 1) rfl
      have bk_0 := Hbk.out.cell (i := 0) rfl
      have bk_1 := Hbk.out.cell (i := 1) rfl
      have bk_2 := Hbk.out.cell (i := 2) rfl
      have bk_3 := Hbk.out.cell (i := 3) rfl
      have bk_4 := Hbk.out.cell (i := 4) rfl
      have bp_0 := Hbp.out.cell (i := 0) rfl
      have bp_1 := Hbp.out.cell (i := 1) rfl
      have bp_2 := Hbp.out.cell (i := 2) rfl
      have bp_3 := Hbp.out.cell (i := 3) rfl
      have bp_4 := Hbp.out.cell (i := 4) rfl
      have bp_5 := Hbp.out.cell (i := 5) rfl
      have bp_6 := Hbp.out.cell (i := 6) rfl
      have bp_7 := Hbp.out.cell (i := 7) rfl
      have bn_0 := Hbn.out.cell (i := 0) rfl
      have bn_1 := Hbn.out.cell (i := 1) rfl
      have bn_2 := Hbn.out.cell (i := 2) rfl
      have bn_3 := Hbn.out.cell (i := 3) rfl
      generalize E.w = w8 at *
      have f9_bc_0 := Hbc.out.frozen 0
      have f9_bc_1 := Hbc.out.frozen 1
      have o9_bi_0 := bi_0; clear bi_0
      have o9_bi_1 := bi_1; clear bi_1
      have o9_bc_0 := bc_0; clear bc_0
      have o9_bc_1 := bc_1; clear bc_1
      have o9_bk_0 := bk_0; clear bk_0
      have o9_bk_1 := bk_1; clear bk_1
      have o9_bk_2 := bk_2; clear bk_2
      have o9_bk_3 := bk_3; clear bk_3
      have o9_bk_4 := bk_4; clear bk_4
      have o9_bp_0 := bp_0; clear bp_0
      have o9_bp_1 := bp_1; clear bp_1
      have o9_bp_2 := bp_2; clear bp_2
      have o9_bp_3 := bp_3; clear bp_3
      have o9_bp_4 := bp_4; clear bp_4
      have o9_bp_5 := bp_5; clear bp_5
      have o9_bp_6 := bp_6; clear bp_6
      have o9_bp_7 := bp_7; clear bp_7
      have o9_bn_0 := bn_0; clear bn_0
      have o9_bn_1 := bn_1; clear bn_1
      have o9_bn_2 := bn_2; clear bn_2
      have o9_bn_3 := bn_3; clear bn_3
      have hx9 : Bx ((w8.setCell ⟨w.heap.size + 1, 0, none⟩ (.string (textS (lowN (grp k) (numOf a * 2 ^ (numOf n % (grp k).q.m))) (grp k).size))).setCell ⟨w.heap.size + 1, 1, none⟩ (.string (textS (lowN (grp k) (numOf b * numOf key ^ (numOf n % (grp k).q.m))) (grp k).size))) (w.heap.size + 1) 41 [.string (textS (lowN (grp k) (numOf a * 2 ^ (numOf n % (grp k).q.m))) (grp k).size), .string (textS (lowN (grp k) (numOf b * numOf key ^ (numOf n % (grp k).q.m))) (grp k).size)] := ((Hbc.out.set 0 (.string (textS (lowN (grp k) (numOf a * 2 ^ (numOf n % (grp k).q.m))) (grp k).size))).set 1 (.string (textS (lowN (grp k) (numOf b * numOf key ^ (numOf n % (grp k).q.m))) (grp k).size)))
      have hb9 : Below w.heap.size w ((w8.setCell ⟨w.heap.size + 1, 0, none⟩ (.string (textS (lowN (grp k) (numOf a * 2 ^ (numOf n % (grp k).q.m))) (grp k).size))).setCell ⟨w.heap.size + 1, 1, none⟩ (.string (textS (lowN (grp k) (numOf b * numOf key ^ (numOf n % (grp k).q.m))) (grp k).size))) := ((HB.out.setCell (show w.heap.size ≤ w.heap.size + 1 by have g0 := Hs1.out; have g1 := Hs2.out; have g2 := HGB.out; have g3 := Hs3.out; have g4 := Hs4.out; have g5 := Hs5.out; have g6 := Hs6.out; have g7 := Hs7.out; have g8 := Hs8.out; omega) _).setCell (show w.heap.size ≤ w.heap.size + 1 by have g0 := Hs1.out; have g1 := Hs2.out; have g2 := HGB.out; have g3 := Hs3.out; have g4 := Hs4.out; have g5 := Hs5.out; have g6 := Hs6.out; have g7 := Hs7.out; have g8 := Hs8.out; omega) _)
      have hz9 : ((w8.setCell ⟨w.heap.size + 1, 0, none⟩ (.string (textS (lowN (grp k) (numOf a * 2 ^ (numOf n % (grp k).q.m))) (grp k).size))).setCell ⟨w.heap.size + 1, 1, none⟩ (.string (textS (lowN (grp k) (numOf b * numOf key ^ (numOf n % (grp k).q.m))) (grp k).size))).heap.size = w8.heap.size := by simp [World.setCell]
      have ho9Hbi := ((Hbi.out.other (show _ ≠ w.heap.size + 1 by have g0 := Hs1.out; have g1 := Hs2.out; have g2 := HGB.out; have g3 := Hs3.out; have g4 := Hs4.out; have g5 := Hs5.out; have g6 := Hs6.out; have g7 := Hs7.out; have g8 := Hs8.out; omega) 0 (.string (textS (lowN (grp k) (numOf a * 2 ^ (numOf n % (grp k).q.m))) (grp k).size))).other (show _ ≠ w.heap.size + 1 by have g0 := Hs1.out; have g1 := Hs2.out; have g2 := HGB.out; have g3 := Hs3.out; have g4 := Hs4.out; have g5 := Hs5.out; have g6 := Hs6.out; have g7 := Hs7.out; have g8 := Hs8.out; omega) 1 (.string (textS (lowN (grp k) (numOf b * numOf key ^ (numOf n % (grp k).q.m))) (grp k).size)))
      have ho9Hbk := ((Hbk.out.other (show _ ≠ w.heap.size + 1 by have g0 := Hs1.out; have g1 := Hs2.out; have g2 := HGB.out; have g3 := Hs3.out; have g4 := Hs4.out; have g5 := Hs5.out; have g6 := Hs6.out; have g7 := Hs7.out; have g8 := Hs8.out; omega) 0 (.string (textS (lowN (grp k) (numOf a * 2 ^ (numOf n % (grp k).q.m))) (grp k).size))).other (show _ ≠ w.heap.size + 1 by have g0 := Hs1.out; have g1 := Hs2.out; have g2 := HGB.out; have g3 := Hs3.out; have g4 := Hs4.out; have g5 := Hs5.out; have g6 := Hs6.out; have g7 := Hs7.out; have g8 := Hs8.out; omega) 1 (.string (textS (lowN (grp k) (numOf b * numOf key ^ (numOf n % (grp k).q.m))) (grp k).size)))
      have ho9Hbp := ((Hbp.out.other (show _ ≠ w.heap.size + 1 by have g0 := Hs1.out; have g1 := Hs2.out; have g2 := HGB.out; have g3 := Hs3.out; have g4 := Hs4.out; have g5 := Hs5.out; have g6 := Hs6.out; have g7 := Hs7.out; have g8 := Hs8.out; omega) 0 (.string (textS (lowN (grp k) (numOf a * 2 ^ (numOf n % (grp k).q.m))) (grp k).size))).other (show _ ≠ w.heap.size + 1 by have g0 := Hs1.out; have g1 := Hs2.out; have g2 := HGB.out; have g3 := Hs3.out; have g4 := Hs4.out; have g5 := Hs5.out; have g6 := Hs6.out; have g7 := Hs7.out; have g8 := Hs8.out; omega) 1 (.string (textS (lowN (grp k) (numOf b * numOf key ^ (numOf n % (grp k).q.m))) (grp k).size)))
      have ho9Hbn := ((Hbn.out.other (show _ ≠ w.heap.size + 1 by have g0 := Hs1.out; have g1 := Hs2.out; have g2 := HGB.out; have g3 := Hs3.out; have g4 := Hs4.out; have g5 := Hs5.out; have g6 := Hs6.out; have g7 := Hs7.out; have g8 := Hs8.out; omega) 0 (.string (textS (lowN (grp k) (numOf a * 2 ^ (numOf n % (grp k).q.m))) (grp k).size))).other (show _ ≠ w.heap.size + 1 by have g0 := Hs1.out; have g1 := Hs2.out; have g2 := HGB.out; have g3 := Hs3.out; have g4 := Hs4.out; have g5 := Hs5.out; have g6 := Hs6.out; have g7 := Hs7.out; have g8 := Hs8.out; omega) 1 (.string (textS (lowN (grp k) (numOf b * numOf key ^ (numOf n % (grp k).q.m))) (grp k).size)))
      have ho9HG := ((HG.out.other (show _ ≠ w.heap.size + 1 by have g0 := Hs1.out; have g1 := Hs2.out; have g2 := HGB.out; have g3 := Hs3.out; have g4 := Hs4.out; have g5 := Hs5.out; have g6 := Hs6.out; have g7 := Hs7.out; have g8 := Hs8.out; omega) 0 (.string (textS (lowN (grp k) (numOf a * 2 ^ (numOf n % (grp k).q.m))) (grp k).size))).other (show _ ≠ w.heap.size + 1 by have g0 := Hs1.out; have g1 := Hs2.out; have g2 := HGB.out; have g3 := Hs3.out; have g4 := Hs4.out; have g5 := Hs5.out; have g6 := Hs6.out; have g7 := Hs7.out; have g8 := Hs8.out; omega) 1 (.string (textS (lowN (grp k) (numOf b * numOf key ^ (numOf n % (grp k).q.m))) (grp k).size)))
      obtain ⟨w9, hq9⟩ : ∃ W9 : World, ((w8.setCell ⟨w.heap.size + 1, 0, none⟩ (.string (textS (lowN (grp k) (numOf a * 2 ^ (numOf n % (grp k).q.m))) (grp k).size))).setCell ⟨w.heap.size + 1, 1, none⟩ (.string (textS (lowN (grp k) (numOf b * numOf key ^ (numOf n % (grp k).q.m))) (grp k).size))) = W9 := ⟨_, rfl⟩
      rw [hq9] at hx9 hb9 hz9 ho9Hbi ho9Hbk ho9Hbp ho9Hbn ho9HG
      clear Hbc HB
      have Hbc := Lib.hid hx9
      have HB := Lib.hid hb9
      have Hs9 := Lib.hid hz9
      replace Hbi := Lib.hid ho9Hbi
      replace Hbk := Lib.hid ho9Hbk
      replace Hbp := Lib.hid ho9Hbp
      replace Hbn := Lib.hid ho9Hbn
      replace HG := Lib.hid ho9HG
      clear hx9 hb9 hz9 ho9Hbi ho9Hbk ho9Hbp ho9Hbn ho9HG
      have bi_0 := Hbi.out.cell (i := 0) rfl
      have bi_1 := Hbi.out.cell (i := 1) rfl
      have bc_0 := Hbc.out.cell (i := 0) rfl
      have bc_1 := Hbc.out.cell (i := 1) rfl
      have bk_0 := Hbk.out.cell (i := 0) rfl
      have bk_1 := Hbk.out.cell (i := 1) rfl
      have bk_2 := Hbk.out.cell (i := 2) rfl
      have bk_3 := Hbk.out.cell (i := 3) rfl
      have bk_4 := Hbk.out.cell (i := 4) rfl
      have bp_0 := Hbp.out.cell (i := 0) rfl
      have bp_1 := Hbp.out.cell (i := 1) rfl
      have bp_2 := Hbp.out.cell (i := 2) rfl
      have bp_3 := Hbp.out.cell (i := 3) rfl
      have bp_4 := Hbp.out.cell (i := 4) rfl
      have bp_5 := Hbp.out.cell (i := 5) rfl
      have bp_6 := Hbp.out.cell (i := 6) rfl
      have bp_7 := Hbp.out.cell (i := 7) rfl
      have bn_0 := Hbn.out.cell (i := 0) rfl
      have bn_1 := Hbn.out.cell (i := 1) rfl
      have bn_2 := Hbn.out.cell (i := 2) rfl
      have bn_3 := Hbn.out.cell (i := 3) rfl
      go_wp2_with fail
      clear hq9 o9_bn_3 o9_bn_2 o9_bn_1 o9_bn_0 o9_bp_7 o9_bp_6 o9_bp_5 o9_bp_4 o9_bp_3 o9_bp_2 o9_bp_1 o9_bp_0 o9_bk_4 o9_bk_3 o9_bk_2 o9_bk_1 o9_bk_0 o9_bc_1 o9_bc_0 o9_bi_1 o9_bi_0 f9_bc_1 f9_bc_0
      simp [bodyPost, results, Try.results25, go_sem, bc_0, bc_1]
      exact HB.out

def strE (e : Int) : Value := .tuple #[.string ⟨#[]⟩, .int .i64 e]

set_option maxRecDepth 100000 in
set_option maxHeartbeats 1000000 in
theorem decr_none (k : Int) (hk : ¬ (1 ≤ k ∧ k ≤ 3)) (x a b : ByteArray) (w : World) : Calls Try.prog 27 #[.int .i64 k, .string x, ciphV a b] w (Gives (strE 1) w) := by
  unfold Gives strE ciphV
  go_enter Try.func27, Try.ntmps27
  go_wp2_with fail
  have hb9 : Below w.heap.size w (w.alloc (Obj.cells #[.string a, .string b] 41)) := ((Below.refl _ _).alloc (Nat.le_refl _) _)
  have hx90 : Bx (w.alloc (Obj.cells #[.string a, .string b] 41)) (w.heap.size) 41 [.string a, .string b] := by
    have h := (Bx.new w 41 [.string a, .string b] _ rfl)
    exact h
  have hz9 : (w.alloc (Obj.cells #[.string a, .string b] 41)).heap.size = w.heap.size + 1 := by simp
  obtain ⟨w1, hq1⟩ : ∃ W9 : World, (w.alloc (Obj.cells #[.string a, .string b] 41)) = W9 := ⟨_, rfl⟩
  rw [hq1] at hb9 hz9 hx90
  rw [hq1]
  clear hq1
  have HB := Lib.hid hb9
  have Hs1 := Lib.hid hz9
  have Hbi := Lib.hid hx90
  clear hb9 hz9 hx90
  have bi_0 := Hbi.out.cell (i := 0) rfl
  have bi_1 := Hbi.out.cell (i := 1) rfl
  go_wp2_with fail
  refine (of_none k hk _).mono ?_
  rintro e w2 ⟨rfl, rfl⟩
  go_wp2_with fail
  go_ret2
  exact ⟨rfl, HB.out⟩

set_option maxRecDepth 100000 in
set_option maxHeartbeats 1000000 in
theorem decr_some (k : Nat) (h1 : 1 ≤ k) (h3 : k ≤ 3) (x a b : ByteArray) (ba bb bx : Bool) (ha : isEl (grp k).q.m (grp k).size a = ba) (hb : isEl (grp k).q.m (grp k).size b = bb) (hx : isSc (grp k).q.m (grp k).size x = bx) (w : World) :
    Calls Try.prog 27 #[.int .i64 (k : Int), .string x, ciphV a b] w (Gives (if bx then if ba && bb then .tuple #[.string (textS (lowN (grp k) (numOf b * (numOf a ^ (numOf x % (grp k).q.m)) ^ ((grp k).p.m - 2))) (grp k).size), .int .i64 0] else strE 7 else strE 6) w) := by
  have HA := Lib.hid ha
  have HBB := Lib.hid hb
  have HX := Lib.hid hx
  have OK := Lib.hid (grp_ok k h1 h3)
  obtain ⟨bab, hbab⟩ : ∃ x, (ba && bb) = x := ⟨_, rfl⟩
  have hrd := fun gb W h => bread_any (grp k) OK.out gb a b ba bb HA.out HBB.out W h
  rw [hbab] at hrd ⊢
  have HRD := Lib.hid hrd
  clear ha hb hx hrd hbab
  unfold Gives strE ciphV
  go_enter Try.func27, Try.ntmps27
  go_wp2_with fail
  have hb9 : Below w.heap.size w (w.alloc (Obj.cells #[.string a, .string b] 41)) := ((Below.refl _ _).alloc (Nat.le_refl _) _)
  have hx90 : Bx (w.alloc (Obj.cells #[.string a, .string b] 41)) (w.heap.size) 41 [.string a, .string b] := by
    have h := (Bx.new w 41 [.string a, .string b] _ rfl)
    exact h
  have hz9 : (w.alloc (Obj.cells #[.string a, .string b] 41)).heap.size = w.heap.size + 1 := by simp
  obtain ⟨w1, hq1⟩ : ∃ W9 : World, (w.alloc (Obj.cells #[.string a, .string b] 41)) = W9 := ⟨_, rfl⟩
  rw [hq1] at hb9 hz9 hx90
  rw [hq1]
  clear hq1
  have HB := Lib.hid hb9
  have Hs1 := Lib.hid hz9
  have Hbi := Lib.hid hx90
  clear hb9 hz9 hx90
  have bi_0 := Hbi.out.cell (i := 0) rfl
  have bi_1 := Hbi.out.cell (i := 1) rfl
  go_wp2_with fail
  refine (of_some k h1 h3 w1).mono ?_
  rintro e w2 ⟨rfl, hg9, hb9⟩
  clear bi_0 bi_1
  replace Hbi := Lib.hid (Hbi.out.up hb9)
  replace HB := Lib.hid (below_up HB.out hb9)
  have Hs2 := Lib.hid (show w1.heap.size ≤ w2.heap.size from hb9.size)
  have HG := Lib.hid hg9
  clear hg9
  clear hb9
  have bi_0 := Hbi.out.cell (i := 0) rfl
  have bi_1 := Hbi.out.cell (i := 1) rfl
  go_wp2_with fail
  refine (gScalar_m (grp k) OK.out _ x bx HX.out w2 HG.out).mono ?_
  rintro e w3 ⟨sn, rfl, hb9, hn9⟩
  clear bi_0 bi_1
  replace Hbi := Lib.hid (Hbi.out.up hb9)
  replace HG := Lib.hid (HG.out.up hb9)
  replace HB := Lib.hid (below_up HB.out hb9)
  have Hs3 := Lib.hid (show w2.heap.size ≤ w3.heap.size from hb9.size)
  have HSN := Lib.hid hn9
  clear hn9
  clear hb9
  have bi_0 := Hbi.out.cell (i := 0) rfl
  have bi_1 := Hbi.out.cell (i := 1) rfl
  unfold limbV
  have o4_bi_0 := bi_0; clear bi_0
  have o4_bi_1 := bi_1; clear bi_1
  have hb9 : Below w3.heap.size w3 (w3.alloc (Obj.cells #[.int .u64 (dig (sn) 0 : Int), .int .u64 (dig (sn) 1 : Int), .int .u64 (dig (sn) 2 : Int), .int .u64 (dig (sn) 3 : Int)] 91)) := ((Below.refl _ _).alloc (Nat.le_refl _) _)
  have hx90 : Bx (w3.alloc (Obj.cells #[.int .u64 (dig (sn) 0 : Int), .int .u64 (dig (sn) 1 : Int), .int .u64 (dig (sn) 2 : Int), .int .u64 (dig (sn) 3 : Int)] 91)) (w3.heap.size) 91 [.int .u64 (dig (sn) 0 : Int), .int .u64 (dig (sn) 1 : Int), .int .u64 (dig (sn) 2 : Int), .int .u64 (dig (sn) 3 : Int)] := by
    have h := (Bx.new w3 91 [.int .u64 (dig (sn) 0 : Int), .int .u64 (dig (sn) 1 : Int), .int .u64 (dig (sn) 2 : Int), .int .u64 (dig (sn) 3 : Int)] _ rfl)
    exact h
  have hz9 : (w3.alloc (Obj.cells #[.int .u64 (dig (sn) 0 : Int), .int .u64 (dig (sn) 1 : Int), .int .u64 (dig (sn) 2 : Int), .int .u64 (dig (sn) 3 : Int)] 91)).heap.size = w3.heap.size + 1 := by simp
  obtain ⟨w4, hq4⟩ : ∃ W9 : World, (w3.alloc (Obj.cells #[.int .u64 (dig (sn) 0 : Int), .int .u64 (dig (sn) 1 : Int), .int .u64 (dig (sn) 2 : Int), .int .u64 (dig (sn) 3 : Int)] 91)) = W9 := ⟨_, rfl⟩
  rw [hq4] at hb9 hz9 hx90
  replace Hbi := Lib.hid (Hbi.out.up hb9)
  replace HG := Lib.hid (HG.out.up hb9)
  replace HB := Lib.hid (below_up HB.out hb9)
  have Hs4 := Lib.hid hz9
  have Hbn := Lib.hid hx90
  clear hb9 hz9 hx90
  have bi_0 := Hbi.out.cell (i := 0) rfl
  have bi_1 := Hbi.out.cell (i := 1) rfl
  have bn_0 := Hbn.out.cell (i := 0) rfl
  have bn_1 := Hbn.out.cell (i := 1) rfl
  have bn_2 := Hbn.out.cell (i := 2) rfl
  have bn_3 := Hbn.out.cell (i := 3) rfl
  cases bx
  · go_wp2_with fail
    clear hq4 o4_bi_1 o4_bi_0
    go_ret2
    exact ⟨rfl, HB.out⟩
  · obtain rfl := HSN.out rfl
    go_wp2_with fail
    clear hq4 o4_bi_1 o4_bi_0
    refine (HRD.out _ w4 HG.out).mono ?_
    rintro e w5 ⟨sx, sy, rfl, hb9, hx9⟩
    clear bi_0 bi_1
    replace Hbi := Lib.hid (Hbi.out.up hb9)
    clear bn_0 bn_1 bn_2 bn_3
    replace Hbn := Lib.hid (Hbn.out.up hb9)
    replace HG := Lib.hid (HG.out.up hb9)
    replace HB := Lib.hid (below_up HB.out hb9)
    have Hs5 := Lib.hid (show w4.heap.size ≤ w5.heap.size from hb9.size)
    have HSX := Lib.hid hx9
    clear hx9
    clear hb9
    have bi_0 := Hbi.out.cell (i := 0) rfl
    have bi_1 := Hbi.out.cell (i := 1) rfl
    have bn_0 := Hbn.out.cell (i := 0) rfl
    have bn_1 := Hbn.out.cell (i := 1) rfl
    have bn_2 := Hbn.out.cell (i := 2) rfl
    have bn_3 := Hbn.out.cell (i := 3) rfl
    unfold pairL
    have o6_bi_0 := bi_0; clear bi_0
    have o6_bi_1 := bi_1; clear bi_1
    have o6_bn_0 := bn_0; clear bn_0
    have o6_bn_1 := bn_1; clear bn_1
    have o6_bn_2 := bn_2; clear bn_2
    have o6_bn_3 := bn_3; clear bn_3
    have hb9 : Below w5.heap.size w5 (w5.alloc (Obj.cells #[.int .u64 (dig (sx) 0 : Int), .int .u64 (dig (sx) 1 : Int), .int .u64 (dig (sx) 2 : Int), .int .u64 (dig (sx) 3 : Int), .int .u64 (dig (sy) 0 : Int), .int .u64 (dig (sy) 1 : Int), .int .u64 (dig (sy) 2 : Int), .int .u64 (dig (sy) 3 : Int)] 118)) := ((Below.refl _ _).alloc (Nat.le_refl _) _)
    have hx90 : Bx (w5.alloc (Obj.cells #[.int .u64 (dig (sx) 0 : Int), .int .u64 (dig (sx) 1 : Int), .int .u64 (dig (sx) 2 : Int), .int .u64 (dig (sx) 3 : Int), .int .u64 (dig (sy) 0 : Int), .int .u64 (dig (sy) 1 : Int), .int .u64 (dig (sy) 2 : Int), .int .u64 (dig (sy) 3 : Int)] 118)) (w5.heap.size) 118 [.int .u64 (dig (sx) 0 : Int), .int .u64 (dig (sx) 1 : Int), .int .u64 (dig (sx) 2 : Int), .int .u64 (dig (sx) 3 : Int), .int .u64 (dig (sy) 0 : Int), .int .u64 (dig (sy) 1 : Int), .int .u64 (dig (sy) 2 : Int), .int .u64 (dig (sy) 3 : Int)] := by
      have h := (Bx.new w5 118 [.int .u64 (dig (sx) 0 : Int), .int .u64 (dig (sx) 1 : Int), .int .u64 (dig (sx) 2 : Int), .int .u64 (dig (sx) 3 : Int), .int .u64 (dig (sy) 0 : Int), .int .u64 (dig (sy) 1 : Int), .int .u64 (dig (sy) 2 : Int), .int .u64 (dig (sy) 3 : Int)] _ rfl)
      exact h
    have hz9 : (w5.alloc (Obj.cells #[.int .u64 (dig (sx) 0 : Int), .int .u64 (dig (sx) 1 : Int), .int .u64 (dig (sx) 2 : Int), .int .u64 (dig (sx) 3 : Int), .int .u64 (dig (sy) 0 : Int), .int .u64 (dig (sy) 1 : Int), .int .u64 (dig (sy) 2 : Int), .int .u64 (dig (sy) 3 : Int)] 118)).heap.size = w5.heap.size + 1 := by simp
    obtain ⟨w6, hq6⟩ : ∃ W9 : World, (w5.alloc (Obj.cells #[.int .u64 (dig (sx) 0 : Int), .int .u64 (dig (sx) 1 : Int), .int .u64 (dig (sx) 2 : Int), .int .u64 (dig (sx) 3 : Int), .int .u64 (dig (sy) 0 : Int), .int .u64 (dig (sy) 1 : Int), .int .u64 (dig (sy) 2 : Int), .int .u64 (dig (sy) 3 : Int)] 118)) = W9 := ⟨_, rfl⟩
    rw [hq6] at hb9 hz9 hx90
    replace Hbi := Lib.hid (Hbi.out.up hb9)
    replace Hbn := Lib.hid (Hbn.out.up hb9)
    replace HG := Lib.hid (HG.out.up hb9)
    replace HB := Lib.hid (below_up HB.out hb9)
    have Hs6 := Lib.hid hz9
    have Hbp := Lib.hid hx90
    clear hb9 hz9 hx90
    have bi_0 := Hbi.out.cell (i := 0) rfl
    have bi_1 := Hbi.out.cell (i := 1) rfl
    have bn_0 := Hbn.out.cell (i := 0) rfl
    have bn_1 := Hbn.out.cell (i := 1) rfl
    have bn_2 := Hbn.out.cell (i := 2) rfl
    have bn_3 := Hbn.out.cell (i := 3) rfl
    have bp_0 := Hbp.out.cell (i := 0) rfl
    have bp_1 := Hbp.out.cell (i := 1) rfl
    have bp_2 := Hbp.out.cell (i := 2) rfl
    have bp_3 := Hbp.out.cell (i := 3) rfl
    have bp_4 := Hbp.out.cell (i := 4) rfl
    have bp_5 := Hbp.out.cell (i := 5) rfl
    have bp_6 := Hbp.out.cell (i := 6) rfl
    have bp_7 := Hbp.out.cell (i := 7) rfl
    cases bab
    · go_wp2_with fail
      clear hq6 o6_bn_3 o6_bn_2 o6_bn_1 o6_bn_0 o6_bi_1 o6_bi_0
      go_ret2
      exact ⟨rfl, HB.out⟩
    · obtain ⟨rfl, rfl⟩ := HSX.out rfl
      go_wp2_with fail
      clear hq6 o6_bn_3 o6_bn_2 o6_bn_1 o6_bn_0 o6_bi_1 o6_bi_0
      refine (shown_any (grp k) OK.out _ _ _ _ w6 HG.out).mono ?_
      rintro e w7 ⟨rfl, hb9⟩
      clear bi_0 bi_1
      replace Hbi := Lib.hid (Hbi.out.up hb9)
      clear bn_0 bn_1 bn_2 bn_3
      replace Hbn := Lib.hid (Hbn.out.up hb9)
      clear bp_0 bp_1 bp_2 bp_3 bp_4 bp_5 bp_6 bp_7
      replace Hbp := Lib.hid (Hbp.out.up hb9)
      replace HG := Lib.hid (HG.out.up hb9)
      replace HB := Lib.hid (below_up HB.out hb9)
      have Hs7 := Lib.hid (show w6.heap.size ≤ w7.heap.size from hb9.size)
      clear hb9
      have bi_0 := Hbi.out.cell (i := 0) rfl
      have bi_1 := Hbi.out.cell (i := 1) rfl
      have bn_0 := Hbn.out.cell (i := 0) rfl
      have bn_1 := Hbn.out.cell (i := 1) rfl
      have bn_2 := Hbn.out.cell (i := 2) rfl
      have bn_3 := Hbn.out.cell (i := 3) rfl
      have bp_0 := Hbp.out.cell (i := 0) rfl
      have bp_1 := Hbp.out.cell (i := 1) rfl
      have bp_2 := Hbp.out.cell (i := 2) rfl
      have bp_3 := Hbp.out.cell (i := 3) rfl
      have bp_4 := Hbp.out.cell (i := 4) rfl
      have bp_5 := Hbp.out.cell (i := 5) rfl
      have bp_6 := Hbp.out.cell (i := 6) rfl
      have bp_7 := Hbp.out.cell (i := 7) rfl
      go_wp2_with fail
      refine (gText_any (grp k) OK.out _ _ w7 HG.out).mono ?_
      rintro e w8 ⟨rfl, hb9⟩
      clear bi_0 bi_1
      replace Hbi := Lib.hid (Hbi.out.up hb9)
      clear bn_0 bn_1 bn_2 bn_3
      replace Hbn := Lib.hid (Hbn.out.up hb9)
      clear bp_0 bp_1 bp_2 bp_3 bp_4 bp_5 bp_6 bp_7
      replace Hbp := Lib.hid (Hbp.out.up hb9)
      replace HG := Lib.hid (HG.out.up hb9)
      replace HB := Lib.hid (below_up HB.out hb9)
      have Hs8 := Lib.hid (show w7.heap.size ≤ w8.heap.size from hb9.size)
      clear hb9
      have bi_0 := Hbi.out.cell (i := 0) rfl
      have bi_1 := Hbi.out.cell (i := 1) rfl
      have bn_0 := Hbn.out.cell (i := 0) rfl
      have bn_1 := Hbn.out.cell (i := 1) rfl
      have bn_2 := Hbn.out.cell (i := 2) rfl
      have bn_3 := Hbn.out.cell (i := 3) rfl
      have bp_0 := Hbp.out.cell (i := 0) rfl
      have bp_1 := Hbp.out.cell (i := 1) rfl
      have bp_2 := Hbp.out.cell (i := 2) rfl
      have bp_3 := Hbp.out.cell (i := 3) rfl
      have bp_4 := Hbp.out.cell (i := 4) rfl
      have bp_5 := Hbp.out.cell (i := 5) rfl
      have bp_6 := Hbp.out.cell (i := 6) rfl
      have bp_7 := Hbp.out.cell (i := 7) rfl
      go_wp2_with fail
      go_ret2
      exact ⟨rfl, HB.out⟩

end Go.Proofs.Ytipgjookfdkciaa

/- Slices that the call itself appends to, of elements of any size: one word for all of them. No condition beyond those that each fact names. -/
namespace Go.Proofs.Ytipgjookfdkciaa
open Go.RowKit

/-- A row of the call's own, in blocks from N on: n elements of so many cells, all cells xs. -/
def RowO (N : Nat) (w : World) (e : TypeId) (size : Nat) (v : Value) (n : Nat) (xs : List Value) : Prop := w.ownsRow N e size v n xs

section
variable {w w1 : World} {e : TypeId} {N size n m g c : Nat} {v : Value} {xs ys : List Value} {r : Option Nat}

theorem RowO.nil : RowO N w e size (.slice none 0 0) 0 [] := World.ownsRow_nil _ _ _ _
theorem RowO.grown (h : RowO N w e size v n xs) (hg : w.grownBy w1 r) (hne : ∀ q, v.ownBlock = some q → r ≠ some q) : RowO N w1 e size v n xs :=
  World.ownsRow.kept h hg (by cases h9 : v.ownBlock with
    | none => exact Or.inl rfl
    | some q => exact Or.inr (fun e => hne q h9 e.symm))
theorem RowO.up (h : RowO N w e size v n xs) (hb : Below w.heap.size w w1) : RowO N w1 e size v n xs := h.grown (below_grown hb) (fun q _ => by simp)
theorem RowO.lt (h : RowO N w e size v n xs) (q : Nat) (hq : v.ownBlock = some q) : N ≤ q ∧ q < w.heap.size := World.ownsRow.lt h q hq
theorem RowO.other (h : RowO N w e size v n xs) (hne : v.ownBlock ≠ some c) (i : Nat) (u : Value) : RowO N (w.setCell ⟨c, i, none⟩ u) e size v n xs := by
  refine h.grown (r := some c) ⟨rfl, rfl, rfl, by simp [World.setCell], fun k _ hk => ?_⟩ (fun q hq e => hne (by rw [hq, e]))
  exact Below.heap_setCell w ⟨c, i, none⟩ u k (by intro e; exact hk (by rw [e]))
theorem RowO.form (h : RowO N w e size v n xs) : ∃ a c, v = .slice a n c := let ⟨a, c, h1, _⟩ := own_form3 h; ⟨a, c, h1⟩
theorem RowO.len (h : RowO N w e size v n xs) : xs.length = n * size := h.1
theorem RowO.eq (h : RowO N w e size v n xs) (hx : xs = ys) (hn : n = m) : RowO N w e size v m ys := by subst hx; subst hn; exact h

/-- The cells of such a row, whatever an element's size. -/
theorem RowO.sl {a : Option Addr} {k : Nat} (h : RowO N w e size (.slice a k c) n xs) : Sl w w.heap.size a xs := by
  rcases h.2 with ⟨hv, h0⟩ | ⟨g, cap, cur, hv, hb, hg, hr⟩
  · have := h.1; subst h0; left; exact List.length_eq_zero_iff.1 (by simpa using this)
  · simp only [Value.slice.injEq] at hv
    obtain ⟨rfl, rfl, rfl⟩ := hv
    refine Or.inr ⟨g, 0, rfl, (Array.getElem?_eq_some_iff.1 hg).1, fun i u hu => ?_⟩
    have hi : i < k * size := by have := (List.getElem?_eq_some_iff.1 hu).1; rw [h.1] at this; exact this
    rw [Nat.zero_add, World.ownsRow.cellAt h i hi]; exact hu

theorem Bx.grown {t : TypeId} {b : Nat} {cs : List Value} (h : Bx w b t cs) (hg : w.grownBy w1 r) (hne : r ≠ some b) : Bx w1 b t cs := (hg.block b h.lt (fun e => hne e.symm)).trans h

/-- What the cells of one block were, they are. -/
theorem cell_of_block {b : Nat} (h : w1.heap[b]? = w.heap[b]?) (o : Nat) : w1.cell? ⟨b, o, none⟩ = w.cell? ⟨b, o, none⟩ := by
  simp only [World.cell?, h]
theorem GroupAt.grown {gb : Nat} {G : GP} (h : GroupAt w gb G) (hg : w.grownBy w1 r) (hne : r ≠ some gb) : GroupAt w1 gb G := by
  have hc := cell_of_block (hg.block gb h.lt (fun e => hne e.symm))
  have hl := hg.size
  exact ⟨Nat.lt_of_lt_of_le h.lt hl, by rw [hc]; exact h.kind, by rw [hc]; exact h.size, ⟨Nat.lt_of_lt_of_le h.p.lt hl, fun i x hx => by rw [hc]; exact h.p.cell i x hx⟩, ⟨Nat.lt_of_lt_of_le h.q.lt hl, fun i x hx => by rw [hc]; exact h.q.cell i x hx⟩⟩

theorem grown_set (w : World) (b i : Nat) (u : Value) : w.grownBy (w.setCell ⟨b, i, none⟩ u) (some b) :=
  ⟨rfl, rfl, rfl, by simp [World.setCell], fun k _ hk => Below.heap_setCell w ⟨b, i, none⟩ u k (by intro e; exact hk (by rw [e]))⟩
theorem slice_own (b o n c : Nat) : (Value.slice (some ⟨b, o, none⟩) n c).ownBlock = some b := rfl
end

/-- 'out = append(out, x)': x has just been laid into a block of its own. -/
theorem wpList_pushR {P : Program} (N : Nat) (w0 : World) (hN : N ≤ w0.heap.size) {ops : Array Oper} {rest : List Oper} {o : Oper} {a : Act} {Q : Exit → Act → World → Prop} (hgd : o.guard = none) (s x : Operand) (t : TypeId)
    (ho : o.op = .call { callee := .builtin .append, args := #[s, x], argTypes := #[t, t] })
    (e : TypeId) (i : TypeInfo) (z : Value) (size bytes : Nat) (ht : P.underlying t = some (.slice e)) (hi : P.info? e = some i) (hz : i.zero = some z)
    (hsize : i.size = size) (hby : i.bytes = bytes) (hzs : z.cells.size = size) (hsz : 0 < size)
    (v : Value) (n : Nat) (xs : List Value) (hs : a.eval s = v) (hown : RowO N w0 e size v n xs)
    (news : Array Value) (e2 : TypeId) (b : Nat) (hb : w0.heap.size = b) (hx : a.eval x = .slice (some ⟨b, 0, none⟩) 1 1) (hl : news.size = size) (h1 : ∀ u ∈ news.toList, u.oneCell' = true)
    (h63 : (n + 1) * bytes ≤ 140737488355328) (hn : n + 1 ≤ maxLen)
    (h : ∀ g cap w', RowO N w' e size (.slice (some ⟨g, 0, none⟩) (n + 1) cap) (n + 1) (xs ++ news.toList) → w0.grownBy w' v.ownBlock → wpList P ops Q rest (a.put o.dst (.slice (some ⟨g, 0, none⟩) (n + 1) cap)) w') :
    wpList P ops Q (o :: rest) a (w0.alloc (.cells news e2)) := by
  subst hb
  refine wpList_append_lies _ hgd s x t ho N e i z size bytes ht hi hz hsize hby hzs hsz v n xs hs (World.ownsRow.alloc hown _) ⟨w0.heap.size, 0, none⟩ 1 1 news.toList hx (by simpa using hl)
    (World.news_of_block (heap_alloc_new w0 _)) h1 (by omega) hn h63 (by simp; omega) _ rfl ?_
  intro g cap w' hown' hg _ _
  refine h g cap w' hown' ⟨hg.os, hg.tape, hg.output, ?_, ?_⟩
  · have := hg.size; simp at this; omega
  · intro k hk hne
    rw [hg.block k (by simp; omega) hne]
    exact Below.heap_alloc _ _ _ hk

/-- The same within the capacity: nothing is asked but that it fits. -/
theorem wpList_fitR {P : Program} (N : Nat) (w0 : World) {ops : Array Oper} {rest : List Oper} {o : Oper} {a : Act} {Q : Exit → Act → World → Prop} (hgd : o.guard = none) (s x : Operand) (t : TypeId)
    (ho : o.op = .call { callee := .builtin .append, args := #[s, x], argTypes := #[t, t] })
    (e : TypeId) (i : TypeInfo) (size : Nat) (ht : P.underlying t = some (.slice e)) (hi : P.info? e = some i) (hsize : i.size = size)
    (g n cap : Nat) (xs : List Value) (hs : a.eval s = .slice (some ⟨g, 0, none⟩) n cap) (hown : RowO N w0 e size (.slice (some ⟨g, 0, none⟩) n cap) n xs)
    (news : Array Value) (e2 : TypeId) (b : Nat) (hb : w0.heap.size = b) (hx : a.eval x = .slice (some ⟨b, 0, none⟩) 1 1) (hl : news.size = size) (h1 : ∀ u ∈ news.toList, u.oneCell' = true)
    (hfit : n + 1 ≤ cap)
    (h : ∀ w', RowO N w' e size (.slice (some ⟨g, 0, none⟩) (n + 1) cap) (n + 1) (xs ++ news.toList) → w0.grownBy w' (some g) → wpList P ops Q rest (a.put o.dst (.slice (some ⟨g, 0, none⟩) (n + 1) cap)) w') :
    wpList P ops Q (o :: rest) a (w0.alloc (.cells news e2)) := by
  subst hb
  refine wpList_append_fits _ hgd s x t ho N e i size ht hi hsize g n cap xs hs (World.ownsRow.alloc hown _) ⟨w0.heap.size, 0, none⟩ 1 1 news.toList hx (by simpa using hl)
    (World.news_of_block (heap_alloc_new w0 _)) h1 hfit ?_
  intro w' hown' hg
  refine h w' hown' ⟨hg.os, hg.tape, hg.output, ?_, ?_⟩
  · have := hg.size; simp at this; omega
  · intro k hk hne
    rw [hg.block k (by simp; omega) hne]
    exact Below.heap_alloc _ _ _ hk

/-- Slices of pieces, laid one behind the other. -/
theorem Sl.app_left {w : World} {B : Nat} {a : Option Addr} {xs ys : List Value} (h : Sl w B a (xs ++ ys)) : Sl w B a xs := by
  rcases h with h | ⟨b, off, rfl, hb, hc⟩
  · left; exact (List.append_eq_nil_iff.1 h).1
  · exact Or.inr ⟨b, off, rfl, hb, fun i v hv => hc i v (by rw [List.getElem?_append_left (List.getElem?_eq_some_iff.1 hv).1]; exact hv)⟩

/-- Flattened elements: the cells of the i-th. -/
theorem flat_at {α : Type} (f : α → List Value) (k : Nat) (hk : ∀ x, (f x).length = k) : ∀ (l : List α) (i j : Nat) (hi : i < l.length) (_ : j < k), (l.flatMap f)[i * k + j]? = (f l[i])[j]?
  | [], i, _, hi, _ => absurd hi (by simp)
  | x :: l, 0, j, _, hj => by
    rw [List.flatMap_cons, Nat.zero_mul, Nat.zero_add, List.getElem?_append_left (by rw [hk]; exact hj)]
    rfl
  | x :: l, i + 1, j, hi, hj => by
    rw [List.flatMap_cons, List.getElem?_append_right (by rw [hk, Nat.add_mul]; omega), hk, show (i + 1) * k + j - k = i * k + j by rw [Nat.add_mul]; omega]
    exact flat_at f k hk l i j (by simpa using hi) hj

theorem flat_len {α : Type} (f : α → List Value) (k : Nat) (hk : ∀ x, (f x).length = k) (l : List α) : (l.flatMap f).length = l.length * k := by
  induction l with
  | nil => simp
  | cons x l ih => rw [List.flatMap_cons, List.length_append, hk, ih, List.length_cons, Nat.add_mul]; omega

theorem flat_snoc {α : Type} (f : α → List Value) (l : List α) (i : Nat) (hi : i < l.length) : (l.take (i + 1)).flatMap f = (l.take i).flatMap f ++ f l[i] := by
  rw [List.take_succ_eq_append_getElem hi, List.flatMap_append]
  simp

/-- The cells of the i-th element of a slice. -/
theorem Sl.elem {w : World} {B : Nat} {a : Option Addr} {α : Type} {f : α → List Value} {k : Nat} {l : List α} (h : Sl w B a (l.flatMap f)) (hk : ∀ x, (f x).length = k) (h0 : 0 < k) (i : Nat) (hi : i < l.length) :
    ∃ b off, a = some ⟨b, off, none⟩ ∧ b < B ∧ ∀ j v, (f l[i])[j]? = some v → w.cell? ⟨b, off + i * k + j, none⟩ = some v := by
  rcases h with h | ⟨b, off, rfl, hb, hc⟩
  · have := flat_len f k hk l
    rw [h, List.length_nil] at this
    have : 0 < l.length * k := Nat.mul_pos (by omega) h0
    omega
  · exact ⟨b, off, rfl, hb, fun j v hv => by rw [Nat.add_assoc]; exact hc _ _ (by rw [flat_at f k hk l i j hi (by have := (List.getElem?_eq_some_iff.1 hv).1; rw [hk] at this; exact this)]; exact hv)⟩

end Go.Proofs.Ytipgjookfdkciaa

/- Lists of ciphers: readAll, total, Sum of the package ballot. Condition: the lists that memory can hold. -/
namespace Go.Proofs.Ytipgjookfdkciaa
open Go.RowKit

theorem infoPair : (Try.prog.info? 118).map (fun i => (i.zero, i.size, i.bytes)) = some (some (.agg #[.int .u64 0, .int .u64 0, .int .u64 0, .int .u64 0, .int .u64 0, .int .u64 0, .int .u64 0, .int .u64 0]), 8, 64) := by kernel_rfl

/-- A cipher's two texts; its cells; those of the pair that is read of it. -/
def cipC (c : ByteArray × ByteArray) : List Value := [.string c.1, .string c.2]
theorem cipC_len (c : ByteArray × ByteArray) : (cipC c).length = 2 := rfl
def pairC (G : GP) (c : ByteArray × ByteArray) : List Value := [.int .u64 (dig (mont G.p.m (numOf c.1)) 0 : Int), .int .u64 (dig (mont G.p.m (numOf c.1)) 1 : Int), .int .u64 (dig (mont G.p.m (numOf c.1)) 2 : Int), .int .u64 (dig (mont G.p.m (numOf c.1)) 3 : Int), .int .u64 (dig (mont G.p.m (numOf c.2)) 0 : Int), .int .u64 (dig (mont G.p.m (numOf c.2)) 1 : Int), .int .u64 (dig (mont G.p.m (numOf c.2)) 2 : Int), .int .u64 (dig (mont G.p.m (numOf c.2)) 3 : Int)]
theorem pairC_len (G : GP) (c : ByteArray × ByteArray) : (pairC G c).length = 8 := rfl
def cipOk (G : GP) (c : ByteArray × ByteArray) : Bool := isEl G.q.m G.size c.1 && isEl G.q.m G.size c.2

def ReadAll (G : GP) (l : List (ByteArray × ByteArray)) (w : World) (e : Ending) (w' : World) : Prop :=
  Below w.heap.size w w' ∧ if l.all (cipOk G) then ∃ a c, e = .returned (.tuple #[.slice a l.length c, .bool true]) ∧ Sl w' w'.heap.size a (l.flatMap (pairC G)) else e = .returned (.tuple #[.slice none 0 0, .bool false])

theorem bread_ok (G : GP) (ok : G.Ok) (gb : Nat) (c : ByteArray × ByteArray) (b : Bool) (hb : cipOk G c = b) (w : World) (hG : GroupAt w gb G) :
    Calls Try.prog 86 #[.pointer (some ⟨gb, 0, none⟩), .agg #[.string c.1, .string c.2]] w (ReadP b (mont G.p.m (numOf c.1)) (mont G.p.m (numOf c.2)) w) := by
  subst hb
  exact bread_any G ok gb c.1 c.2 _ _ rfl rfl w hG

theorem all_take_true {α : Type} {f : α → Bool} {l : List α} (h : (l.take l.length).all f = true) : l.all f = true := by rwa [List.take_length] at h
theorem all_not {α : Type} {f : α → Bool} {l : List α} {i : Nat} (hi : i < l.length) (h : f l[i] = false) : l.all f = false := by
  rw [List.all_eq_false]
  exact ⟨l[i], List.getElem_mem hi, by simp [h]⟩
theorem all_snoc {α : Type} {f : α → Bool} {l : List α} {i : Nat} (hi : i < l.length) (ht : (l.take i).all f = true) (h : f l[i] = true) : (l.take (i + 1)).all f = true := by
  rw [List.take_succ_eq_append_getElem hi, List.all_append, ht]
  simp [h]

set_option maxRecDepth 100000 in
set_option maxHeartbeats 2000000 in
theorem readAll_any (G : GP) (ok : G.Ok) (gb : Nat) (l : List (ByteArray × ByteArray)) (al : Option Addr) (cl : Nat) (hl : l.length ≤ 4398046511103) (w : World) (hG : GroupAt w gb G) (hS : Sl w w.heap.size al (l.flatMap cipC)) :
    Calls Try.prog 81 #[.pointer (some ⟨gb, 0, none⟩), .slice al l.length cl] w (ReadAll G l w) := by
  have OK := Lib.hid ok
  have HG := Lib.hid hG
  have HS := Lib.hid hS
  clear ok hG hS
  go_enter Try.func81, Try.ntmps81
  obtain ⟨i9, hi9, hz90, hz91, hz92⟩ := info_parts infoPair
  go_wp2_with (at_make; refine wpList_make_own _ rfl _ _ 122 rfl (w.heap.size) 118 i9 _ 8 Try.underlying122 hi9 hz90 hz91 _ _ _ (l.length) rfl rfl ?c1 ?c2 ?c3 ?c4 ?_)
  case c1 => rfl
  case c2 => rw [hz92]; omega
  case c3 => unfold maxLen; omega
  case c4 => omega
  intro w1 hown9 hg9
  have hb9 : Below w.heap.size w w1 := (Below.refl _ _).grown hg9 (Nat.le_refl _) (fun q hq => by cases hq)
  have HB := Lib.hid hb9
  have Hs1 := Lib.hid (show w.heap.size ≤ w1.heap.size from hb9.size)
  have Hr : Hid (RowO (w.heap.size) w1 118 8 (.slice (some ⟨w.heap.size, 0, none⟩) 0 (l.length)) 0 []) := Lib.hid hown9
  clear hb9 hown9 hg9 hi9 hz90 hz91 hz92
  go_wp2_with fail
  go_loopw [16, 6] (fun i v wr => ∃ j : Nat, j ≤ l.length ∧ i = .int .i64 j ∧ v = .slice (some ⟨w.heap.size, 0, none⟩) j l.length ∧ Hid (Below w.heap.size w wr) ∧ Hid ((l.take j).all (cipOk G) = true) ∧ Hid (RowO w.heap.size wr 118 8 (.slice (some ⟨w.heap.size, 0, none⟩) j l.length) j ((l.take j).flatMap (pairC G)))) (fun i _ _ => l.length - (intOf i).toNat)
  case atStart => exact ⟨0, Nat.zero_le _, rfl, rfl, HB, rfl, Hr⟩
  case round =>
    obtain ⟨j, hj, rfl, rfl, HB, HAL, Hr⟩ := hrel
    by_cases hjl : j < l.length
    · skip
      have Hs0 := Lib.hid (show w.heap.size < wr.heap.size from (Hr.out.lt _ rfl).2)
      obtain ⟨bl, ol, rfl, hbl, hc⟩ := (HS.out.up HB.out).elem cipC_len (by omega) j hjl
      have hc_0 := hc 0 _ rfl
      rw [Nat.add_zero] at hc_0
      have hc_1 := hc 1 _ rfl
      clear hc
      obtain ⟨bj, hbj⟩ : ∃ x, cipOk G l[j] = x := ⟨_, rfl⟩
      have HBJ := Lib.hid hbj
      clear hbj
      go_wp2_with fail
      have hb9 : Below wr.heap.size wr (wr.alloc (Obj.cells #[.string l[j].1, .string l[j].2] 41)) := ((Below.refl _ _).alloc (Nat.le_refl _) _)
      have hx90 : Bx (wr.alloc (Obj.cells #[.string l[j].1, .string l[j].2] 41)) (wr.heap.size) 41 [.string l[j].1, .string l[j].2] := by
        have h := (Bx.new wr 41 [.string l[j].1, .string l[j].2] _ rfl)
        exact h
      have hz9 : (wr.alloc (Obj.cells #[.string l[j].1, .string l[j].2] 41)).heap.size = wr.heap.size + 1 := by simp
      obtain ⟨w2, hq2⟩ : ∃ W9 : World, (wr.alloc (Obj.cells #[.string l[j].1, .string l[j].2] 41)) = W9 := ⟨_, rfl⟩
      rw [hq2] at hb9 hz9 hx90
      rw [hq2]
      clear hq2
      replace Hr := Lib.hid (Hr.out.up hb9)
      replace HB := Lib.hid (below_up HB.out hb9)
      have Hs2 := Lib.hid hz9
      have Hbc := Lib.hid hx90
      clear hb9 hz9 hx90
      have bc_0 := Hbc.out.cell (i := 0) rfl
      have bc_1 := Hbc.out.cell (i := 1) rfl
      go_wp2_with fail
      refine (bread_ok G OK.out gb l[j] bj HBJ.out w2 (HG.out.up HB.out)).mono ?_
      rintro e w3 ⟨sx, sy, rfl, hb9, hx9⟩
      clear bc_0 bc_1
      replace Hbc := Lib.hid (Hbc.out.up hb9)
      replace Hr := Lib.hid (Hr.out.up hb9)
      replace HB := Lib.hid (below_up HB.out hb9)
      have Hs3 := Lib.hid (show w2.heap.size ≤ w3.heap.size from hb9.size)
      have HSX := Lib.hid hx9
      clear hx9
      clear hb9
      have bc_0 := Hbc.out.cell (i := 0) rfl
      have bc_1 := Hbc.out.cell (i := 1) rfl
      unfold pairL
      have o4_bc_0 := bc_0; clear bc_0
      have o4_bc_1 := bc_1; clear bc_1
      have hb9 : Below w3.heap.size w3 (w3.alloc (Obj.cells #[.int .u64 (dig (sx) 0 : Int), .int .u64 (dig (sx) 1 : Int), .int .u64 (dig (sx) 2 : Int), .int .u64 (dig (sx) 3 : Int), .int .u64 (dig (sy) 0 : Int), .int .u64 (dig (sy) 1 : Int), .int .u64 (dig (sy) 2 : Int), .int .u64 (dig (sy) 3 : Int)] 118)) := ((Below.refl _ _).alloc (Nat.le_refl _) _)
      have hx90 : Bx (w3.alloc (Obj.cells #[.int .u64 (dig (sx) 0 : Int), .int .u64 (dig (sx) 1 : Int), .int .u64 (dig (sx) 2 : Int), .int .u64 (dig (sx) 3 : Int), .int .u64 (dig (sy) 0 : Int), .int .u64 (dig (sy) 1 : Int), .int .u64 (dig (sy) 2 : Int), .int .u64 (dig (sy) 3 : Int)] 118)) (w3.heap.size) 118 [.int .u64 (dig (sx) 0 : Int), .int .u64 (dig (sx) 1 : Int), .int .u64 (dig (sx) 2 : Int), .int .u64 (dig (sx) 3 : Int), .int .u64 (dig (sy) 0 : Int), .int .u64 (dig (sy) 1 : Int), .int .u64 (dig (sy) 2 : Int), .int .u64 (dig (sy) 3 : Int)] := by
        have h := (Bx.new w3 118 [.int .u64 (dig (sx) 0 : Int), .int .u64 (dig (sx) 1 : Int), .int .u64 (dig (sx) 2 : Int), .int .u64 (dig (sx) 3 : Int), .int .u64 (dig (sy) 0 : Int), .int .u64 (dig (sy) 1 : Int), .int .u64 (dig (sy) 2 : Int), .int .u64 (dig (sy) 3 : Int)] _ rfl)
        exact h
      have hz9 : (w3.alloc (Obj.cells #[.int .u64 (dig (sx) 0 : Int), .int .u64 (dig (sx) 1 : Int), .int .u64 (dig (sx) 2 : Int), .int .u64 (dig (sx) 3 : Int), .int .u64 (dig (sy) 0 : Int), .int .u64 (dig (sy) 1 : Int), .int .u64 (dig (sy) 2 : Int), .int .u64 (dig (sy) 3 : Int)] 118)).heap.size = w3.heap.size + 1 := by simp
      obtain ⟨w4, hq4⟩ : ∃ W9 : World, (w3.alloc (Obj.cells #[.int .u64 (dig (sx) 0 : Int), .int .u64 (dig (sx) 1 : Int), .int .u64 (dig (sx) 2 : Int), .int .u64 (dig (sx) 3 : Int), .int .u64 (dig (sy) 0 : Int), .int .u64 (dig (sy) 1 : Int), .int .u64 (dig (sy) 2 : Int), .int .u64 (dig (sy) 3 : Int)] 118)) = W9 := ⟨_, rfl⟩
      rw [hq4] at hb9 hz9 hx90
      replace Hbc := Lib.hid (Hbc.out.up hb9)
      replace Hr := Lib.hid (Hr.out.up hb9)
      replace HB := Lib.hid (below_up HB.out hb9)
      have Hs4 := Lib.hid hz9
      have Hbp := Lib.hid hx90
      clear hb9 hz9 hx90
      have bc_0 := Hbc.out.cell (i := 0) rfl
      have bc_1 := Hbc.out.cell (i := 1) rfl
      have bp_0 := Hbp.out.cell (i := 0) rfl
      have bp_1 := Hbp.out.cell (i := 1) rfl
      have bp_2 := Hbp.out.cell (i := 2) rfl
      have bp_3 := Hbp.out.cell (i := 3) rfl
      have bp_4 := Hbp.out.cell (i := 4) rfl
      have bp_5 := Hbp.out.cell (i := 5) rfl
      have bp_6 := Hbp.out.cell (i := 6) rfl
      have bp_7 := Hbp.out.cell (i := 7) rfl
      cases bj
      · go_wp2_with fail
        clear hq4 o4_bc_1 o4_bc_0
        go_ret2
        exact ⟨HB.out, by rw [if_neg (by rw [all_not hjl HBJ.out]; decide)]; rfl⟩
      · obtain ⟨rfl, rfl⟩ := HSX.out rfl
        obtain ⟨i9, hi9, hz90, hz91, hz92⟩ := info_parts infoPair
        go_wp2_with (at_builtin; refine wpList_fitR (w.heap.size) w4 rfl _ _ 122 rfl 118 i9 8 Try.underlying122 hi9 hz91 (w.heap.size) (j) ((l.length)) (((l.take j).flatMap (pairC G))) rfl Hr.out _ _ _ rfl rfl rfl (by simp [Value.oneCell']) (by omega) ?_)
        intro w5 hown9 hg9
        clear hq4 o4_bc_1 o4_bc_0
        clear bc_0 bc_1
        clear bp_0 bp_1 bp_2 bp_3 bp_4 bp_5 bp_6 bp_7
        have hb9 := Below.grown HB.out hg9 (by have g0 := Hs1.out; have g1 := Hs0.out; have g2 := Hs2.out; have g3 := Hs3.out; have g4 := Hs4.out; omega) (fun q hq => Nat.le_trans (show w.heap.size ≤ w.heap.size by have g0 := Hs1.out; have g1 := Hs0.out; have g2 := Hs2.out; have g3 := Hs3.out; have g4 := Hs4.out; omega) (Hr.out.lt q hq).1)
        replace Hbc := Lib.hid (Hbc.out.grown hg9 (fun e9 => by have a0 := Option.some.inj e9; have a1 := Hr.out.lt _ e9; have g0 := Hs1.out; have g1 := Hs0.out; have g2 := Hs2.out; have g3 := Hs3.out; have g4 := Hs4.out; omega))
        replace Hbp := Lib.hid (Hbp.out.grown hg9 (fun e9 => by have a0 := Option.some.inj e9; have a1 := Hr.out.lt _ e9; have g0 := Hs1.out; have g1 := Hs0.out; have g2 := Hs2.out; have g3 := Hs3.out; have g4 := Hs4.out; omega))
        have Hs5 := Lib.hid hg9.size
        clear Hr HB
        have Hr := Lib.hid hown9
        have HB := Lib.hid hb9
        clear hb9 hown9 hg9 hi9 hz90 hz91 hz92
        have bc_0 := Hbc.out.cell (i := 0) rfl
        have bc_1 := Hbc.out.cell (i := 1) rfl
        have bp_0 := Hbp.out.cell (i := 0) rfl
        have bp_1 := Hbp.out.cell (i := 1) rfl
        have bp_2 := Hbp.out.cell (i := 2) rfl
        have bp_3 := Hbp.out.cell (i := 3) rfl
        have bp_4 := Hbp.out.cell (i := 4) rfl
        have bp_5 := Hbp.out.cell (i := 5) rfl
        have bp_6 := Hbp.out.cell (i := 6) rfl
        have bp_7 := Hbp.out.cell (i := 7) rfl
        go_wp2_with fail
        go_roundw
        case rel => exact ⟨j + 1, by omega, by go_num, rfl, HB, all_snoc hjl HAL.out HBJ.out, Hr.out.eq (flat_snoc _ _ _ hjl).symm rfl⟩
        case measure => simp [intOf]; omega
    · have hjn : j = l.length := by omega
      subst hjn
      go_wp2_with fail
      go_ret2
      rw [List.take_length] at Hr
      exact ⟨HB.out, by rw [if_pos (all_take_true HAL.out)]; exact ⟨_, _, rfl, Hr.out.sl⟩⟩

def mulA (l : List (ByteArray × ByteArray)) : Nat := l.foldl (fun a c => a * numOf c.1) 1
def mulB (l : List (ByteArray × ByteArray)) : Nat := l.foldl (fun a c => a * numOf c.2) 1
theorem mulA_snoc {l : List (ByteArray × ByteArray)} {j : Nat} (h : j < l.length) : mulA (l.take (j + 1)) = mulA (l.take j) * numOf l[j].1 := by
  unfold mulA; rw [List.take_succ_eq_append_getElem h, List.foldl_append]; rfl
theorem mulB_snoc {l : List (ByteArray × ByteArray)} {j : Nat} (h : j < l.length) : mulB (l.take (j + 1)) = mulB (l.take j) * numOf l[j].2 := by
  unfold mulB; rw [List.take_succ_eq_append_getElem h, List.foldl_append]; rfl
theorem Bx.conv {W : World} {b : Nat} {t : TypeId} {cs cs' : List Value} (h : Bx W b t cs) (e : cs = cs') : Bx W b t cs' := e ▸ h
def pairN (G : GP) (x y : Nat) : List Value := [.int .u64 (dig (mont G.p.m x) 0 : Int), .int .u64 (dig (mont G.p.m x) 1 : Int), .int .u64 (dig (mont G.p.m x) 2 : Int), .int .u64 (dig (mont G.p.m x) 3 : Int), .int .u64 (dig (mont G.p.m y) 0 : Int), .int .u64 (dig (mont G.p.m y) 1 : Int), .int .u64 (dig (mont G.p.m y) 2 : Int), .int .u64 (dig (mont G.p.m y) 3 : Int)]

set_option maxRecDepth 100000 in
set_option maxHeartbeats 2000000 in
theorem total_any (G : GP) (ok : G.Ok) (gb : Nat) (l : List (ByteArray × ByteArray)) (al : Option Addr) (cl : Nat) (hl : l.length ≤ 4398046511103) (w : World) (hG : GroupAt w gb G) (hS : Sl w w.heap.size al (l.flatMap (pairC G))) :
    Calls Try.prog 82 #[.pointer (some ⟨gb, 0, none⟩), .slice al l.length cl] w (Gives (pairV G (mulA l) (mulB l)) w) := by
  have OK := Lib.hid ok
  have HG := Lib.hid hG
  have HS := Lib.hid hS
  clear ok hG hS
  unfold Gives pairV
  go_enter Try.func82, Try.ntmps82
  go_wp2_with fail
  have hb9 : Below w.heap.size w (w.alloc (Obj.cells #[.int .u64 0, .int .u64 0, .int .u64 0, .int .u64 0, .int .u64 0, .int .u64 0, .int .u64 0, .int .u64 0] 118)) := ((Below.refl _ _).alloc (Nat.le_refl _) _)
  have hx90 : Bx (w.alloc (Obj.cells #[.int .u64 0, .int .u64 0, .int .u64 0, .int .u64 0, .int .u64 0, .int .u64 0, .int .u64 0, .int .u64 0] 118)) (w.heap.size) 118 [.int .u64 0, .int .u64 0, .int .u64 0, .int .u64 0, .int .u64 0, .int .u64 0, .int .u64 0, .int .u64 0] := by
    have h := (Bx.new w 118 [.int .u64 0, .int .u64 0, .int .u64 0, .int .u64 0, .int .u64 0, .int .u64 0, .int .u64 0, .int .u64 0] _ rfl)
    exact h
  have hz9 : (w.alloc (Obj.cells #[.int .u64 0, .int .u64 0, .int .u64 0, .int .u64 0, .int .u64 0, .int .u64 0, .int .u64 0, .int .u64 0] 118)).heap.size = w.heap.size + 1 := by simp
  obtain ⟨w1, hq1⟩ : ∃ W9 : World, (w.alloc (Obj.cells #[.int .u64 0, .int .u64 0, .int .u64 0, .int .u64 0, .int .u64 0, .int .u64 0, .int .u64 0, .int .u64 0] 118)) = W9 := ⟨_, rfl⟩
  rw [hq1] at hb9 hz9 hx90
  rw [hq1]
  clear hq1
  have HB := Lib.hid hb9
  have Hs1 := Lib.hid hz9
  have Hbz := Lib.hid hx90
  clear hb9 hz9 hx90
  have bz_0 := Hbz.out.cell (i := 0) rfl
  have bz_1 := Hbz.out.cell (i := 1) rfl
  have bz_2 := Hbz.out.cell (i := 2) rfl
  have bz_3 := Hbz.out.cell (i := 3) rfl
  have bz_4 := Hbz.out.cell (i := 4) rfl
  have bz_5 := Hbz.out.cell (i := 5) rfl
  have bz_6 := Hbz.out.cell (i := 6) rfl
  have bz_7 := Hbz.out.cell (i := 7) rfl
  go_wp2_with fail
  refine (gOne_any G OK.out gb w1 (HG.out.up HB.out)).mono ?_
  rintro e w2 ⟨rfl, hb9⟩
  clear bz_0 bz_1 bz_2 bz_3 bz_4 bz_5 bz_6 bz_7
  replace Hbz := Lib.hid (Hbz.out.up hb9)
  replace HB := Lib.hid (below_up HB.out hb9)
  have Hs2 := Lib.hid (show w1.heap.size ≤ w2.heap.size from hb9.size)
  clear hb9
  have bz_0 := Hbz.out.cell (i := 0) rfl
  have bz_1 := Hbz.out.cell (i := 1) rfl
  have bz_2 := Hbz.out.cell (i := 2) rfl
  have bz_3 := Hbz.out.cell (i := 3) rfl
  have bz_4 := Hbz.out.cell (i := 4) rfl
  have bz_5 := Hbz.out.cell (i := 5) rfl
  have bz_6 := Hbz.out.cell (i := 6) rfl
  have bz_7 := Hbz.out.cell (i := 7) rfl
  unfold elV limbV
  go_wp2_with fail
  refine (gOne_any G OK.out gb w2 (HG.out.up HB.out)).mono ?_
  rintro e w3 ⟨rfl, hb9⟩
  clear bz_0 bz_1 bz_2 bz_3 bz_4 bz_5 bz_6 bz_7
  replace Hbz := Lib.hid (Hbz.out.up hb9)
  replace HB := Lib.hid (below_up HB.out hb9)
  have Hs3 := Lib.hid (show w2.heap.size ≤ w3.heap.size from hb9.size)
  clear hb9
  have bz_0 := Hbz.out.cell (i := 0) rfl
  have bz_1 := Hbz.out.cell (i := 1) rfl
  have bz_2 := Hbz.out.cell (i := 2) rfl
  have bz_3 := Hbz.out.cell (i := 3) rfl
  have bz_4 := Hbz.out.cell (i := 4) rfl
  have bz_5 := Hbz.out.cell (i := 5) rfl
  have bz_6 := Hbz.out.cell (i := 6) rfl
  have bz_7 := Hbz.out.cell (i := 7) rfl
  unfold elV limbV
  have o4_bz_0 := bz_0; clear bz_0
  have o4_bz_1 := bz_1; clear bz_1
  have o4_bz_2 := bz_2; clear bz_2
  have o4_bz_3 := bz_3; clear bz_3
  have o4_bz_4 := bz_4; clear bz_4
  have o4_bz_5 := bz_5; clear bz_5
  have o4_bz_6 := bz_6; clear bz_6
  have o4_bz_7 := bz_7; clear bz_7
  have hb9 : Below w3.heap.size w3 (w3.alloc (Obj.cells #[.int .u64 (dig (mont G.p.m 1) 0 : Int), .int .u64 (dig (mont G.p.m 1) 1 : Int), .int .u64 (dig (mont G.p.m 1) 2 : Int), .int .u64 (dig (mont G.p.m 1) 3 : Int), .int .u64 (dig (mont G.p.m 1) 0 : Int), .int .u64 (dig (mont G.p.m 1) 1 : Int), .int .u64 (dig (mont G.p.m 1) 2 : Int), .int .u64 (dig (mont G.p.m 1) 3 : Int)] 118)) := ((Below.refl _ _).alloc (Nat.le_refl _) _)
  have hx90 : Bx (w3.alloc (Obj.cells #[.int .u64 (dig (mont G.p.m 1) 0 : Int), .int .u64 (dig (mont G.p.m 1) 1 : Int), .int .u64 (dig (mont G.p.m 1) 2 : Int), .int .u64 (dig (mont G.p.m 1) 3 : Int), .int .u64 (dig (mont G.p.m 1) 0 : Int), .int .u64 (dig (mont G.p.m 1) 1 : Int), .int .u64 (dig (mont G.p.m 1) 2 : Int), .int .u64 (dig (mont G.p.m 1) 3 : Int)] 118)) (w3.heap.size) 118 [.int .u64 (dig (mont G.p.m 1) 0 : Int), .int .u64 (dig (mont G.p.m 1) 1 : Int), .int .u64 (dig (mont G.p.m 1) 2 : Int), .int .u64 (dig (mont G.p.m 1) 3 : Int), .int .u64 (dig (mont G.p.m 1) 0 : Int), .int .u64 (dig (mont G.p.m 1) 1 : Int), .int .u64 (dig (mont G.p.m 1) 2 : Int), .int .u64 (dig (mont G.p.m 1) 3 : Int)] := by
    have h := (Bx.new w3 118 [.int .u64 (dig (mont G.p.m 1) 0 : Int), .int .u64 (dig (mont G.p.m 1) 1 : Int), .int .u64 (dig (mont G.p.m 1) 2 : Int), .int .u64 (dig (mont G.p.m 1) 3 : Int), .int .u64 (dig (mont G.p.m 1) 0 : Int), .int .u64 (dig (mont G.p.m 1) 1 : Int), .int .u64 (dig (mont G.p.m 1) 2 : Int), .int .u64 (dig (mont G.p.m 1) 3 : Int)] _ rfl)
    exact h
  have hz9 : (w3.alloc (Obj.cells #[.int .u64 (dig (mont G.p.m 1) 0 : Int), .int .u64 (dig (mont G.p.m 1) 1 : Int), .int .u64 (dig (mont G.p.m 1) 2 : Int), .int .u64 (dig (mont G.p.m 1) 3 : Int), .int .u64 (dig (mont G.p.m 1) 0 : Int), .int .u64 (dig (mont G.p.m 1) 1 : Int), .int .u64 (dig (mont G.p.m 1) 2 : Int), .int .u64 (dig (mont G.p.m 1) 3 : Int)] 118)).heap.size = w3.heap.size + 1 := by simp
  obtain ⟨w4, hq4⟩ : ∃ W9 : World, (w3.alloc (Obj.cells #[.int .u64 (dig (mont G.p.m 1) 0 : Int), .int .u64 (dig (mont G.p.m 1) 1 : Int), .int .u64 (dig (mont G.p.m 1) 2 : Int), .int .u64 (dig (mont G.p.m 1) 3 : Int), .int .u64 (dig (mont G.p.m 1) 0 : Int), .int .u64 (dig (mont G.p.m 1) 1 : Int), .int .u64 (dig (mont G.p.m 1) 2 : Int), .int .u64 (dig (mont G.p.m 1) 3 : Int)] 118)) = W9 := ⟨_, rfl⟩
  rw [hq4] at hb9 hz9 hx90
  replace Hbz := Lib.hid (Hbz.out.up hb9)
  replace HB := Lib.hid (below_up HB.out hb9)
  have Hs4 := Lib.hid hz9
  have Hbo := Lib.hid hx90
  clear hb9 hz9 hx90
  have bz_0 := Hbz.out.cell (i := 0) rfl
  have bz_1 := Hbz.out.cell (i := 1) rfl
  have bz_2 := Hbz.out.cell (i := 2) rfl
  have bz_3 := Hbz.out.cell (i := 3) rfl
  have bz_4 := Hbz.out.cell (i := 4) rfl
  have bz_5 := Hbz.out.cell (i := 5) rfl
  have bz_6 := Hbz.out.cell (i := 6) rfl
  have bz_7 := Hbz.out.cell (i := 7) rfl
  have bo_0 := Hbo.out.cell (i := 0) rfl
  have bo_1 := Hbo.out.cell (i := 1) rfl
  have bo_2 := Hbo.out.cell (i := 2) rfl
  have bo_3 := Hbo.out.cell (i := 3) rfl
  have bo_4 := Hbo.out.cell (i := 4) rfl
  have bo_5 := Hbo.out.cell (i := 5) rfl
  have bo_6 := Hbo.out.cell (i := 6) rfl
  have bo_7 := Hbo.out.cell (i := 7) rfl
  go_wp2_with fail
  clear hq4 o4_bz_7 o4_bz_6 o4_bz_5 o4_bz_4 o4_bz_3 o4_bz_2 o4_bz_1 o4_bz_0
  go_loopw [15, 7, 17, 18, 19, 20, 21, 22] (fun i u7 u17 u18 u19 u20 u21 u22 wr => ∃ j : Nat, j ≤ l.length ∧ i = .int .i64 j ∧ Hid (Below w.heap.size w wr) ∧ Hid (w3.heap.size < wr.heap.size) ∧ Hid (Bx wr w.heap.size 118 (pairN G 0 0 |>.map fun _ => .int .u64 0)) ∧ Hid (Bx wr w3.heap.size 118 (pairN G (mulA (l.take j)) (mulB (l.take j))))) (fun i _ _ _ _ _ _ _ _ => l.length - (intOf i).toNat)
  case atStart => exact ⟨0, Nat.zero_le _, rfl, HB, by have g0 := Hs4.out; show _ < _; omega, Hbz, Hbo⟩
  case round =>
    obtain ⟨j, hj, rfl, HB, Hs9, Hbz, Hbo⟩ := hrel
    by_cases hjl : j < l.length
    · have bz_0 := Hbz.out.cell (i := 0) rfl
      have bz_1 := Hbz.out.cell (i := 1) rfl
      have bz_2 := Hbz.out.cell (i := 2) rfl
      have bz_3 := Hbz.out.cell (i := 3) rfl
      have bz_4 := Hbz.out.cell (i := 4) rfl
      have bz_5 := Hbz.out.cell (i := 5) rfl
      have bz_6 := Hbz.out.cell (i := 6) rfl
      have bz_7 := Hbz.out.cell (i := 7) rfl
      have bo_0 := Hbo.out.cell (i := 0) rfl
      have bo_1 := Hbo.out.cell (i := 1) rfl
      have bo_2 := Hbo.out.cell (i := 2) rfl
      have bo_3 := Hbo.out.cell (i := 3) rfl
      have bo_4 := Hbo.out.cell (i := 4) rfl
      have bo_5 := Hbo.out.cell (i := 5) rfl
      have bo_6 := Hbo.out.cell (i := 6) rfl
      have bo_7 := Hbo.out.cell (i := 7) rfl
      obtain ⟨bl, ol, rfl, hbl, hc⟩ := (HS.out.up HB.out).elem (pairC_len G) (by omega) j hjl
      have hc_0 := hc 0 _ rfl
      rw [Nat.add_zero] at hc_0
      have hc_1 := hc 1 _ rfl
      have hc_2 := hc 2 _ rfl
      have hc_3 := hc 3 _ rfl
      have hc_4 := hc 4 _ rfl
      have hc_5 := hc 5 _ rfl
      have hc_6 := hc 6 _ rfl
      have hc_7 := hc 7 _ rfl
      clear hc
      have HMA := Lib.hid (mulA_snoc hjl)
      have HMB := Lib.hid (mulB_snoc hjl)
      generalize l[j] = c at *
      generalize mulA (l.take j) = ma at *
      generalize mulB (l.take j) = mb at *
      have o5_bz_0 := bz_0; clear bz_0
      have o5_bz_1 := bz_1; clear bz_1
      have o5_bz_2 := bz_2; clear bz_2
      have o5_bz_3 := bz_3; clear bz_3
      have o5_bz_4 := bz_4; clear bz_4
      have o5_bz_5 := bz_5; clear bz_5
      have o5_bz_6 := bz_6; clear bz_6
      have o5_bz_7 := bz_7; clear bz_7
      have o5_bo_0 := bo_0; clear bo_0
      have o5_bo_1 := bo_1; clear bo_1
      have o5_bo_2 := bo_2; clear bo_2
      have o5_bo_3 := bo_3; clear bo_3
      have o5_bo_4 := bo_4; clear bo_4
      have o5_bo_5 := bo_5; clear bo_5
      have o5_bo_6 := bo_6; clear bo_6
      have o5_bo_7 := bo_7; clear bo_7
      have hb9 : Below wr.heap.size wr (wr.alloc (Obj.cells #[.int .u64 (dig (mont G.p.m (numOf c.1)) 0 : Int), .int .u64 (dig (mont G.p.m (numOf c.1)) 1 : Int), .int .u64 (dig (mont G.p.m (numOf c.1)) 2 : Int), .int .u64 (dig (mont G.p.m (numOf c.1)) 3 : Int), .int .u64 (dig (mont G.p.m (numOf c.2)) 0 : Int), .int .u64 (dig (mont G.p.m (numOf c.2)) 1 : Int), .int .u64 (dig (mont G.p.m (numOf c.2)) 2 : Int), .int .u64 (dig (mont G.p.m (numOf c.2)) 3 : Int)] 118)) := ((Below.refl _ _).alloc (Nat.le_refl _) _)
      have hx90 : Bx (wr.alloc (Obj.cells #[.int .u64 (dig (mont G.p.m (numOf c.1)) 0 : Int), .int .u64 (dig (mont G.p.m (numOf c.1)) 1 : Int), .int .u64 (dig (mont G.p.m (numOf c.1)) 2 : Int), .int .u64 (dig (mont G.p.m (numOf c.1)) 3 : Int), .int .u64 (dig (mont G.p.m (numOf c.2)) 0 : Int), .int .u64 (dig (mont G.p.m (numOf c.2)) 1 : Int), .int .u64 (dig (mont G.p.m (numOf c.2)) 2 : Int), .int .u64 (dig (mont G.p.m (numOf c.2)) 3 : Int)] 118)) (wr.heap.size) 118 [.int .u64 (dig (mont G.p.m (numOf c.1)) 0 : Int), .int .u64 (dig (mont G.p.m (numOf c.1)) 1 : Int), .int .u64 (dig (mont G.p.m (numOf c.1)) 2 : Int), .int .u64 (dig (mont G.p.m (numOf c.1)) 3 : Int), .int .u64 (dig (mont G.p.m (numOf c.2)) 0 : Int), .int .u64 (dig (mont G.p.m (numOf c.2)) 1 : Int), .int .u64 (dig (mont G.p.m (numOf c.2)) 2 : Int), .int .u64 (dig (mont G.p.m (numOf c.2)) 3 : Int)] := by
        have h := (Bx.new wr 118 [.int .u64 (dig (mont G.p.m (numOf c.1)) 0 : Int), .int .u64 (dig (mont G.p.m (numOf c.1)) 1 : Int), .int .u64 (dig (mont G.p.m (numOf c.1)) 2 : Int), .int .u64 (dig (mont G.p.m (numOf c.1)) 3 : Int), .int .u64 (dig (mont G.p.m (numOf c.2)) 0 : Int), .int .u64 (dig (mont G.p.m (numOf c.2)) 1 : Int), .int .u64 (dig (mont G.p.m (numOf c.2)) 2 : Int), .int .u64 (dig (mont G.p.m (numOf c.2)) 3 : Int)] _ rfl)
        exact h
      have hz9 : (wr.alloc (Obj.cells #[.int .u64 (dig (mont G.p.m (numOf c.1)) 0 : Int), .int .u64 (dig (mont G.p.m (numOf c.1)) 1 : Int), .int .u64 (dig (mont G.p.m (numOf c.1)) 2 : Int), .int .u64 (dig (mont G.p.m (numOf c.1)) 3 : Int), .int .u64 (dig (mont G.p.m (numOf c.2)) 0 : Int), .int .u64 (dig (mont G.p.m (numOf c.2)) 1 : Int), .int .u64 (dig (mont G.p.m (numOf c.2)) 2 : Int), .int .u64 (dig (mont G.p.m (numOf c.2)) 3 : Int)] 118)).heap.size = wr.heap.size + 1 := by simp
      obtain ⟨w5, hq5⟩ : ∃ W9 : World, (wr.alloc (Obj.cells #[.int .u64 (dig (mont G.p.m (numOf c.1)) 0 : Int), .int .u64 (dig (mont G.p.m (numOf c.1)) 1 : Int), .int .u64 (dig (mont G.p.m (numOf c.1)) 2 : Int), .int .u64 (dig (mont G.p.m (numOf c.1)) 3 : Int), .int .u64 (dig (mont G.p.m (numOf c.2)) 0 : Int), .int .u64 (dig (mont G.p.m (numOf c.2)) 1 : Int), .int .u64 (dig (mont G.p.m (numOf c.2)) 2 : Int), .int .u64 (dig (mont G.p.m (numOf c.2)) 3 : Int)] 118)) = W9 := ⟨_, rfl⟩
      rw [hq5] at hb9 hz9 hx90
      replace Hbz := Lib.hid (Hbz.out.up hb9)
      replace Hbo := Lib.hid (Hbo.out.up hb9)
      replace HB := Lib.hid (below_up HB.out hb9)
      have Hs5 := Lib.hid hz9
      have Hbp := Lib.hid hx90
      clear hb9 hz9 hx90
      have bz_0 := Hbz.out.cell (i := 0) rfl
      have bz_1 := Hbz.out.cell (i := 1) rfl
      have bz_2 := Hbz.out.cell (i := 2) rfl
      have bz_3 := Hbz.out.cell (i := 3) rfl
      have bz_4 := Hbz.out.cell (i := 4) rfl
      have bz_5 := Hbz.out.cell (i := 5) rfl
      have bz_6 := Hbz.out.cell (i := 6) rfl
      have bz_7 := Hbz.out.cell (i := 7) rfl
      have bo_0 := Hbo.out.cell (i := 0) rfl
      have bo_1 := Hbo.out.cell (i := 1) rfl
      have bo_2 := Hbo.out.cell (i := 2) rfl
      have bo_3 := Hbo.out.cell (i := 3) rfl
      have bo_4 := Hbo.out.cell (i := 4) rfl
      have bo_5 := Hbo.out.cell (i := 5) rfl
      have bo_6 := Hbo.out.cell (i := 6) rfl
      have bo_7 := Hbo.out.cell (i := 7) rfl
      have bp_0 := Hbp.out.cell (i := 0) rfl
      have bp_1 := Hbp.out.cell (i := 1) rfl
      have bp_2 := Hbp.out.cell (i := 2) rfl
      have bp_3 := Hbp.out.cell (i := 3) rfl
      have bp_4 := Hbp.out.cell (i := 4) rfl
      have bp_5 := Hbp.out.cell (i := 5) rfl
      have bp_6 := Hbp.out.cell (i := 6) rfl
      have bp_7 := Hbp.out.cell (i := 7) rfl
      go_wp2_with fail
      clear hq5 o5_bo_7 o5_bo_6 o5_bo_5 o5_bo_4 o5_bo_3 o5_bo_2 o5_bo_1 o5_bo_0 o5_bz_7 o5_bz_6 o5_bz_5 o5_bz_4 o5_bz_3 o5_bz_2 o5_bz_1 o5_bz_0
      refine (pairTimes_any G OK.out gb ma mb (numOf c.1) (numOf c.2) w5 (HG.out.up HB.out)).mono ?_
      rintro e w6 ⟨rfl, hb9⟩
      clear bz_0 bz_1 bz_2 bz_3 bz_4 bz_5 bz_6 bz_7
      replace Hbz := Lib.hid (Hbz.out.up hb9)
      clear bo_0 bo_1 bo_2 bo_3 bo_4 bo_5 bo_6 bo_7
      replace Hbo := Lib.hid (Hbo.out.up hb9)
      clear bp_0 bp_1 bp_2 bp_3 bp_4 bp_5 bp_6 bp_7
      replace Hbp := Lib.hid (Hbp.out.up hb9)
      replace HB := Lib.hid (below_up HB.out hb9)
      have Hs6 := Lib.hid (show w5.heap.size ≤ w6.heap.size from hb9.size)
      clear hb9
      have bz_0 := Hbz.out.cell (i := 0) rfl
      have bz_1 := Hbz.out.cell (i := 1) rfl
      have bz_2 := Hbz.out.cell (i := 2) rfl
      have bz_3 := Hbz.out.cell (i := 3) rfl
      have bz_4 := Hbz.out.cell (i := 4) rfl
      have bz_5 := Hbz.out.cell (i := 5) rfl
      have bz_6 := Hbz.out.cell (i := 6) rfl
      have bz_7 := Hbz.out.cell (i := 7) rfl
      have bo_0 := Hbo.out.cell (i := 0) rfl
      have bo_1 := Hbo.out.cell (i := 1) rfl
      have bo_2 := Hbo.out.cell (i := 2) rfl
      have bo_3 := Hbo.out.cell (i := 3) rfl
      have bo_4 := Hbo.out.cell (i := 4) rfl
      have bo_5 := Hbo.out.cell (i := 5) rfl
      have bo_6 := Hbo.out.cell (i := 6) rfl
      have bo_7 := Hbo.out.cell (i := 7) rfl
      have bp_0 := Hbp.out.cell (i := 0) rfl
      have bp_1 := Hbp.out.cell (i := 1) rfl
      have bp_2 := Hbp.out.cell (i := 2) rfl
      have bp_3 := Hbp.out.cell (i := 3) rfl
      have bp_4 := Hbp.out.cell (i := 4) rfl
      have bp_5 := Hbp.out.cell (i := 5) rfl
      have bp_6 := Hbp.out.cell (i := 6) rfl
      have bp_7 := Hbp.out.cell (i := 7) rfl
      unfold pairV
      have f7_bo_0 := Hbo.out.frozen 0
      have f7_bo_1 := Hbo.out.frozen 1
      have f7_bo_2 := Hbo.out.frozen 2
      have f7_bo_3 := Hbo.out.frozen 3
      have f7_bo_4 := Hbo.out.frozen 4
      have f7_bo_5 := Hbo.out.frozen 5
      have f7_bo_6 := Hbo.out.frozen 6
      have f7_bo_7 := Hbo.out.frozen 7
      have o7_bz_0 := bz_0; clear bz_0
      have o7_bz_1 := bz_1; clear bz_1
      have o7_bz_2 := bz_2; clear bz_2
      have o7_bz_3 := bz_3; clear bz_3
      have o7_bz_4 := bz_4; clear bz_4
      have o7_bz_5 := bz_5; clear bz_5
      have o7_bz_6 := bz_6; clear bz_6
      have o7_bz_7 := bz_7; clear bz_7
      have o7_bo_0 := bo_0; clear bo_0
      have o7_bo_1 := bo_1; clear bo_1
      have o7_bo_2 := bo_2; clear bo_2
      have o7_bo_3 := bo_3; clear bo_3
      have o7_bo_4 := bo_4; clear bo_4
      have o7_bo_5 := bo_5; clear bo_5
      have o7_bo_6 := bo_6; clear bo_6
      have o7_bo_7 := bo_7; clear bo_7
      have o7_bp_0 := bp_0; clear bp_0
      have o7_bp_1 := bp_1; clear bp_1
      have o7_bp_2 := bp_2; clear bp_2
      have o7_bp_3 := bp_3; clear bp_3
      have o7_bp_4 := bp_4; clear bp_4
      have o7_bp_5 := bp_5; clear bp_5
      have o7_bp_6 := bp_6; clear bp_6
      have o7_bp_7 := bp_7; clear bp_7
      have hx9 : Bx ((((((((w6.setCell ⟨w3.heap.size, 0, none⟩ (.int .u64 (dig (mont G.p.m (ma * numOf c.1)) 0 : Int))).setCell ⟨w3.heap.size, 1, none⟩ (.int .u64 (dig (mont G.p.m (ma * numOf c.1)) 1 : Int))).setCell ⟨w3.heap.size, 2, none⟩ (.int .u64 (dig (mont G.p.m (ma * numOf c.1)) 2 : Int))).setCell ⟨w3.heap.size, 3, none⟩ (.int .u64 (dig (mont G.p.m (ma * numOf c.1)) 3 : Int))).setCell ⟨w3.heap.size, 4, none⟩ (.int .u64 (dig (mont G.p.m (mb * numOf c.2)) 0 : Int))).setCell ⟨w3.heap.size, 5, none⟩ (.int .u64 (dig (mont G.p.m (mb * numOf c.2)) 1 : Int))).setCell ⟨w3.heap.size, 6, none⟩ (.int .u64 (dig (mont G.p.m (mb * numOf c.2)) 2 : Int))).setCell ⟨w3.heap.size, 7, none⟩ (.int .u64 (dig (mont G.p.m (mb * numOf c.2)) 3 : Int))) (w3.heap.size) 118 [.int .u64 (dig (mont G.p.m (ma * numOf c.1)) 0 : Int), .int .u64 (dig (mont G.p.m (ma * numOf c.1)) 1 : Int), .int .u64 (dig (mont G.p.m (ma * numOf c.1)) 2 : Int), .int .u64 (dig (mont G.p.m (ma * numOf c.1)) 3 : Int), .int .u64 (dig (mont G.p.m (mb * numOf c.2)) 0 : Int), .int .u64 (dig (mont G.p.m (mb * numOf c.2)) 1 : Int), .int .u64 (dig (mont G.p.m (mb * numOf c.2)) 2 : Int), .int .u64 (dig (mont G.p.m (mb * numOf c.2)) 3 : Int)] := ((((((((Hbo.out.set 0 (.int .u64 (dig (mont G.p.m (ma * numOf c.1)) 0 : Int))).set 1 (.int .u64 (dig (mont G.p.m (ma * numOf c.1)) 1 : Int))).set 2 (.int .u64 (dig (mont G.p.m (ma * numOf c.1)) 2 : Int))).set 3 (.int .u64 (dig (mont G.p.m (ma * numOf c.1)) 3 : Int))).set 4 (.int .u64 (dig (mont G.p.m (mb * numOf c.2)) 0 : Int))).set 5 (.int .u64 (dig (mont G.p.m (mb * numOf c.2)) 1 : Int))).set 6 (.int .u64 (dig (mont G.p.m (mb * numOf c.2)) 2 : Int))).set 7 (.int .u64 (dig (mont G.p.m (mb * numOf c.2)) 3 : Int)))
      have hb9 : Below w.heap.size w ((((((((w6.setCell ⟨w3.heap.size, 0, none⟩ (.int .u64 (dig (mont G.p.m (ma * numOf c.1)) 0 : Int))).setCell ⟨w3.heap.size, 1, none⟩ (.int .u64 (dig (mont G.p.m (ma * numOf c.1)) 1 : Int))).setCell ⟨w3.heap.size, 2, none⟩ (.int .u64 (dig (mont G.p.m (ma * numOf c.1)) 2 : Int))).setCell ⟨w3.heap.size, 3, none⟩ (.int .u64 (dig (mont G.p.m (ma * numOf c.1)) 3 : Int))).setCell ⟨w3.heap.size, 4, none⟩ (.int .u64 (dig (mont G.p.m (mb * numOf c.2)) 0 : Int))).setCell ⟨w3.heap.size, 5, none⟩ (.int .u64 (dig (mont G.p.m (mb * numOf c.2)) 1 : Int))).setCell ⟨w3.heap.size, 6, none⟩ (.int .u64 (dig (mont G.p.m (mb * numOf c.2)) 2 : Int))).setCell ⟨w3.heap.size, 7, none⟩ (.int .u64 (dig (mont G.p.m (mb * numOf c.2)) 3 : Int))) := ((((((((HB.out.setCell (show w.heap.size ≤ w3.heap.size by have g0 := Hs1.out; have g1 := Hs2.out; have g2 := Hs3.out; have g3 := Hs4.out; have g4 := Hs9.out; have g5 := Hs5.out; have g6 := Hs6.out; omega) _).setCell (show w.heap.size ≤ w3.heap.size by have g0 := Hs1.out; have g1 := Hs2.out; have g2 := Hs3.out; have g3 := Hs4.out; have g4 := Hs9.out; have g5 := Hs5.out; have g6 := Hs6.out; omega) _).setCell (show w.heap.size ≤ w3.heap.size by have g0 := Hs1.out; have g1 := Hs2.out; have g2 := Hs3.out; have g3 := Hs4.out; have g4 := Hs9.out; have g5 := Hs5.out; have g6 := Hs6.out; omega) _).setCell (show w.heap.size ≤ w3.heap.size by have g0 := Hs1.out; have g1 := Hs2.out; have g2 := Hs3.out; have g3 := Hs4.out; have g4 := Hs9.out; have g5 := Hs5.out; have g6 := Hs6.out; omega) _).setCell (show w.heap.size ≤ w3.heap.size by have g0 := Hs1.out; have g1 := Hs2.out; have g2 := Hs3.out; have g3 := Hs4.out; have g4 := Hs9.out; have g5 := Hs5.out; have g6 := Hs6.out; omega) _).setCell (show w.heap.size ≤ w3.heap.size by have g0 := Hs1.out; have g1 := Hs2.out; have g2 := Hs3.out; have g3 := Hs4.out; have g4 := Hs9.out; have g5 := Hs5.out; have g6 := Hs6.out; omega) _).setCell (show w.heap.size ≤ w3.heap.size by have g0 := Hs1.out; have g1 := Hs2.out; have g2 := Hs3.out; have g3 := Hs4.out; have g4 := Hs9.out; have g5 := Hs5.out; have g6 := Hs6.out; omega) _).setCell (show w.heap.size ≤ w3.heap.size by have g0 := Hs1.out; have g1 := Hs2.out; have g2 := Hs3.out; have g3 := Hs4.out; have g4 := Hs9.out; have g5 := Hs5.out; have g6 := Hs6.out; omega) _)
      have hz9 : ((((((((w6.setCell ⟨w3.heap.size, 0, none⟩ (.int .u64 (dig (mont G.p.m (ma * numOf c.1)) 0 : Int))).setCell ⟨w3.heap.size, 1, none⟩ (.int .u64 (dig (mont G.p.m (ma * numOf c.1)) 1 : Int))).setCell ⟨w3.heap.size, 2, none⟩ (.int .u64 (dig (mont G.p.m (ma * numOf c.1)) 2 : Int))).setCell ⟨w3.heap.size, 3, none⟩ (.int .u64 (dig (mont G.p.m (ma * numOf c.1)) 3 : Int))).setCell ⟨w3.heap.size, 4, none⟩ (.int .u64 (dig (mont G.p.m (mb * numOf c.2)) 0 : Int))).setCell ⟨w3.heap.size, 5, none⟩ (.int .u64 (dig (mont G.p.m (mb * numOf c.2)) 1 : Int))).setCell ⟨w3.heap.size, 6, none⟩ (.int .u64 (dig (mont G.p.m (mb * numOf c.2)) 2 : Int))).setCell ⟨w3.heap.size, 7, none⟩ (.int .u64 (dig (mont G.p.m (mb * numOf c.2)) 3 : Int))).heap.size = w6.heap.size := by simp [World.setCell]
      have ho9Hbz := ((((((((Hbz.out.other (show _ ≠ w3.heap.size by have g0 := Hs1.out; have g1 := Hs2.out; have g2 := Hs3.out; have g3 := Hs4.out; have g4 := Hs9.out; have g5 := Hs5.out; have g6 := Hs6.out; omega) 0 (.int .u64 (dig (mont G.p.m (ma * numOf c.1)) 0 : Int))).other (show _ ≠ w3.heap.size by have g0 := Hs1.out; have g1 := Hs2.out; have g2 := Hs3.out; have g3 := Hs4.out; have g4 := Hs9.out; have g5 := Hs5.out; have g6 := Hs6.out; omega) 1 (.int .u64 (dig (mont G.p.m (ma * numOf c.1)) 1 : Int))).other (show _ ≠ w3.heap.size by have g0 := Hs1.out; have g1 := Hs2.out; have g2 := Hs3.out; have g3 := Hs4.out; have g4 := Hs9.out; have g5 := Hs5.out; have g6 := Hs6.out; omega) 2 (.int .u64 (dig (mont G.p.m (ma * numOf c.1)) 2 : Int))).other (show _ ≠ w3.heap.size by have g0 := Hs1.out; have g1 := Hs2.out; have g2 := Hs3.out; have g3 := Hs4.out; have g4 := Hs9.out; have g5 := Hs5.out; have g6 := Hs6.out; omega) 3 (.int .u64 (dig (mont G.p.m (ma * numOf c.1)) 3 : Int))).other (show _ ≠ w3.heap.size by have g0 := Hs1.out; have g1 := Hs2.out; have g2 := Hs3.out; have g3 := Hs4.out; have g4 := Hs9.out; have g5 := Hs5.out; have g6 := Hs6.out; omega) 4 (.int .u64 (dig (mont G.p.m (mb * numOf c.2)) 0 : Int))).other (show _ ≠ w3.heap.size by have g0 := Hs1.out; have g1 := Hs2.out; have g2 := Hs3.out; have g3 := Hs4.out; have g4 := Hs9.out; have g5 := Hs5.out; have g6 := Hs6.out; omega) 5 (.int .u64 (dig (mont G.p.m (mb * numOf c.2)) 1 : Int))).other (show _ ≠ w3.heap.size by have g0 := Hs1.out; have g1 := Hs2.out; have g2 := Hs3.out; have g3 := Hs4.out; have g4 := Hs9.out; have g5 := Hs5.out; have g6 := Hs6.out; omega) 6 (.int .u64 (dig (mont G.p.m (mb * numOf c.2)) 2 : Int))).other (show _ ≠ w3.heap.size by have g0 := Hs1.out; have g1 := Hs2.out; have g2 := Hs3.out; have g3 := Hs4.out; have g4 := Hs9.out; have g5 := Hs5.out; have g6 := Hs6.out; omega) 7 (.int .u64 (dig (mont G.p.m (mb * numOf c.2)) 3 : Int)))
      have ho9Hbp := ((((((((Hbp.out.other (show _ ≠ w3.heap.size by have g0 := Hs1.out; have g1 := Hs2.out; have g2 := Hs3.out; have g3 := Hs4.out; have g4 := Hs9.out; have g5 := Hs5.out; have g6 := Hs6.out; omega) 0 (.int .u64 (dig (mont G.p.m (ma * numOf c.1)) 0 : Int))).other (show _ ≠ w3.heap.size by have g0 := Hs1.out; have g1 := Hs2.out; have g2 := Hs3.out; have g3 := Hs4.out; have g4 := Hs9.out; have g5 := Hs5.out; have g6 := Hs6.out; omega) 1 (.int .u64 (dig (mont G.p.m (ma * numOf c.1)) 1 : Int))).other (show _ ≠ w3.heap.size by have g0 := Hs1.out; have g1 := Hs2.out; have g2 := Hs3.out; have g3 := Hs4.out; have g4 := Hs9.out; have g5 := Hs5.out; have g6 := Hs6.out; omega) 2 (.int .u64 (dig (mont G.p.m (ma * numOf c.1)) 2 : Int))).other (show _ ≠ w3.heap.size by have g0 := Hs1.out; have g1 := Hs2.out; have g2 := Hs3.out; have g3 := Hs4.out; have g4 := Hs9.out; have g5 := Hs5.out; have g6 := Hs6.out; omega) 3 (.int .u64 (dig (mont G.p.m (ma * numOf c.1)) 3 : Int))).other (show _ ≠ w3.heap.size by have g0 := Hs1.out; have g1 := Hs2.out; have g2 := Hs3.out; have g3 := Hs4.out; have g4 := Hs9.out; have g5 := Hs5.out; have g6 := Hs6.out; omega) 4 (.int .u64 (dig (mont G.p.m (mb * numOf c.2)) 0 : Int))).other (show _ ≠ w3.heap.size by have g0 := Hs1.out; have g1 := Hs2.out; have g2 := Hs3.out; have g3 := Hs4.out; have g4 := Hs9.out; have g5 := Hs5.out; have g6 := Hs6.out; omega) 5 (.int .u64 (dig (mont G.p.m (mb * numOf c.2)) 1 : Int))).other (show _ ≠ w3.heap.size by have g0 := Hs1.out; have g1 := Hs2.out; have g2 := Hs3.out; have g3 := Hs4.out; have g4 := Hs9.out; have g5 := Hs5.out; have g6 := Hs6.out; omega) 6 (.int .u64 (dig (mont G.p.m (mb * numOf c.2)) 2 : Int))).other (show _ ≠ w3.heap.size by have g0 := Hs1.out; have g1 := Hs2.out; have g2 := Hs3.out; have g3 := Hs4.out; have g4 := Hs9.out; have g5 := Hs5.out; have g6 := Hs6.out; omega) 7 (.int .u64 (dig (mont G.p.m (mb * numOf c.2)) 3 : Int)))
      obtain ⟨w7, hq7⟩ : ∃ W9 : World, ((((((((w6.setCell ⟨w3.heap.size, 0, none⟩ (.int .u64 (dig (mont G.p.m (ma * numOf c.1)) 0 : Int))).setCell ⟨w3.heap.size, 1, none⟩ (.int .u64 (dig (mont G.p.m (ma * numOf c.1)) 1 : Int))).setCell ⟨w3.heap.size, 2, none⟩ (.int .u64 (dig (mont G.p.m (ma * numOf c.1)) 2 : Int))).setCell ⟨w3.heap.size, 3, none⟩ (.int .u64 (dig (mont G.p.m (ma * numOf c.1)) 3 : Int))).setCell ⟨w3.heap.size, 4, none⟩ (.int .u64 (dig (mont G.p.m (mb * numOf c.2)) 0 : Int))).setCell ⟨w3.heap.size, 5, none⟩ (.int .u64 (dig (mont G.p.m (mb * numOf c.2)) 1 : Int))).setCell ⟨w3.heap.size, 6, none⟩ (.int .u64 (dig (mont G.p.m (mb * numOf c.2)) 2 : Int))).setCell ⟨w3.heap.size, 7, none⟩ (.int .u64 (dig (mont G.p.m (mb * numOf c.2)) 3 : Int))) = W9 := ⟨_, rfl⟩
      rw [hq7] at hx9 hb9 hz9 ho9Hbz ho9Hbp
      clear Hbo HB
      have Hbo := Lib.hid hx9
      have HB := Lib.hid hb9
      have Hs7 := Lib.hid hz9
      replace Hbz := Lib.hid ho9Hbz
      replace Hbp := Lib.hid ho9Hbp
      clear hx9 hb9 hz9 ho9Hbz ho9Hbp
      have bz_0 := Hbz.out.cell (i := 0) rfl
      have bz_1 := Hbz.out.cell (i := 1) rfl
      have bz_2 := Hbz.out.cell (i := 2) rfl
      have bz_3 := Hbz.out.cell (i := 3) rfl
      have bz_4 := Hbz.out.cell (i := 4) rfl
      have bz_5 := Hbz.out.cell (i := 5) rfl
      have bz_6 := Hbz.out.cell (i := 6) rfl
      have bz_7 := Hbz.out.cell (i := 7) rfl
      have bo_0 := Hbo.out.cell (i := 0) rfl
      have bo_1 := Hbo.out.cell (i := 1) rfl
      have bo_2 := Hbo.out.cell (i := 2) rfl
      have bo_3 := Hbo.out.cell (i := 3) rfl
      have bo_4 := Hbo.out.cell (i := 4) rfl
      have bo_5 := Hbo.out.cell (i := 5) rfl
      have bo_6 := Hbo.out.cell (i := 6) rfl
      have bo_7 := Hbo.out.cell (i := 7) rfl
      have bp_0 := Hbp.out.cell (i := 0) rfl
      have bp_1 := Hbp.out.cell (i := 1) rfl
      have bp_2 := Hbp.out.cell (i := 2) rfl
      have bp_3 := Hbp.out.cell (i := 3) rfl
      have bp_4 := Hbp.out.cell (i := 4) rfl
      have bp_5 := Hbp.out.cell (i := 5) rfl
      have bp_6 := Hbp.out.cell (i := 6) rfl
      have bp_7 := Hbp.out.cell (i := 7) rfl
      go_wp2_with fail
      go_roundw
      case rel => exact ⟨j + 1, by omega, by go_num, HB, by show _ < _; have g0 := Hs9.out; have g1 := Hs5.out; have g2 := Hs6.out; have g3 := Hs7.out; omega, Hbz, by rw [HMA.out, HMB.out]; exact Hbo⟩
      case measure => simp [intOf]; omega
    · have hjn : j = l.length := by omega
      subst hjn
      rw [List.take_length] at Hbo
      have bz_0 := Hbz.out.cell (i := 0) rfl
      have bz_1 := Hbz.out.cell (i := 1) rfl
      have bz_2 := Hbz.out.cell (i := 2) rfl
      have bz_3 := Hbz.out.cell (i := 3) rfl
      have bz_4 := Hbz.out.cell (i := 4) rfl
      have bz_5 := Hbz.out.cell (i := 5) rfl
      have bz_6 := Hbz.out.cell (i := 6) rfl
      have bz_7 := Hbz.out.cell (i := 7) rfl
      have bo_0 := Hbo.out.cell (i := 0) rfl
      have bo_1 := Hbo.out.cell (i := 1) rfl
      have bo_2 := Hbo.out.cell (i := 2) rfl
      have bo_3 := Hbo.out.cell (i := 3) rfl
      have bo_4 := Hbo.out.cell (i := 4) rfl
      have bo_5 := Hbo.out.cell (i := 5) rfl
      have bo_6 := Hbo.out.cell (i := 6) rfl
      have bo_7 := Hbo.out.cell (i := 7) rfl
      have f5_bz_0 := Hbz.out.frozen 0
      have f5_bz_1 := Hbz.out.frozen 1
      have f5_bz_2 := Hbz.out.frozen 2
      have f5_bz_3 := Hbz.out.frozen 3
      have f5_bz_4 := Hbz.out.frozen 4
      have f5_bz_5 := Hbz.out.frozen 5
      have f5_bz_6 := Hbz.out.frozen 6
      have f5_bz_7 := Hbz.out.frozen 7
      have o5_bz_0 := bz_0; clear bz_0
      have o5_bz_1 := bz_1; clear bz_1
      have o5_bz_2 := bz_2; clear bz_2
      have o5_bz_3 := bz_3; clear bz_3
      have o5_bz_4 := bz_4; clear bz_4
      have o5_bz_5 := bz_5; clear bz_5
      have o5_bz_6 := bz_6; clear bz_6
      have o5_bz_7 := bz_7; clear bz_7
      have o5_bo_0 := bo_0; clear bo_0
      have o5_bo_1 := bo_1; clear bo_1
      have o5_bo_2 := bo_2; clear bo_2
      have o5_bo_3 := bo_3; clear bo_3
      have o5_bo_4 := bo_4; clear bo_4
      have o5_bo_5 := bo_5; clear bo_5
      have o5_bo_6 := bo_6; clear bo_6
      have o5_bo_7 := bo_7; clear bo_7
      have hx9 : Bx ((((((((wr.setCell ⟨w.heap.size, 0, none⟩ (.int .u64 (dig (mont G.p.m (mulA l)) 0 : Int))).setCell ⟨w.heap.size, 1, none⟩ (.int .u64 (dig (mont G.p.m (mulA l)) 1 : Int))).setCell ⟨w.heap.size, 2, none⟩ (.int .u64 (dig (mont G.p.m (mulA l)) 2 : Int))).setCell ⟨w.heap.size, 3, none⟩ (.int .u64 (dig (mont G.p.m (mulA l)) 3 : Int))).setCell ⟨w.heap.size, 4, none⟩ (.int .u64 (dig (mont G.p.m (mulB l)) 0 : Int))).setCell ⟨w.heap.size, 5, none⟩ (.int .u64 (dig (mont G.p.m (mulB l)) 1 : Int))).setCell ⟨w.heap.size, 6, none⟩ (.int .u64 (dig (mont G.p.m (mulB l)) 2 : Int))).setCell ⟨w.heap.size, 7, none⟩ (.int .u64 (dig (mont G.p.m (mulB l)) 3 : Int))) (w.heap.size) 118 [.int .u64 (dig (mont G.p.m (mulA l)) 0 : Int), .int .u64 (dig (mont G.p.m (mulA l)) 1 : Int), .int .u64 (dig (mont G.p.m (mulA l)) 2 : Int), .int .u64 (dig (mont G.p.m (mulA l)) 3 : Int), .int .u64 (dig (mont G.p.m (mulB l)) 0 : Int), .int .u64 (dig (mont G.p.m (mulB l)) 1 : Int), .int .u64 (dig (mont G.p.m (mulB l)) 2 : Int), .int .u64 (dig (mont G.p.m (mulB l)) 3 : Int)] := ((((((((Hbz.out.set 0 (.int .u64 (dig (mont G.p.m (mulA l)) 0 : Int))).set 1 (.int .u64 (dig (mont G.p.m (mulA l)) 1 : Int))).set 2 (.int .u64 (dig (mont G.p.m (mulA l)) 2 : Int))).set 3 (.int .u64 (dig (mont G.p.m (mulA l)) 3 : Int))).set 4 (.int .u64 (dig (mont G.p.m (mulB l)) 0 : Int))).set 5 (.int .u64 (dig (mont G.p.m (mulB l)) 1 : Int))).set 6 (.int .u64 (dig (mont G.p.m (mulB l)) 2 : Int))).set 7 (.int .u64 (dig (mont G.p.m (mulB l)) 3 : Int)))
      have hb9 : Below w.heap.size w ((((((((wr.setCell ⟨w.heap.size, 0, none⟩ (.int .u64 (dig (mont G.p.m (mulA l)) 0 : Int))).setCell ⟨w.heap.size, 1, none⟩ (.int .u64 (dig (mont G.p.m (mulA l)) 1 : Int))).setCell ⟨w.heap.size, 2, none⟩ (.int .u64 (dig (mont G.p.m (mulA l)) 2 : Int))).setCell ⟨w.heap.size, 3, none⟩ (.int .u64 (dig (mont G.p.m (mulA l)) 3 : Int))).setCell ⟨w.heap.size, 4, none⟩ (.int .u64 (dig (mont G.p.m (mulB l)) 0 : Int))).setCell ⟨w.heap.size, 5, none⟩ (.int .u64 (dig (mont G.p.m (mulB l)) 1 : Int))).setCell ⟨w.heap.size, 6, none⟩ (.int .u64 (dig (mont G.p.m (mulB l)) 2 : Int))).setCell ⟨w.heap.size, 7, none⟩ (.int .u64 (dig (mont G.p.m (mulB l)) 3 : Int))) := ((((((((HB.out.setCell (show w.heap.size ≤ w.heap.size by have g0 := Hs1.out; have g1 := Hs2.out; have g2 := Hs3.out; have g3 := Hs4.out; have g4 := Hs9.out; omega) _).setCell (show w.heap.size ≤ w.heap.size by have g0 := Hs1.out; have g1 := Hs2.out; have g2 := Hs3.out; have g3 := Hs4.out; have g4 := Hs9.out; omega) _).setCell (show w.heap.size ≤ w.heap.size by have g0 := Hs1.out; have g1 := Hs2.out; have g2 := Hs3.out; have g3 := Hs4.out; have g4 := Hs9.out; omega) _).setCell (show w.heap.size ≤ w.heap.size by have g0 := Hs1.out; have g1 := Hs2.out; have g2 := Hs3.out; have g3 := Hs4.out; have g4 := Hs9.out; omega) _).setCell (show w.heap.size ≤ w.heap.size by have g0 := Hs1.out; have g1 := Hs2.out; have g2 := Hs3.out; have g3 := Hs4.out; have g4 := Hs9.out; omega) _).setCell (show w.heap.size ≤ w.heap.size by have g0 := Hs1.out; have g1 := Hs2.out; have g2 := Hs3.out; have g3 := Hs4.out; have g4 := Hs9.out; omega) _).setCell (show w.heap.size ≤ w.heap.size by have g0 := Hs1.out; have g1 := Hs2.out; have g2 := Hs3.out; have g3 := Hs4.out; have g4 := Hs9.out; omega) _).setCell (show w.heap.size ≤ w.heap.size by have g0 := Hs1.out; have g1 := Hs2.out; have g2 := Hs3.out; have g3 := Hs4.out; have g4 := Hs9.out; omega) _)
      have hz9 : ((((((((wr.setCell ⟨w.heap.size, 0, none⟩ (.int .u64 (dig (mont G.p.m (mulA l)) 0 : Int))).setCell ⟨w.heap.size, 1, none⟩ (.int .u64 (dig (mont G.p.m (mulA l)) 1 : Int))).setCell ⟨w.heap.size, 2, none⟩ (.int .u64 (dig (mont G.p.m (mulA l)) 2 : Int))).setCell ⟨w.heap.size, 3, none⟩ (.int .u64 (dig (mont G.p.m (mulA l)) 3 : Int))).setCell ⟨w.heap.size, 4, none⟩ (.int .u64 (dig (mont G.p.m (mulB l)) 0 : Int))).setCell ⟨w.heap.size, 5, none⟩ (.int .u64 (dig (mont G.p.m (mulB l)) 1 : Int))).setCell ⟨w.heap.size, 6, none⟩ (.int .u64 (dig (mont G.p.m (mulB l)) 2 : Int))).setCell ⟨w.heap.size, 7, none⟩ (.int .u64 (dig (mont G.p.m (mulB l)) 3 : Int))).heap.size = wr.heap.size := by simp [World.setCell]
      have ho9Hbo := ((((((((Hbo.out.other (show _ ≠ w.heap.size by have g0 := Hs1.out; have g1 := Hs2.out; have g2 := Hs3.out; have g3 := Hs4.out; have g4 := Hs9.out; omega) 0 (.int .u64 (dig (mont G.p.m (mulA l)) 0 : Int))).other (show _ ≠ w.heap.size by have g0 := Hs1.out; have g1 := Hs2.out; have g2 := Hs3.out; have g3 := Hs4.out; have g4 := Hs9.out; omega) 1 (.int .u64 (dig (mont G.p.m (mulA l)) 1 : Int))).other (show _ ≠ w.heap.size by have g0 := Hs1.out; have g1 := Hs2.out; have g2 := Hs3.out; have g3 := Hs4.out; have g4 := Hs9.out; omega) 2 (.int .u64 (dig (mont G.p.m (mulA l)) 2 : Int))).other (show _ ≠ w.heap.size by have g0 := Hs1.out; have g1 := Hs2.out; have g2 := Hs3.out; have g3 := Hs4.out; have g4 := Hs9.out; omega) 3 (.int .u64 (dig (mont G.p.m (mulA l)) 3 : Int))).other (show _ ≠ w.heap.size by have g0 := Hs1.out; have g1 := Hs2.out; have g2 := Hs3.out; have g3 := Hs4.out; have g4 := Hs9.out; omega) 4 (.int .u64 (dig (mont G.p.m (mulB l)) 0 : Int))).other (show _ ≠ w.heap.size by have g0 := Hs1.out; have g1 := Hs2.out; have g2 := Hs3.out; have g3 := Hs4.out; have g4 := Hs9.out; omega) 5 (.int .u64 (dig (mont G.p.m (mulB l)) 1 : Int))).other (show _ ≠ w.heap.size by have g0 := Hs1.out; have g1 := Hs2.out; have g2 := Hs3.out; have g3 := Hs4.out; have g4 := Hs9.out; omega) 6 (.int .u64 (dig (mont G.p.m (mulB l)) 2 : Int))).other (show _ ≠ w.heap.size by have g0 := Hs1.out; have g1 := Hs2.out; have g2 := Hs3.out; have g3 := Hs4.out; have g4 := Hs9.out; omega) 7 (.int .u64 (dig (mont G.p.m (mulB l)) 3 : Int)))
      obtain ⟨w5, hq5⟩ : ∃ W9 : World, ((((((((wr.setCell ⟨w.heap.size, 0, none⟩ (.int .u64 (dig (mont G.p.m (mulA l)) 0 : Int))).setCell ⟨w.heap.size, 1, none⟩ (.int .u64 (dig (mont G.p.m (mulA l)) 1 : Int))).setCell ⟨w.heap.size, 2, none⟩ (.int .u64 (dig (mont G.p.m (mulA l)) 2 : Int))).setCell ⟨w.heap.size, 3, none⟩ (.int .u64 (dig (mont G.p.m (mulA l)) 3 : Int))).setCell ⟨w.heap.size, 4, none⟩ (.int .u64 (dig (mont G.p.m (mulB l)) 0 : Int))).setCell ⟨w.heap.size, 5, none⟩ (.int .u64 (dig (mont G.p.m (mulB l)) 1 : Int))).setCell ⟨w.heap.size, 6, none⟩ (.int .u64 (dig (mont G.p.m (mulB l)) 2 : Int))).setCell ⟨w.heap.size, 7, none⟩ (.int .u64 (dig (mont G.p.m (mulB l)) 3 : Int))) = W9 := ⟨_, rfl⟩
      rw [hq5] at hx9 hb9 hz9 ho9Hbo
      clear Hbz HB
      have Hbz := Lib.hid hx9
      have HB := Lib.hid hb9
      have Hs5 := Lib.hid hz9
      replace Hbo := Lib.hid ho9Hbo
      clear hx9 hb9 hz9 ho9Hbo
      have bz_0 := Hbz.out.cell (i := 0) rfl
      have bz_1 := Hbz.out.cell (i := 1) rfl
      have bz_2 := Hbz.out.cell (i := 2) rfl
      have bz_3 := Hbz.out.cell (i := 3) rfl
      have bz_4 := Hbz.out.cell (i := 4) rfl
      have bz_5 := Hbz.out.cell (i := 5) rfl
      have bz_6 := Hbz.out.cell (i := 6) rfl
      have bz_7 := Hbz.out.cell (i := 7) rfl
      have bo_0 := Hbo.out.cell (i := 0) rfl
      have bo_1 := Hbo.out.cell (i := 1) rfl
      have bo_2 := Hbo.out.cell (i := 2) rfl
      have bo_3 := Hbo.out.cell (i := 3) rfl
      have bo_4 := Hbo.out.cell (i := 4) rfl
      have bo_5 := Hbo.out.cell (i := 5) rfl
      have bo_6 := Hbo.out.cell (i := 6) rfl
      have bo_7 := Hbo.out.cell (i := 7) rfl
      go_wp2_with fail
      clear hq5 o5_bo_7 o5_bo_6 o5_bo_5 o5_bo_4 o5_bo_3 o5_bo_2 o5_bo_1 o5_bo_0 o5_bz_7 o5_bz_6 o5_bz_5 o5_bz_4 o5_bz_3 o5_bz_2 o5_bz_1 o5_bz_0 f5_bz_7 f5_bz_6 f5_bz_5 f5_bz_4 f5_bz_3 f5_bz_2 f5_bz_1 f5_bz_0
      simp [bodyPost, results, Try.results82, go_sem, bz_0, bz_1, bz_2, bz_3, bz_4, bz_5, bz_6, bz_7]
      exact HB.out

/-- What Sum answers. -/
def sumE (G : GP) (l : List (ByteArray × ByteArray)) : Value := if l.all (cipOk G) then .tuple #[ciphV (textS (lowN G (mulA l)) G.size) (textS (lowN G (mulB l)) G.size), .int .i64 0] else cipE 7

set_option maxRecDepth 100000 in
set_option maxHeartbeats 1000000 in
theorem sum_none (k : Int) (hk : ¬ (1 ≤ k ∧ k ≤ 3)) (v : Value) (w : World) : Calls Try.prog 23 #[.int .i64 k, v] w (Gives (cipE 1) w) := by
  unfold Gives cipE ciphV
  go_enter Try.func23, Try.ntmps23
  go_wp2_with fail
  have hb9 : Below w.heap.size w (w.alloc (Obj.cells #[.string ⟨#[]⟩, .string ⟨#[]⟩] 41)) := ((Below.refl _ _).alloc (Nat.le_refl _) _)
  have hx90 : Bx (w.alloc (Obj.cells #[.string ⟨#[]⟩, .string ⟨#[]⟩] 41)) (w.heap.size) 41 [.string ⟨#[]⟩, .string ⟨#[]⟩] := by
    have h := (Bx.new w 41 [.string ⟨#[]⟩, .string ⟨#[]⟩] _ rfl)
    exact h
  have hz9 : (w.alloc (Obj.cells #[.string ⟨#[]⟩, .string ⟨#[]⟩] 41)).heap.size = w.heap.size + 1 := by simp
  obtain ⟨w1, hq1⟩ : ∃ W9 : World, (w.alloc (Obj.cells #[.string ⟨#[]⟩, .string ⟨#[]⟩] 41)) = W9 := ⟨_, rfl⟩
  rw [hq1] at hb9 hz9 hx90
  rw [hq1]
  clear hq1
  have HB := Lib.hid hb9
  have Hs1 := Lib.hid hz9
  have Hbc := Lib.hid hx90
  clear hb9 hz9 hx90
  have bc_0 := Hbc.out.cell (i := 0) rfl
  have bc_1 := Hbc.out.cell (i := 1) rfl
  go_wp2_with fail
  refine (of_none k hk _).mono ?_
  rintro e w2 ⟨rfl, rfl⟩
  have f2_bc_0 := Hbc.out.frozen 0
  have f2_bc_1 := Hbc.out.frozen 1
  have o2_bc_0 := bc_0; clear bc_0
  have o2_bc_1 := bc_1; clear bc_1
  have hx9 : Bx ((w1.setCell ⟨w.heap.size, 0, none⟩ (.string ⟨#[]⟩)).setCell ⟨w.heap.size, 1, none⟩ (.string ⟨#[]⟩)) (w.heap.size) 41 [.string ⟨#[]⟩, .string ⟨#[]⟩] := ((Hbc.out.set 0 (.string ⟨#[]⟩)).set 1 (.string ⟨#[]⟩))
  have hb9 : Below w.heap.size w ((w1.setCell ⟨w.heap.size, 0, none⟩ (.string ⟨#[]⟩)).setCell ⟨w.heap.size, 1, none⟩ (.string ⟨#[]⟩)) := ((HB.out.setCell (show w.heap.size ≤ w.heap.size by have g0 := Hs1.out; omega) _).setCell (show w.heap.size ≤ w.heap.size by have g0 := Hs1.out; omega) _)
  have hz9 : ((w1.setCell ⟨w.heap.size, 0, none⟩ (.string ⟨#[]⟩)).setCell ⟨w.heap.size, 1, none⟩ (.string ⟨#[]⟩)).heap.size = w1.heap.size := by simp [World.setCell]
  obtain ⟨w2, hq2⟩ : ∃ W9 : World, ((w1.setCell ⟨w.heap.size, 0, none⟩ (.string ⟨#[]⟩)).setCell ⟨w.heap.size, 1, none⟩ (.string ⟨#[]⟩)) = W9 := ⟨_, rfl⟩
  rw [hq2] at hx9 hb9 hz9 
  clear Hbc HB
  have Hbc := Lib.hid hx9
  have HB := Lib.hid hb9
  have Hs2 := Lib.hid hz9
  clear hx9 hb9 hz9 
  have bc_0 := Hbc.out.cell (i := 0) rfl
  have bc_1 := Hbc.out.cell (i := 1) rfl
  go_wp2_with fail
  clear hq2 o2_bc_1 o2_bc_0 f2_bc_1 f2_bc_0
  simp [bodyPost, results, Try.results23, go_sem, bc_0, bc_1]
  exact HB.out

set_option maxRecDepth 100000 in
set_option maxHeartbeats 1000000 in
theorem sum_some (k : Nat) (h1 : 1 ≤ k) (h3 : k ≤ 3) (l : List (ByteArray × ByteArray)) (al : Option Addr) (cl : Nat) (hl : l.length ≤ 4398046511103) (w : World) (hS : Sl w w.heap.size al (l.flatMap cipC)) :
    Calls Try.prog 23 #[.int .i64 (k : Int), .slice al l.length cl] w (Gives (sumE (grp k) l) w) := by
  have OK := Lib.hid (grp_ok k h1 h3)
  have HS := Lib.hid hS
  clear hS
  obtain ⟨bl, hbl⟩ : ∃ x, l.all (cipOk (grp k)) = x := ⟨_, rfl⟩
  have HBL := Lib.hid hbl
  unfold Gives sumE cipE ciphV
  rw [hbl]
  clear hbl
  go_enter Try.func23, Try.ntmps23
  go_wp2_with fail
  have hb9 : Below w.heap.size w (w.alloc (Obj.cells #[.string ⟨#[]⟩, .string ⟨#[]⟩] 41)) := ((Below.refl _ _).alloc (Nat.le_refl _) _)
  have hx90 : Bx (w.alloc (Obj.cells #[.string ⟨#[]⟩, .string ⟨#[]⟩] 41)) (w.heap.size) 41 [.string ⟨#[]⟩, .string ⟨#[]⟩] := by
    have h := (Bx.new w 41 [.string ⟨#[]⟩, .string ⟨#[]⟩] _ rfl)
    exact h
  have hz9 : (w.alloc (Obj.cells #[.string ⟨#[]⟩, .string ⟨#[]⟩] 41)).heap.size = w.heap.size + 1 := by simp
  obtain ⟨w1, hq1⟩ : ∃ W9 : World, (w.alloc (Obj.cells #[.string ⟨#[]⟩, .string ⟨#[]⟩] 41)) = W9 := ⟨_, rfl⟩
  rw [hq1] at hb9 hz9 hx90
  rw [hq1]
  clear hq1
  have HB := Lib.hid hb9
  have Hs1 := Lib.hid hz9
  have Hbc := Lib.hid hx90
  clear hb9 hz9 hx90
  have bc_0 := Hbc.out.cell (i := 0) rfl
  have bc_1 := Hbc.out.cell (i := 1) rfl
  go_wp2_with fail
  refine (of_some k h1 h3 w1).mono ?_
  rintro e w2 ⟨rfl, hg9, hb9⟩
  clear bc_0 bc_1
  replace Hbc := Lib.hid (Hbc.out.up hb9)
  replace HB := Lib.hid (below_up HB.out hb9)
  have Hs2 := Lib.hid (show w1.heap.size ≤ w2.heap.size from hb9.size)
  have HG := Lib.hid hg9
  clear hg9
  clear hb9
  have bc_0 := Hbc.out.cell (i := 0) rfl
  have bc_1 := Hbc.out.cell (i := 1) rfl
  go_wp2_with fail
  refine (readAll_any (grp k) OK.out _ l al cl hl w2 HG.out (HS.out.up HB.out)).mono ?_
  rintro e w3 ⟨hb9, hx9⟩
  clear bc_0 bc_1
  replace Hbc := Lib.hid (Hbc.out.up hb9)
  replace HG := Lib.hid (HG.out.up hb9)
  replace HB := Lib.hid (below_up HB.out hb9)
  have Hs3 := Lib.hid (show w2.heap.size ≤ w3.heap.size from hb9.size)
  clear hb9
  have bc_0 := Hbc.out.cell (i := 0) rfl
  have bc_1 := Hbc.out.cell (i := 1) rfl
  cases bl
  · rw [if_neg (by rw [HBL.out]; decide)] at hx9
    subst hx9
    have f4_bc_0 := Hbc.out.frozen 0
    have f4_bc_1 := Hbc.out.frozen 1
    have o4_bc_0 := bc_0; clear bc_0
    have o4_bc_1 := bc_1; clear bc_1
    have hx9 : Bx ((w3.setCell ⟨w.heap.size, 0, none⟩ (.string ⟨#[]⟩)).setCell ⟨w.heap.size, 1, none⟩ (.string ⟨#[]⟩)) (w.heap.size) 41 [.string ⟨#[]⟩, .string ⟨#[]⟩] := ((Hbc.out.set 0 (.string ⟨#[]⟩)).set 1 (.string ⟨#[]⟩))
    have hb9 : Below w.heap.size w ((w3.setCell ⟨w.heap.size, 0, none⟩ (.string ⟨#[]⟩)).setCell ⟨w.heap.size, 1, none⟩ (.string ⟨#[]⟩)) := ((HB.out.setCell (show w.heap.size ≤ w.heap.size by have g0 := Hs1.out; have g1 := Hs2.out; have g2 := Hs3.out; omega) _).setCell (show w.heap.size ≤ w.heap.size by have g0 := Hs1.out; have g1 := Hs2.out; have g2 := Hs3.out; omega) _)
    have hz9 : ((w3.setCell ⟨w.heap.size, 0, none⟩ (.string ⟨#[]⟩)).setCell ⟨w.heap.size, 1, none⟩ (.string ⟨#[]⟩)).heap.size = w3.heap.size := by simp [World.setCell]
    have ho9HG := ((HG.out.other (show _ ≠ w.heap.size by have g0 := Hs1.out; have g1 := Hs2.out; have g2 := Hs3.out; omega) 0 (.string ⟨#[]⟩)).other (show _ ≠ w.heap.size by have g0 := Hs1.out; have g1 := Hs2.out; have g2 := Hs3.out; omega) 1 (.string ⟨#[]⟩))
    obtain ⟨w4, hq4⟩ : ∃ W9 : World, ((w3.setCell ⟨w.heap.size, 0, none⟩ (.string ⟨#[]⟩)).setCell ⟨w.heap.size, 1, none⟩ (.string ⟨#[]⟩)) = W9 := ⟨_, rfl⟩
    rw [hq4] at hx9 hb9 hz9 ho9HG
    clear Hbc HB
    have Hbc := Lib.hid hx9
    have HB := Lib.hid hb9
    have Hs4 := Lib.hid hz9
    replace HG := Lib.hid ho9HG
    clear hx9 hb9 hz9 ho9HG
    have bc_0 := Hbc.out.cell (i := 0) rfl
    have bc_1 := Hbc.out.cell (i := 1) rfl
    go_wp2_with fail
    clear hq4 o4_bc_1 o4_bc_0 f4_bc_1 f4_bc_0
    simp [bodyPost, results, Try.results23, go_sem, bc_0, bc_1]
    exact HB.out
  · rw [if_pos HBL.out] at hx9
    obtain ⟨ar, cr, rfl, hsr⟩ := hx9
    have HSR := Lib.hid hsr
    clear hsr
    go_wp2_with fail
    refine (total_any (grp k) OK.out _ l ar cr hl w3 HG.out HSR.out).mono ?_
    rintro e w4 ⟨rfl, hb9⟩
    clear bc_0 bc_1
    replace Hbc := Lib.hid (Hbc.out.up hb9)
    replace HG := Lib.hid (HG.out.up hb9)
    replace HB := Lib.hid (below_up HB.out hb9)
    have Hs4 := Lib.hid (show w3.heap.size ≤ w4.heap.size from hb9.size)
    clear hb9
    have bc_0 := Hbc.out.cell (i := 0) rfl
    have bc_1 := Hbc.out.cell (i := 1) rfl
    go_wp2_with fail
    refine (pairText_any (grp k) OK.out _ _ _ w4 HG.out).mono ?_
    rintro e w5 ⟨rfl, hb9⟩
    clear bc_0 bc_1
    replace Hbc := Lib.hid (Hbc.out.up hb9)
    replace HG := Lib.hid (HG.out.up hb9)
    replace HB := Lib.hid (below_up HB.out hb9)
    have Hs5 := Lib.hid (show w4.heap.size ≤ w5.heap.size from hb9.size)
    clear hb9
    have bc_0 := Hbc.out.cell (i := 0) rfl
    have bc_1 := Hbc.out.cell (i := 1) rfl
    unfold ciphV
    have f6_bc_0 := Hbc.out.frozen 0
    have f6_bc_1 := Hbc.out.frozen 1
    have o6_bc_0 := bc_0; clear bc_0
    have o6_bc_1 := bc_1; clear bc_1
    have hx9 : Bx ((w5.setCell ⟨w.heap.size, 0, none⟩ (.string (textS (lowN (grp k) (mulA l)) (grp k).size))).setCell ⟨w.heap.size, 1, none⟩ (.string (textS (lowN (grp k) (mulB l)) (grp k).size))) (w.heap.size) 41 [.string (textS (lowN (grp k) (mulA l)) (grp k).size), .string (textS (lowN (grp k) (mulB l)) (grp k).size)] := ((Hbc.out.set 0 (.string (textS (lowN (grp k) (mulA l)) (grp k).size))).set 1 (.string (textS (lowN (grp k) (mulB l)) (grp k).size)))
    have hb9 : Below w.heap.size w ((w5.setCell ⟨w.heap.size, 0, none⟩ (.string (textS (lowN (grp k) (mulA l)) (grp k).size))).setCell ⟨w.heap.size, 1, none⟩ (.string (textS (lowN (grp k) (mulB l)) (grp k).size))) := ((HB.out.setCell (show w.heap.size ≤ w.heap.size by have g0 := Hs1.out; have g1 := Hs2.out; have g2 := Hs3.out; have g3 := Hs4.out; have g4 := Hs5.out; omega) _).setCell (show w.heap.size ≤ w.heap.size by have g0 := Hs1.out; have g1 := Hs2.out; have g2 := Hs3.out; have g3 := Hs4.out; have g4 := Hs5.out; omega) _)
    have hz9 : ((w5.setCell ⟨w.heap.size, 0, none⟩ (.string (textS (lowN (grp k) (mulA l)) (grp k).size))).setCell ⟨w.heap.size, 1, none⟩ (.string (textS (lowN (grp k) (mulB l)) (grp k).size))).heap.size = w5.heap.size := by simp [World.setCell]
    have ho9HG := ((HG.out.other (show _ ≠ w.heap.size by have g0 := Hs1.out; have g1 := Hs2.out; have g2 := Hs3.out; have g3 := Hs4.out; have g4 := Hs5.out; omega) 0 (.string (textS (lowN (grp k) (mulA l)) (grp k).size))).other (show _ ≠ w.heap.size by have g0 := Hs1.out; have g1 := Hs2.out; have g2 := Hs3.out; have g3 := Hs4.out; have g4 := Hs5.out; omega) 1 (.string (textS (lowN (grp k) (mulB l)) (grp k).size)))
    obtain ⟨w6, hq6⟩ : ∃ W9 : World, ((w5.setCell ⟨w.heap.size, 0, none⟩ (.string (textS (lowN (grp k) (mulA l)) (grp k).size))).setCell ⟨w.heap.size, 1, none⟩ (.string (textS (lowN (grp k) (mulB l)) (grp k).size))) = W9 := ⟨_, rfl⟩
    rw [hq6] at hx9 hb9 hz9 ho9HG
    clear Hbc HB
    have Hbc := Lib.hid hx9
    have HB := Lib.hid hb9
    have Hs6 := Lib.hid hz9
    replace HG := Lib.hid ho9HG
    clear hx9 hb9 hz9 ho9HG
    have bc_0 := Hbc.out.cell (i := 0) rfl
    have bc_1 := Hbc.out.cell (i := 1) rfl
    go_wp2_with fail
    clear hq6 o6_bc_1 o6_bc_0 f6_bc_1 f6_bc_0
    simp [bodyPost, results, Try.results23, go_sem, bc_0, bc_1]
    exact HB.out

end Go.Proofs.Ytipgjookfdkciaa

/- More of slices that the call itself appends to: a whole argument appended; a slice written out. No condition beyond those that each fact names. -/
namespace Go.Proofs.Ytipgjookfdkciaa
open Go.RowKit

/-- A block that was just filled is such a row. -/
theorem RowO.of_bx {N b n : Nat} {w : World} {e : TypeId} {size : Nat} {cs : List Value} (h : Bx w b e cs) (hN : N ≤ b) (hn : cs.length = n * size) (hm : n ≤ maxLen) : RowO N w e size (.slice (some ⟨b, 0, none⟩) n n) n cs := by
  refine ⟨hn, Or.inr ⟨b, n, cs.toArray, rfl, hN, h, Nat.le_refl _, hm, by simpa using hn, ?_⟩⟩
  rw [← hn]; simp

theorem Sl.addr {w : World} {B : Nat} {ad : Addr} {cs : List Value} (h : Sl w B (some ad) cs) : ∀ j u, cs[j]? = some u → w.cell? (ad.add j) = some u := by
  intro j u hj
  rcases h with rfl | ⟨b, off, he, _, hc⟩
  · simp at hj
  · simp only [Option.some.injEq] at he
    subst he
    have : (⟨b, off, none⟩ : Addr).add j = ⟨b, off + j, none⟩ := by unfold Addr.add; split <;> simp_all
    rw [this]; exact hc j u hj

/-- 'append(x, a...)': x is the call's own, a an argument. -/
theorem wpList_joinR {P : Program} (N : Nat) (w : World) (hN : N ≤ w.heap.size) {ops : Array Oper} {rest : List Oper} {o : Oper} {a : Act} {Q : Exit → Act → World → Prop} (hgd : o.guard = none) (s x : Operand) (t : TypeId)
    (ho : o.op = .call { callee := .builtin .append, args := #[s, x], argTypes := #[t, t] })
    (e : TypeId) (i : TypeInfo) (z : Value) (size bytes : Nat) (ht : P.underlying t = some (.slice e)) (hi : P.info? e = some i) (hz : i.zero = some z)
    (hsize : i.size = size) (hby : i.bytes = bytes) (hzs : z.cells.size = size) (hsz : 0 < size)
    (v : Value) (n : Nat) (xs : List Value) (hs : a.eval s = v) (hown : RowO N w e size v n xs)
    (al : Option Addr) (m c : Nat) (news : List Value) (hx : a.eval x = .slice al m c) (hl : news.length = m * size) (hS : Sl w w.heap.size al news) (h0 : al = none → c = 0) (h1 : ∀ u ∈ news, u.oneCell' = true)
    (h63 : (n + m) * bytes ≤ 140737488355328) (hn : n + m ≤ maxLen)
    (h : ∀ a' c' w', RowO N w' e size (.slice a' (n + m) c') (n + m) (xs ++ news) → w.grownBy w' v.ownBlock → wpList P ops Q rest (a.put o.dst (.slice a' (n + m) c')) w') :
    wpList P ops Q (o :: rest) a w := by
  cases al with
  | none =>
    have hc := h0 rfl
    subst hc
    have hnews : news = [] := by
      rcases hS with h9 | ⟨b, off, h9, _⟩
      · exact h9
      · cases h9
    subst hnews
    have hm : m = 0 := by
      rcases Nat.mul_eq_zero.1 hl.symm with h9 | h9
      · exact h9
      · omega
    subst hm
    obtain ⟨a', c', rfl⟩ := RowO.form hown
    refine wpList_append_own_none hgd s x t ho N e i size ht hi _ n xs hs hown hx ?_
    exact h a' c' w (by simpa using hown) ⟨rfl, rfl, rfl, Nat.le_refl _, fun _ _ _ => rfl⟩
  | some ad =>
    refine wpList_plain hgd fun K hK => ?_
    obtain ⟨v', w', hr, h2, h3, _, _⟩ := run_append_own_at (P := P) w N t o.type e i z size bytes ht hi hz hsize hby hzs hsz v n xs hown ad m c news hl hS.addr h1 hn h63 hN
    obtain ⟨a', c', rfl⟩ := RowO.form (N := N) h2
    unfold Oper.wp execOp
    simp only [ho, resolve, invoke, builtin, Sem.run_bind, Sem.run_pure, Result.andThen_ok, List.map_toArray, List.map_cons, List.map_nil, hs, hx, hr]
    exact hK _ _ (h a' c' w' h2 h3)

/-- 'out = append(out, x)' at a step of a region that draws its order. -/
theorem step_pushR {P : Program} (N : Nat) (w0 : World) (hN : N ≤ w0.heap.size) {ops : Array Oper} {o : Oper} {a : Act} {K : Act → World → Prop} {Q : Exit → Act → World → Prop} {E : Prop} (hgd : o.guard = none) (s x : Operand) (t : TypeId)
    (ho : o.op = .call { callee := .builtin .append, args := #[s, x], argTypes := #[t, t] })
    (e : TypeId) (i : TypeInfo) (z : Value) (size bytes : Nat) (ht : P.underlying t = some (.slice e)) (hi : P.info? e = some i) (hz : i.zero = some z)
    (hsize : i.size = size) (hby : i.bytes = bytes) (hzs : z.cells.size = size) (hsz : 0 < size)
    (v : Value) (n : Nat) (xs : List Value) (hs : a.eval s = v) (hown : RowO N w0 e size v n xs)
    (news : Array Value) (e2 : TypeId) (b : Nat) (hb : w0.heap.size = b) (hx : a.eval x = .slice (some ⟨b, 0, none⟩) 1 1) (hl : news.size = size) (h1 : ∀ u ∈ news.toList, u.oneCell' = true)
    (h63 : (n + 1) * bytes ≤ 140737488355328) (hn : n + 1 ≤ maxLen)
    (h : ∀ g cap w', RowO N w' e size (.slice (some ⟨g, 0, none⟩) (n + 1) cap) (n + 1) (xs ++ news.toList) → w0.grownBy w' v.ownBlock → K (a.put o.dst (.slice (some ⟨g, 0, none⟩) (n + 1) cap)) w') :
    if Region.wanted o (yielded ops a.tmps) = true then Oper.wp P o a (w0.alloc (.cells news e2)) K Q else E := by
  subst hb
  refine step_append_lies _ hgd s x t ho N e i z size bytes ht hi hz hsize hby hzs hsz v n xs hs (World.ownsRow.alloc hown _) ⟨w0.heap.size, 0, none⟩ 1 1 news.toList hx (by simpa using hl)
    (World.news_of_block (heap_alloc_new w0 _)) h1 (by omega) hn h63 (by simp; omega) _ rfl ?_
  intro g cap w' hown' hg _ _
  refine h g cap w' hown' ⟨hg.os, hg.tape, hg.output, ?_, ?_⟩
  · have := hg.size; simp at this; omega
  · intro k hk hne
    rw [hg.block k (by simp; omega) hne]
    exact Below.heap_alloc _ _ _ hk

end Go.Proofs.Ytipgjookfdkciaa
