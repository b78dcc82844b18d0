/- SigmaExtracts: Extract and ExtractAny of anything answer what the document says. No condition. -/
import Derived.Test.YtipgjookfdkciaaZSigmaExtracts7

/- ExtractAny, as the document says it. Condition: the lists that memory can hold. -/
namespace Go.Proofs.Ytipgjookfdkciaa
open Go.RowKit

theorem rext_any (k : Int) (p q : PrfA) (hp : p.l.length ≤ 8796093022206) (w : World) (hP : p.At w) (hQ : q.At w) : Calls Try.prog 16 #[.int .i64 k, p.val, q.val] w (ExtR (exEk k p q) (exLk k p q) w) := by
  by_cases hk : 1 ≤ k ∧ k ≤ 3
  · unfold exEk exLk
    rw [if_pos hk, if_pos hk]
    obtain ⟨j, rfl⟩ : ∃ j : Nat, k = j := ⟨k.toNat, by omega⟩
    simp only [Int.toNat_natCast]
    have h1 : 1 ≤ j := by omega
    have h3 : j ≤ 3 := by omega
    by_cases hf : p.l.length = q.l.length ∧ p.l.length ≠ 0
    · have hee : exE (grp j) p q = if ((p.c :: p.l).all (isSc (grp j).q.m (grp j).size) && (q.c :: q.l).all (isSc (grp j).q.m (grp j).size)) = true then (if p.c = q.c then 9 else 0) else 6 := by unfold exE; rw [if_pos hf]
      rw [List.all_cons, List.all_cons] at hee
      have h := rext_body j h1 h3 p.c q.c p.l q.l p.l.length rfl hf.1.symm hf.2 (by omega) p.aa q.aa p.ca q.ca _ _ _ _ rfl rfl rfl rfl (exE (grp j) p q) (exL (grp j) p q) ?_ ?_ ?_ w hP.s hQ.s
      · unfold PrfA.val
        rwa [← hf.1]
      · intro h9
        rw [h9, if_neg (by decide)] at hee
        exact ⟨hee, by unfold exL; rw [hee, if_neg (by decide)]⟩
      · intro h9 h8
        rw [h9, if_pos rfl, if_pos h8] at hee
        exact ⟨hee, by unfold exL; rw [hee, if_neg (by decide)]⟩
      · intro h9 h8
        rw [h9, if_pos rfl, if_neg h8] at hee
        exact ⟨hee, by unfold exL; rw [hee, if_pos rfl]⟩
    · have hee : exE (grp j) p q = 2 := by unfold exE; rw [if_neg hf]
      have hll : exL (grp j) p q = [] := by unfold exL; rw [hee, if_neg (by decide)]
      rw [hee, hll]
      exact rext_form j h1 h3 p q hf w
  · unfold exEk exLk
    rw [if_neg hk, if_neg hk]
    exact rext_none k hk p q w

set_option maxRecDepth 100000 in
set_option maxHeartbeats 1000000 in
theorem rexAny_none (k : Int) (hk : ¬ (1 ≤ k ∧ k ≤ 3)) (x y : EithA) (w : World) : Calls Try.prog 19 #[.int .i64 k, x.val, y.val] w (AnyR 1 0 [] w) := by
  unfold EithA.val
  generalize x.cs.length = n1 at *
  generalize x.rs.length = n2 at *
  generalize y.cs.length = n3 at *
  generalize y.rs.length = n4 at *
  go_enter Try.func19, Try.ntmps19
  go_wp2_with fail
  have hb9 : Below w.heap.size w ((w.alloc (Obj.cells #[.slice x.ac n1 x.cc, .slice x.ar n2 x.cr] 27)).alloc (Obj.cells #[.slice y.ac n3 y.cc, .slice y.ar n4 y.cr] 27)) := (((Below.refl _ _).alloc (Nat.le_refl _) _).alloc (by simp) _)
  have hx90 : Bx ((w.alloc (Obj.cells #[.slice x.ac n1 x.cc, .slice x.ar n2 x.cr] 27)).alloc (Obj.cells #[.slice y.ac n3 y.cc, .slice y.ar n4 y.cr] 27)) (w.heap.size) 27 [.slice x.ac n1 x.cc, .slice x.ar n2 x.cr] := by
    have h := ((Bx.new w 27 [.slice x.ac n1 x.cc, .slice x.ar n2 x.cr] _ rfl).alloc (Obj.cells #[.slice y.ac n3 y.cc, .slice y.ar n4 y.cr] 27))
    exact h
  have hx91 : Bx ((w.alloc (Obj.cells #[.slice x.ac n1 x.cc, .slice x.ar n2 x.cr] 27)).alloc (Obj.cells #[.slice y.ac n3 y.cc, .slice y.ar n4 y.cr] 27)) (w.heap.size + 1) 27 [.slice y.ac n3 y.cc, .slice y.ar n4 y.cr] := by
    have h := (Bx.new (w.alloc (Obj.cells #[.slice x.ac n1 x.cc, .slice x.ar n2 x.cr] 27)) 27 [.slice y.ac n3 y.cc, .slice y.ar n4 y.cr] _ rfl)
    rw [World.size_alloc] at h
    exact h
  have hz9 : ((w.alloc (Obj.cells #[.slice x.ac n1 x.cc, .slice x.ar n2 x.cr] 27)).alloc (Obj.cells #[.slice y.ac n3 y.cc, .slice y.ar n4 y.cr] 27)).heap.size = w.heap.size + 2 := by simp
  obtain ⟨w1, hq1⟩ : ∃ W9 : World, ((w.alloc (Obj.cells #[.slice x.ac n1 x.cc, .slice x.ar n2 x.cr] 27)).alloc (Obj.cells #[.slice y.ac n3 y.cc, .slice y.ar n4 y.cr] 27)) = W9 := ⟨_, rfl⟩
  rw [hq1] at hb9 hz9 hx90 hx91
  rw [hq1]
  clear hq1
  have HB := Lib.hid hb9
  have Hs1 := Lib.hid hz9
  have Hbx := Lib.hid hx90
  have Hby := Lib.hid hx91
  clear hb9 hz9 hx90 hx91
  have bx_0 := Hbx.out.cell (i := 0) rfl
  have bx_1 := Hbx.out.cell (i := 1) rfl
  have by_0 := Hby.out.cell (i := 0) rfl
  have by_1 := Hby.out.cell (i := 1) rfl
  go_wp2_with fail
  refine (refKind_none k hk w1).mono ?_
  rintro e w2 ⟨rfl, hb9⟩
  clear bx_0 bx_1
  replace Hbx := Lib.hid (Hbx.out.up hb9)
  clear by_0 by_1
  replace Hby := Lib.hid (Hby.out.up hb9)
  replace HB := Lib.hid (below_up HB.out hb9)
  have Hs2 := Lib.hid (show w1.heap.size ≤ w2.heap.size from hb9.size)
  clear hb9
  have bx_0 := Hbx.out.cell (i := 0) rfl
  have bx_1 := Hbx.out.cell (i := 1) rfl
  have by_0 := Hby.out.cell (i := 0) rfl
  have by_1 := Hby.out.cell (i := 1) rfl
  have o3_bx_0 := bx_0; clear bx_0
  have o3_bx_1 := bx_1; clear bx_1
  have o3_by_0 := by_0; clear by_0
  have o3_by_1 := by_1; clear by_1
  have hb9 : Below w2.heap.size w2 (w2.alloc (Obj.cells #[.int .i64 0, .slice none 0 0, .slice none 0 0] 98)) := ((Below.refl _ _).alloc (Nat.le_refl _) _)
  have hx90 : Bx (w2.alloc (Obj.cells #[.int .i64 0, .slice none 0 0, .slice none 0 0] 98)) (w2.heap.size) 98 [.int .i64 0, .slice none 0 0, .slice none 0 0] := by
    have h := (Bx.new w2 98 [.int .i64 0, .slice none 0 0, .slice none 0 0] _ rfl)
    exact h
  have hz9 : (w2.alloc (Obj.cells #[.int .i64 0, .slice none 0 0, .slice none 0 0] 98)).heap.size = w2.heap.size + 1 := by simp
  obtain ⟨w3, hq3⟩ : ∃ W9 : World, (w2.alloc (Obj.cells #[.int .i64 0, .slice none 0 0, .slice none 0 0] 98)) = W9 := ⟨_, rfl⟩
  rw [hq3] at hb9 hz9 hx90
  replace Hbx := Lib.hid (Hbx.out.up hb9)
  replace Hby := Lib.hid (Hby.out.up hb9)
  replace HB := Lib.hid (below_up HB.out hb9)
  have Hs3 := Lib.hid hz9
  have Hbg := Lib.hid hx90
  clear hb9 hz9 hx90
  have bx_0 := Hbx.out.cell (i := 0) rfl
  have bx_1 := Hbx.out.cell (i := 1) rfl
  have by_0 := Hby.out.cell (i := 0) rfl
  have by_1 := Hby.out.cell (i := 1) rfl
  have bg_0 := Hbg.out.cell (i := 0) rfl
  have bg_1 := Hbg.out.cell (i := 1) rfl
  have bg_2 := Hbg.out.cell (i := 2) rfl
  have f4_bg_0 := Hbg.out.frozen 0
  have f4_bg_1 := Hbg.out.frozen 1
  have f4_bg_2 := Hbg.out.frozen 2
  have o4_bx_0 := bx_0; clear bx_0
  have o4_bx_1 := bx_1; clear bx_1
  have o4_by_0 := by_0; clear by_0
  have o4_by_1 := by_1; clear by_1
  have o4_bg_0 := bg_0; clear bg_0
  have o4_bg_1 := bg_1; clear bg_1
  have o4_bg_2 := bg_2; clear bg_2
  have hx9 : Bx (((w3.setCell ⟨w2.heap.size, 0, none⟩ (.int .i64 0)).setCell ⟨w2.heap.size, 1, none⟩ (.slice none 0 0)).setCell ⟨w2.heap.size, 2, none⟩ (.slice none 0 0)) (w2.heap.size) 98 [.int .i64 0, .slice none 0 0, .slice none 0 0] := (((Hbg.out.set 0 (.int .i64 0)).set 1 (.slice none 0 0)).set 2 (.slice none 0 0))
  have hb9 : Below w.heap.size w (((w3.setCell ⟨w2.heap.size, 0, none⟩ (.int .i64 0)).setCell ⟨w2.heap.size, 1, none⟩ (.slice none 0 0)).setCell ⟨w2.heap.size, 2, none⟩ (.slice none 0 0)) := (((HB.out.setCell (show w.heap.size ≤ w2.heap.size by have g0 := Hs1.out; have g1 := Hs2.out; have g2 := Hs3.out; omega) _).setCell (show w.heap.size ≤ w2.heap.size by have g0 := Hs1.out; have g1 := Hs2.out; have g2 := Hs3.out; omega) _).setCell (show w.heap.size ≤ w2.heap.size by have g0 := Hs1.out; have g1 := Hs2.out; have g2 := Hs3.out; omega) _)
  have hz9 : (((w3.setCell ⟨w2.heap.size, 0, none⟩ (.int .i64 0)).setCell ⟨w2.heap.size, 1, none⟩ (.slice none 0 0)).setCell ⟨w2.heap.size, 2, none⟩ (.slice none 0 0)).heap.size = w3.heap.size := by simp [World.setCell]
  have ho9Hbx := (((Hbx.out.other (show _ ≠ w2.heap.size by have g0 := Hs1.out; have g1 := Hs2.out; have g2 := Hs3.out; omega) 0 (.int .i64 0)).other (show _ ≠ w2.heap.size by have g0 := Hs1.out; have g1 := Hs2.out; have g2 := Hs3.out; omega) 1 (.slice none 0 0)).other (show _ ≠ w2.heap.size by have g0 := Hs1.out; have g1 := Hs2.out; have g2 := Hs3.out; omega) 2 (.slice none 0 0))
  have ho9Hby := (((Hby.out.other (show _ ≠ w2.heap.size by have g0 := Hs1.out; have g1 := Hs2.out; have g2 := Hs3.out; omega) 0 (.int .i64 0)).other (show _ ≠ w2.heap.size by have g0 := Hs1.out; have g1 := Hs2.out; have g2 := Hs3.out; omega) 1 (.slice none 0 0)).other (show _ ≠ w2.heap.size by have g0 := Hs1.out; have g1 := Hs2.out; have g2 := Hs3.out; omega) 2 (.slice none 0 0))
  obtain ⟨w4, hq4⟩ : ∃ W9 : World, (((w3.setCell ⟨w2.heap.size, 0, none⟩ (.int .i64 0)).setCell ⟨w2.heap.size, 1, none⟩ (.slice none 0 0)).setCell ⟨w2.heap.size, 2, none⟩ (.slice none 0 0)) = W9 := ⟨_, rfl⟩
  rw [hq4] at hx9 hb9 hz9 ho9Hbx ho9Hby
  clear Hbg HB
  have Hbg := Lib.hid hx9
  have HB := Lib.hid hb9
  have Hs4 := Lib.hid hz9
  replace Hbx := Lib.hid ho9Hbx
  replace Hby := Lib.hid ho9Hby
  clear hx9 hb9 hz9 ho9Hbx ho9Hby
  have bx_0 := Hbx.out.cell (i := 0) rfl
  have bx_1 := Hbx.out.cell (i := 1) rfl
  have by_0 := Hby.out.cell (i := 0) rfl
  have by_1 := Hby.out.cell (i := 1) rfl
  have bg_0 := Hbg.out.cell (i := 0) rfl
  have bg_1 := Hbg.out.cell (i := 1) rfl
  have bg_2 := Hbg.out.cell (i := 2) rfl
  go_wp2_with fail
  clear hq4 o4_bg_2 o4_bg_1 o4_bg_0 o4_by_1 o4_by_0 o4_bx_1 o4_bx_0 f4_bg_2 f4_bg_1 f4_bg_0 hq3 o3_by_1 o3_by_0 o3_bx_1 o3_bx_0
  simp [bodyPost, results, Try.results19, go_sem]
  exact ⟨HB.out, none, 0, rfl, Or.inl rfl⟩

set_option maxRecDepth 100000 in
set_option maxHeartbeats 1000000 in
theorem rexAny_no (k : Nat) (h1 : 1 ≤ k) (h3 : k ≤ 3) (n m r1 r2 : Nat) (ac ar bc br : Option Addr) (cc cr dc dr : Nat) (h : ¬ (n ≠ 0 ∧ m = n ∧ r1 = n ∧ r2 = n)) (w : World) :
    Calls Try.prog 19 #[.int .i64 (k : Int), .agg #[.slice ac n cc, .slice ar r1 cr], .agg #[.slice bc m dc, .slice br r2 dr]] w (AnyR 2 0 [] w) := by
  have hs0 := size_n0 k h1 h3
  by_cases g1 : n = 0
  · have hd : ((n : Int) == 0) = true := by simp; omega
    clear h g1
    go_enter Try.func19, Try.ntmps19
    go_wp2_with fail
    have hb9 : Below w.heap.size w ((w.alloc (Obj.cells #[.slice ac n cc, .slice ar r1 cr] 27)).alloc (Obj.cells #[.slice bc m dc, .slice br r2 dr] 27)) := (((Below.refl _ _).alloc (Nat.le_refl _) _).alloc (by simp) _)
    have hx90 : Bx ((w.alloc (Obj.cells #[.slice ac n cc, .slice ar r1 cr] 27)).alloc (Obj.cells #[.slice bc m dc, .slice br r2 dr] 27)) (w.heap.size) 27 [.slice ac n cc, .slice ar r1 cr] := by
      have h := ((Bx.new w 27 [.slice ac n cc, .slice ar r1 cr] _ rfl).alloc (Obj.cells #[.slice bc m dc, .slice br r2 dr] 27))
      exact h
    have hx91 : Bx ((w.alloc (Obj.cells #[.slice ac n cc, .slice ar r1 cr] 27)).alloc (Obj.cells #[.slice bc m dc, .slice br r2 dr] 27)) (w.heap.size + 1) 27 [.slice bc m dc, .slice br r2 dr] := by
      have h := (Bx.new (w.alloc (Obj.cells #[.slice ac n cc, .slice ar r1 cr] 27)) 27 [.slice bc m dc, .slice br r2 dr] _ rfl)
      rw [World.size_alloc] at h
      exact h
    have hz9 : ((w.alloc (Obj.cells #[.slice ac n cc, .slice ar r1 cr] 27)).alloc (Obj.cells #[.slice bc m dc, .slice br r2 dr] 27)).heap.size = w.heap.size + 2 := by simp
    obtain ⟨w1, hq1⟩ : ∃ W9 : World, ((w.alloc (Obj.cells #[.slice ac n cc, .slice ar r1 cr] 27)).alloc (Obj.cells #[.slice bc m dc, .slice br r2 dr] 27)) = W9 := ⟨_, rfl⟩
    rw [hq1] at hb9 hz9 hx90 hx91
    rw [hq1]
    clear hq1
    have HB := Lib.hid hb9
    have Hs1 := Lib.hid hz9
    have Hbx := Lib.hid hx90
    have Hby := Lib.hid hx91
    clear hb9 hz9 hx90 hx91
    have bx_0 := Hbx.out.cell (i := 0) rfl
    have bx_1 := Hbx.out.cell (i := 1) rfl
    have by_0 := Hby.out.cell (i := 0) rfl
    have by_1 := Hby.out.cell (i := 1) rfl
    go_wp2_with fail
    refine (refKind_some k h1 h3 w1).mono ?_
    rintro e w2 ⟨aq, cq, ap, cp, rfl, hq9, hp9, hb9⟩
    clear bx_0 bx_1
    replace Hbx := Lib.hid (Hbx.out.up hb9)
    clear by_0 by_1
    replace Hby := Lib.hid (Hby.out.up hb9)
    replace HB := Lib.hid (below_up HB.out hb9)
    have Hs2 := Lib.hid (show w1.heap.size ≤ w2.heap.size from hb9.size)
    have HRG := Lib.hid (RG.mk (G := grp k) hq9 hp9)
    clear hq9 hp9
    clear hb9
    have bx_0 := Hbx.out.cell (i := 0) rfl
    have bx_1 := Hbx.out.cell (i := 1) rfl
    have by_0 := Hby.out.cell (i := 0) rfl
    have by_1 := Hby.out.cell (i := 1) rfl
    have HK := Lib.hid (Below.refl w2.heap.size w2)
    have o3_bx_0 := bx_0; clear bx_0
    have o3_bx_1 := bx_1; clear bx_1
    have o3_by_0 := by_0; clear by_0
    have o3_by_1 := by_1; clear by_1
    have hb9 : Below w2.heap.size w2 (w2.alloc (Obj.cells #[.int .i64 ((grp k).size : Int), .slice aq (dl (grp k).q.m) cq, .slice ap (dl (grp k).p.m) cp] 98)) := ((Below.refl _ _).alloc (Nat.le_refl _) _)
    have hx90 : Bx (w2.alloc (Obj.cells #[.int .i64 ((grp k).size : Int), .slice aq (dl (grp k).q.m) cq, .slice ap (dl (grp k).p.m) cp] 98)) (w2.heap.size) 98 [.int .i64 ((grp k).size : Int), .slice aq (dl (grp k).q.m) cq, .slice ap (dl (grp k).p.m) cp] := by
      have h := (Bx.new w2 98 [.int .i64 ((grp k).size : Int), .slice aq (dl (grp k).q.m) cq, .slice ap (dl (grp k).p.m) cp] _ rfl)
      exact h
    have hz9 : (w2.alloc (Obj.cells #[.int .i64 ((grp k).size : Int), .slice aq (dl (grp k).q.m) cq, .slice ap (dl (grp k).p.m) cp] 98)).heap.size = w2.heap.size + 1 := by simp
    obtain ⟨w3, hq3⟩ : ∃ W9 : World, (w2.alloc (Obj.cells #[.int .i64 ((grp k).size : Int), .slice aq (dl (grp k).q.m) cq, .slice ap (dl (grp k).p.m) cp] 98)) = W9 := ⟨_, rfl⟩
    rw [hq3] at hb9 hz9 hx90
    replace Hbx := Lib.hid (Hbx.out.up hb9)
    replace Hby := Lib.hid (Hby.out.up hb9)
    replace HK := Lib.hid (below_up HK.out hb9)
    replace HB := Lib.hid (below_up HB.out hb9)
    have Hs3 := Lib.hid hz9
    have Hbg := Lib.hid hx90
    clear hb9 hz9 hx90
    have bx_0 := Hbx.out.cell (i := 0) rfl
    have bx_1 := Hbx.out.cell (i := 1) rfl
    have by_0 := Hby.out.cell (i := 0) rfl
    have by_1 := Hby.out.cell (i := 1) rfl
    have bg_0 := Hbg.out.cell (i := 0) rfl
    have bg_1 := Hbg.out.cell (i := 1) rfl
    have bg_2 := Hbg.out.cell (i := 2) rfl
    go_wp2_with fail
    clear hq3 o3_by_1 o3_by_0 o3_bx_1 o3_bx_0
    simp [bodyPost, results, Try.results19, go_sem]
    exact ⟨HB.out, none, 0, rfl, Or.inl rfl⟩
  have hd : ((n : Int) == 0) = false := by simp; omega
  by_cases g2 : m = n
  case neg =>
    have hd2 : ((m : Int) != (n : Int)) = true := by simp; omega
    clear h g1 g2
    go_enter Try.func19, Try.ntmps19
    go_wp2_with fail
    have hb9 : Below w.heap.size w ((w.alloc (Obj.cells #[.slice ac n cc, .slice ar r1 cr] 27)).alloc (Obj.cells #[.slice bc m dc, .slice br r2 dr] 27)) := (((Below.refl _ _).alloc (Nat.le_refl _) _).alloc (by simp) _)
    have hx90 : Bx ((w.alloc (Obj.cells #[.slice ac n cc, .slice ar r1 cr] 27)).alloc (Obj.cells #[.slice bc m dc, .slice br r2 dr] 27)) (w.heap.size) 27 [.slice ac n cc, .slice ar r1 cr] := by
      have h := ((Bx.new w 27 [.slice ac n cc, .slice ar r1 cr] _ rfl).alloc (Obj.cells #[.slice bc m dc, .slice br r2 dr] 27))
      exact h
    have hx91 : Bx ((w.alloc (Obj.cells #[.slice ac n cc, .slice ar r1 cr] 27)).alloc (Obj.cells #[.slice bc m dc, .slice br r2 dr] 27)) (w.heap.size + 1) 27 [.slice bc m dc, .slice br r2 dr] := by
      have h := (Bx.new (w.alloc (Obj.cells #[.slice ac n cc, .slice ar r1 cr] 27)) 27 [.slice bc m dc, .slice br r2 dr] _ rfl)
      rw [World.size_alloc] at h
      exact h
    have hz9 : ((w.alloc (Obj.cells #[.slice ac n cc, .slice ar r1 cr] 27)).alloc (Obj.cells #[.slice bc m dc, .slice br r2 dr] 27)).heap.size = w.heap.size + 2 := by simp
    obtain ⟨w1, hq1⟩ : ∃ W9 : World, ((w.alloc (Obj.cells #[.slice ac n cc, .slice ar r1 cr] 27)).alloc (Obj.cells #[.slice bc m dc, .slice br r2 dr] 27)) = W9 := ⟨_, rfl⟩
    rw [hq1] at hb9 hz9 hx90 hx91
    rw [hq1]
    clear hq1
    have HB := Lib.hid hb9
    have Hs1 := Lib.hid hz9
    have Hbx := Lib.hid hx90
    have Hby := Lib.hid hx91
    clear hb9 hz9 hx90 hx91
    have bx_0 := Hbx.out.cell (i := 0) rfl
    have bx_1 := Hbx.out.cell (i := 1) rfl
    have by_0 := Hby.out.cell (i := 0) rfl
    have by_1 := Hby.out.cell (i := 1) rfl
    go_wp2_with fail
    refine (refKind_some k h1 h3 w1).mono ?_
    rintro e w2 ⟨aq, cq, ap, cp, rfl, hq9, hp9, hb9⟩
    clear bx_0 bx_1
    replace Hbx := Lib.hid (Hbx.out.up hb9)
    clear by_0 by_1
    replace Hby := Lib.hid (Hby.out.up hb9)
    replace HB := Lib.hid (below_up HB.out hb9)
    have Hs2 := Lib.hid (show w1.heap.size ≤ w2.heap.size from hb9.size)
    have HRG := Lib.hid (RG.mk (G := grp k) hq9 hp9)
    clear hq9 hp9
    clear hb9
    have bx_0 := Hbx.out.cell (i := 0) rfl
    have bx_1 := Hbx.out.cell (i := 1) rfl
    have by_0 := Hby.out.cell (i := 0) rfl
    have by_1 := Hby.out.cell (i := 1) rfl
    have HK := Lib.hid (Below.refl w2.heap.size w2)
    have o3_bx_0 := bx_0; clear bx_0
    have o3_bx_1 := bx_1; clear bx_1
    have o3_by_0 := by_0; clear by_0
    have o3_by_1 := by_1; clear by_1
    have hb9 : Below w2.heap.size w2 (w2.alloc (Obj.cells #[.int .i64 ((grp k).size : Int), .slice aq (dl (grp k).q.m) cq, .slice ap (dl (grp k).p.m) cp] 98)) := ((Below.refl _ _).alloc (Nat.le_refl _) _)
    have hx90 : Bx (w2.alloc (Obj.cells #[.int .i64 ((grp k).size : Int), .slice aq (dl (grp k).q.m) cq, .slice ap (dl (grp k).p.m) cp] 98)) (w2.heap.size) 98 [.int .i64 ((grp k).size : Int), .slice aq (dl (grp k).q.m) cq, .slice ap (dl (grp k).p.m) cp] := by
      have h := (Bx.new w2 98 [.int .i64 ((grp k).size : Int), .slice aq (dl (grp k).q.m) cq, .slice ap (dl (grp k).p.m) cp] _ rfl)
      exact h
    have hz9 : (w2.alloc (Obj.cells #[.int .i64 ((grp k).size : Int), .slice aq (dl (grp k).q.m) cq, .slice ap (dl (grp k).p.m) cp] 98)).heap.size = w2.heap.size + 1 := by simp
    obtain ⟨w3, hq3⟩ : ∃ W9 : World, (w2.alloc (Obj.cells #[.int .i64 ((grp k).size : Int), .slice aq (dl (grp k).q.m) cq, .slice ap (dl (grp k).p.m) cp] 98)) = W9 := ⟨_, rfl⟩
    rw [hq3] at hb9 hz9 hx90
    replace Hbx := Lib.hid (Hbx.out.up hb9)
    replace Hby := Lib.hid (Hby.out.up hb9)
    replace HK := Lib.hid (below_up HK.out hb9)
    replace HB := Lib.hid (below_up HB.out hb9)
    have Hs3 := Lib.hid hz9
    have Hbg := Lib.hid hx90
    clear hb9 hz9 hx90
    have bx_0 := Hbx.out.cell (i := 0) rfl
    have bx_1 := Hbx.out.cell (i := 1) rfl
    have by_0 := Hby.out.cell (i := 0) rfl
    have by_1 := Hby.out.cell (i := 1) rfl
    have bg_0 := Hbg.out.cell (i := 0) rfl
    have bg_1 := Hbg.out.cell (i := 1) rfl
    have bg_2 := Hbg.out.cell (i := 2) rfl
    go_wp2_with fail
    clear hq3 o3_by_1 o3_by_0 o3_bx_1 o3_bx_0
    simp [bodyPost, results, Try.results19, go_sem]
    exact ⟨HB.out, none, 0, rfl, Or.inl rfl⟩
  have hd2 : ((m : Int) != (n : Int)) = false := by simp; omega
  by_cases g3 : r1 = n
  case neg =>
    have hd3 : ((r1 : Int) != (n : Int)) = true := by simp; omega
    clear h g1 g2 g3
    go_enter Try.func19, Try.ntmps19
    go_wp2_with fail
    have hb9 : Below w.heap.size w ((w.alloc (Obj.cells #[.slice ac n cc, .slice ar r1 cr] 27)).alloc (Obj.cells #[.slice bc m dc, .slice br r2 dr] 27)) := (((Below.refl _ _).alloc (Nat.le_refl _) _).alloc (by simp) _)
    have hx90 : Bx ((w.alloc (Obj.cells #[.slice ac n cc, .slice ar r1 cr] 27)).alloc (Obj.cells #[.slice bc m dc, .slice br r2 dr] 27)) (w.heap.size) 27 [.slice ac n cc, .slice ar r1 cr] := by
      have h := ((Bx.new w 27 [.slice ac n cc, .slice ar r1 cr] _ rfl).alloc (Obj.cells #[.slice bc m dc, .slice br r2 dr] 27))
      exact h
    have hx91 : Bx ((w.alloc (Obj.cells #[.slice ac n cc, .slice ar r1 cr] 27)).alloc (Obj.cells #[.slice bc m dc, .slice br r2 dr] 27)) (w.heap.size + 1) 27 [.slice bc m dc, .slice br r2 dr] := by
      have h := (Bx.new (w.alloc (Obj.cells #[.slice ac n cc, .slice ar r1 cr] 27)) 27 [.slice bc m dc, .slice br r2 dr] _ rfl)
      rw [World.size_alloc] at h
      exact h
    have hz9 : ((w.alloc (Obj.cells #[.slice ac n cc, .slice ar r1 cr] 27)).alloc (Obj.cells #[.slice bc m dc, .slice br r2 dr] 27)).heap.size = w.heap.size + 2 := by simp
    obtain ⟨w1, hq1⟩ : ∃ W9 : World, ((w.alloc (Obj.cells #[.slice ac n cc, .slice ar r1 cr] 27)).alloc (Obj.cells #[.slice bc m dc, .slice br r2 dr] 27)) = W9 := ⟨_, rfl⟩
    rw [hq1] at hb9 hz9 hx90 hx91
    rw [hq1]
    clear hq1
    have HB := Lib.hid hb9
    have Hs1 := Lib.hid hz9
    have Hbx := Lib.hid hx90
    have Hby := Lib.hid hx91
    clear hb9 hz9 hx90 hx91
    have bx_0 := Hbx.out.cell (i := 0) rfl
    have bx_1 := Hbx.out.cell (i := 1) rfl
    have by_0 := Hby.out.cell (i := 0) rfl
    have by_1 := Hby.out.cell (i := 1) rfl
    go_wp2_with fail
    refine (refKind_some k h1 h3 w1).mono ?_
    rintro e w2 ⟨aq, cq, ap, cp, rfl, hq9, hp9, hb9⟩
    clear bx_0 bx_1
    replace Hbx := Lib.hid (Hbx.out.up hb9)
    clear by_0 by_1
    replace Hby := Lib.hid (Hby.out.up hb9)
    replace HB := Lib.hid (below_up HB.out hb9)
    have Hs2 := Lib.hid (show w1.heap.size ≤ w2.heap.size from hb9.size)
    have HRG := Lib.hid (RG.mk (G := grp k) hq9 hp9)
    clear hq9 hp9
    clear hb9
    have bx_0 := Hbx.out.cell (i := 0) rfl
    have bx_1 := Hbx.out.cell (i := 1) rfl
    have by_0 := Hby.out.cell (i := 0) rfl
    have by_1 := Hby.out.cell (i := 1) rfl
    have HK := Lib.hid (Below.refl w2.heap.size w2)
    have o3_bx_0 := bx_0; clear bx_0
    have o3_bx_1 := bx_1; clear bx_1
    have o3_by_0 := by_0; clear by_0
    have o3_by_1 := by_1; clear by_1
    have hb9 : Below w2.heap.size w2 (w2.alloc (Obj.cells #[.int .i64 ((grp k).size : Int), .slice aq (dl (grp k).q.m) cq, .slice ap (dl (grp k).p.m) cp] 98)) := ((Below.refl _ _).alloc (Nat.le_refl _) _)
    have hx90 : Bx (w2.alloc (Obj.cells #[.int .i64 ((grp k).size : Int), .slice aq (dl (grp k).q.m) cq, .slice ap (dl (grp k).p.m) cp] 98)) (w2.heap.size) 98 [.int .i64 ((grp k).size : Int), .slice aq (dl (grp k).q.m) cq, .slice ap (dl (grp k).p.m) cp] := by
      have h := (Bx.new w2 98 [.int .i64 ((grp k).size : Int), .slice aq (dl (grp k).q.m) cq, .slice ap (dl (grp k).p.m) cp] _ rfl)
      exact h
    have hz9 : (w2.alloc (Obj.cells #[.int .i64 ((grp k).size : Int), .slice aq (dl (grp k).q.m) cq, .slice ap (dl (grp k).p.m) cp] 98)).heap.size = w2.heap.size + 1 := by simp
    obtain ⟨w3, hq3⟩ : ∃ W9 : World, (w2.alloc (Obj.cells #[.int .i64 ((grp k).size : Int), .slice aq (dl (grp k).q.m) cq, .slice ap (dl (grp k).p.m) cp] 98)) = W9 := ⟨_, rfl⟩
    rw [hq3] at hb9 hz9 hx90
    replace Hbx := Lib.hid (Hbx.out.up hb9)
    replace Hby := Lib.hid (Hby.out.up hb9)
    replace HK := Lib.hid (below_up HK.out hb9)
    replace HB := Lib.hid (below_up HB.out hb9)
    have Hs3 := Lib.hid hz9
    have Hbg := Lib.hid hx90
    clear hb9 hz9 hx90
    have bx_0 := Hbx.out.cell (i := 0) rfl
    have bx_1 := Hbx.out.cell (i := 1) rfl
    have by_0 := Hby.out.cell (i := 0) rfl
    have by_1 := Hby.out.cell (i := 1) rfl
    have bg_0 := Hbg.out.cell (i := 0) rfl
    have bg_1 := Hbg.out.cell (i := 1) rfl
    have bg_2 := Hbg.out.cell (i := 2) rfl
    go_wp2_with fail
    clear hq3 o3_by_1 o3_by_0 o3_bx_1 o3_bx_0
    simp [bodyPost, results, Try.results19, go_sem]
    exact ⟨HB.out, none, 0, rfl, Or.inl rfl⟩
  have hd3 : ((r1 : Int) != (n : Int)) = false := by simp; omega
  have hd4 : ((r2 : Int) != (n : Int)) = true := by simp; omega
  clear h g1 g2 g3
  go_enter Try.func19, Try.ntmps19
  go_wp2_with fail
  have hb9 : Below w.heap.size w ((w.alloc (Obj.cells #[.slice ac n cc, .slice ar r1 cr] 27)).alloc (Obj.cells #[.slice bc m dc, .slice br r2 dr] 27)) := (((Below.refl _ _).alloc (Nat.le_refl _) _).alloc (by simp) _)
  have hx90 : Bx ((w.alloc (Obj.cells #[.slice ac n cc, .slice ar r1 cr] 27)).alloc (Obj.cells #[.slice bc m dc, .slice br r2 dr] 27)) (w.heap.size) 27 [.slice ac n cc, .slice ar r1 cr] := by
    have h := ((Bx.new w 27 [.slice ac n cc, .slice ar r1 cr] _ rfl).alloc (Obj.cells #[.slice bc m dc, .slice br r2 dr] 27))
    exact h
  have hx91 : Bx ((w.alloc (Obj.cells #[.slice ac n cc, .slice ar r1 cr] 27)).alloc (Obj.cells #[.slice bc m dc, .slice br r2 dr] 27)) (w.heap.size + 1) 27 [.slice bc m dc, .slice br r2 dr] := by
    have h := (Bx.new (w.alloc (Obj.cells #[.slice ac n cc, .slice ar r1 cr] 27)) 27 [.slice bc m dc, .slice br r2 dr] _ rfl)
    rw [World.size_alloc] at h
    exact h
  have hz9 : ((w.alloc (Obj.cells #[.slice ac n cc, .slice ar r1 cr] 27)).alloc (Obj.cells #[.slice bc m dc, .slice br r2 dr] 27)).heap.size = w.heap.size + 2 := by simp
  obtain ⟨w1, hq1⟩ : ∃ W9 : World, ((w.alloc (Obj.cells #[.slice ac n cc, .slice ar r1 cr] 27)).alloc (Obj.cells #[.slice bc m dc, .slice br r2 dr] 27)) = W9 := ⟨_, rfl⟩
  rw [hq1] at hb9 hz9 hx90 hx91
  rw [hq1]
  clear hq1
  have HB := Lib.hid hb9
  have Hs1 := Lib.hid hz9
  have Hbx := Lib.hid hx90
  have Hby := Lib.hid hx91
  clear hb9 hz9 hx90 hx91
  have bx_0 := Hbx.out.cell (i := 0) rfl
  have bx_1 := Hbx.out.cell (i := 1) rfl
  have by_0 := Hby.out.cell (i := 0) rfl
  have by_1 := Hby.out.cell (i := 1) rfl
  go_wp2_with fail
  refine (refKind_some k h1 h3 w1).mono ?_
  rintro e w2 ⟨aq, cq, ap, cp, rfl, hq9, hp9, hb9⟩
  clear bx_0 bx_1
  replace Hbx := Lib.hid (Hbx.out.up hb9)
  clear by_0 by_1
  replace Hby := Lib.hid (Hby.out.up hb9)
  replace HB := Lib.hid (below_up HB.out hb9)
  have Hs2 := Lib.hid (show w1.heap.size ≤ w2.heap.size from hb9.size)
  have HRG := Lib.hid (RG.mk (G := grp k) hq9 hp9)
  clear hq9 hp9
  clear hb9
  have bx_0 := Hbx.out.cell (i := 0) rfl
  have bx_1 := Hbx.out.cell (i := 1) rfl
  have by_0 := Hby.out.cell (i := 0) rfl
  have by_1 := Hby.out.cell (i := 1) rfl
  have HK := Lib.hid (Below.refl w2.heap.size w2)
  have o3_bx_0 := bx_0; clear bx_0
  have o3_bx_1 := bx_1; clear bx_1
  have o3_by_0 := by_0; clear by_0
  have o3_by_1 := by_1; clear by_1
  have hb9 : Below w2.heap.size w2 (w2.alloc (Obj.cells #[.int .i64 ((grp k).size : Int), .slice aq (dl (grp k).q.m) cq, .slice ap (dl (grp k).p.m) cp] 98)) := ((Below.refl _ _).alloc (Nat.le_refl _) _)
  have hx90 : Bx (w2.alloc (Obj.cells #[.int .i64 ((grp k).size : Int), .slice aq (dl (grp k).q.m) cq, .slice ap (dl (grp k).p.m) cp] 98)) (w2.heap.size) 98 [.int .i64 ((grp k).size : Int), .slice aq (dl (grp k).q.m) cq, .slice ap (dl (grp k).p.m) cp] := by
    have h := (Bx.new w2 98 [.int .i64 ((grp k).size : Int), .slice aq (dl (grp k).q.m) cq, .slice ap (dl (grp k).p.m) cp] _ rfl)
    exact h
  have hz9 : (w2.alloc (Obj.cells #[.int .i64 ((grp k).size : Int), .slice aq (dl (grp k).q.m) cq, .slice ap (dl (grp k).p.m) cp] 98)).heap.size = w2.heap.size + 1 := by simp
  obtain ⟨w3, hq3⟩ : ∃ W9 : World, (w2.alloc (Obj.cells #[.int .i64 ((grp k).size : Int), .slice aq (dl (grp k).q.m) cq, .slice ap (dl (grp k).p.m) cp] 98)) = W9 := ⟨_, rfl⟩
  rw [hq3] at hb9 hz9 hx90
  replace Hbx := Lib.hid (Hbx.out.up hb9)
  replace Hby := Lib.hid (Hby.out.up hb9)
  replace HK := Lib.hid (below_up HK.out hb9)
  replace HB := Lib.hid (below_up HB.out hb9)
  have Hs3 := Lib.hid hz9
  have Hbg := Lib.hid hx90
  clear hb9 hz9 hx90
  have bx_0 := Hbx.out.cell (i := 0) rfl
  have bx_1 := Hbx.out.cell (i := 1) rfl
  have by_0 := Hby.out.cell (i := 0) rfl
  have by_1 := Hby.out.cell (i := 1) rfl
  have bg_0 := Hbg.out.cell (i := 0) rfl
  have bg_1 := Hbg.out.cell (i := 1) rfl
  have bg_2 := Hbg.out.cell (i := 2) rfl
  go_wp2_with fail
  clear hq3 o3_by_1 o3_by_0 o3_bx_1 o3_bx_0
  simp [bodyPost, results, Try.results19, go_sem]
  exact ⟨HB.out, none, 0, rfl, Or.inl rfl⟩


set_option maxRecDepth 100000 in
set_option maxHeartbeats 2000000 in
theorem rexAny_rows (k : Nat) (h1 : 1 ≤ k) (h3 : k ≤ 3) (n : Nat) (hn0 : n ≠ 0) (hn : n ≤ 8796093022206) (rs ss : List RowA) (hrs : rs.length = n) (hss : ss.length = n) (hb : (List.zipWith fit2 rs ss).all id = false) (ac ar bc br : Option Addr) (cc cr dc dr : Nat) (w : World) (hR : RowsAt w ar rs) (hS : RowsAt w br ss) :
    Calls Try.prog 19 #[.int .i64 (k : Int), .agg #[.slice ac n cc, .slice ar n cr], .agg #[.slice bc n dc, .slice br n dr]] w (AnyR 2 0 [] w) := by
  have HR := Lib.hid hR
  have HS := Lib.hid hS
  have HBB := Lib.hid hb
  have HRL := Lib.hid hrs
  have HSL := Lib.hid hss
  clear hR hS hb hrs hss
  have hs0 := size_n0 k h1 h3
  have hd : ((n : Int) == 0) = false := by simp; omega
  have hd2 : ((n : Int) != (n : Int)) = false := by simp
  go_enter Try.func19, Try.ntmps19
  go_wp2_with fail
  have hb9 : Below w.heap.size w ((w.alloc (Obj.cells #[.slice ac n cc, .slice ar n cr] 27)).alloc (Obj.cells #[.slice bc n dc, .slice br n dr] 27)) := (((Below.refl _ _).alloc (Nat.le_refl _) _).alloc (by simp) _)
  have hx90 : Bx ((w.alloc (Obj.cells #[.slice ac n cc, .slice ar n cr] 27)).alloc (Obj.cells #[.slice bc n dc, .slice br n dr] 27)) (w.heap.size) 27 [.slice ac n cc, .slice ar n cr] := by
    have h := ((Bx.new w 27 [.slice ac n cc, .slice ar n cr] _ rfl).alloc (Obj.cells #[.slice bc n dc, .slice br n dr] 27))
    exact h
  have hx91 : Bx ((w.alloc (Obj.cells #[.slice ac n cc, .slice ar n cr] 27)).alloc (Obj.cells #[.slice bc n dc, .slice br n dr] 27)) (w.heap.size + 1) 27 [.slice bc n dc, .slice br n dr] := by
    have h := (Bx.new (w.alloc (Obj.cells #[.slice ac n cc, .slice ar n cr] 27)) 27 [.slice bc n dc, .slice br n dr] _ rfl)
    rw [World.size_alloc] at h
    exact h
  have hz9 : ((w.alloc (Obj.cells #[.slice ac n cc, .slice ar n cr] 27)).alloc (Obj.cells #[.slice bc n dc, .slice br n dr] 27)).heap.size = w.heap.size + 2 := by simp
  obtain ⟨w1, hq1⟩ : ∃ W9 : World, ((w.alloc (Obj.cells #[.slice ac n cc, .slice ar n cr] 27)).alloc (Obj.cells #[.slice bc n dc, .slice br n dr] 27)) = W9 := ⟨_, rfl⟩
  rw [hq1] at hb9 hz9 hx90 hx91
  rw [hq1]
  clear hq1
  have HB := Lib.hid hb9
  have Hs1 := Lib.hid hz9
  have Hbx := Lib.hid hx90
  have Hby := Lib.hid hx91
  clear hb9 hz9 hx90 hx91
  have bx_0 := Hbx.out.cell (i := 0) rfl
  have bx_1 := Hbx.out.cell (i := 1) rfl
  have by_0 := Hby.out.cell (i := 0) rfl
  have by_1 := Hby.out.cell (i := 1) rfl
  go_wp2_with fail
  refine (refKind_some k h1 h3 w1).mono ?_
  rintro e w2 ⟨aq, cq, ap, cp, rfl, hq9, hp9, hb9⟩
  clear bx_0 bx_1
  replace Hbx := Lib.hid (Hbx.out.up hb9)
  clear by_0 by_1
  replace Hby := Lib.hid (Hby.out.up hb9)
  replace HB := Lib.hid (below_up HB.out hb9)
  have Hs2 := Lib.hid (show w1.heap.size ≤ w2.heap.size from hb9.size)
  have HRG := Lib.hid (RG.mk (G := grp k) hq9 hp9)
  clear hq9 hp9
  clear hb9
  have bx_0 := Hbx.out.cell (i := 0) rfl
  have bx_1 := Hbx.out.cell (i := 1) rfl
  have by_0 := Hby.out.cell (i := 0) rfl
  have by_1 := Hby.out.cell (i := 1) rfl
  have HK := Lib.hid (Below.refl w2.heap.size w2)
  have o3_bx_0 := bx_0; clear bx_0
  have o3_bx_1 := bx_1; clear bx_1
  have o3_by_0 := by_0; clear by_0
  have o3_by_1 := by_1; clear by_1
  have hb9 : Below w2.heap.size w2 (w2.alloc (Obj.cells #[.int .i64 ((grp k).size : Int), .slice aq (dl (grp k).q.m) cq, .slice ap (dl (grp k).p.m) cp] 98)) := ((Below.refl _ _).alloc (Nat.le_refl _) _)
  have hx90 : Bx (w2.alloc (Obj.cells #[.int .i64 ((grp k).size : Int), .slice aq (dl (grp k).q.m) cq, .slice ap (dl (grp k).p.m) cp] 98)) (w2.heap.size) 98 [.int .i64 ((grp k).size : Int), .slice aq (dl (grp k).q.m) cq, .slice ap (dl (grp k).p.m) cp] := by
    have h := (Bx.new w2 98 [.int .i64 ((grp k).size : Int), .slice aq (dl (grp k).q.m) cq, .slice ap (dl (grp k).p.m) cp] _ rfl)
    exact h
  have hz9 : (w2.alloc (Obj.cells #[.int .i64 ((grp k).size : Int), .slice aq (dl (grp k).q.m) cq, .slice ap (dl (grp k).p.m) cp] 98)).heap.size = w2.heap.size + 1 := by simp
  obtain ⟨w3, hq3⟩ : ∃ W9 : World, (w2.alloc (Obj.cells #[.int .i64 ((grp k).size : Int), .slice aq (dl (grp k).q.m) cq, .slice ap (dl (grp k).p.m) cp] 98)) = W9 := ⟨_, rfl⟩
  rw [hq3] at hb9 hz9 hx90
  replace Hbx := Lib.hid (Hbx.out.up hb9)
  replace Hby := Lib.hid (Hby.out.up hb9)
  replace HK := Lib.hid (below_up HK.out hb9)
  replace HB := Lib.hid (below_up HB.out hb9)
  have Hs3 := Lib.hid hz9
  have Hbg := Lib.hid hx90
  clear hb9 hz9 hx90
  have bx_0 := Hbx.out.cell (i := 0) rfl
  have bx_1 := Hbx.out.cell (i := 1) rfl
  have by_0 := Hby.out.cell (i := 0) rfl
  have by_1 := Hby.out.cell (i := 1) rfl
  have bg_0 := Hbg.out.cell (i := 0) rfl
  have bg_1 := Hbg.out.cell (i := 1) rfl
  have bg_2 := Hbg.out.cell (i := 2) rfl
  have BL := Lib.hid (Below.refl w3.heap.size w3)
  go_wp2_with fail
  clear hq3 o3_by_1 o3_by_0 o3_bx_1 o3_bx_0
  go_loopw [11] (fun i wr => ∃ j : Nat, j ≤ n ∧ i = .int .i64 j ∧ Hid (Below w3.heap.size w3 wr) ∧ Hid (((List.zipWith fit2 rs ss).take j).all id = true)) (fun i _ => n - (intOf i).toNat)
  case atStart => exact ⟨0, Nat.zero_le _, rfl, BL, rfl⟩
  case round =>
    obtain ⟨j, hj, rfl, HL9, HAL⟩ := hrel
    have hb9 := HL9.out
    clear HL9
    clear bx_0 bx_1
    replace Hbx := Lib.hid (Hbx.out.up hb9)
    clear by_0 by_1
    replace Hby := Lib.hid (Hby.out.up hb9)
    clear bg_0 bg_1 bg_2
    replace Hbg := Lib.hid (Hbg.out.up hb9)
    replace HK := Lib.hid (below_up HK.out hb9)
    replace BL := Lib.hid (below_up BL.out hb9)
    replace HB := Lib.hid (below_up HB.out hb9)
    have Hs3' := Lib.hid (show w3.heap.size ≤ wr.heap.size from hb9.size)
    clear hb9
    have bx_0 := Hbx.out.cell (i := 0) rfl
    have bx_1 := Hbx.out.cell (i := 1) rfl
    have by_0 := Hby.out.cell (i := 0) rfl
    have by_1 := Hby.out.cell (i := 1) rfl
    have bg_0 := Hbg.out.cell (i := 0) rfl
    have bg_1 := Hbg.out.cell (i := 1) rfl
    have bg_2 := Hbg.out.cell (i := 2) rfl
    by_cases hjn : j < n
    · have hjr : j < rs.length := by rw [HRL.out]; exact hjn
      have hjs : j < ss.length := by rw [HSL.out]; exact hjn
      obtain ⟨b1, o1, rfl, hb10, hb1, hc1⟩ := HR.out.cell HB.out j hjr
      obtain ⟨b2, o2, rfl, hb20, hb2, hc2⟩ := HS.out.cell HB.out j hjs
      have HSN := Lib.hid (zip_all_snoc (f := fit2) hjr hjs HAL.out)
      have HNO := Lib.hid (zip_all_not (f := fit2) hjr hjs)
      generalize rs[j] = r at *
      generalize ss[j] = s at *
      have hfr : fit2 r s = decide (r.l.length ≠ 0 ∧ r.l.length = s.l.length) := rfl
      generalize r.l.length = la at *
      generalize s.l.length = lb at *
      by_cases g2 : la = lb
      · have hq2 : ((la : Int) != (lb : Int)) = false := by simp; omega
        by_cases g1 : la = 0
        · have hq : ((la : Int) == 0) = true := by simp; omega
          have hf : fit2 r s = false := by rw [hfr]; simp [g1]
          have HF := Lib.hid (HNO.out hf)
          clear hf hfr g1 g2
          go_wp2_with fail
          have hl_bx := Hbx.out.lt
          have hl_by := Hby.out.lt
          have hl_bg := Hbg.out.lt
          refine wp_region_over (by kernel_rfl) (by kernel_rfl) ?_
          have hov_bx := fun (E : Over wr) o => E.cell (b := w.heap.size) o hl_bx
          have hov_by := fun (E : Over wr) o => E.cell (b := w.heap.size + 1) o hl_by
          have hov_bg := fun (E : Over wr) o => E.cell (b := w2.heap.size) o hl_bg
          have hov_b1 := fun (E : Over wr) o => E.cell (b := b1) o hb1
          have hov_b2 := fun (E : Over wr) o => E.cell (b := b2) o hb2
          repeat (go_big_quiet_step (first | fail))
          all_goals (try unfold elV limbV)
          repeat (go_big_quiet_step (first | fail))
          all_goals (try unfold elV limbV)
          repeat (go_big_quiet_step (first | fail))
          all_goals (try unfold ciphV)
          refine wpQuiet_nil ?_
          rintro _ ⟨E, rfl⟩
          clear hov_bx hl_bx hov_by hl_by hov_bg hl_bg hov_b1 hov_b2
          clear bx_0 bx_1
          replace Hbx := Lib.hid (Hbx.out.up E.h)
          clear by_0 by_1
          replace Hby := Lib.hid (Hby.out.up E.h)
          clear bg_0 bg_1 bg_2
          replace Hbg := Lib.hid (Hbg.out.up E.h)
          replace HK := Lib.hid (below_up HK.out E.h)
          replace BL := Lib.hid (below_up BL.out E.h)
          replace HB := Lib.hid (below_up HB.out E.h)
          have Hs4 := Lib.hid (show wr.heap.size ≤ E.w.heap.size from E.h.size)
          obtain ⟨w4, hq9⟩ : ∃ W9 : World, E.w = W9 := ⟨_, rfl⟩
          rw [hq9] at Hbx Hby Hbg HK BL HB Hs4 ⊢
          clear hq9 E
          have bx_0 := Hbx.out.cell (i := 0) rfl
          have bx_1 := Hbx.out.cell (i := 1) rfl
          have by_0 := Hby.out.cell (i := 0) rfl
          have by_1 := Hby.out.cell (i := 1) rfl
          have bg_0 := Hbg.out.cell (i := 0) rfl
          have bg_1 := Hbg.out.cell (i := 1) rfl
          have bg_2 := Hbg.out.cell (i := 2) rfl
          go_wp2_with fail
          simp [bodyPost, results, Try.results19, go_sem]
          exact ⟨HB.out, none, 0, rfl, Or.inl rfl⟩
        · have hq : ((la : Int) == 0) = false := by simp; omega
          have hf : fit2 r s = true := by rw [hfr]; simp [g1, g2]; omega
          have HF := Lib.hid (HSN.out hf)
          clear hf hfr g1 g2
          go_wp2_with fail
          have hl_bx := Hbx.out.lt
          have hl_by := Hby.out.lt
          have hl_bg := Hbg.out.lt
          refine wp_region_over (by kernel_rfl) (by kernel_rfl) ?_
          have hov_bx := fun (E : Over wr) o => E.cell (b := w.heap.size) o hl_bx
          have hov_by := fun (E : Over wr) o => E.cell (b := w.heap.size + 1) o hl_by
          have hov_bg := fun (E : Over wr) o => E.cell (b := w2.heap.size) o hl_bg
          have hov_b1 := fun (E : Over wr) o => E.cell (b := b1) o hb1
          have hov_b2 := fun (E : Over wr) o => E.cell (b := b2) o hb2
          repeat (go_big_quiet_step (first | fail))
          all_goals (try unfold elV limbV)
          repeat (go_big_quiet_step (first | fail))
          all_goals (try unfold elV limbV)
          repeat (go_big_quiet_step (first | fail))
          all_goals (try unfold ciphV)
          refine wpQuiet_nil ?_
          rintro _ ⟨E, rfl⟩
          clear hov_bx hl_bx hov_by hl_by hov_bg hl_bg hov_b1 hov_b2
          clear bx_0 bx_1
          replace Hbx := Lib.hid (Hbx.out.up E.h)
          clear by_0 by_1
          replace Hby := Lib.hid (Hby.out.up E.h)
          clear bg_0 bg_1 bg_2
          replace Hbg := Lib.hid (Hbg.out.up E.h)
          replace HK := Lib.hid (below_up HK.out E.h)
          replace BL := Lib.hid (below_up BL.out E.h)
          replace HB := Lib.hid (below_up HB.out E.h)
          have Hs4 := Lib.hid (show wr.heap.size ≤ E.w.heap.size from E.h.size)
          obtain ⟨w4, hq9⟩ : ∃ W9 : World, E.w = W9 := ⟨_, rfl⟩
          rw [hq9] at Hbx Hby Hbg HK BL HB Hs4 ⊢
          clear hq9 E
          have bx_0 := Hbx.out.cell (i := 0) rfl
          have bx_1 := Hbx.out.cell (i := 1) rfl
          have by_0 := Hby.out.cell (i := 0) rfl
          have by_1 := Hby.out.cell (i := 1) rfl
          have bg_0 := Hbg.out.cell (i := 0) rfl
          have bg_1 := Hbg.out.cell (i := 1) rfl
          have bg_2 := Hbg.out.cell (i := 2) rfl
          go_wp2_with fail
          go_roundw
          case rel => exact ⟨j + 1, by omega, by go_num, BL, HF⟩
          case measure => simp [intOf]; omega
      · have hq2 : ((la : Int) != (lb : Int)) = true := by simp; omega
        have hf : fit2 r s = false := by rw [hfr]; simp [g2]
        have HF := Lib.hid (HNO.out hf)
        clear hf hfr g2
        go_wp2_with fail
        have hl_bx := Hbx.out.lt
        have hl_by := Hby.out.lt
        have hl_bg := Hbg.out.lt
        refine wp_region_over (by kernel_rfl) (by kernel_rfl) ?_
        have hov_bx := fun (E : Over wr) o => E.cell (b := w.heap.size) o hl_bx
        have hov_by := fun (E : Over wr) o => E.cell (b := w.heap.size + 1) o hl_by
        have hov_bg := fun (E : Over wr) o => E.cell (b := w2.heap.size) o hl_bg
        have hov_b1 := fun (E : Over wr) o => E.cell (b := b1) o hb1
        have hov_b2 := fun (E : Over wr) o => E.cell (b := b2) o hb2
        repeat (go_big_quiet_step (first | fail))
        all_goals (try unfold elV limbV)
        repeat (go_big_quiet_step (first | fail))
        all_goals (try unfold elV limbV)
        repeat (go_big_quiet_step (first | fail))
        all_goals (try unfold ciphV)
        refine wpQuiet_nil ?_
        rintro _ ⟨E, rfl⟩
        clear hov_bx hl_bx hov_by hl_by hov_bg hl_bg hov_b1 hov_b2
        clear bx_0 bx_1
        replace Hbx := Lib.hid (Hbx.out.up E.h)
        clear by_0 by_1
        replace Hby := Lib.hid (Hby.out.up E.h)
        clear bg_0 bg_1 bg_2
        replace Hbg := Lib.hid (Hbg.out.up E.h)
        replace HK := Lib.hid (below_up HK.out E.h)
        replace BL := Lib.hid (below_up BL.out E.h)
        replace HB := Lib.hid (below_up HB.out E.h)
        have Hs4 := Lib.hid (show wr.heap.size ≤ E.w.heap.size from E.h.size)
        obtain ⟨w4, hq9⟩ : ∃ W9 : World, E.w = W9 := ⟨_, rfl⟩
        rw [hq9] at Hbx Hby Hbg HK BL HB Hs4 ⊢
        clear hq9 E
        have bx_0 := Hbx.out.cell (i := 0) rfl
        have bx_1 := Hbx.out.cell (i := 1) rfl
        have by_0 := Hby.out.cell (i := 0) rfl
        have by_1 := Hby.out.cell (i := 1) rfl
        have bg_0 := Hbg.out.cell (i := 0) rfl
        have bg_1 := Hbg.out.cell (i := 1) rfl
        have bg_2 := Hbg.out.cell (i := 2) rfl
        go_wp2_with fail
        simp [bodyPost, results, Try.results19, go_sem]
        exact ⟨HB.out, none, 0, rfl, Or.inl rfl⟩
    · have hjn' : j = n := by omega
      subst hjn'
      have h9 := zip_all_end HRL.out HAL.out
      rw [HBB.out] at h9
      cases h9

end Go.Proofs.Ytipgjookfdkciaa

/- ExtractAny, as the document says it: where the answers are of one shape. Condition: the lists that memory can hold. -/
namespace Go.Proofs.Ytipgjookfdkciaa
open Go.RowKit

theorem EE_if (k : Nat) (h1 : 1 ≤ k) (h3 : k ≤ 3) {x y : EithA} {i : Nat} (h : (prfAt x i).l.length ≠ 0 ∧ (prfAt x i).l.length = (prfAt y i).l.length) :
    EE (k : Int) x y i = if (((prfAt x i).l.all (isSc (grp k).q.m (grp k).size) && (prfAt y i).l.all (isSc (grp k).q.m (grp k).size)) && (isSc (grp k).q.m (grp k).size (prfAt x i).c && isSc (grp k).q.m (grp k).size (prfAt y i).c)) = true then (if (prfAt x i).c = (prfAt y i).c then 9 else 0) else 6 := by
  unfold EE exEk
  rw [if_pos (by omega), Int.toNat_natCast]
  unfold exE
  rw [if_pos ⟨h.2, h.1⟩, List.all_cons, List.all_cons]
  cases isSc (grp k).q.m (grp k).size (prfAt x i).c <;> cases isSc (grp k).q.m (grp k).size (prfAt y i).c <;> cases (prfAt x i).l.all (isSc (grp k).q.m (grp k).size) <;> cases (prfAt y i).l.all (isSc (grp k).q.m (grp k).size) <;> rfl

set_option maxRecDepth 100000 in
set_option maxHeartbeats 8000000 in
theorem rexAny_body (k : Nat) (h1 : 1 ≤ k) (h3 : k ≤ 3) (x y : EithA) (n : Nat) (hxn : x.cs.length = n) (hn0 : n ≠ 0) (hn : n ≤ 8796093022206) (hf : fitB x y = true) (hl : ∀ i, i < n → (prfAt x i).l.length ≤ 8796093022206) (ac ar bc br : Option Addr) (cc cr dc dr : Nat) (hac : x.ac = ac) (har : x.ar = ar) (hbc : y.ac = bc) (hbr : y.ar = br) (rs ss : List RowA) (hrs : x.rs = rs) (hss : y.rs = ss) (w : World) (hX : x.At w) (hY : y.At w) :
    Calls Try.prog 19 #[.int .i64 (k : Int), .agg #[.slice ac n cc, .slice ar n cr], .agg #[.slice bc n dc, .slice br n dr]] w (AnyA (k : Int) x y w) := by
  obtain ⟨f1, f2, f3, f4, f5⟩ := fitB_lens hf
  have hk : (1 : Int) ≤ (k : Int) ∧ (k : Int) ≤ 3 := by omega
  have OK := Lib.hid (grp_ok k h1 h3)
  have HN := Lib.hid (show x.cs.length = n ∧ x.rs.length = n ∧ y.cs.length = n ∧ y.rs.length = n by omega)
  have HV := Lib.hid (fun i (hi : i < n) => EE_if k h1 h3 (f5 i (by omega)))
  have HQL := Lib.hid (fun i (hi : i < n) => (f5 i (by omega)).2)
  have HLE := Lib.hid hl
  have HX := Lib.hid hX
  have HY := Lib.hid hY
  have HBB := Lib.hid (show (List.zipWith fit2 rs ss).all id = true by
    have h9 := hf
    unfold fitB at h9
    rw [hrs, hss] at h9
    exact ((Bool.and_eq_true _ _).mp h9).2)
  have HSP := Lib.hid (fun (er : Int) (idx : Nat) (lst : List ByteArray) (h : _ ∨ _ ∨ _) => (show AnySpec (k : Int) x y er idx lst from Or.inr (Or.inr ⟨hk, hf, h⟩)))
  rw [HN.out.1] at HSP
  have HAC := Lib.hid hac
  have HAR := Lib.hid har
  have HBC := Lib.hid hbc
  have HBR := Lib.hid hbr
  have HRL := Lib.hid (show rs.length = n by rw [← hrs]; exact HN.out.2.1)
  have HSL := Lib.hid (show ss.length = n by rw [← hss]; exact HN.out.2.2.2)
  have HR := Lib.hid (show RowsAt w ar rs by rw [← hrs, ← har]; exact hX.r)
  have HS := Lib.hid (show RowsAt w br ss by rw [← hss, ← hbr]; exact hY.r)
  clear hX hY hf f1 f2 f3 f4 f5 hl hk hac har hbc hbr hrs hss
  have hs0 := size_n0 k h1 h3
  have hd : ((n : Int) == 0) = false := by simp; omega
  have hd2 : ((n : Int) != (n : Int)) = false := by simp
  go_enter Try.func19, Try.ntmps19
  go_wp2_with fail
  have hb9 : Below w.heap.size w ((w.alloc (Obj.cells #[.slice ac n cc, .slice ar n cr] 27)).alloc (Obj.cells #[.slice bc n dc, .slice br n dr] 27)) := (((Below.refl _ _).alloc (Nat.le_refl _) _).alloc (by simp) _)
  have hx90 : Bx ((w.alloc (Obj.cells #[.slice ac n cc, .slice ar n cr] 27)).alloc (Obj.cells #[.slice bc n dc, .slice br n dr] 27)) (w.heap.size) 27 [.slice ac n cc, .slice ar n cr] := by
    have h := ((Bx.new w 27 [.slice ac n cc, .slice ar n cr] _ rfl).alloc (Obj.cells #[.slice bc n dc, .slice br n dr] 27))
    exact h
  have hx91 : Bx ((w.alloc (Obj.cells #[.slice ac n cc, .slice ar n cr] 27)).alloc (Obj.cells #[.slice bc n dc, .slice br n dr] 27)) (w.heap.size + 1) 27 [.slice bc n dc, .slice br n dr] := by
    have h := (Bx.new (w.alloc (Obj.cells #[.slice ac n cc, .slice ar n cr] 27)) 27 [.slice bc n dc, .slice br n dr] _ rfl)
    rw [World.size_alloc] at h
    exact h
  have hz9 : ((w.alloc (Obj.cells #[.slice ac n cc, .slice ar n cr] 27)).alloc (Obj.cells #[.slice bc n dc, .slice br n dr] 27)).heap.size = w.heap.size + 2 := by simp
  obtain ⟨w1, hq1⟩ : ∃ W9 : World, ((w.alloc (Obj.cells #[.slice ac n cc, .slice ar n cr] 27)).alloc (Obj.cells #[.slice bc n dc, .slice br n dr] 27)) = W9 := ⟨_, rfl⟩
  rw [hq1] at hb9 hz9 hx90 hx91
  rw [hq1]
  clear hq1
  have HB := Lib.hid hb9
  have Hs1 := Lib.hid hz9
  have Hbx := Lib.hid hx90
  have Hby := Lib.hid hx91
  clear hb9 hz9 hx90 hx91
  have bx_0 := Hbx.out.cell (i := 0) rfl
  have bx_1 := Hbx.out.cell (i := 1) rfl
  have by_0 := Hby.out.cell (i := 0) rfl
  have by_1 := Hby.out.cell (i := 1) rfl
  go_wp2_with fail
  refine (refKind_some k h1 h3 w1).mono ?_
  rintro e w2 ⟨aq, cq, ap, cp, rfl, hq9, hp9, hb9⟩
  clear bx_0 bx_1
  replace Hbx := Lib.hid (Hbx.out.up hb9)
  clear by_0 by_1
  replace Hby := Lib.hid (Hby.out.up hb9)
  replace HB := Lib.hid (below_up HB.out hb9)
  have Hs2 := Lib.hid (show w1.heap.size ≤ w2.heap.size from hb9.size)
  have HRG := Lib.hid (RG.mk (G := grp k) hq9 hp9)
  clear hq9 hp9
  clear hb9
  have bx_0 := Hbx.out.cell (i := 0) rfl
  have bx_1 := Hbx.out.cell (i := 1) rfl
  have by_0 := Hby.out.cell (i := 0) rfl
  have by_1 := Hby.out.cell (i := 1) rfl
  have HK := Lib.hid (Below.refl w2.heap.size w2)
  have o3_bx_0 := bx_0; clear bx_0
  have o3_bx_1 := bx_1; clear bx_1
  have o3_by_0 := by_0; clear by_0
  have o3_by_1 := by_1; clear by_1
  have hb9 : Below w2.heap.size w2 (w2.alloc (Obj.cells #[.int .i64 ((grp k).size : Int), .slice aq (dl (grp k).q.m) cq, .slice ap (dl (grp k).p.m) cp] 98)) := ((Below.refl _ _).alloc (Nat.le_refl _) _)
  have hx90 : Bx (w2.alloc (Obj.cells #[.int .i64 ((grp k).size : Int), .slice aq (dl (grp k).q.m) cq, .slice ap (dl (grp k).p.m) cp] 98)) (w2.heap.size) 98 [.int .i64 ((grp k).size : Int), .slice aq (dl (grp k).q.m) cq, .slice ap (dl (grp k).p.m) cp] := by
    have h := (Bx.new w2 98 [.int .i64 ((grp k).size : Int), .slice aq (dl (grp k).q.m) cq, .slice ap (dl (grp k).p.m) cp] _ rfl)
    exact h
  have hz9 : (w2.alloc (Obj.cells #[.int .i64 ((grp k).size : Int), .slice aq (dl (grp k).q.m) cq, .slice ap (dl (grp k).p.m) cp] 98)).heap.size = w2.heap.size + 1 := by simp
  obtain ⟨w3, hq3⟩ : ∃ W9 : World, (w2.alloc (Obj.cells #[.int .i64 ((grp k).size : Int), .slice aq (dl (grp k).q.m) cq, .slice ap (dl (grp k).p.m) cp] 98)) = W9 := ⟨_, rfl⟩
  rw [hq3] at hb9 hz9 hx90
  replace Hbx := Lib.hid (Hbx.out.up hb9)
  replace Hby := Lib.hid (Hby.out.up hb9)
  replace HK := Lib.hid (below_up HK.out hb9)
  replace HB := Lib.hid (below_up HB.out hb9)
  have Hs3 := Lib.hid hz9
  have Hbg := Lib.hid hx90
  clear hb9 hz9 hx90
  have bx_0 := Hbx.out.cell (i := 0) rfl
  have bx_1 := Hbx.out.cell (i := 1) rfl
  have by_0 := Hby.out.cell (i := 0) rfl
  have by_1 := Hby.out.cell (i := 1) rfl
  have bg_0 := Hbg.out.cell (i := 0) rfl
  have bg_1 := Hbg.out.cell (i := 1) rfl
  have bg_2 := Hbg.out.cell (i := 2) rfl
  have BL := Lib.hid (Below.refl w3.heap.size w3)
  go_wp2_with fail
  clear hq3 o3_by_1 o3_by_0 o3_bx_1 o3_bx_0
  go_loopw [11] (fun i wr => ∃ j : Nat, j ≤ n ∧ i = .int .i64 j ∧ Hid (Below w3.heap.size w3 wr) ∧ Hid (((List.zipWith fit2 rs ss).take j).all id = true)) (fun i _ => n - (intOf i).toNat)
  case atStart => exact ⟨0, Nat.zero_le _, rfl, BL, rfl⟩
  case round =>
    obtain ⟨j, hj, rfl, HL9, HAL⟩ := hrel
    have hb9 := HL9.out
    clear HL9
    clear bx_0 bx_1
    replace Hbx := Lib.hid (Hbx.out.up hb9)
    clear by_0 by_1
    replace Hby := Lib.hid (Hby.out.up hb9)
    clear bg_0 bg_1 bg_2
    replace Hbg := Lib.hid (Hbg.out.up hb9)
    replace HK := Lib.hid (below_up HK.out hb9)
    replace BL := Lib.hid (below_up BL.out hb9)
    replace HB := Lib.hid (below_up HB.out hb9)
    have Hs3' := Lib.hid (show w3.heap.size ≤ wr.heap.size from hb9.size)
    clear hb9
    have bx_0 := Hbx.out.cell (i := 0) rfl
    have bx_1 := Hbx.out.cell (i := 1) rfl
    have by_0 := Hby.out.cell (i := 0) rfl
    have by_1 := Hby.out.cell (i := 1) rfl
    have bg_0 := Hbg.out.cell (i := 0) rfl
    have bg_1 := Hbg.out.cell (i := 1) rfl
    have bg_2 := Hbg.out.cell (i := 2) rfl
    by_cases hjn : j < n
    · have hjr : j < rs.length := by rw [HRL.out]; exact hjn
      have hjs : j < ss.length := by rw [HSL.out]; exact hjn
      obtain ⟨b1, o1, rfl, hb10, hb1, hc1⟩ := HR.out.cell HB.out j hjr
      obtain ⟨b2, o2, rfl, hb20, hb2, hc2⟩ := HS.out.cell HB.out j hjs
      have HSN := Lib.hid (zip_all_snoc (f := fit2) hjr hjs HAL.out)
      have HNO := Lib.hid (zip_all_not (f := fit2) hjr hjs)
      generalize rs[j] = r at *
      generalize ss[j] = s at *
      have hfr : fit2 r s = decide (r.l.length ≠ 0 ∧ r.l.length = s.l.length) := rfl
      cases hf : fit2 r s with
      | false => exact absurd ((HNO.out hf).symm.trans HBB.out) (by decide)
      | true =>
        rw [hfr, decide_eq_true_eq] at hf
        have HF := Lib.hid (HSN.out (by rw [hfr]; exact decide_eq_true hf))
        generalize r.l.length = la at *
        generalize s.l.length = lb at *
        have hq2 : ((la : Int) != (lb : Int)) = false := by simp; omega
        have hq : ((la : Int) == 0) = false := by simp; omega
        clear hf hfr
        go_wp2_with fail
        have hl_bx := Hbx.out.lt
        have hl_by := Hby.out.lt
        have hl_bg := Hbg.out.lt
        refine wp_region_over (by kernel_rfl) (by kernel_rfl) ?_
        have hov_bx := fun (E : Over wr) o => E.cell (b := w.heap.size) o hl_bx
        have hov_by := fun (E : Over wr) o => E.cell (b := w.heap.size + 1) o hl_by
        have hov_bg := fun (E : Over wr) o => E.cell (b := w2.heap.size) o hl_bg
        have hov_b1 := fun (E : Over wr) o => E.cell (b := b1) o hb1
        have hov_b2 := fun (E : Over wr) o => E.cell (b := b2) o hb2
        repeat (go_big_quiet_step (first | fail))
        all_goals (try unfold elV limbV)
        repeat (go_big_quiet_step (first | fail))
        all_goals (try unfold elV limbV)
        repeat (go_big_quiet_step (first | fail))
        all_goals (try unfold ciphV)
        refine wpQuiet_nil ?_
        rintro _ ⟨E, rfl⟩
        clear hov_bx hl_bx hov_by hl_by hov_bg hl_bg hov_b1 hov_b2
        clear bx_0 bx_1
        replace Hbx := Lib.hid (Hbx.out.up E.h)
        clear by_0 by_1
        replace Hby := Lib.hid (Hby.out.up E.h)
        clear bg_0 bg_1 bg_2
        replace Hbg := Lib.hid (Hbg.out.up E.h)
        replace HK := Lib.hid (below_up HK.out E.h)
        replace BL := Lib.hid (below_up BL.out E.h)
        replace HB := Lib.hid (below_up HB.out E.h)
        have Hs4 := Lib.hid (show wr.heap.size ≤ E.w.heap.size from E.h.size)
        obtain ⟨w4, hq9⟩ : ∃ W9 : World, E.w = W9 := ⟨_, rfl⟩
        rw [hq9] at Hbx Hby Hbg HK BL HB Hs4 ⊢
        clear hq9 E
        have bx_0 := Hbx.out.cell (i := 0) rfl
        have bx_1 := Hbx.out.cell (i := 1) rfl
        have by_0 := Hby.out.cell (i := 0) rfl
        have by_1 := Hby.out.cell (i := 1) rfl
        have bg_0 := Hbg.out.cell (i := 0) rfl
        have bg_1 := Hbg.out.cell (i := 1) rfl
        have bg_2 := Hbg.out.cell (i := 2) rfl
        go_wp2_with fail
        go_roundw
        case rel => exact ⟨j + 1, by omega, by go_num, BL, HF⟩
        case measure => simp [intOf]; omega
    · clear HAL
      obtain ⟨wo, rfl⟩ : ∃ wo : World, wo = wr := ⟨_, rfl⟩
      have BM := Lib.hid (Below.refl wo.heap.size wo)
      go_wp2_with fail
      clear hjn hj
      go_loopw [12, 13] (fun u i wr => ∃ j : Nat, j ≤ n ∧ i = .int .i64 j ∧ Hid (Below wo.heap.size wo wr) ∧ Hid (∀ i, i < j → EE k x y i ≠ 6) ∧ (u = .int .i64 (-1) ∧ Hid (∀ i, i < j → EE k x y i ≠ 0) ∨ ∃ f : Nat, u = .int .i64 f ∧ Hid (f < j ∧ EE k x y f = 0 ∧ ∀ i, i < f → EE k x y i ≠ 0))) (fun _ i _ => n - (intOf i).toNat)
      case atStart => exact ⟨0, Nat.zero_le _, rfl, BM, fun _ h => absurd h (by omega), Or.inl ⟨rfl, fun _ h => absurd h (by omega)⟩⟩
      case round =>
        obtain ⟨j, hj, rfl, HL9, H6, hfound⟩ := hrel
        have hb9 := HL9.out
        clear HL9
        clear bx_0 bx_1
        replace Hbx := Lib.hid (Hbx.out.up hb9)
        clear by_0 by_1
        replace Hby := Lib.hid (Hby.out.up hb9)
        clear bg_0 bg_1 bg_2
        replace Hbg := Lib.hid (Hbg.out.up hb9)
        replace HK := Lib.hid (below_up HK.out hb9)
        replace BL := Lib.hid (below_up BL.out hb9)
        replace BM := Lib.hid (below_up BM.out hb9)
        replace HB := Lib.hid (below_up HB.out hb9)
        have Hs3'' := Lib.hid (show wo.heap.size ≤ wr.heap.size from hb9.size)
        clear hb9
        have bx_0 := Hbx.out.cell (i := 0) rfl
        have bx_1 := Hbx.out.cell (i := 1) rfl
        have by_0 := Hby.out.cell (i := 0) rfl
        have by_1 := Hby.out.cell (i := 1) rfl
        have bg_0 := Hbg.out.cell (i := 0) rfl
        have bg_1 := Hbg.out.cell (i := 1) rfl
        have bg_2 := Hbg.out.cell (i := 2) rfl
        have BSR := Lib.hid (Below.refl wr.heap.size wr)
        by_cases hjn : j < n
        · obtain ⟨hpx, ⟨b1, o1, e1, hb1, hc1⟩, ⟨b2, o2, e2, hb2, hc2⟩⟩ := prfAt_cells HX.out HB.out j (by rw [HN.out.1]; exact hjn) (by rw [HN.out.1]; exact HN.out.2.1)
          obtain ⟨hpy, ⟨b3, o3, e3, hb3, hc3⟩, ⟨b4, o4, e4, hb4, hc4⟩⟩ := prfAt_cells HY.out HB.out j (by rw [HN.out.2.2.1]; exact hjn) (by rw [HN.out.2.2.1]; exact HN.out.2.2.2)
          have HPX := Lib.hid hpx.s
          have HPY := Lib.hid hpy.s
          have HEV := Lib.hid (HV.out j hjn)
          have hpl := HLE.out j hjn
          have hql := HQL.out j hjn
          generalize prfAt x j = P at *
          generalize prfAt y j = Q at *
          obtain rfl := HAC.out.symm.trans e1
          obtain rfl := HAR.out.symm.trans e2
          obtain rfl := HBC.out.symm.trans e3
          obtain rfl := HBR.out.symm.trans e4
          obtain ⟨t1, ht1⟩ : ∃ t, P.l.all (isSc (grp k).q.m (grp k).size) = t := ⟨_, rfl⟩
          obtain ⟨t2, ht2⟩ : ∃ t, Q.l.all (isSc (grp k).q.m (grp k).size) = t := ⟨_, rfl⟩
          obtain ⟨t3, ht3⟩ : ∃ t, isSc (grp k).q.m (grp k).size P.c = t := ⟨_, rfl⟩
          obtain ⟨t4, ht4⟩ : ∃ t, isSc (grp k).q.m (grp k).size Q.c = t := ⟨_, rfl⟩
          rw [ht1, ht2, ht3, ht4] at HEV
          have HT1 := Lib.hid ht1
          have HT2 := Lib.hid ht2
          have HT3 := Lib.hid ht3
          have HT4 := Lib.hid ht4
          have HPN := Lib.hid (show P.l.length ≤ 8796093022207 by omega)
          have HQN := Lib.hid (show Q.l.length ≤ 8796093022207 by omega)
          have HCX := Lib.hid hc1
          have HCY := Lib.hid hc3
          clear hpx hpy e1 e2 e3 e4 ht1 ht2 ht3 ht4 hpl hql
          cases t1
          case false =>
            go_wp2_with fail
            have HT := Lib.hid (show Below wr.heap.size wr wr.drew from (Below.refl _ _).drew)
            have hl_bx := Hbx.out.lt
            have hl_by := Hby.out.lt
            have hl_bg := Hbg.out.lt
            refine wp_region_tree (fun wq9 => ∃ E : Over wr, wq9 = E.w) ((.qs [0, 1, 2, 3, 4, 5, 6, 7, 8, 9, 10, 11] (.a 12 (.qs [13, 14, 15, 16, 17, 18, 19, 20, 21, 22, 23, 24, 25, 26] (.a 27 (.qs [28, 29, 30, 31, 32, 33, 34, 35, 36] (.a 37 (.qs [38, 39, 40, 41, 42, 43, 44, 45, 46] (.a 47 (.qs [48, 49] .done)))))))))) (by kernel_rfl) (by kernel_rfl) (fun _ _ d _ _ h => by cases d <;> exact h) ⟨⟨_, HT.out⟩, rfl⟩ ?_
            have hov_bx := fun (E : Over wr) o => E.cell (b := w.heap.size) o hl_bx
            have hov_by := fun (E : Over wr) o => E.cell (b := w.heap.size + 1) o hl_by
            have hov_bg := fun (E : Over wr) o => E.cell (b := w2.heap.size) o hl_bg
            have hov_b1 := fun (E : Over wr) o => E.cell (b := b1) o hb1
            have hov_b2 := fun (E : Over wr) o => E.cell (b := b2) o hb2
            have hov_b3 := fun (E : Over wr) o => E.cell (b := b3) o hb3
            have hov_b4 := fun (E : Over wr) o => E.cell (b := b4) o hb4
            simp only [Tree.qs]
            repeat (refine tree_q rfl rfl ?_; go_big_quiet_step (fail); refine wpQuiet_nil ?_)
            refine tree_a rfl (fun K hK => ?_)
            go_simp
            refine (rWrongSc_f OK.out _ P.l P.aa P.ca rfl HPN.out HT1.out _ (HRG.out.up (below_up HK.out HT.out)) (HPX.out.up (below_up HB.out HT.out))).mono ?_
            rintro e w4 ⟨rfl, hb9⟩
            replace HT := Lib.hid (below_up HT.out hb9)
            have Hs4 := Lib.hid (show wr.heap.size ≤ w4.heap.size from HT.out.size)
            clear hb9
            refine hK _ _ ⟨⟨⟨w4, HT.out⟩, rfl⟩, ?_⟩
            clear hK K
            repeat (refine tree_q rfl rfl ?_; go_big_quiet_step (fail); refine wpQuiet_nil ?_)
            refine tree_a rfl (fun K hK => ?_)
            go_simp
            refine hK _ _ ⟨⟨⟨_, HT.out⟩, rfl⟩, ?_⟩
            clear hK K
            repeat (refine tree_q rfl rfl ?_; go_big_quiet_step (fail); refine wpQuiet_nil ?_)
            refine tree_a rfl (fun K hK => ?_)
            go_simp
            refine hK _ _ ⟨⟨⟨_, HT.out⟩, rfl⟩, ?_⟩
            clear hK K
            repeat (refine tree_q rfl rfl ?_; go_big_quiet_step (fail); refine wpQuiet_nil ?_)
            refine tree_a rfl (fun K hK => ?_)
            go_simp
            refine hK _ _ ⟨⟨⟨_, HT.out⟩, rfl⟩, ?_⟩
            clear hK K
            repeat (refine tree_q rfl rfl ?_; go_big_quiet_step (fail); refine wpQuiet_nil ?_)
            refine tree_end ?_
            clear hov_bx hl_bx hov_by hl_by hov_bg hl_bg hov_b1 hov_b2 hov_b3 hov_b4
            clear bx_0 bx_1
            replace Hbx := Lib.hid (Hbx.out.up HT.out)
            clear by_0 by_1
            replace Hby := Lib.hid (Hby.out.up HT.out)
            clear bg_0 bg_1 bg_2
            replace Hbg := Lib.hid (Hbg.out.up HT.out)
            replace HK := Lib.hid (below_up HK.out HT.out)
            replace BL := Lib.hid (below_up BL.out HT.out)
            replace BM := Lib.hid (below_up BM.out HT.out)
            replace BSR := Lib.hid (below_up BSR.out HT.out)
            replace HB := Lib.hid (below_up HB.out HT.out)
            have Hs4' := Lib.hid (show wr.heap.size ≤ w4.heap.size from HT.out.size)
            clear HT
            have bx_0 := Hbx.out.cell (i := 0) rfl
            have bx_1 := Hbx.out.cell (i := 1) rfl
            have by_0 := Hby.out.cell (i := 0) rfl
            have by_1 := Hby.out.cell (i := 1) rfl
            have bg_0 := Hbg.out.cell (i := 0) rfl
            have bg_1 := Hbg.out.cell (i := 1) rfl
            have bg_2 := Hbg.out.cell (i := 2) rfl
            clear HCX HCY
            go_wp2_with fail
            simp [bodyPost, results, Try.results19, go_sem]
            exact ⟨6, 0, [], HSP.out _ _ _ (Or.inl ⟨⟨j, hjn, by rw [HEV.out]; rfl⟩, rfl, rfl, rfl⟩), HB.out, none, 0, rfl, Or.inl rfl⟩
          cases t2
          case false =>
            go_wp2_with fail
            have HT := Lib.hid (show Below wr.heap.size wr wr.drew from (Below.refl _ _).drew)
            have hl_bx := Hbx.out.lt
            have hl_by := Hby.out.lt
            have hl_bg := Hbg.out.lt
            refine wp_region_tree (fun wq9 => ∃ E : Over wr, wq9 = E.w) ((.qs [0, 1, 2, 3, 4, 5, 6, 7, 8, 9, 10, 11] (.a 12 (.qs [13, 14, 15, 16, 17, 18, 19, 20, 21, 22, 23, 24, 25, 26] (.a 27 (.qs [28, 29, 30, 31, 32, 33, 34, 35, 36] (.a 37 (.qs [38, 39, 40, 41, 42, 43, 44, 45, 46] (.a 47 (.qs [48, 49] .done)))))))))) (by kernel_rfl) (by kernel_rfl) (fun _ _ d _ _ h => by cases d <;> exact h) ⟨⟨_, HT.out⟩, rfl⟩ ?_
            have hov_bx := fun (E : Over wr) o => E.cell (b := w.heap.size) o hl_bx
            have hov_by := fun (E : Over wr) o => E.cell (b := w.heap.size + 1) o hl_by
            have hov_bg := fun (E : Over wr) o => E.cell (b := w2.heap.size) o hl_bg
            have hov_b1 := fun (E : Over wr) o => E.cell (b := b1) o hb1
            have hov_b2 := fun (E : Over wr) o => E.cell (b := b2) o hb2
            have hov_b3 := fun (E : Over wr) o => E.cell (b := b3) o hb3
            have hov_b4 := fun (E : Over wr) o => E.cell (b := b4) o hb4
            simp only [Tree.qs]
            repeat (refine tree_q rfl rfl ?_; go_big_quiet_step (fail); refine wpQuiet_nil ?_)
            refine tree_a rfl (fun K hK => ?_)
            go_simp
            refine (rWrongSc_t OK.out _ P.l P.aa P.ca rfl HPN.out HT1.out _ (HRG.out.up (below_up HK.out HT.out)) (HPX.out.up (below_up HB.out HT.out))).mono ?_
            rintro e w4 ⟨rfl, hb9⟩
            replace HT := Lib.hid (below_up HT.out hb9)
            have Hs4 := Lib.hid (show wr.heap.size ≤ w4.heap.size from HT.out.size)
            clear hb9
            refine hK _ _ ⟨⟨⟨w4, HT.out⟩, rfl⟩, ?_⟩
            clear hK K
            repeat (refine tree_q rfl rfl ?_; go_big_quiet_step (fail); refine wpQuiet_nil ?_)
            refine tree_a rfl (fun K hK => ?_)
            go_simp
            refine (rWrongSc_f OK.out _ Q.l Q.aa Q.ca rfl HQN.out HT2.out _ (HRG.out.up (below_up HK.out HT.out)) (HPY.out.up (below_up HB.out HT.out))).mono ?_
            rintro e w5 ⟨rfl, hb9⟩
            replace HT := Lib.hid (below_up HT.out hb9)
            have Hs5 := Lib.hid (show wr.heap.size ≤ w5.heap.size from HT.out.size)
            clear hb9
            refine hK _ _ ⟨⟨⟨w5, HT.out⟩, rfl⟩, ?_⟩
            clear hK K
            repeat (refine tree_q rfl rfl ?_; go_big_quiet_step (fail); refine wpQuiet_nil ?_)
            refine tree_a rfl (fun K hK => ?_)
            go_simp
            refine hK _ _ ⟨⟨⟨_, HT.out⟩, rfl⟩, ?_⟩
            clear hK K
            repeat (refine tree_q rfl rfl ?_; go_big_quiet_step (fail); refine wpQuiet_nil ?_)
            refine tree_a rfl (fun K hK => ?_)
            go_simp
            refine hK _ _ ⟨⟨⟨_, HT.out⟩, rfl⟩, ?_⟩
            clear hK K
            repeat (refine tree_q rfl rfl ?_; go_big_quiet_step (fail); refine wpQuiet_nil ?_)
            refine tree_end ?_
            clear hov_bx hl_bx hov_by hl_by hov_bg hl_bg hov_b1 hov_b2 hov_b3 hov_b4
            clear bx_0 bx_1
            replace Hbx := Lib.hid (Hbx.out.up HT.out)
            clear by_0 by_1
            replace Hby := Lib.hid (Hby.out.up HT.out)
            clear bg_0 bg_1 bg_2
            replace Hbg := Lib.hid (Hbg.out.up HT.out)
            replace HK := Lib.hid (below_up HK.out HT.out)
            replace BL := Lib.hid (below_up BL.out HT.out)
            replace BM := Lib.hid (below_up BM.out HT.out)
            replace BSR := Lib.hid (below_up BSR.out HT.out)
            replace HB := Lib.hid (below_up HB.out HT.out)
            have Hs5' := Lib.hid (show wr.heap.size ≤ w5.heap.size from HT.out.size)
            clear HT
            have bx_0 := Hbx.out.cell (i := 0) rfl
            have bx_1 := Hbx.out.cell (i := 1) rfl
            have by_0 := Hby.out.cell (i := 0) rfl
            have by_1 := Hby.out.cell (i := 1) rfl
            have bg_0 := Hbg.out.cell (i := 0) rfl
            have bg_1 := Hbg.out.cell (i := 1) rfl
            have bg_2 := Hbg.out.cell (i := 2) rfl
            clear HCX HCY
            go_wp2_with fail
            simp [bodyPost, results, Try.results19, go_sem]
            exact ⟨6, 0, [], HSP.out _ _ _ (Or.inl ⟨⟨j, hjn, by rw [HEV.out]; rfl⟩, rfl, rfl, rfl⟩), HB.out, none, 0, rfl, Or.inl rfl⟩
          cases t3
          case false =>
            go_wp2_with fail
            have HT := Lib.hid (show Below wr.heap.size wr wr.drew from (Below.refl _ _).drew)
            have hl_bx := Hbx.out.lt
            have hl_by := Hby.out.lt
            have hl_bg := Hbg.out.lt
            refine wp_region_tree (fun wq9 => ∃ E : Over wr, wq9 = E.w) ((.qs [0, 1, 2, 3, 4, 5, 6, 7, 8, 9, 10, 11] (.a 12 (.qs [13, 14, 15, 16, 17, 18, 19, 20, 21, 22, 23, 24, 25, 26] (.a 27 (.qs [28, 29, 30, 31, 32, 33, 34, 35, 36] (.a 37 (.qs [38, 39, 40, 41, 42, 43, 44, 45, 46] (.a 47 (.qs [48, 49] .done)))))))))) (by kernel_rfl) (by kernel_rfl) (fun _ _ d _ _ h => by cases d <;> exact h) ⟨⟨_, HT.out⟩, rfl⟩ ?_
            have hov_bx := fun (E : Over wr) o => E.cell (b := w.heap.size) o hl_bx
            have hov_by := fun (E : Over wr) o => E.cell (b := w.heap.size + 1) o hl_by
            have hov_bg := fun (E : Over wr) o => E.cell (b := w2.heap.size) o hl_bg
            have hov_b1 := fun (E : Over wr) o => E.cell (b := b1) o hb1
            have hov_b2 := fun (E : Over wr) o => E.cell (b := b2) o hb2
            have hov_b3 := fun (E : Over wr) o => E.cell (b := b3) o hb3
            have hov_b4 := fun (E : Over wr) o => E.cell (b := b4) o hb4
            simp only [Tree.qs]
            repeat (refine tree_q rfl rfl ?_; go_big_quiet_step (fail); refine wpQuiet_nil ?_)
            refine tree_a rfl (fun K hK => ?_)
            go_simp
            refine (rWrongSc_t OK.out _ P.l P.aa P.ca rfl HPN.out HT1.out _ (HRG.out.up (below_up HK.out HT.out)) (HPX.out.up (below_up HB.out HT.out))).mono ?_
            rintro e w4 ⟨rfl, hb9⟩
            replace HT := Lib.hid (below_up HT.out hb9)
            have Hs4 := Lib.hid (show wr.heap.size ≤ w4.heap.size from HT.out.size)
            clear hb9
            refine hK _ _ ⟨⟨⟨w4, HT.out⟩, rfl⟩, ?_⟩
            clear hK K
            repeat (refine tree_q rfl rfl ?_; go_big_quiet_step (fail); refine wpQuiet_nil ?_)
            refine tree_a rfl (fun K hK => ?_)
            go_simp
            refine (rWrongSc_t OK.out _ Q.l Q.aa Q.ca rfl HQN.out HT2.out _ (HRG.out.up (below_up HK.out HT.out)) (HPY.out.up (below_up HB.out HT.out))).mono ?_
            rintro e w5 ⟨rfl, hb9⟩
            replace HT := Lib.hid (below_up HT.out hb9)
            have Hs5 := Lib.hid (show wr.heap.size ≤ w5.heap.size from HT.out.size)
            clear hb9
            refine hK _ _ ⟨⟨⟨w5, HT.out⟩, rfl⟩, ?_⟩
            clear hK K
            repeat (refine tree_q rfl rfl ?_; go_big_quiet_step (fail); refine wpQuiet_nil ?_)
            refine tree_a rfl (fun K hK => ?_)
            go_simp
            refine (rIsSc_b OK.out P.c false HT3.out _ (HRG.out.up (below_up HK.out HT.out))).mono ?_
            rintro e w6 ⟨rfl, hb9⟩
            replace HT := Lib.hid (below_up HT.out hb9)
            have Hs6 := Lib.hid (show wr.heap.size ≤ w6.heap.size from HT.out.size)
            clear hb9
            refine hK _ _ ⟨⟨⟨w6, HT.out⟩, rfl⟩, ?_⟩
            clear hK K
            repeat (refine tree_q rfl rfl ?_; go_big_quiet_step (fail); refine wpQuiet_nil ?_)
            refine tree_a rfl (fun K hK => ?_)
            go_simp
            refine hK _ _ ⟨⟨⟨_, HT.out⟩, rfl⟩, ?_⟩
            clear hK K
            repeat (refine tree_q rfl rfl ?_; go_big_quiet_step (fail); refine wpQuiet_nil ?_)
            refine tree_end ?_
            clear hov_bx hl_bx hov_by hl_by hov_bg hl_bg hov_b1 hov_b2 hov_b3 hov_b4
            clear bx_0 bx_1
            replace Hbx := Lib.hid (Hbx.out.up HT.out)
            clear by_0 by_1
            replace Hby := Lib.hid (Hby.out.up HT.out)
            clear bg_0 bg_1 bg_2
            replace Hbg := Lib.hid (Hbg.out.up HT.out)
            replace HK := Lib.hid (below_up HK.out HT.out)
            replace BL := Lib.hid (below_up BL.out HT.out)
            replace BM := Lib.hid (below_up BM.out HT.out)
            replace BSR := Lib.hid (below_up BSR.out HT.out)
            replace HB := Lib.hid (below_up HB.out HT.out)
            have Hs6' := Lib.hid (show wr.heap.size ≤ w6.heap.size from HT.out.size)
            clear HT
            have bx_0 := Hbx.out.cell (i := 0) rfl
            have bx_1 := Hbx.out.cell (i := 1) rfl
            have by_0 := Hby.out.cell (i := 0) rfl
            have by_1 := Hby.out.cell (i := 1) rfl
            have bg_0 := Hbg.out.cell (i := 0) rfl
            have bg_1 := Hbg.out.cell (i := 1) rfl
            have bg_2 := Hbg.out.cell (i := 2) rfl
            clear HCX HCY
            go_wp2_with fail
            simp [bodyPost, results, Try.results19, go_sem]
            exact ⟨6, 0, [], HSP.out _ _ _ (Or.inl ⟨⟨j, hjn, by rw [HEV.out]; rfl⟩, rfl, rfl, rfl⟩), HB.out, none, 0, rfl, Or.inl rfl⟩
          go_wp2_with fail
          have HT := Lib.hid (show Below wr.heap.size wr wr.drew from (Below.refl _ _).drew)
          have hl_bx := Hbx.out.lt
          have hl_by := Hby.out.lt
          have hl_bg := Hbg.out.lt
          refine wp_region_tree (fun wq9 => ∃ E : Over wr, wq9 = E.w) ((.qs [0, 1, 2, 3, 4, 5, 6, 7, 8, 9, 10, 11] (.a 12 (.qs [13, 14, 15, 16, 17, 18, 19, 20, 21, 22, 23, 24, 25, 26] (.a 27 (.qs [28, 29, 30, 31, 32, 33, 34, 35, 36] (.a 37 (.qs [38, 39, 40, 41, 42, 43, 44, 45, 46] (.a 47 (.qs [48, 49] .done)))))))))) (by kernel_rfl) (by kernel_rfl) (fun _ _ d _ _ h => by cases d <;> exact h) ⟨⟨_, HT.out⟩, rfl⟩ ?_
          have hov_bx := fun (E : Over wr) o => E.cell (b := w.heap.size) o hl_bx
          have hov_by := fun (E : Over wr) o => E.cell (b := w.heap.size + 1) o hl_by
          have hov_bg := fun (E : Over wr) o => E.cell (b := w2.heap.size) o hl_bg
          have hov_b1 := fun (E : Over wr) o => E.cell (b := b1) o hb1
          have hov_b2 := fun (E : Over wr) o => E.cell (b := b2) o hb2
          have hov_b3 := fun (E : Over wr) o => E.cell (b := b3) o hb3
          have hov_b4 := fun (E : Over wr) o => E.cell (b := b4) o hb4
          simp only [Tree.qs]
          repeat (refine tree_q rfl rfl ?_; go_big_quiet_step (fail); refine wpQuiet_nil ?_)
          refine tree_a rfl (fun K hK => ?_)
          go_simp
          refine (rWrongSc_t OK.out _ P.l P.aa P.ca rfl HPN.out HT1.out _ (HRG.out.up (below_up HK.out HT.out)) (HPX.out.up (below_up HB.out HT.out))).mono ?_
          rintro e w4 ⟨rfl, hb9⟩
          replace HT := Lib.hid (below_up HT.out hb9)
          have Hs4 := Lib.hid (show wr.heap.size ≤ w4.heap.size from HT.out.size)
          clear hb9
          refine hK _ _ ⟨⟨⟨w4, HT.out⟩, rfl⟩, ?_⟩
          clear hK K
          repeat (refine tree_q rfl rfl ?_; go_big_quiet_step (fail); refine wpQuiet_nil ?_)
          refine tree_a rfl (fun K hK => ?_)
          go_simp
          refine (rWrongSc_t OK.out _ Q.l Q.aa Q.ca rfl HQN.out HT2.out _ (HRG.out.up (below_up HK.out HT.out)) (HPY.out.up (below_up HB.out HT.out))).mono ?_
          rintro e w5 ⟨rfl, hb9⟩
          replace HT := Lib.hid (below_up HT.out hb9)
          have Hs5 := Lib.hid (show wr.heap.size ≤ w5.heap.size from HT.out.size)
          clear hb9
          refine hK _ _ ⟨⟨⟨w5, HT.out⟩, rfl⟩, ?_⟩
          clear hK K
          repeat (refine tree_q rfl rfl ?_; go_big_quiet_step (fail); refine wpQuiet_nil ?_)
          refine tree_a rfl (fun K hK => ?_)
          go_simp
          refine (rIsSc_b OK.out P.c true HT3.out _ (HRG.out.up (below_up HK.out HT.out))).mono ?_
          rintro e w6 ⟨rfl, hb9⟩
          replace HT := Lib.hid (below_up HT.out hb9)
          have Hs6 := Lib.hid (show wr.heap.size ≤ w6.heap.size from HT.out.size)
          clear hb9
          refine hK _ _ ⟨⟨⟨w6, HT.out⟩, rfl⟩, ?_⟩
          clear hK K
          repeat (refine tree_q rfl rfl ?_; go_big_quiet_step (fail); refine wpQuiet_nil ?_)
          refine tree_a rfl (fun K hK => ?_)
          go_simp
          refine (rIsSc_b OK.out Q.c t4 HT4.out _ (HRG.out.up (below_up HK.out HT.out))).mono ?_
          rintro e w7 ⟨rfl, hb9⟩
          replace HT := Lib.hid (below_up HT.out hb9)
          have Hs7 := Lib.hid (show wr.heap.size ≤ w7.heap.size from HT.out.size)
          clear hb9
          refine hK _ _ ⟨⟨⟨w7, HT.out⟩, rfl⟩, ?_⟩
          clear hK K
          repeat (refine tree_q rfl rfl ?_; go_big_quiet_step (fail); refine wpQuiet_nil ?_)
          refine tree_end ?_
          clear hov_bx hl_bx hov_by hl_by hov_bg hl_bg hov_b1 hov_b2 hov_b3 hov_b4
          clear bx_0 bx_1
          replace Hbx := Lib.hid (Hbx.out.up HT.out)
          clear by_0 by_1
          replace Hby := Lib.hid (Hby.out.up HT.out)
          clear bg_0 bg_1 bg_2
          replace Hbg := Lib.hid (Hbg.out.up HT.out)
          replace HK := Lib.hid (below_up HK.out HT.out)
          replace BL := Lib.hid (below_up BL.out HT.out)
          replace BM := Lib.hid (below_up BM.out HT.out)
          replace BSR := Lib.hid (below_up BSR.out HT.out)
          replace HB := Lib.hid (below_up HB.out HT.out)
          have Hs7' := Lib.hid (show wr.heap.size ≤ w7.heap.size from HT.out.size)
          clear HT
          have bx_0 := Hbx.out.cell (i := 0) rfl
          have bx_1 := Hbx.out.cell (i := 1) rfl
          have by_0 := Hby.out.cell (i := 0) rfl
          have by_1 := Hby.out.cell (i := 1) rfl
          have bg_0 := Hbg.out.cell (i := 0) rfl
          have bg_1 := Hbg.out.cell (i := 1) rfl
          have bg_2 := Hbg.out.cell (i := 2) rfl
          cases t4
          case false =>
            clear HCX HCY
            go_wp2_with fail
            simp [bodyPost, results, Try.results19, go_sem]
            exact ⟨6, 0, [], HSP.out _ _ _ (Or.inl ⟨⟨j, hjn, by rw [HEV.out]; rfl⟩, rfl, rfl, rfl⟩), HB.out, none, 0, rfl, Or.inl rfl⟩
          have hev : EE (k : Int) x y j = if P.c = Q.c then 9 else 0 := by rw [HEV.out]; rfl
          have HE := Lib.hid hev
          have HJ6 := Lib.hid (show ∀ i, i < j + 1 → EE (k : Int) x y i ≠ 6 from fun i hi => by
            by_cases h9 : i < j
            · exact H6.out i h9
            · obtain rfl : i = j := by omega
              rw [HE.out]; split <;> decide)
          have hc1 := (BSR.out.cell (p := ⟨b1, o1 + j, none⟩) hb1).trans HCX.out
          have hc3 := (BSR.out.cell (p := ⟨b3, o3 + j, none⟩) hb3).trans HCY.out
          have hb1' := Nat.lt_of_lt_of_le hb1 BSR.out.size
          have hb3' := Nat.lt_of_lt_of_le hb3 BSR.out.size
          clear hev HCX HCY
          go_wp2_with fail
          rcases hfound with ⟨rfl, H0⟩ | ⟨f, rfl, HF⟩
          · by_cases hpq : P.c = Q.c
            · have HE9 := Lib.hid (show EE (k : Int) x y j = 9 by rw [HE.out, if_pos hpq])
              have hcd : (P.c.toList == Q.c.toList) = true := by rw [hpq]; simp
              clear hpq
              have hl_bx := Hbx.out.lt
              have hl_by := Hby.out.lt
              have hl_bg := Hbg.out.lt
              refine wp_region_over (by kernel_rfl) (by kernel_rfl) ?_
              have hov_bx := fun (E : Over w7) o => E.cell (b := w.heap.size) o hl_bx
              have hov_by := fun (E : Over w7) o => E.cell (b := w.heap.size + 1) o hl_by
              have hov_bg := fun (E : Over w7) o => E.cell (b := w2.heap.size) o hl_bg
              have hov_b1 := fun (E : Over w7) o => E.cell (b := b1) o hb1'
              have hov_b3 := fun (E : Over w7) o => E.cell (b := b3) o hb3'
              repeat (go_big_quiet_step (first | fail))
              all_goals (try unfold elV limbV)
              repeat (go_big_quiet_step (first | fail))
              all_goals (try unfold elV limbV)
              repeat (go_big_quiet_step (first | fail))
              all_goals (try unfold ciphV)
              refine wpQuiet_nil ?_
              rintro _ ⟨E, rfl⟩
              clear hov_bx hl_bx hov_by hl_by hov_bg hl_bg hov_b1 hov_b3
              clear bx_0 bx_1
              replace Hbx := Lib.hid (Hbx.out.up E.h)
              clear by_0 by_1
              replace Hby := Lib.hid (Hby.out.up E.h)
              clear bg_0 bg_1 bg_2
              replace Hbg := Lib.hid (Hbg.out.up E.h)
              replace HK := Lib.hid (below_up HK.out E.h)
              replace BL := Lib.hid (below_up BL.out E.h)
              replace BM := Lib.hid (below_up BM.out E.h)
              replace BSR := Lib.hid (below_up BSR.out E.h)
              replace HB := Lib.hid (below_up HB.out E.h)
              have Hs8 := Lib.hid (show w7.heap.size ≤ E.w.heap.size from E.h.size)
              obtain ⟨w8, hq9⟩ : ∃ W9 : World, E.w = W9 := ⟨_, rfl⟩
              rw [hq9] at Hbx Hby Hbg HK BL BM BSR HB Hs8 ⊢
              clear hq9 E
              have bx_0 := Hbx.out.cell (i := 0) rfl
              have bx_1 := Hbx.out.cell (i := 1) rfl
              have by_0 := Hby.out.cell (i := 0) rfl
              have by_1 := Hby.out.cell (i := 1) rfl
              have bg_0 := Hbg.out.cell (i := 0) rfl
              have bg_1 := Hbg.out.cell (i := 1) rfl
              have bg_2 := Hbg.out.cell (i := 2) rfl
              go_wp2_with fail
              go_roundw
              case rel => exact ⟨j + 1, by omega, by go_num, BM, HJ6, Or.inl ⟨rfl, fun i hi => by
                by_cases h9 : i < j
                · exact H0.out i h9
                · obtain rfl : i = j := by omega
                  rw [HE9.out]; decide⟩⟩
              case measure => simp [intOf]; omega
            · have HE0 := Lib.hid (show EE (k : Int) x y j = 0 by rw [HE.out, if_neg hpq])
              have hcd := toList_bne hpq
              clear hpq
              have hl_bx := Hbx.out.lt
              have hl_by := Hby.out.lt
              have hl_bg := Hbg.out.lt
              refine wp_region_over (by kernel_rfl) (by kernel_rfl) ?_
              have hov_bx := fun (E : Over w7) o => E.cell (b := w.heap.size) o hl_bx
              have hov_by := fun (E : Over w7) o => E.cell (b := w.heap.size + 1) o hl_by
              have hov_bg := fun (E : Over w7) o => E.cell (b := w2.heap.size) o hl_bg
              have hov_b1 := fun (E : Over w7) o => E.cell (b := b1) o hb1'
              have hov_b3 := fun (E : Over w7) o => E.cell (b := b3) o hb3'
              repeat (go_big_quiet_step (first | fail))
              all_goals (try unfold elV limbV)
              repeat (go_big_quiet_step (first | fail))
              all_goals (try unfold elV limbV)
              repeat (go_big_quiet_step (first | fail))
              all_goals (try unfold ciphV)
              refine wpQuiet_nil ?_
              rintro _ ⟨E, rfl⟩
              clear hov_bx hl_bx hov_by hl_by hov_bg hl_bg hov_b1 hov_b3
              clear bx_0 bx_1
              replace Hbx := Lib.hid (Hbx.out.up E.h)
              clear by_0 by_1
              replace Hby := Lib.hid (Hby.out.up E.h)
              clear bg_0 bg_1 bg_2
              replace Hbg := Lib.hid (Hbg.out.up E.h)
              replace HK := Lib.hid (below_up HK.out E.h)
              replace BL := Lib.hid (below_up BL.out E.h)
              replace BM := Lib.hid (below_up BM.out E.h)
              replace BSR := Lib.hid (below_up BSR.out E.h)
              replace HB := Lib.hid (below_up HB.out E.h)
              have Hs8 := Lib.hid (show w7.heap.size ≤ E.w.heap.size from E.h.size)
              obtain ⟨w8, hq9⟩ : ∃ W9 : World, E.w = W9 := ⟨_, rfl⟩
              rw [hq9] at Hbx Hby Hbg HK BL BM BSR HB Hs8 ⊢
              clear hq9 E
              have bx_0 := Hbx.out.cell (i := 0) rfl
              have bx_1 := Hbx.out.cell (i := 1) rfl
              have by_0 := Hby.out.cell (i := 0) rfl
              have by_1 := Hby.out.cell (i := 1) rfl
              have bg_0 := Hbg.out.cell (i := 0) rfl
              have bg_1 := Hbg.out.cell (i := 1) rfl
              have bg_2 := Hbg.out.cell (i := 2) rfl
              go_wp2_with fail
              go_roundw
              case rel => exact ⟨j + 1, by omega, by go_num, BM, HJ6, Or.inr ⟨j, rfl, ⟨by omega, HE0.out, H0.out⟩⟩⟩
              case measure => simp [intOf]; omega
          · have hfn : decide ((f : Int) < 0) = false := by simp
            have hl_bx := Hbx.out.lt
            have hl_by := Hby.out.lt
            have hl_bg := Hbg.out.lt
            refine wp_region_over (by kernel_rfl) (by kernel_rfl) ?_
            have hov_bx := fun (E : Over w7) o => E.cell (b := w.heap.size) o hl_bx
            have hov_by := fun (E : Over w7) o => E.cell (b := w.heap.size + 1) o hl_by
            have hov_bg := fun (E : Over w7) o => E.cell (b := w2.heap.size) o hl_bg
            have hov_b1 := fun (E : Over w7) o => E.cell (b := b1) o hb1'
            have hov_b3 := fun (E : Over w7) o => E.cell (b := b3) o hb3'
            repeat (go_big_quiet_step (first | fail))
            all_goals (try unfold elV limbV)
            repeat (go_big_quiet_step (first | fail))
            all_goals (try unfold elV limbV)
            repeat (go_big_quiet_step (first | fail))
            all_goals (try unfold ciphV)
            refine wpQuiet_nil ?_
            rintro _ ⟨E, rfl⟩
            clear hov_bx hl_bx hov_by hl_by hov_bg hl_bg hov_b1 hov_b3
            clear bx_0 bx_1
            replace Hbx := Lib.hid (Hbx.out.up E.h)
            clear by_0 by_1
            replace Hby := Lib.hid (Hby.out.up E.h)
            clear bg_0 bg_1 bg_2
            replace Hbg := Lib.hid (Hbg.out.up E.h)
            replace HK := Lib.hid (below_up HK.out E.h)
            replace BL := Lib.hid (below_up BL.out E.h)
            replace BM := Lib.hid (below_up BM.out E.h)
            replace BSR := Lib.hid (below_up BSR.out E.h)
            replace HB := Lib.hid (below_up HB.out E.h)
            have Hs8 := Lib.hid (show w7.heap.size ≤ E.w.heap.size from E.h.size)
            obtain ⟨w8, hq9⟩ : ∃ W9 : World, E.w = W9 := ⟨_, rfl⟩
            rw [hq9] at Hbx Hby Hbg HK BL BM BSR HB Hs8 ⊢
            clear hq9 E
            have bx_0 := Hbx.out.cell (i := 0) rfl
            have bx_1 := Hbx.out.cell (i := 1) rfl
            have by_0 := Hby.out.cell (i := 0) rfl
            have by_1 := Hby.out.cell (i := 1) rfl
            have bg_0 := Hbg.out.cell (i := 0) rfl
            have bg_1 := Hbg.out.cell (i := 1) rfl
            have bg_2 := Hbg.out.cell (i := 2) rfl
            go_wp2_with fail
            go_roundw
            case rel => exact ⟨j + 1, by omega, by go_num, BM, HJ6, Or.inr ⟨f, rfl, ⟨by have := HF.out.1; omega, HF.out.2⟩⟩⟩
            case measure => simp [intOf]; omega
        · have hjn' : j = n := by omega
          subst hjn'
          rcases hfound with ⟨rfl, H0⟩ | ⟨f, rfl, HF⟩
          · go_wp2_with fail
            simp [bodyPost, results, Try.results19, go_sem]
            exact ⟨9, 0, [], HSP.out _ _ _ (Or.inr (Or.inl ⟨H6.out, H0.out, rfl, rfl, rfl⟩)), HB.out, none, 0, rfl, Or.inl rfl⟩
          · have hfj := HF.out.1
            obtain ⟨hpx, ⟨b1, o1, e1, hb1, hc1⟩, ⟨b2, o2, e2, hb2, hc2⟩⟩ := prfAt_cells HX.out HB.out f (by rw [HN.out.1]; exact hfj) (by rw [HN.out.1]; exact HN.out.2.1)
            obtain ⟨hpy, ⟨b3, o3, e3, hb3, hc3⟩, ⟨b4, o4, e4, hb4, hc4⟩⟩ := prfAt_cells HY.out HB.out f (by rw [HN.out.2.2.1]; exact hfj) (by rw [HN.out.2.2.1]; exact HN.out.2.2.2)
            have HPX := Lib.hid hpx
            have HPY := Lib.hid hpy
            have HE0 := Lib.hid (show exEk (k : Int) (prfAt x f) (prfAt y f) = 0 from HF.out.2.1)
            have HXL := Lib.hid (show XX (k : Int) x y f = exLk (k : Int) (prfAt x f) (prfAt y f) from rfl)
            have hpl := HLE.out f hfj
            have HXA := Lib.hid (HSP.out 0 f _ (Or.inr (Or.inr ⟨H6.out, f, hfj, HF.out.2.1, HF.out.2.2, rfl, rfl, rfl⟩)))
            generalize prfAt x f = P at *
            generalize prfAt y f = Q at *
            obtain rfl := HAC.out.symm.trans e1
            obtain rfl := HAR.out.symm.trans e2
            obtain rfl := HBC.out.symm.trans e3
            obtain rfl := HBR.out.symm.trans e4
            have HPC := Lib.hid (fun w1 h1 h2 => rext_any (k : Int) P Q hpl w1 h1 h2)
            rw [HE0.out] at HPC
            unfold PrfA.val at HPC
            clear hpx hpy e1 e2 e3 e4 hpl
            have hfn : decide ((f : Int) < 0) = false := by simp
            go_wp2_with fail
            have HT := Lib.hid (show Below wr.heap.size wr wr.drew from (Below.refl _ _).drew)
            have hl_bx := Hbx.out.lt
            have hl_by := Hby.out.lt
            have hl_bg := Hbg.out.lt
            refine wp_region_tree (fun wq9 => ∃ E : Over wr, wq9 = E.w) ((.qs [0, 1, 2, 3, 4, 5, 6, 7, 8, 9, 10, 11, 12, 13, 14, 15, 16, 17, 18, 19, 20, 21, 22] (.a 23 (.qs [24, 25, 26, 27, 28] .done)))) (by kernel_rfl) (by kernel_rfl) (fun _ _ d _ _ h => by cases d <;> exact h) ⟨⟨_, HT.out⟩, rfl⟩ ?_
            have hov_bx := fun (E : Over wr) o => E.cell (b := w.heap.size) o hl_bx
            have hov_by := fun (E : Over wr) o => E.cell (b := w.heap.size + 1) o hl_by
            have hov_bg := fun (E : Over wr) o => E.cell (b := w2.heap.size) o hl_bg
            have hov_b1 := fun (E : Over wr) o => E.cell (b := b1) o hb1
            have hov_b2 := fun (E : Over wr) o => E.cell (b := b2) o hb2
            have hov_b3 := fun (E : Over wr) o => E.cell (b := b3) o hb3
            have hov_b4 := fun (E : Over wr) o => E.cell (b := b4) o hb4
            simp only [Tree.qs]
            repeat (refine tree_q rfl rfl ?_; go_big_quiet_step (fail); refine wpQuiet_nil ?_)
            refine tree_a rfl (fun K hK => ?_)
            go_simp
            refine (HPC.out _ (HPX.out.up (below_up HB.out HT.out)) (HPY.out.up (below_up HB.out HT.out))).mono ?_
            rintro e w4 ⟨hb9, a9, c9, rfl, hs9, hn9, hc9⟩
            replace HT := Lib.hid (below_up HT.out hb9)
            have Hs4 := Lib.hid (show wr.heap.size ≤ w4.heap.size from HT.out.size)
            clear hb9
            have HSL := Lib.hid hs9
            clear hs9
            clear hn9 hc9
            refine hK _ _ ⟨⟨⟨w4, HT.out⟩, rfl⟩, ?_⟩
            clear hK K
            repeat (refine tree_q rfl rfl ?_; go_big_quiet_step (fail); refine wpQuiet_nil ?_)
            refine tree_end ?_
            clear hov_bx hl_bx hov_by hl_by hov_bg hl_bg hov_b1 hov_b2 hov_b3 hov_b4
            clear bx_0 bx_1
            replace Hbx := Lib.hid (Hbx.out.up HT.out)
            clear by_0 by_1
            replace Hby := Lib.hid (Hby.out.up HT.out)
            clear bg_0 bg_1 bg_2
            replace Hbg := Lib.hid (Hbg.out.up HT.out)
            replace HK := Lib.hid (below_up HK.out HT.out)
            replace BL := Lib.hid (below_up BL.out HT.out)
            replace BM := Lib.hid (below_up BM.out HT.out)
            replace BSR := Lib.hid (below_up BSR.out HT.out)
            replace HB := Lib.hid (below_up HB.out HT.out)
            have Hs4' := Lib.hid (show wr.heap.size ≤ w4.heap.size from HT.out.size)
            clear HT
            have bx_0 := Hbx.out.cell (i := 0) rfl
            have bx_1 := Hbx.out.cell (i := 1) rfl
            have by_0 := Hby.out.cell (i := 0) rfl
            have by_1 := Hby.out.cell (i := 1) rfl
            have bg_0 := Hbg.out.cell (i := 0) rfl
            have bg_1 := Hbg.out.cell (i := 1) rfl
            have bg_2 := Hbg.out.cell (i := 2) rfl
            go_wp2_with fail
            simp [bodyPost, results, Try.results19, go_sem]
            exact ⟨0, f, _, HXA.out, HB.out, a9, c9, by rw [HXL.out], by rw [HXL.out]; exact HSL.out⟩

theorem rexAny_any (k : Int) (x y : EithA) (hn : x.cs.length ≤ 8796093022206) (hl : ∀ r ∈ x.rs, r.l.length ≤ 8796093022206) (w : World) (hX : x.At w) (hY : y.At w) : Calls Try.prog 19 #[.int .i64 k, x.val, y.val] w (AnyA k x y w) := by
  by_cases hk : 1 ≤ k ∧ k ≤ 3
  · obtain ⟨j, rfl⟩ : ∃ j : Nat, k = j := ⟨k.toNat, by omega⟩
    have no : fitB x y = false → ∀ e w', AnyR 2 0 [] w e w' → AnyA (j : Int) x y w e w' := fun hf e w' h => ⟨2, 0, [], Or.inr (Or.inl ⟨hk, hf, rfl, rfl, rfl⟩), h⟩
    by_cases hs : x.cs.length ≠ 0 ∧ y.cs.length = x.cs.length ∧ x.rs.length = x.cs.length ∧ y.rs.length = x.cs.length
    · cases hf : fitB x y with
      | false =>
        have hz : (List.zipWith fit2 x.rs y.rs).all id = false := by unfold fitB at hf; rw [decide_eq_true hs, Bool.true_and] at hf; exact hf
        have h := rexAny_rows j (by omega) (by omega) _ hs.1 hn x.rs y.rs hs.2.2.1 hs.2.2.2 hz x.ac x.ar y.ac y.ar x.cc x.cr y.cc y.cr w hX.r hY.r
        unfold EithA.val
        rw [hs.2.1, hs.2.2.1, hs.2.2.2]
        exact h.mono (no hf)
      | true =>
        have h := rexAny_body j (by omega) (by omega) x y _ rfl hs.1 hn hf (fun i hi => by rw [prfAt_eq hi (by omega)]; exact hl _ (List.getElem_mem _)) _ _ _ _ x.cc x.cr y.cc y.cr rfl rfl rfl rfl _ _ rfl rfl w hX hY
        unfold EithA.val
        rwa [hs.2.1, hs.2.2.1, hs.2.2.2]
    · have hf : fitB x y = false := by unfold fitB; rw [decide_eq_false hs, Bool.false_and]
      exact (rexAny_no j (by omega) (by omega) _ _ _ _ _ _ _ _ _ _ _ _ hs w).mono (no hf)
  · exact (rexAny_none k hk x y w).mono fun e w' h => ⟨1, 0, [], Or.inl ⟨hk, rfl, rfl, rfl⟩, h⟩

end Go.Proofs.Ytipgjookfdkciaa

/- Lists of strings are compared: same of the package hustingslaw5. Condition: the lists that memory can hold. -/
namespace Go.Proofs.Ytipgjookfdkciaa
open Go.RowKit

theorem take_eq_snoc {l m : List ByteArray} {j : Nat} (hl : j < l.length) (hm : j < m.length) (h : l.take j = m.take j) (h1 : l[j] = m[j]) : l.take (j + 1) = m.take (j + 1) := by
  rw [List.take_succ_eq_append_getElem hl, List.take_succ_eq_append_getElem hm, h, h1]

set_option maxRecDepth 100000 in
set_option maxHeartbeats 1000000 in
theorem same5_any (l m : List ByteArray) (al am : Option Addr) (cl cm : Nat) (hl : l.length ≤ 8796093022207) (b : Bool) (hb : decide (l = m) = b) (w : World) (hL : Sl w w.heap.size al (l.map Value.string)) (hM : Sl w w.heap.size am (m.map Value.string)) :
    Calls Try.prog 17 #[.slice al l.length cl, .slice am m.length cm] w (Gives (.bool b) w) := by
  have HL := Lib.hid hL
  have HM := Lib.hid hM
  have HBB := Lib.hid hb
  clear hL hM hb
  unfold Gives
  by_cases h1 : l.length = m.length
  · have hd : ((l.length : Int) != (m.length : Int)) = false := by rw [bne_eq_false_iff_eq]; omega
    obtain ⟨n, hn⟩ : ∃ n, l.length = n := ⟨_, rfl⟩
    have hm : m.length = n := by omega
    have HNL := Lib.hid hn
    have HNM := Lib.hid hm
    rw [hn] at hd hl ⊢
    rw [hm] at hd ⊢
    clear h1 hn hm
    go_enter Try.func17, Try.ntmps17
    go_wp2_with fail
    go_loopw [13] (fun i wr => ∃ j : Nat, j ≤ n ∧ i = .int .i64 j ∧ Hid (Below w.heap.size w wr) ∧ Hid (l.take j = m.take j)) (fun i _ => n - (intOf i).toNat)
    case atStart => exact ⟨0, Nat.zero_le _, rfl, Below.refl _ _, rfl⟩
    case round =>
      obtain ⟨j, hj, rfl, HB, HT⟩ := hrel
      by_cases hjn : j < n
      · skip
        have hjl : j < l.length := by rw [HNL.out]; exact hjn
        have hjm : j < m.length := by rw [HNM.out]; exact hjn
        obtain ⟨b1, o1, rfl, hb10, hb1, hc1⟩ := HL.out.atUp HB.out j (by simpa using hjl)
        obtain ⟨b2, o2, rfl, hb20, hb2, hc2⟩ := HM.out.atUp HB.out j (by simpa using hjm)
        rw [List.getElem_map] at hc1 hc2
        have HTS := Lib.hid (take_eq_snoc hjl hjm HT.out)
        have HNE := Lib.hid (fun (h : ¬ l[j] = m[j]) => (show ¬ l = m from fun e => h (by subst e; rfl)))
        generalize l[j] = x at *
        generalize m[j] = y at *
        by_cases hxy : x = y
        · have HF := Lib.hid (HTS.out hxy)
          subst hxy
          go_wp2_with fail
          refine wp_region_over (by kernel_rfl) (by kernel_rfl) ?_
          have hov_b1 := fun (E : Over wr) o => E.cell (b := b1) o hb1
          have hov_b2 := fun (E : Over wr) o => E.cell (b := b2) o hb2
          repeat (go_big_quiet_step (first | fail))
          all_goals (try unfold elV limbV)
          repeat (go_big_quiet_step (first | fail))
          all_goals (try unfold elV limbV)
          repeat (go_big_quiet_step (first | fail))
          all_goals (try unfold ciphV)
          refine wpQuiet_nil ?_
          rintro _ ⟨E, rfl⟩
          clear hov_b1 hov_b2
          replace HB := Lib.hid (below_up HB.out E.h)
          have Hs1 := Lib.hid (show wr.heap.size ≤ E.w.heap.size from E.h.size)
          obtain ⟨w1, hq9⟩ : ∃ W9 : World, E.w = W9 := ⟨_, rfl⟩
          rw [hq9] at HB Hs1 ⊢
          clear hq9 E
          go_wp2_with fail
          go_roundw
          case rel => exact ⟨j + 1, by omega, by go_num, HB, HF⟩
          case measure => simp [intOf]; omega
        · obtain rfl : b = false := by rw [← HBB.out]; exact decide_eq_false (HNE.out hxy)
          have hcd := toList_bne hxy
          clear hxy
          go_wp2_with fail
          refine wp_region_over (by kernel_rfl) (by kernel_rfl) ?_
          have hov_b1 := fun (E : Over wr) o => E.cell (b := b1) o hb1
          have hov_b2 := fun (E : Over wr) o => E.cell (b := b2) o hb2
          repeat (go_big_quiet_step (first | fail))
          all_goals (try unfold elV limbV)
          repeat (go_big_quiet_step (first | fail))
          all_goals (try unfold elV limbV)
          repeat (go_big_quiet_step (first | fail))
          all_goals (try unfold ciphV)
          refine wpQuiet_nil ?_
          rintro _ ⟨E, rfl⟩
          clear hov_b1 hov_b2
          replace HB := Lib.hid (below_up HB.out E.h)
          have Hs1 := Lib.hid (show wr.heap.size ≤ E.w.heap.size from E.h.size)
          obtain ⟨w1, hq9⟩ : ∃ W9 : World, E.w = W9 := ⟨_, rfl⟩
          rw [hq9] at HB Hs1 ⊢
          clear hq9 E
          go_wp2_with fail
          go_ret
          exact ⟨rfl, HB.out⟩
      · have hjn' : j = n := by omega
        subst hjn'
        obtain rfl : b = true := by
          rw [← HBB.out]
          refine decide_eq_true ?_
          have h9 := HT.out
          rwa [List.take_of_length_le (by rw [HNL.out]; exact Nat.le_refl _), List.take_of_length_le (by rw [HNM.out]; exact Nat.le_refl _)] at h9
        go_wp2_with fail
        go_ret
        exact ⟨rfl, HB.out⟩
  · have hd : ((l.length : Int) != (m.length : Int)) = true := by rw [bne_iff_ne]; omega
    obtain rfl : b = false := by rw [← HBB.out]; exact decide_eq_false (fun e => h1 (by rw [e]))
    clear h1
    go_enter Try.func17, Try.ntmps17
    go_wp2_with fail
    go_ret
    exact ⟨rfl, Below.refl _ _⟩

end Go.Proofs.Ytipgjookfdkciaa

/- Small words for opening arguments of deep types: slices of elements of any size, whatever each element is. No condition. -/
namespace Go.Proofs.Ytipgjookfdkciaa
open Go.ChangeShapes Go.WideShapes Go.ChangeAt Go.RowKit

/-! What the bound of the second form gives. -/
theorem bulk_one {H : Type} (d : DataW H) : 1 ≤ Rows.uptoBulk d := by
  cases d with
  | lit l => cases l <;> simp [Rows.uptoBulk]
  | nil => simp [Rows.uptoBulk]
  | ptr d => simp [Rows.uptoBulk]
  | slice elems spare => simp [Rows.uptoBulk]
  | agg parts => simp [Rows.uptoBulk]
  | iface t d => simp [Rows.uptoBulk]
  | map entries => simp [Rows.uptoBulk]
  | held h => simp [Rows.uptoBulk]
theorem bulk_part {H : Type} {d : DataW H} {l : List (DataW H)} (h : d ∈ l) : Rows.uptoBulk d ≤ Rows.uptoBulkAll l := by
  induction l with
  | nil => cases h
  | cons x r ih =>
    simp only [Rows.uptoBulkAll]
    rcases List.mem_cons.1 h with rfl | e
    · omega
    · have := ih e; omega
theorem bulk_length {H : Type} (l : List (DataW H)) : l.length ≤ Rows.uptoBulkAll l := by
  induction l with
  | nil => simp [Rows.uptoBulkAll]
  | cons x r ih => have := bulk_one x; simp only [Rows.uptoBulkAll, List.length_cons]; omega
theorem bulk_slice {H : Type} {elems spare : List (DataW H)} {B : Nat} (h : Rows.uptoBulk (.slice elems spare) ≤ B) : elems.length ≤ B ∧ ∀ d ∈ elems, Rows.uptoBulk d ≤ B := by
  simp only [Rows.uptoBulk] at h
  refine ⟨by have := bulk_length elems; omega, fun d hd => by have := bulk_part hd; omega⟩
theorem bulk_agg {H : Type} {parts : List (DataW H)} {B : Nat} (h : Rows.uptoBulk (.agg parts) ≤ B) : ∀ d ∈ parts, Rows.uptoBulk d ≤ B := by
  simp only [Rows.uptoBulk] at h
  exact fun d hd => by have := bulk_part hd; omega

theorem flat_range (g : Nat → Value) (k len : Nat) : ((List.range len).map fun i => (List.range k).map fun j => g (i * k + j)).flatten = (List.range (len * k)).map g := by
  induction len with
  | zero => simp
  | succ m ih =>
    rw [List.range_succ, List.map_append, List.flatten_append, ih, Nat.succ_mul, List.range_add, List.map_append]
    simp [List.map_map, Function.comp_def]

section
variable {H : Type} {enc : TypeId × Value → H} {P : Program} {w : World}

/-- A cell that is a slice of elements of k cells: all its elements' cells, each element with its own reading. -/
theorem open_flat {sp : Nat → Bool} {held : Bool} {t e : TypeId} {k fuel : Nat} {c : Value} {y : DataW H × List MemPlace} (ht : P.underlying t = some (.slice e)) (hk : P.cellsOf e = k) (hk0 : 0 < k) {B : Nat} (hB : Rows.uptoBulk y.1 ≤ B)
    (h : DataW.trod enc P w 0 sp held fuel t [c] = some y) :
    ∃ (a : Option Addr) (cap : Nat) (css : List (List Value)), c = .slice a css.length cap ∧ css.length ≤ B ∧ (∀ l ∈ css, l.length = k) ∧ Sl w w.heap.size a css.flatten ∧
      ∀ l ∈ css, ∃ n y', Rows.uptoBulk y'.1 ≤ B ∧ DataW.trod enc P w 0 sp held n e l = some y' := by
  have hlt := DataW.trod_lt _ _ _ _ h
  rcases DataW.trod_slice ht h with ⟨hcs, _⟩ | ⟨x, len, cap, elems, rest, n, _, hcs, hx, hb, hl, hm, hlen, hel, _, _⟩
  · simp only [List.cons.injEq, and_true] at hcs
    exact ⟨none, 0, [], hcs, by simp, by simp, Or.inl rfl, by simp⟩
  simp only [List.cons.injEq, and_true] at hcs
  subst hcs
  by_cases h0 : len = 0
  · subst h0
    exact ⟨some x, cap, [], rfl, by simp, by simp, Or.inl rfl, by simp⟩
  have hbk := bulk_slice (elems := elems.map (·.1)) (spare := rest.map (·.1)) (B := B) (by rw [hx] at hB; exact hB)
  have each : ∀ i, i < len → ∃ l y', w.cells? 0 (x.add (i * k)) k = some l ∧ Rows.uptoBulk y'.1 ≤ B ∧ DataW.trod enc P w 0 sp held n e l = some y' := by
    intro i hi
    have h1 := hel i hi
    rw [hk, show elems[i]? = some (elems[i]'(by omega)) from List.getElem?_eq_getElem (by omega), Option.bind_eq_some_iff] at h1
    obtain ⟨l, hl, hy⟩ := h1
    exact ⟨l, _, hl, hbk.2 _ (List.mem_map.2 ⟨_, List.getElem_mem _, rfl⟩), hy⟩
  obtain ⟨b, off, spot⟩ := x
  have hspot : spot = none := by
    obtain ⟨l, _, h1, _⟩ := each 0 (by omega)
    obtain ⟨_, h2, h3⟩ := World.cells?_some h1
    have h4 := h3 0 hk0
    obtain ⟨v, hv⟩ : ∃ v, l[0]? = some v := ⟨_, List.getElem?_eq_getElem (by omega)⟩
    rw [hv, Deep.add_add, Nat.zero_mul, Nat.zero_add] at h4
    simpa [Addr.add] using World.cell?_spot h4
  subst hspot
  have hbW : b < w.heap.size := hlt (.cell b off) (by
    rw [hx]
    exact List.mem_append_left _ (MemPlace.mem_row.2 ⟨0, by rw [hk]; have : 0 < (elems.length + rest.length) * k := Nat.mul_pos (by omega) hk0; omega, by simp⟩))
  have hL : ∀ i, i < len → ((List.range k).map fun j => (w.cell? ⟨b, off + (i * k + j), none⟩).getD (.bool false)).length = k ∧
      (∀ j, j < k → w.cell? ⟨b, off + (i * k + j), none⟩ = some ((w.cell? ⟨b, off + (i * k + j), none⟩).getD (.bool false))) ∧
      ∃ y', Rows.uptoBulk y'.1 ≤ B ∧ DataW.trod enc P w 0 sp held n e ((List.range k).map fun j => (w.cell? ⟨b, off + (i * k + j), none⟩).getD (.bool false)) = some y' := by
    intro i hi
    obtain ⟨l, y', h1, h2b, h2⟩ := each i hi
    obtain ⟨_, h3, h4⟩ := World.cells?_some h1
    have h5 : ∀ j, j < k → w.cell? ⟨b, off + (i * k + j), none⟩ = l[j]? := by
      intro j hj
      have := h4 j hj
      rwa [Deep.add_add, add_plain] at this
    have e1 : (List.range k).map (fun j => (w.cell? ⟨b, off + (i * k + j), none⟩).getD (.bool false)) = l := by
      apply List.ext_getElem?
      intro j
      by_cases hj : j < k
      · rw [List.getElem?_map, List.getElem?_range hj, Option.map_some, h5 j hj, List.getElem?_eq_getElem (show j < l.length by omega), Option.getD_some]
      · rw [List.getElem?_eq_none (by simp; omega), List.getElem?_eq_none (by omega)]
    refine ⟨by simp, ?_, ?_⟩
    · intro j hj
      rw [h5 j hj, List.getElem?_eq_getElem (show j < l.length by omega), Option.getD_some]
    · rw [e1]; exact ⟨y', h2b, h2⟩
  refine ⟨some ⟨b, off, none⟩, cap, (List.range len).map fun i => (List.range k).map fun j => (w.cell? ⟨b, off + (i * k + j), none⟩).getD (.bool false), by simp, ?_, ?_, Or.inr ⟨b, off, rfl, hbW, ?_⟩, ?_⟩
  · have := hbk.1; rw [List.length_map] at this; simp; omega
  · intro l hl
    obtain ⟨i, _, rfl⟩ := List.mem_map.1 hl
    simp
  · have hflat := flat_range (fun m => (w.cell? ⟨b, off + m, none⟩).getD (.bool false)) k len
    intro i v hv
    rw [hflat] at hv
    have hi : i < len * k := by have := (List.getElem?_eq_some_iff.1 hv).1; simpa using this
    have hq : i / k < len := Nat.div_lt_of_lt_mul (by rwa [Nat.mul_comm] at hi)
    have hc := (hL (i / k) hq).2.1 (i % k) (Nat.mod_lt _ hk0)
    rw [show i / k * k + i % k = i by rw [Nat.mul_comm]; exact Nat.div_add_mod i k] at hc
    rw [hc, ← hv, List.getElem?_map, List.getElem?_range hi, Option.map_some]
  · intro l hl
    obtain ⟨i, hi, rfl⟩ := List.mem_map.1 hl
    obtain ⟨y', hyb, hy⟩ := (hL i (List.mem_range.1 hi)).2.2
    exact ⟨n, y', hyb, hy⟩

/-- A list of lists of values each of which is of one shape. -/
theorem list_shapes {α : Type} (f : α → List Value) (R : α → Prop) : ∀ css : List (List Value), (∀ l ∈ css, ∃ x, l = f x ∧ R x) → ∃ xs : List α, xs.length = css.length ∧ css.flatten = xs.flatMap f ∧ ∀ x ∈ xs, R x
  | [], _ => ⟨[], rfl, rfl, by simp⟩
  | l :: css, h => by
    obtain ⟨x, rfl, hR⟩ := h l (by simp)
    obtain ⟨xs, h1, h2, h3⟩ := list_shapes f R css (fun c hc => h c (by simp [hc]))
    refine ⟨x :: xs, by simp [h1], by simp [h2], ?_⟩
    intro y hy
    rcases List.mem_cons.1 hy with rfl | hy
    · exact hR
    · exact h3 y hy

/-- The same, each element of a shape that is known. -/
theorem open_els {α : Type} (f : α → List Value) (R : α → Prop) {sp : Nat → Bool} {held : Bool} {t e : TypeId} {k fuel : Nat} {c : Value} {y : DataW H × List MemPlace} (ht : P.underlying t = some (.slice e)) (hk : P.cellsOf e = k) (hk0 : 0 < k) {B : Nat} (hB : Rows.uptoBulk y.1 ≤ B)
    (hel : ∀ n l y', l.length = k → Rows.uptoBulk y'.1 ≤ B → DataW.trod enc P w 0 sp held n e l = some y' → ∃ x, l = f x ∧ R x) (h : DataW.trod enc P w 0 sp held fuel t [c] = some y) :
    ∃ (a : Option Addr) (cap : Nat) (xs : List α), c = .slice a xs.length cap ∧ xs.length ≤ B ∧ Sl w w.heap.size a (xs.flatMap f) ∧ ∀ x ∈ xs, R x := by
  obtain ⟨a, cap, css, rfl, hlB, hl, hs, he⟩ := open_flat ht hk hk0 hB h
  obtain ⟨xs, h1, h2, h3⟩ := list_shapes f R css (fun l hm => by
    obtain ⟨n, y', hyb, hy⟩ := he l hm
    exact hel n l y' (hl l hm) hyb hy)
  exact ⟨a, cap, xs, by rw [h1], by omega, h2 ▸ hs, h3⟩

/-- A struct whose fields are of one cell each. -/
theorem open_cells {sp : Nat → Bool} {held : Bool} {t : TypeId} {fs : Array Go.Field} {fuel : Nat} {cs : List Value} {y : DataW H × List MemPlace} (hs : P.underlying t = some (.struct fs)) (hone : Go.Deep.oneCellFields P fs = true) (hC : P.cellsOf t = fs.size) {B : Nat} (hB : Rows.uptoBulk y.1 ≤ B)
    (h : DataW.trod enc P w 0 sp held fuel t cs = some y) :
    cs.length = fs.size ∧ ∀ (j : Nat) (f : Go.Field) (c : Value), fs[j]? = some f → cs[j]? = some c → ∃ n y', Rows.uptoBulk y'.1 ≤ B ∧ DataW.trod enc P w 0 sp held n f.type [c] = some y' := by
  obtain ⟨ys, n, _, hy, hcl, hlen, hg⟩ := DataW.trod_struct hs h
  have hbk := bulk_agg (parts := ys.map (·.1)) (B := B) (by rw [hy] at hB; exact hB)
  refine ⟨by omega, fun j f c hj hc => ?_⟩
  obtain ⟨ho, hk⟩ := Go.Deep.hone_of hone j f hj
  have hjf : j < fs.size := (Array.getElem?_eq_some_iff.1 hj).1
  have h1 := hg j f hj
  have hjc := (List.getElem?_eq_some_iff.1 hc).1
  rw [ho, hk, List.drop_eq_getElem_cons hjc, List.take_succ_cons, List.take_zero, (List.getElem?_eq_some_iff.1 hc).2, List.getElem?_eq_getElem (show j < ys.length by omega)] at h1
  exact ⟨n, _, hbk _ (List.mem_map.2 ⟨_, List.getElem_mem _, rfl⟩), h1⟩

theorem list2 {cs : List Value} (h : cs.length = 2) : ∃ a b, cs = [a, b] := by
  match cs, h with
  | [a, b], _ => exact ⟨a, b, rfl⟩
theorem list3 {cs : List Value} (h : cs.length = 3) : ∃ a b c, cs = [a, b, c] := by
  match cs, h with
  | [a, b, c], _ => exact ⟨a, b, c, rfl⟩

/-- A cell that is a string. -/
theorem open_str {sp : Nat → Bool} {held : Bool} {t : TypeId} {fuel : Nat} {c : Value} {y : DataW H × List MemPlace} (ht : P.underlying t = some .string) (h : DataW.trod enc P w 0 sp held fuel t [c] = some y) : ∃ s : ByteArray, c = .string s := by
  obtain ⟨s, hs, _⟩ := DataW.trod_string ht h
  simp only [List.cons.injEq, and_true] at hs
  exact ⟨s, hs⟩

/-- A cell that is a slice of strings. -/
theorem open_strs {sp : Nat → Bool} {held : Bool} {t e : TypeId} {fuel : Nat} {c : Value} {y : DataW H × List MemPlace} (ht : P.underlying t = some (.slice e)) (he : P.underlying e = some .string) (hk : P.cellsOf e = 1) {B : Nat} (hB : Rows.uptoBulk y.1 ≤ B) (h : DataW.trod enc P w 0 sp held fuel t [c] = some y) :
    ∃ (a : Option Addr) (cap : Nat) (bs : List ByteArray), c = .slice a bs.length cap ∧ bs.length ≤ B ∧ Sl w w.heap.size a (bs.map Value.string) := by
  obtain ⟨a, cap, xs, h1, hb, h2, _⟩ := open_els (fun s : ByteArray => [Value.string s]) (fun _ => True) ht hk (by omega) hB (fun n l y' hl _ hy => by
    match l, hl with
    | [c'], _ =>
      obtain ⟨s, rfl⟩ := open_str he hy
      exact ⟨s, rfl, trivial⟩) h
  refine ⟨a, cap, xs, h1, hb, ?_⟩
  rw [← List.flatMap_singleton' (xs.map Value.string), List.flatMap_map]
  exact h2

/-- The reading of a slice has as many parts as the slice has elements. -/
theorem trod_len {sp : Nat → Bool} {held : Bool} {t e : TypeId} {fuel : Nat} {a : Option Addr} {len cap : Nat} {y : DataW H × List MemPlace} (ht : P.underlying t = some (.slice e)) (h : DataW.trod enc P w 0 sp held fuel t [.slice a len cap] = some y) :
    len = 0 ∨ ∃ es rs, y.1 = .slice es rs ∧ es.length = len := by
  rcases DataW.trod_slice ht h with ⟨hcs, _⟩ | ⟨x, l, c, elems, rest, n, _, hcs, hx, _, _, _, hlen, _⟩
  · simp only [List.cons.injEq, Value.slice.injEq, and_true] at hcs
    exact Or.inl hcs.2.1
  · simp only [List.cons.injEq, Value.slice.injEq, and_true] at hcs
    exact Or.inr ⟨_, _, by rw [hx], by rw [List.length_map, hlen, hcs.2.1]⟩

end

end Go.Proofs.Ytipgjookfdkciaa

/- Arguments of deep types are opened, with what the form's own reach says of each part's size. No condition. -/
namespace Go.Proofs.Ytipgjookfdkciaa
open Go.ChangeShapes Go.WideShapes Go.ChangeAt Go.RowKit

/-- No part of a datum is above the form's reach. -/
def Wt {H : Type} (P : Program) (t : TypeId) (d : DataW H) : Prop := ∀ n ∈ DataW.weights P t d, n ≤ reachBytes
theorem weightsAll_mem {H : Type} {P : Program} {e : TypeId} : ∀ {l : List (DataW H)} {d : DataW H}, d ∈ l → ∀ n ∈ DataW.weights P e d, n ∈ DataW.weightsAll P e l
  | x :: l, d, hd, n, hn => by
    simp only [DataW.weightsAll, List.mem_append]
    rcases List.mem_cons.1 hd with rfl | h
    · exact Or.inl hn
    · exact Or.inr (weightsAll_mem h n hn)
theorem Wt.slice {H : Type} {P : Program} {t e : TypeId} {elems spare : List (DataW H)} (ht : P.underlying t = some (.slice e)) (h : Wt P t (.slice elems spare)) : elems.length * P.bytesOf e ≤ reachBytes ∧ ∀ d ∈ elems, Wt P e d := by
  unfold Wt at h
  simp only [DataW.weights, ht, List.mem_cons, List.mem_append] at h
  refine ⟨Nat.le_trans (Nat.mul_le_mul_right _ (Nat.le_add_right _ _)) (h _ (Or.inl rfl)), fun d hd n hn => h n (Or.inr (Or.inl (weightsAll_mem hd n hn)))⟩
theorem Wt.agg {H : Type} {P : Program} {t : TypeId} {fs : Array Go.Field} {parts : List (DataW H)} (ht : P.underlying t = some (.struct fs)) (h : Wt P t (.agg parts)) : ∀ (j : Nat) (f : Go.Field) (d : DataW H), fs[j]? = some f → parts[j]? = some d → Wt P f.type d := by
  intro j f d hj hd n hn
  unfold Wt at h
  simp only [DataW.weights, ht] at h
  exact h n (DataW.weights_mem_each (ts := fs.toList.map (·.type)) (by rw [List.getElem?_map, Array.getElem?_toList, hj]; rfl) hd n hn)
theorem Wt.arg {H : Type} {P : Program} {ts : List TypeId} {ds : List (DataW H)} (h : (DataW.weightsEach P ts ds).all (· ≤ reachBytes) = true) {j : Nat} {t : TypeId} {d : DataW H} (ht : ts[j]? = some t) (hd : ds[j]? = some d) : Wt P t d :=
  fun n hn => of_decide_eq_true (List.all_eq_true.1 h _ (DataW.weights_mem_each ht hd n hn))

section
variable {H : Type} {enc : TypeId × Value → H} {P : Program} {w : World}

/-- A cell that is a slice of elements of k cells: all its elements' cells, each element with its own reading. -/
theorem open_flatW {sp : Nat → Bool} {held : Bool} {t e : TypeId} {k fuel : Nat} {c : Value} {y : DataW H × List MemPlace} (ht : P.underlying t = some (.slice e)) (hk : P.cellsOf e = k) (hk0 : 0 < k) (hW : Wt P t y.1)
    (h : DataW.trod enc P w 0 sp held fuel t [c] = some y) :
    ∃ (a : Option Addr) (cap : Nat) (css : List (List Value)), c = .slice a css.length cap ∧ css.length * P.bytesOf e ≤ reachBytes ∧ (a = none → cap = 0) ∧ (∀ l ∈ css, l.length = k) ∧ Sl w w.heap.size a css.flatten ∧
      ∀ l ∈ css, ∃ n y', Wt P e y'.1 ∧ DataW.trod enc P w 0 sp held n e l = some y' := by
  have hlt := DataW.trod_lt _ _ _ _ h
  rcases DataW.trod_slice ht h with ⟨hcs, _⟩ | ⟨x, len, cap, elems, rest, n, _, hcs, hx, hb, hl, hm, hlen, hel, _, _⟩
  · simp only [List.cons.injEq, and_true] at hcs
    exact ⟨none, 0, [], hcs, by simp, fun _ => rfl, by simp, Or.inl rfl, by simp⟩
  simp only [List.cons.injEq, and_true] at hcs
  subst hcs
  by_cases h0 : len = 0
  · subst h0
    exact ⟨some x, cap, [], rfl, by simp, by simp, by simp, Or.inl rfl, by simp⟩
  have hbk := Wt.slice (elems := elems.map (·.1)) (spare := rest.map (·.1)) ht (by rw [hx] at hW; exact hW)
  have each : ∀ i, i < len → ∃ l y', w.cells? 0 (x.add (i * k)) k = some l ∧ Wt P e y'.1 ∧ DataW.trod enc P w 0 sp held n e l = some y' := by
    intro i hi
    have h1 := hel i hi
    rw [hk, show elems[i]? = some (elems[i]'(by omega)) from List.getElem?_eq_getElem (by omega), Option.bind_eq_some_iff] at h1
    obtain ⟨l, hl, hy⟩ := h1
    exact ⟨l, _, hl, hbk.2 _ (List.mem_map.2 ⟨_, List.getElem_mem _, rfl⟩), hy⟩
  obtain ⟨b, off, spot⟩ := x
  have hspot : spot = none := by
    obtain ⟨l, _, h1, _⟩ := each 0 (by omega)
    obtain ⟨_, h2, h3⟩ := World.cells?_some h1
    have h4 := h3 0 hk0
    obtain ⟨v, hv⟩ : ∃ v, l[0]? = some v := ⟨_, List.getElem?_eq_getElem (by omega)⟩
    rw [hv, Deep.add_add, Nat.zero_mul, Nat.zero_add] at h4
    simpa [Addr.add] using World.cell?_spot h4
  subst hspot
  have hbW : b < w.heap.size := hlt (.cell b off) (by
    rw [hx]
    exact List.mem_append_left _ (MemPlace.mem_row.2 ⟨0, by rw [hk]; have : 0 < (elems.length + rest.length) * k := Nat.mul_pos (by omega) hk0; omega, by simp⟩))
  have hL : ∀ i, i < len → ((List.range k).map fun j => (w.cell? ⟨b, off + (i * k + j), none⟩).getD (.bool false)).length = k ∧
      (∀ j, j < k → w.cell? ⟨b, off + (i * k + j), none⟩ = some ((w.cell? ⟨b, off + (i * k + j), none⟩).getD (.bool false))) ∧
      ∃ y', Wt P e y'.1 ∧ DataW.trod enc P w 0 sp held n e ((List.range k).map fun j => (w.cell? ⟨b, off + (i * k + j), none⟩).getD (.bool false)) = some y' := by
    intro i hi
    obtain ⟨l, y', h1, h2b, h2⟩ := each i hi
    obtain ⟨_, h3, h4⟩ := World.cells?_some h1
    have h5 : ∀ j, j < k → w.cell? ⟨b, off + (i * k + j), none⟩ = l[j]? := by
      intro j hj
      have := h4 j hj
      rwa [Deep.add_add, add_plain] at this
    have e1 : (List.range k).map (fun j => (w.cell? ⟨b, off + (i * k + j), none⟩).getD (.bool false)) = l := by
      apply List.ext_getElem?
      intro j
      by_cases hj : j < k
      · rw [List.getElem?_map, List.getElem?_range hj, Option.map_some, h5 j hj, List.getElem?_eq_getElem (show j < l.length by omega), Option.getD_some]
      · rw [List.getElem?_eq_none (by simp; omega), List.getElem?_eq_none (by omega)]
    refine ⟨by simp, ?_, ?_⟩
    · intro j hj
      rw [h5 j hj, List.getElem?_eq_getElem (show j < l.length by omega), Option.getD_some]
    · rw [e1]; exact ⟨y', h2b, h2⟩
  refine ⟨some ⟨b, off, none⟩, cap, (List.range len).map fun i => (List.range k).map fun j => (w.cell? ⟨b, off + (i * k + j), none⟩).getD (.bool false), by simp, ?_, by simp, ?_, Or.inr ⟨b, off, rfl, hbW, ?_⟩, ?_⟩
  · have := hbk.1; rw [List.length_map, hlen] at this; simpa using this
  · intro l hl
    obtain ⟨i, _, rfl⟩ := List.mem_map.1 hl
    simp
  · have hflat := flat_range (fun m => (w.cell? ⟨b, off + m, none⟩).getD (.bool false)) k len
    intro i v hv
    rw [hflat] at hv
    have hi : i < len * k := by have := (List.getElem?_eq_some_iff.1 hv).1; simpa using this
    have hq : i / k < len := Nat.div_lt_of_lt_mul (by rwa [Nat.mul_comm] at hi)
    have hc := (hL (i / k) hq).2.1 (i % k) (Nat.mod_lt _ hk0)
    rw [show i / k * k + i % k = i by rw [Nat.mul_comm]; exact Nat.div_add_mod i k] at hc
    rw [hc, ← hv, List.getElem?_map, List.getElem?_range hi, Option.map_some]
  · intro l hl
    obtain ⟨i, hi, rfl⟩ := List.mem_map.1 hl
    obtain ⟨y', hyb, hy⟩ := (hL i (List.mem_range.1 hi)).2.2
    exact ⟨n, y', hyb, hy⟩

/-- The same, each element of a shape that is known. -/
theorem open_elsW {α : Type} (f : α → List Value) (R : α → Prop) {sp : Nat → Bool} {held : Bool} {t e : TypeId} {k fuel : Nat} {c : Value} {y : DataW H × List MemPlace} (ht : P.underlying t = some (.slice e)) (hk : P.cellsOf e = k) (hk0 : 0 < k) (hW : Wt P t y.1)
    (hel : ∀ n l y', l.length = k → Wt P e y'.1 → DataW.trod enc P w 0 sp held n e l = some y' → ∃ x, l = f x ∧ R x) (h : DataW.trod enc P w 0 sp held fuel t [c] = some y) :
    ∃ (a : Option Addr) (cap : Nat) (xs : List α), c = .slice a xs.length cap ∧ xs.length * P.bytesOf e ≤ reachBytes ∧ (a = none → cap = 0) ∧ Sl w w.heap.size a (xs.flatMap f) ∧ ∀ x ∈ xs, R x := by
  obtain ⟨a, cap, css, rfl, hlB, hno, hl, hs, he⟩ := open_flatW ht hk hk0 hW h
  obtain ⟨xs, h1, h2, h3⟩ := list_shapes f R css (fun l hm => by
    obtain ⟨n, y', hyb, hy⟩ := he l hm
    exact hel n l y' (hl l hm) hyb hy)
  exact ⟨a, cap, xs, by rw [h1], by rw [h1]; exact hlB, hno, h2 ▸ hs, h3⟩

/-- A struct whose fields are of one cell each. -/
theorem open_cellsW {sp : Nat → Bool} {held : Bool} {t : TypeId} {fs : Array Go.Field} {fuel : Nat} {cs : List Value} {y : DataW H × List MemPlace} (hs : P.underlying t = some (.struct fs)) (hone : Go.Deep.oneCellFields P fs = true) (hC : P.cellsOf t = fs.size) (hW : Wt P t y.1)
    (h : DataW.trod enc P w 0 sp held fuel t cs = some y) :
    cs.length = fs.size ∧ ∀ (j : Nat) (f : Go.Field) (c : Value), fs[j]? = some f → cs[j]? = some c → ∃ n y', Wt P f.type y'.1 ∧ DataW.trod enc P w 0 sp held n f.type [c] = some y' := by
  obtain ⟨ys, n, _, hy, hcl, hlen, hg⟩ := DataW.trod_struct hs h
  have hbk := Wt.agg (parts := ys.map (·.1)) hs (by rw [hy] at hW; exact hW)
  refine ⟨by omega, fun j f c hj hc => ?_⟩
  obtain ⟨ho, hk⟩ := Go.Deep.hone_of hone j f hj
  have hjf : j < fs.size := (Array.getElem?_eq_some_iff.1 hj).1
  have h1 := hg j f hj
  have hjc := (List.getElem?_eq_some_iff.1 hc).1
  rw [ho, hk, List.drop_eq_getElem_cons hjc, List.take_succ_cons, List.take_zero, (List.getElem?_eq_some_iff.1 hc).2, List.getElem?_eq_getElem (show j < ys.length by omega)] at h1
  exact ⟨n, _, hbk j f _ hj (by rw [List.getElem?_map, List.getElem?_eq_getElem (show j < ys.length by omega)]; rfl), h1⟩

/-- A cell that is a slice of strings. -/
theorem open_strsW {sp : Nat → Bool} {held : Bool} {t e : TypeId} {fuel : Nat} {c : Value} {y : DataW H × List MemPlace} (ht : P.underlying t = some (.slice e)) (he : P.underlying e = some .string) (hk : P.cellsOf e = 1) (hW : Wt P t y.1) (h : DataW.trod enc P w 0 sp held fuel t [c] = some y) :
    ∃ (a : Option Addr) (cap : Nat) (bs : List ByteArray), c = .slice a bs.length cap ∧ bs.length * P.bytesOf e ≤ reachBytes ∧ (a = none → cap = 0) ∧ Sl w w.heap.size a (bs.map Value.string) := by
  obtain ⟨a, cap, xs, h1, hb, hno, h2, _⟩ := open_elsW (fun s : ByteArray => [Value.string s]) (fun _ => True) ht hk (by omega) hW (fun n l y' hl _ hy => by
    match l, hl with
    | [c'], _ =>
      obtain ⟨s, rfl⟩ := open_str he hy
      exact ⟨s, rfl, trivial⟩) h
  refine ⟨a, cap, xs, h1, hb, hno, ?_⟩
  rw [← List.flatMap_singleton' (xs.map Value.string), List.flatMap_map]
  exact h2

end

end Go.Proofs.Ytipgjookfdkciaa

namespace Go.Proofs.Ytipgjookfdkciaa
open Go.ChangeShapes Go.WideShapes Go.ChangeAt Go.RowKit

theorem exLk_len (k : Int) (p q : PrfA) : (exLk k p q).length ≤ p.l.length := by
  unfold exLk exL
  by_cases h : 1 ≤ k ∧ k ≤ 3
  · rw [if_pos h]
    by_cases g : exE (grp k.toNat) p q = 0
    · rw [if_pos g, List.length_zipWith]; omega
    · rw [if_neg g]; exact Nat.zero_le _
  · rw [if_neg h]; exact Nat.zero_le _
theorem anySpec_len {k : Int} {x y : EithA} {er : Int} {idx : Nat} {lst : List ByteArray} (h3 : ∀ r ∈ x.rs, r.l.length ≤ 8796093022206) (h : AnySpec k x y er idx lst) : lst.length ≤ 8796093022207 := by
  rcases h with ⟨_, _, _, rfl⟩ | ⟨_, _, _, _, rfl⟩ | ⟨_, hf, ⟨_, _, _, rfl⟩ | ⟨_, _, _, _, rfl⟩ | ⟨_, f, hf2, _, _, _, _, rfl⟩⟩
  · exact Nat.zero_le _
  · exact Nat.zero_le _
  · exact Nat.zero_le _
  · exact Nat.zero_le _
  · have hlen := (fitB_lens hf).2.2.1
    have h9 := h3 (x.rs[f]'(by omega)) (List.getElem_mem _)
    have h10 : (prfAt x f).l.length ≤ 8796093022206 := by rw [prfAt_eq hf2 (by omega)]; exact h9
    have h11 := exLk_len k (prfAt x f) (prfAt y f)
    unfold XX
    omega

set_option maxRecDepth 100000 in
set_option maxHeartbeats 2000000 in
theorem sigmaExtracts_any (k : Int) (p q : PrfA) (x y : EithA) (h1 : p.l.length ≤ 8796093022206) (h2 : x.cs.length ≤ 8796093022206) (h3 : ∀ r ∈ x.rs, r.l.length ≤ 8796093022206) (w : World) (hp : p.At w) (hq : q.At w) (hx : x.At w) (hy : y.At w) :
    Calls Try.prog 3 #[.int .i64 k, p.val, q.val, x.val, y.val] w fun e w' => e = .returned (.bool true) ∧ Below w.heap.size w w' := by
  have HE1 := Lib.hid (fun w1 (hb : Below w.heap.size w w1) => ext_any k p q h1 w1 (hp.up hb) (hq.up hb))
  have HE2 := Lib.hid (fun w1 (hb : Below w.heap.size w w1) => rext_any k p q h1 w1 (hp.up hb) (hq.up hb))
  have HA1 := Lib.hid (fun w1 (hb : Below w.heap.size w w1) => exAny_any k x y h2 h3 w1 (hx.up hb) (hy.up hb))
  have HA2 := Lib.hid (fun w1 (hb : Below w.heap.size w w1) => rexAny_any k x y h2 h3 w1 (hx.up hb) (hy.up hb))
  have HLL := Lib.hid (show (exLk k p q).length ≤ 8796093022207 from Nat.le_trans (exLk_len k p q) (by omega))
  have HLX := Lib.hid (fun er idx lst (h : AnySpec k x y er idx lst) => anySpec_len h3 h)
  unfold PrfA.val at HE1 HE2
  unfold EithA.val at HA1 HA2
  clear h1 h2 h3 hp hq hx hy
  unfold PrfA.val EithA.val
  obtain ⟨n1, hn1⟩ : ∃ n, p.l.length = n := ⟨_, rfl⟩
  obtain ⟨n2, hn2⟩ : ∃ n, q.l.length = n := ⟨_, rfl⟩
  obtain ⟨n3, hn3⟩ : ∃ n, x.cs.length = n := ⟨_, rfl⟩
  obtain ⟨n4, hn4⟩ : ∃ n, x.rs.length = n := ⟨_, rfl⟩
  obtain ⟨n5, hn5⟩ : ∃ n, y.cs.length = n := ⟨_, rfl⟩
  obtain ⟨n6, hn6⟩ : ∃ n, y.rs.length = n := ⟨_, rfl⟩
  rw [hn1, hn2] at HE1 HE2 ⊢
  rw [hn3, hn4, hn5, hn6] at HA1 HA2 ⊢
  clear hn1 hn2 hn3 hn4 hn5 hn6
  go_enter Try.func3, Try.ntmps3
  go_wp2_with fail
  have hb9 : Below w.heap.size w ((((w.alloc (Obj.cells #[.string p.c, .slice p.aa n1 p.ca] 24)).alloc (Obj.cells #[.string q.c, .slice q.aa n2 q.ca] 24)).alloc (Obj.cells #[.slice x.ac n3 x.cc, .slice x.ar n4 x.cr] 27)).alloc (Obj.cells #[.slice y.ac n5 y.cc, .slice y.ar n6 y.cr] 27)) := (((((Below.refl _ _).alloc (Nat.le_refl _) _).alloc (by simp) _).alloc (by simp; omega) _).alloc (by simp; omega) _)
  have hx90 : Bx ((((w.alloc (Obj.cells #[.string p.c, .slice p.aa n1 p.ca] 24)).alloc (Obj.cells #[.string q.c, .slice q.aa n2 q.ca] 24)).alloc (Obj.cells #[.slice x.ac n3 x.cc, .slice x.ar n4 x.cr] 27)).alloc (Obj.cells #[.slice y.ac n5 y.cc, .slice y.ar n6 y.cr] 27)) (w.heap.size) 24 [.string p.c, .slice p.aa n1 p.ca] := by
    have h := ((((Bx.new w 24 [.string p.c, .slice p.aa n1 p.ca] _ rfl).alloc (Obj.cells #[.string q.c, .slice q.aa n2 q.ca] 24)).alloc (Obj.cells #[.slice x.ac n3 x.cc, .slice x.ar n4 x.cr] 27)).alloc (Obj.cells #[.slice y.ac n5 y.cc, .slice y.ar n6 y.cr] 27))
    exact h
  have hx91 : Bx ((((w.alloc (Obj.cells #[.string p.c, .slice p.aa n1 p.ca] 24)).alloc (Obj.cells #[.string q.c, .slice q.aa n2 q.ca] 24)).alloc (Obj.cells #[.slice x.ac n3 x.cc, .slice x.ar n4 x.cr] 27)).alloc (Obj.cells #[.slice y.ac n5 y.cc, .slice y.ar n6 y.cr] 27)) (w.heap.size + 1) 24 [.string q.c, .slice q.aa n2 q.ca] := by
    have h := (((Bx.new (w.alloc (Obj.cells #[.string p.c, .slice p.aa n1 p.ca] 24)) 24 [.string q.c, .slice q.aa n2 q.ca] _ rfl).alloc (Obj.cells #[.slice x.ac n3 x.cc, .slice x.ar n4 x.cr] 27)).alloc (Obj.cells #[.slice y.ac n5 y.cc, .slice y.ar n6 y.cr] 27))
    rw [World.size_alloc] at h
    exact h
  have hx92 : Bx ((((w.alloc (Obj.cells #[.string p.c, .slice p.aa n1 p.ca] 24)).alloc (Obj.cells #[.string q.c, .slice q.aa n2 q.ca] 24)).alloc (Obj.cells #[.slice x.ac n3 x.cc, .slice x.ar n4 x.cr] 27)).alloc (Obj.cells #[.slice y.ac n5 y.cc, .slice y.ar n6 y.cr] 27)) (w.heap.size + 2) 27 [.slice x.ac n3 x.cc, .slice x.ar n4 x.cr] := by
    have h := ((Bx.new ((w.alloc (Obj.cells #[.string p.c, .slice p.aa n1 p.ca] 24)).alloc (Obj.cells #[.string q.c, .slice q.aa n2 q.ca] 24)) 27 [.slice x.ac n3 x.cc, .slice x.ar n4 x.cr] _ rfl).alloc (Obj.cells #[.slice y.ac n5 y.cc, .slice y.ar n6 y.cr] 27))
    rw [World.size_alloc, World.size_alloc] at h
    exact h
  have hx93 : Bx ((((w.alloc (Obj.cells #[.string p.c, .slice p.aa n1 p.ca] 24)).alloc (Obj.cells #[.string q.c, .slice q.aa n2 q.ca] 24)).alloc (Obj.cells #[.slice x.ac n3 x.cc, .slice x.ar n4 x.cr] 27)).alloc (Obj.cells #[.slice y.ac n5 y.cc, .slice y.ar n6 y.cr] 27)) (w.heap.size + 3) 27 [.slice y.ac n5 y.cc, .slice y.ar n6 y.cr] := by
    have h := (Bx.new (((w.alloc (Obj.cells #[.string p.c, .slice p.aa n1 p.ca] 24)).alloc (Obj.cells #[.string q.c, .slice q.aa n2 q.ca] 24)).alloc (Obj.cells #[.slice x.ac n3 x.cc, .slice x.ar n4 x.cr] 27)) 27 [.slice y.ac n5 y.cc, .slice y.ar n6 y.cr] _ rfl)
    rw [World.size_alloc, World.size_alloc, World.size_alloc] at h
    exact h
  have hz9 : ((((w.alloc (Obj.cells #[.string p.c, .slice p.aa n1 p.ca] 24)).alloc (Obj.cells #[.string q.c, .slice q.aa n2 q.ca] 24)).alloc (Obj.cells #[.slice x.ac n3 x.cc, .slice x.ar n4 x.cr] 27)).alloc (Obj.cells #[.slice y.ac n5 y.cc, .slice y.ar n6 y.cr] 27)).heap.size = w.heap.size + 4 := by simp
  obtain ⟨w1, hq1⟩ : ∃ W9 : World, ((((w.alloc (Obj.cells #[.string p.c, .slice p.aa n1 p.ca] 24)).alloc (Obj.cells #[.string q.c, .slice q.aa n2 q.ca] 24)).alloc (Obj.cells #[.slice x.ac n3 x.cc, .slice x.ar n4 x.cr] 27)).alloc (Obj.cells #[.slice y.ac n5 y.cc, .slice y.ar n6 y.cr] 27)) = W9 := ⟨_, rfl⟩
  rw [hq1] at hb9 hz9 hx90 hx91 hx92 hx93
  rw [hq1]
  clear hq1
  have HB := Lib.hid hb9
  have Hs1 := Lib.hid hz9
  have Hbp := Lib.hid hx90
  have Hbq := Lib.hid hx91
  have Hbx := Lib.hid hx92
  have Hby := Lib.hid hx93
  clear hb9 hz9 hx90 hx91 hx92 hx93
  have bp_0 := Hbp.out.cell (i := 0) rfl
  have bp_1 := Hbp.out.cell (i := 1) rfl
  have bq_0 := Hbq.out.cell (i := 0) rfl
  have bq_1 := Hbq.out.cell (i := 1) rfl
  have bx_0 := Hbx.out.cell (i := 0) rfl
  have bx_1 := Hbx.out.cell (i := 1) rfl
  have by_0 := Hby.out.cell (i := 0) rfl
  have by_1 := Hby.out.cell (i := 1) rfl
  go_wp2_with fail
  refine (HE1.out _ HB.out).mono ?_
  rintro e w2 ⟨hb9, a1, c1, rfl, hs1, _, _⟩
  clear bp_0 bp_1
  replace Hbp := Lib.hid (Hbp.out.up hb9)
  clear bq_0 bq_1
  replace Hbq := Lib.hid (Hbq.out.up hb9)
  clear bx_0 bx_1
  replace Hbx := Lib.hid (Hbx.out.up hb9)
  clear by_0 by_1
  replace Hby := Lib.hid (Hby.out.up hb9)
  replace HB := Lib.hid (below_up HB.out hb9)
  have Hs2 := Lib.hid (show w1.heap.size ≤ w2.heap.size from hb9.size)
  have HS1 := Lib.hid hs1
  clear hs1
  clear hb9
  have bp_0 := Hbp.out.cell (i := 0) rfl
  have bp_1 := Hbp.out.cell (i := 1) rfl
  have bq_0 := Hbq.out.cell (i := 0) rfl
  have bq_1 := Hbq.out.cell (i := 1) rfl
  have bx_0 := Hbx.out.cell (i := 0) rfl
  have bx_1 := Hbx.out.cell (i := 1) rfl
  have by_0 := Hby.out.cell (i := 0) rfl
  have by_1 := Hby.out.cell (i := 1) rfl
  have BS1 := Lib.hid (Below.refl w2.heap.size w2)
  go_wp2_with fail
  refine (HE2.out _ HB.out).mono ?_
  rintro e w3 ⟨hb9, a2, c2, rfl, hs2, _, _⟩
  clear bp_0 bp_1
  replace Hbp := Lib.hid (Hbp.out.up hb9)
  clear bq_0 bq_1
  replace Hbq := Lib.hid (Hbq.out.up hb9)
  clear bx_0 bx_1
  replace Hbx := Lib.hid (Hbx.out.up hb9)
  clear by_0 by_1
  replace Hby := Lib.hid (Hby.out.up hb9)
  replace BS1 := Lib.hid (below_up BS1.out hb9)
  replace HB := Lib.hid (below_up HB.out hb9)
  have Hs3 := Lib.hid (show w2.heap.size ≤ w3.heap.size from hb9.size)
  have HS2 := Lib.hid hs2
  clear hs2
  clear hb9
  have bp_0 := Hbp.out.cell (i := 0) rfl
  have bp_1 := Hbp.out.cell (i := 1) rfl
  have bq_0 := Hbq.out.cell (i := 0) rfl
  have bq_1 := Hbq.out.cell (i := 1) rfl
  have bx_0 := Hbx.out.cell (i := 0) rfl
  have bx_1 := Hbx.out.cell (i := 1) rfl
  have by_0 := Hby.out.cell (i := 0) rfl
  have by_1 := Hby.out.cell (i := 1) rfl
  go_wp2_with fail
  refine (same5_any (exLk k p q) (exLk k p q) a1 a2 c1 c2 HLL.out true (by simp) w3 (HS1.out.up BS1.out) HS2.out).mono ?_
  rintro e w4 ⟨rfl, hb9⟩
  clear bp_0 bp_1
  replace Hbp := Lib.hid (Hbp.out.up hb9)
  clear bq_0 bq_1
  replace Hbq := Lib.hid (Hbq.out.up hb9)
  clear bx_0 bx_1
  replace Hbx := Lib.hid (Hbx.out.up hb9)
  clear by_0 by_1
  replace Hby := Lib.hid (Hby.out.up hb9)
  replace BS1 := Lib.hid (below_up BS1.out hb9)
  replace HB := Lib.hid (below_up HB.out hb9)
  have Hs4 := Lib.hid (show w3.heap.size ≤ w4.heap.size from hb9.size)
  clear hb9
  have bp_0 := Hbp.out.cell (i := 0) rfl
  have bp_1 := Hbp.out.cell (i := 1) rfl
  have bq_0 := Hbq.out.cell (i := 0) rfl
  have bq_1 := Hbq.out.cell (i := 1) rfl
  have bx_0 := Hbx.out.cell (i := 0) rfl
  have bx_1 := Hbx.out.cell (i := 1) rfl
  have by_0 := Hby.out.cell (i := 0) rfl
  have by_1 := Hby.out.cell (i := 1) rfl
  go_wp2_with fail
  refine (HA1.out _ HB.out).mono ?_
  rintro e w5 ⟨er, idx, lst, hsp, hb9, a3, c3, rfl, hs3⟩
  clear bp_0 bp_1
  replace Hbp := Lib.hid (Hbp.out.up hb9)
  clear bq_0 bq_1
  replace Hbq := Lib.hid (Hbq.out.up hb9)
  clear bx_0 bx_1
  replace Hbx := Lib.hid (Hbx.out.up hb9)
  clear by_0 by_1
  replace Hby := Lib.hid (Hby.out.up hb9)
  replace BS1 := Lib.hid (below_up BS1.out hb9)
  replace HB := Lib.hid (below_up HB.out hb9)
  have Hs5 := Lib.hid (show w4.heap.size ≤ w5.heap.size from hb9.size)
  have HS3 := Lib.hid hs3
  clear hs3
  have HSP := Lib.hid hsp
  clear hsp
  clear hb9
  have bp_0 := Hbp.out.cell (i := 0) rfl
  have bp_1 := Hbp.out.cell (i := 1) rfl
  have bq_0 := Hbq.out.cell (i := 0) rfl
  have bq_1 := Hbq.out.cell (i := 1) rfl
  have bx_0 := Hbx.out.cell (i := 0) rfl
  have bx_1 := Hbx.out.cell (i := 1) rfl
  have by_0 := Hby.out.cell (i := 0) rfl
  have by_1 := Hby.out.cell (i := 1) rfl
  have BS3 := Lib.hid (Below.refl w5.heap.size w5)
  go_wp2_with fail
  refine (HA2.out _ HB.out).mono ?_
  rintro e w6 ⟨er', idx', lst', hsp, hb9, a4, c4, rfl, hs4⟩
  clear bp_0 bp_1
  replace Hbp := Lib.hid (Hbp.out.up hb9)
  clear bq_0 bq_1
  replace Hbq := Lib.hid (Hbq.out.up hb9)
  clear bx_0 bx_1
  replace Hbx := Lib.hid (Hbx.out.up hb9)
  clear by_0 by_1
  replace Hby := Lib.hid (Hby.out.up hb9)
  replace BS1 := Lib.hid (below_up BS1.out hb9)
  replace BS3 := Lib.hid (below_up BS3.out hb9)
  replace HB := Lib.hid (below_up HB.out hb9)
  have Hs6 := Lib.hid (show w5.heap.size ≤ w6.heap.size from hb9.size)
  have HS4 := Lib.hid hs4
  clear hs4
  clear hb9
  have bp_0 := Hbp.out.cell (i := 0) rfl
  have bp_1 := Hbp.out.cell (i := 1) rfl
  have bq_0 := Hbq.out.cell (i := 0) rfl
  have bq_1 := Hbq.out.cell (i := 1) rfl
  have bx_0 := Hbx.out.cell (i := 0) rfl
  have bx_1 := Hbx.out.cell (i := 1) rfl
  have by_0 := Hby.out.cell (i := 0) rfl
  have by_1 := Hby.out.cell (i := 1) rfl
  obtain ⟨rfl, rfl, rfl⟩ := anySpec_one hsp HSP.out
  have HLN := Lib.hid (HLX.out _ _ _ hsp)
  clear hsp
  go_wp2_with fail
  refine (same5_any lst' lst' a3 a4 c3 c4 HLN.out true (by simp) w6 (HS3.out.up BS3.out) HS4.out).mono ?_
  rintro e w7 ⟨rfl, hb9⟩
  clear bp_0 bp_1
  replace Hbp := Lib.hid (Hbp.out.up hb9)
  clear bq_0 bq_1
  replace Hbq := Lib.hid (Hbq.out.up hb9)
  clear bx_0 bx_1
  replace Hbx := Lib.hid (Hbx.out.up hb9)
  clear by_0 by_1
  replace Hby := Lib.hid (Hby.out.up hb9)
  replace BS1 := Lib.hid (below_up BS1.out hb9)
  replace BS3 := Lib.hid (below_up BS3.out hb9)
  replace HB := Lib.hid (below_up HB.out hb9)
  have Hs7 := Lib.hid (show w6.heap.size ≤ w7.heap.size from hb9.size)
  clear hb9
  have bp_0 := Hbp.out.cell (i := 0) rfl
  have bp_1 := Hbp.out.cell (i := 1) rfl
  have bq_0 := Hbq.out.cell (i := 0) rfl
  have bq_1 := Hbq.out.cell (i := 1) rfl
  have bx_0 := Hbx.out.cell (i := 0) rfl
  have bx_1 := Hbx.out.cell (i := 1) rfl
  have by_0 := Hby.out.cell (i := 0) rfl
  have by_1 := Hby.out.cell (i := 1) rfl
  go_wp2_with fail
  go_ret
  exact ⟨by simp, HB.out⟩

theorem proof_cells : Try.prog.cellsOf 24 = 2 := by kernel_rfl
theorem either_cells : Try.prog.cellsOf 27 = 2 := by kernel_rfl
theorem str_cells : Try.prog.cellsOf 9 = 1 := by kernel_rfl
theorem strs_cells : Try.prog.cellsOf 22 = 1 := by kernel_rfl
theorem str_bytes : Try.prog.bytesOf 9 = 16 := by kernel_rfl
theorem strs_bytes : Try.prog.bytesOf 22 = 24 := by kernel_rfl
theorem reach16 {n : Nat} (h : n * 16 ≤ reachBytes) : n ≤ 8796093022206 := by unfold reachBytes at h; omega
theorem reach24 {n : Nat} (h : n * 24 ≤ reachBytes) : n ≤ 8796093022206 := by unfold reachBytes at h; omega
section
variable {H : Type} {enc : TypeId × Value → H} {w : World}
theorem open_prf {sp : Nat → Bool} {held : Bool} (fuel : Nat) (cs : List Value) (y : DataW H × List MemPlace) (hW : Wt Try.prog 24 y.1) (h : DataW.trod enc Try.prog w 0 sp held fuel 24 cs = some y) :
    ∃ p : PrfA, cs = p.cells ∧ p.At w ∧ p.l.length ≤ 8796093022206 := by
  obtain ⟨h1, h2⟩ := open_cellsW Try.underlying24 (by kernel_rfl) proof_cells hW h
  obtain ⟨a, b, rfl⟩ := list2 h1
  obtain ⟨_, _, _, ha⟩ := h2 0 _ _ rfl rfl
  obtain ⟨_, _, hw, hb⟩ := h2 1 _ _ rfl rfl
  obtain ⟨s, rfl⟩ := open_str Try.underlying9 ha
  obtain ⟨al, cap, l, rfl, hn, hno, hs⟩ := open_strsW Try.underlying22 Try.underlying9 str_cells hw hb
  rw [str_bytes] at hn
  exact ⟨⟨s, al, cap, l⟩, rfl, ⟨hs, hno⟩, reach16 hn⟩
theorem open_rows {sp : Nat → Bool} {held : Bool} (fuel : Nat) (c : Value) (y : DataW H × List MemPlace) (hW : Wt Try.prog 25 y.1) (h : DataW.trod enc Try.prog w 0 sp held fuel 25 [c] = some y) :
    ∃ (a : Option Addr) (cap : Nat) (rs : List RowA), c = .slice a rs.length cap ∧ rs.length ≤ 8796093022206 ∧ RowsAt w a rs ∧ (∀ r ∈ rs, r.a = none → r.c = 0) ∧ (∀ r ∈ rs, r.l.length ≤ 8796093022206) := by
  obtain ⟨a, cap, rs, h1, h2, _, h4, h5⟩ := open_elsW (e := 22) RowA.cells (fun r => RowA.At w r ∧ (r.a = none → r.c = 0) ∧ r.l.length ≤ 8796093022206) Try.underlying25 strs_cells (by omega) hW (fun n l y' hl hW' hy => by
    match l, hl with
    | [c'], _ =>
      obtain ⟨al, cp, bs, rfl, hn, hno, hs⟩ := open_strsW Try.underlying22 Try.underlying9 str_cells hW' hy
      rw [str_bytes] at hn
      exact ⟨⟨al, cp, bs⟩, rfl, hs, hno, reach16 hn⟩) h
  rw [strs_bytes] at h2
  exact ⟨a, cap, rs, h1, reach24 h2, ⟨h4, fun r hr => (h5 r hr).1⟩, fun r hr => (h5 r hr).2.1, fun r hr => (h5 r hr).2.2⟩
theorem open_eith {sp : Nat → Bool} {held : Bool} (fuel : Nat) (cs : List Value) (y : DataW H × List MemPlace) (hW : Wt Try.prog 27 y.1) (h : DataW.trod enc Try.prog w 0 sp held fuel 27 cs = some y) :
    ∃ x : EithA, cs = [.slice x.ac x.cs.length x.cc, .slice x.ar x.rs.length x.cr] ∧ x.At w ∧ x.cs.length ≤ 8796093022206 ∧ ∀ r ∈ x.rs, r.l.length ≤ 8796093022206 := by
  obtain ⟨h1, h2⟩ := open_cellsW Try.underlying27 (by kernel_rfl) either_cells hW h
  obtain ⟨a, b, rfl⟩ := list2 h1
  obtain ⟨_, _, hwa, ha⟩ := h2 0 _ _ rfl rfl
  obtain ⟨_, _, hwb, hb⟩ := h2 1 _ _ rfl rfl
  obtain ⟨al, cap, l, rfl, hn, hno, hs⟩ := open_strsW Try.underlying22 Try.underlying9 str_cells hwa ha
  obtain ⟨ar, cr, rs, rfl, hn2, hr, hno2, hr2⟩ := open_rows _ _ _ hwb hb
  rw [str_bytes] at hn
  exact ⟨⟨al, cap, l, ar, cr, rs⟩, rfl, ⟨hs, hr, hno2⟩, reach16 hn, hr2⟩
end
theorem agg_of {cs : Array Value} {l : List Value} (h : cs.toList = l) : Value.agg cs = .agg l.toArray := by rw [← h]

set_option maxRecDepth 100000 in
theorem sigmaExtracts_calls {H : Type} (enc : TypeId × Value → H) (W : World) (base : Nat) {v0 v1 v2 v3 v4 : Value} {d0 d1 d2 d3 d4 : DataW H} {p0 p1 p2 p3 p4 : List MemPlace}
    (h0 : DataW.Trod enc Try.prog W 0 (fun _ => true) true 3 v0 d0 p0) (h1 : DataW.Trod enc Try.prog W 0 (fun _ => true) true 24 v1 d1 p1) (h2 : DataW.Trod enc Try.prog W 0 (fun _ => true) true 24 v2 d2 p2) (h3 : DataW.Trod enc Try.prog W 0 (fun _ => true) true 27 v3 d3 p3) (h4 : DataW.Trod enc Try.prog W 0 (fun _ => true) true 27 v4 d4 p4)
    (k0 : Value.okWide Try.prog W .any base 3 v0) (k1 : Value.okWide Try.prog W .any base 24 v1) (k2 : Value.okWide Try.prog W .any base 24 v2) (k3 : Value.okWide Try.prog W .any base 27 v3) (k4 : Value.okWide Try.prog W .any base 27 v4)
    (_lt0 : ∀ x ∈ p0, x.block < W.heap.size) (_lt1 : ∀ x ∈ p1, x.block < W.heap.size) (_lt2 : ∀ x ∈ p2, x.block < W.heap.size) (_lt3 : ∀ x ∈ p3, x.block < W.heap.size) (_lt4 : ∀ x ∈ p4, x.block < W.heap.size)
    (hsz : (DataW.weightsEach Try.prog ([3, 24, 24, 27, 27] ++ Rows.sigmaExtractsSpec.plain.varTypes Try.prog) ([d0, d1, d2, d3, d4] ++ [])).all (· ≤ reachBytes) = true) :
    Calls Try.prog 3 #[v0, v1, v2, v3, v4] W fun e w' => e = .returned (.bool true) ∧ Below W.heap.size W w' := by
  obtain ⟨k, rfl, _, _, _⟩ := open_int Try.underlying3 k0 h0
  obtain ⟨c1, rfl, _⟩ := okWide_struct Try.underlying24 k1
  obtain ⟨c2, rfl, _⟩ := okWide_struct Try.underlying24 k2
  obtain ⟨c3, rfl, _⟩ := okWide_struct Try.underlying27 k3
  obtain ⟨c4, rfl, _⟩ := okWide_struct Try.underlying27 k4
  obtain ⟨f1, h1⟩ := h1
  obtain ⟨f2, h2⟩ := h2
  obtain ⟨f3, h3⟩ := h3
  obtain ⟨f4, h4⟩ := h4
  obtain ⟨p, hp, hpa, hpl⟩ := open_prf f1 _ _ (Wt.arg hsz (j := 1) rfl rfl) h1
  obtain ⟨q, hq, hqa, _⟩ := open_prf f2 _ _ (Wt.arg hsz (j := 2) rfl rfl) h2
  obtain ⟨x, hx, hxa, hxl, hxr⟩ := open_eith f3 _ _ (Wt.arg hsz (j := 3) rfl rfl) h3
  obtain ⟨y, hy, hya, _⟩ := open_eith f4 _ _ (Wt.arg hsz (j := 4) rfl rfl) h4
  rw [agg_of (show c1.toList = _ from hp), agg_of (show c2.toList = _ from hq), agg_of (show c3.toList = _ from hx), agg_of (show c4.toList = _ from hy)]
  exact sigmaExtracts_any k p q x y hpl hxl hxr W hpa hqa hxa hya

set_option maxRecDepth 100000 in
theorem sigmaExtracts_lifted (os : Os) (started : os.Started) (H : Type) (enc : TypeId × Value → H) :
    ReturnsInHanded {} Try.checked os 3 .any (Rows.sigmaExtractsSpec.pre6 enc Try.prog Try.f3 Rows.sigmaExtractsRow.domain false) (Rows.sigmaExtractsSpec.post enc Try.prog Try.f3 false true false false) := by
  refine returnsInHanded_of_change_sized (C := Try.checked) law_own started (by kernel_rfl) Try.func3
    (ChangeSpec.witness6 (enc := enc) (C := Try.checked) false ⟨#[], #[.int .i64 0, .agg #[.string ⟨#[]⟩, .slice none 0 0], .agg #[.string ⟨#[]⟩, .slice none 0 0], .agg #[.slice none 0 0, .slice none 0 0], .agg #[.slice none 0 0, .slice none 0 0]], []⟩ 8 (by kernel_rfl) (by kernel_rfl) (by kernel_rfl) (by kernel_rfl)) ?_
  intro W base args ds gs before hval0 hW _ hsz0 _
  have hsz : (DataW.weightsEach Try.prog (Try.f3.params.toList ++ Rows.sigmaExtractsSpec.plain.varTypes Try.prog) (ds ++ gs)).all (· ≤ reachBytes) = true := hsz0
  clear hsz0
  have hval : ∀ (j : Nat) t v, Try.f3.params[j]? = some t → args[j]? = some v → Value.okWide Try.prog W .any base t v := hval0
  have hW' := hW
  obtain ⟨p, q, hA0, hV, rfl, _, _⟩ := hW
  have hA : DataW.TrodAll enc Try.prog W 0 (fun _ => true) true Try.f3.params.toList args.toList ds p := hA0
  rw [Try.params3] at hA hval hsz
  obtain ⟨v0, vs0, d0, ds0, p0, q0, hargs, rfl, rfl, h0, r0⟩ := trodAll_cons hA
  obtain ⟨v1, vs1, d1, ds1, p1, q1, rfl, rfl, rfl, h1, r1⟩ := trodAll_cons r0
  obtain ⟨v2, vs2, d2, ds2, p2, q2, rfl, rfl, rfl, h2, r2⟩ := trodAll_cons r1
  obtain ⟨v3, vs3, d3, ds3, p3, q3, rfl, rfl, rfl, h3, r3⟩ := trodAll_cons r2
  obtain ⟨v4, vs4, d4, ds4, p4, q4, rfl, rfl, rfl, h4, r4⟩ := trodAll_cons r3
  obtain ⟨rfl, rfl, rfl⟩ := trodAll_nil r4
  obtain rfl : args = #[v0, v1, v2, v3, v4] := by cases args; simp_all
  obtain ⟨rfl, rfl⟩ := trodVars_none hV
  have lt0 : ∀ x ∈ p0, x.block < W.heap.size := by obtain ⟨m, hm⟩ := h0; exact DataW.trod_lt m _ _ _ hm
  have lt1 : ∀ x ∈ p1, x.block < W.heap.size := by obtain ⟨m, hm⟩ := h1; exact DataW.trod_lt m _ _ _ hm
  have lt2 : ∀ x ∈ p2, x.block < W.heap.size := by obtain ⟨m, hm⟩ := h2; exact DataW.trod_lt m _ _ _ hm
  have lt3 : ∀ x ∈ p3, x.block < W.heap.size := by obtain ⟨m, hm⟩ := h3; exact DataW.trod_lt m _ _ _ hm
  have lt4 : ∀ x ∈ p4, x.block < W.heap.size := by obtain ⟨m, hm⟩ := h4; exact DataW.trod_lt m _ _ _ hm
  clear hA0 hval0
  refine (sigmaExtracts_calls enc W base h0 h1 h2 h3 h4 (hval 0 3 v0 rfl rfl) (hval 1 24 v1 rfl rfl) (hval 2 24 v2 rfl rfl) (hval 3 27 v3 rfl rfl) (hval 4 27 v4 rfl rfl) lt0 lt1 lt2 lt3 lt4 hsz).mono fun e W' ⟨he, bel⟩ => ?_
  subst he
  exact ⟨_, rfl, _, _, _, [], _, [], hW', trodAll_mk1 (shut_bool Try.underlying4 _), (trodAll_cons_mk (Below.trod law_laidOut (by kernel_rfl) (of_decide_eq_true (by kernel_rfl)) h0 bel lt0) (trodAll_cons_mk (Below.trod law_laidOut (by kernel_rfl) (of_decide_eq_true (by kernel_rfl)) h1 bel lt1) (trodAll_cons_mk (Below.trod law_laidOut (by kernel_rfl) (of_decide_eq_true (by kernel_rfl)) h2 bel lt2) (trodAll_cons_mk (Below.trod law_laidOut (by kernel_rfl) (of_decide_eq_true (by kernel_rfl)) h3 bel lt3) (trodAll_cons_mk (Below.trod law_laidOut (by kernel_rfl) (of_decide_eq_true (by kernel_rfl)) h4 bel lt4) trodAll_mk0))))), rfl, bel.frame _, fun h => by cases h⟩

theorem sigmaExtracts_holds : Rows.SigmaExtractsSaid :=
  OpenClaim.holds_of_wide 3 Try.f3 rfl rfl rfl rfl rfl rfl rfl ⟨rfl, rfl, rfl, rfl, rfl⟩ rfl rfl rfl rfl rfl (by kernel_rfl) Try.func3 (by kernel_rfl)
    (of_decide_eq_true (by kernel_rfl)) (by unfold Func.isWrapper; first | (rw [if_pos (by decide +kernel)]; kernel_rfl) | (rw [if_neg (by decide +kernel)]; exact ⟨rfl, rfl⟩))
    (fun os started H enc _ => sigmaExtracts_lifted os started H enc)
#print axioms sigmaExtracts_holds



end Go.Proofs.Ytipgjookfdkciaa
