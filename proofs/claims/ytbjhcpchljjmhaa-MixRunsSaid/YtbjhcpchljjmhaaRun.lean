/- Run, the program's and the document's. No condition. -/
import Derived.Test.YtbjhcpchljjmhaaNetRef
import Derived.Test.YtbjhcpchljjmhaaRunPlain
import Derived.BigRegion
import Derived.BigQuiet
namespace Go.Proofs.Ytbjhcpchljjmhaa
open Go.RowKit

theorem good_at {n : Nat} {gs : List (Int × Int)} (h : GoodGates n gs) (j : Nat) (hj : j < gs.length) : ∃ p q : Nat, gs[j] = ((p : Int), (q : Int)) ∧ p < q ∧ q < n := by
  obtain ⟨h1, h2, h3⟩ := h gs[j] (List.getElem_mem hj)
  refine ⟨gs[j].1.toNat, gs[j].2.toNat, ?_, by omega, by omega⟩
  rw [Int.toNat_of_nonneg h1, Int.toNat_of_nonneg (by omega)]

theorem flat_at (gs : List (Int × Int)) : ∀ j (hj : j < gs.length), (flat gs)[j * 2]? = some (.int .i64 gs[j].1) ∧ (flat gs)[j * 2 + 1]? = some (.int .i64 gs[j].2) := by
  induction gs with
  | nil => intro j hj; simp at hj
  | cons g gs ih =>
    intro j hj
    cases j with
    | zero => simp [flat]
    | succ j =>
      have h := ih j (by simpa using hj)
      have e : flat (g :: gs) = .int .i64 g.1 :: .int .i64 g.2 :: flat gs := by simp [flat]
      rw [e, show (j + 1) * 2 = j * 2 + 2 by omega]
      simpa using h

/-- The answer of Run: the rows, or what is wrong. -/
def RunPost (w : World) (n : Int) (bs : List Bool) (e : Ending) (w' : World) : Prop :=
  ∃ u, Below w.heap.size w w' ∧
    (if 1 ≤ n ∧ n ≤ 256 then
      if bs.length = (gatesL (iota n.toNat)).length then e = .returned (.tuple #[u, .int .i64 0]) ∧ Made w w' u (runTo (gatesL (iota n.toNat)) bs (iota n.toNat) bs.length)
      else e = .returned (.tuple #[.slice none 0 0, .int .i64 2])
    else e = .returned (.tuple #[.slice none 0 0, .int .i64 4]))

set_option maxHeartbeats 1000000 in
theorem Run_bad (n : Int) (ca : Option Addr) (len ccap : Nat) (w : World) (hn : ¬ (1 ≤ n ∧ n ≤ 256)) : Calls Try.prog 15 #[.int .i64 n, .slice ca len ccap] w fun e w' => e = .returned (.tuple #[.slice none 0 0, .int .i64 4]) ∧ w = w' := by
  go_enter Try.func15, Try.ntmps15
  go_wp2_with (go_at_call 11; refine (Plan_bad n w hn).mono ?_; rintro e w1 ⟨rfl, rfl⟩)
  go_ret2
  exact ⟨rfl, rfl⟩

set_option maxHeartbeats 1000000 in
theorem Run_form (n : Nat) (ca : Option Addr) (len ccap : Nat) (w : World) (h1 : 1 ≤ n) (h2 : n ≤ 256) (hl : len ≠ (gatesL (iota n)).length) :
    Calls Try.prog 15 #[.int .i64 n, .slice ca len ccap] w fun e w' => e = .returned (.tuple #[.slice none 0 0, .int .i64 2]) ∧ Below w.heap.size w w' := by
  go_enter Try.func15, Try.ntmps15
  go_wp2_with fail
  refine (Plan_ok n w h1 h2).mono ?_
  rintro e w1 ⟨u, rfl, hm, hb1⟩
  obtain ⟨au, cu, rfl, _⟩ := own_form hm.own
  have hne : ((len : Int) != ((gatesL (iota n)).length : Int)) = true := by simp; omega
  clear hm
  go_wp2_with fail
  go_ret2
  exact ⟨rfl, hb1⟩

set_option maxHeartbeats 2000000 in
theorem Run_ok (n : Nat) (ca : Option Addr) (bs : List Bool) (ccap : Nat) (w : World) (h1 : 1 ≤ n) (h2 : n ≤ 256) (hl : bs.length = (gatesL (iota n)).length) (hs : Sl w w.heap.size ca (bs.map Value.bool)) :
    Calls Try.prog 15 #[.int .i64 n, .slice ca bs.length ccap] w (RunPost w n bs) := by
  have hle := gates_le n h2
  have hgood := plan_good n
  have HGOOD : Hid (GoodGates n (gatesL (iota n))) := hgood
  have HS := Lib.hid hs
  have fin : Hid (∀ u w', Below w.heap.size w w' → Made w w' u (runTo (gatesL (iota n)) bs (iota n) bs.length) → RunPost w n bs (.returned (.tuple #[u, .int .i64 0])) w') := by
    intro u w' hb hm
    refine ⟨u, hb, ?_⟩
    rw [if_pos ⟨by omega, by omega⟩, if_pos (by simpa using hl)]
    exact ⟨rfl, by simpa using hm⟩
  clear hgood hs
  go_enter Try.func15, Try.ntmps15
  go_wp2_with fail
  refine (Plan_ok n w h1 h2).mono ?_
  rintro e w1 ⟨u, rfl, hm, hb1⟩
  obtain ⟨au, cu, rfl, hau⟩ := own_form hm.own
  have hne : ((bs.length : Int) != ((gatesL (iota n)).length : Int)) = false := by simp [hl]
  have HM := Lib.hid hm
  have HB1 := Lib.hid hb1
  have HAU := Lib.hid hau
  have HL := Lib.hid hl
  clear hm hb1 hau hl
  go_wp2_with fail
  refine (wires_any n w1 (by omega)).mono ?_
  rintro e w2 ⟨o, rfl, hmo, hb2⟩
  obtain ⟨ao, co, rfl, hao⟩ := own_form hmo.own
  obtain ⟨ob, rfl, hob⟩ : ∃ ob, ao = some ⟨ob, 0, none⟩ ∧ ob < w2.heap.size := by
    rcases hao with h | h
    · rw [iota_length] at h; omega
    · exact h
  have HMO := Lib.hid hmo
  have HB2 := Lib.hid (below_up HB1.out hb2)
  have HGB := Lib.hid hb2
  have hobn := hmo.new_ ob (by simp [Value.ownBlock])
  have hz1 := HB1.out.size
  have hz2 := hb2.size
  clear hmo hb2 hao
  generalize hGL : gatesL (iota n) = GL at *
  have HGL := Lib.hid hGL
  clear hGL
  go_wp2_with fail
  go_loopw [30] (fun i wr => ∃ j : Nat, j ≤ GL.length ∧ i = .int .i64 j ∧ Hid (wr.ownsRow 0 3 1 (.slice (some ⟨ob, 0, none⟩) (iota n).length co) (iota n).length ((runTo GL bs (iota n) j).map (Value.int .i64))) ∧ Hid (Below w1.heap.size w1 wr)) (fun i _ => GL.length - (intOf i).toNat)
  case atStart => exact ⟨0, Nat.zero_le _, rfl, HMO.out.own, HGB.out⟩
  case round =>
    obtain ⟨j, hj, rfl, HO, HN⟩ := hrel
    clear HMO HB2 HGB
    by_cases hjl : j < GL.length
    · have hlb := HL.out
      obtain ⟨g, rfl, hg⟩ : ∃ g, au = some ⟨g, 0, none⟩ ∧ g < w1.heap.size := by
        rcases HAU.out with h | h
        · omega
        · exact h
      obtain ⟨cb, off, rfl, hcb, hcell⟩ := (HS.out.below (HB1.out.trans (HN.out.mono hz1))).at j (by simp; omega)
      have hbj : bs[j] = bs.getD j false := by simp [List.getD, List.getElem?_eq_getElem (show j < bs.length by omega)]
      rw [List.getElem_map, hbj] at hcell
      clear hbj
      obtain ⟨p, q, hpq, hlt, hqn⟩ := good_at HGOOD.out j hjl
      have hx := HM.out.own.cellAt (j * 2) (by omega)
      have hy := HM.out.own.cellAt (j * 2 + 1) (by omega)
      obtain ⟨f1, f2⟩ := flat_at GL j hjl
      rw [f1, hpq] at hx
      rw [f2, hpq] at hy
      rw [← HN.out.cell (p := ⟨g, j * 2, none⟩) hg] at hx
      rw [← HN.out.cell (p := ⟨g, j * 2 + 1, none⟩) hg] at hy
      have hzr := HN.out.size
      have hgr : g < wr.heap.size := by omega
      have hcr : cb < wr.heap.size := by omega
      have hil := iota_length n
      have hrl := runTo_length GL bs (iota n) j
      have ha := HO.out.cellAt p (by omega)
      have hb := HO.out.cellAt q (by omega)
      have hfa := HO.out.frozenAt p
      have hfb := HO.out.frozenAt q
      have hobr := (HO.out.lt ob (by simp [Value.ownBlock])).2
      have e1 : ∀ i, i < n → ((runTo GL bs (iota n) j).map (Value.int .i64))[i]? = some (.int .i64 ((runTo GL bs (iota n) j).getD i 0)) := by
        intro i hi; simp [List.getD, List.getElem?_eq_getElem (show i < (runTo GL bs (iota n) j).length by omega)]
      rw [e1 p (by omega)] at ha
      rw [e1 q hqn] at hb
      have hst : runTo GL bs (iota n) (j + 1) = if bs.getD j false then swapI (runTo GL bs (iota n) j) p q else runTo GL bs (iota n) j := by
        rw [runTo]
        have e4 : GL.getD j (0, 0) = ((p : Int), (q : Int)) := by simp [List.getD, hjl, hpq]
        rw [e4]; rfl
      have HST := Lib.hid hst
      have HIL := Lib.hid hil
      have HRL := Lib.hid hrl
      have hjb : j < bs.length := by omega
      have hiln : (iota n).length ≤ 256 := by omega
      have hpl : (p : Int) < ((iota n).length : Int) := by omega
      have hql : (q : Int) < ((iota n).length : Int) := by omega
      have hpl' : p < (iota n).length := by omega
      have hql' : q < (iota n).length := by omega
      clear f1 f2 hst e1 hil hrl hpq hlb
      simp only at hx hy
      generalize hR : runTo GL bs (iota n) j = R at *
      generalize hR1 : runTo GL bs (iota n) (j + 1) = R1 at *
      have HXY : Hid (R.getD p 0 = R.getD p 0 ∧ R.getD q 0 = R.getD q 0) := ⟨rfl, rfl⟩
      generalize hX : R.getD p 0 = x at ha
      generalize hY : R.getD q 0 = y at hb
      clear HXY
      have HXY : Hid (R.getD p 0 = x ∧ R.getD q 0 = y) := ⟨hX, hY⟩
      clear hX hY
      have HR := Lib.hid hR
      have HR1 := Lib.hid hR1
      clear hR hR1
      generalize bs.getD j false = c at hcell HST
      cases c
      · go_wp2_with fail
        go_roundw
        case rel => exact ⟨j + 1, by omega, by go_num, by show World.ownsRow _ _ _ _ _ _ _; rw [HR1.out, HST.out]; exact HO.out.alloc _, HN.out.alloc hzr _⟩
        case measure => simp [intOf]; omega
      · go_wp2_with fail
        go_region
        have HS1 : Hid (((wr.setCell ⟨ob, p, none⟩ (.int .i64 y)).setCell ⟨ob, q, none⟩ (.int .i64 x)).ownsRow 0 3 1 (.slice (some ⟨ob, 0, none⟩) (iota n).length co) (iota n).length (R1.map (Value.int .i64))) := by
          have h := ((HO.out.stored p (.int .i64 y)).1.stored q (.int .i64 x)).1
          have e : swapI R p q = (R.set p y).set q x := by rw [swapI, HXY.out.1, HXY.out.2]
          show World.ownsRow _ _ _ _ _ _ _
          rw [HST.out]
          simp only [↓reduceIte]
          rw [e, List.map_set, List.map_set]
          exact h
        have HN1 : Hid (Below w1.heap.size w1 (((wr.setCell ⟨ob, p, none⟩ (.int .i64 y)).setCell ⟨ob, q, none⟩ (.int .i64 x)).alloc (.cells #[.int .i64 p, .int .i64 q] 33))) :=
          ((HN.out.setCell hobn _).setCell hobn _).alloc (by simp [World.setCell]; omega) _
        clear ha hb hfa hfb
        go_wp2_with fail
        go_roundw
        case rel => exact ⟨j + 1, by omega, by go_num, by show World.ownsRow _ _ _ _ _ _ _; rw [HR1.out]; exact HS1.out.alloc _, HN1.out.drew⟩
        case measure => simp [intOf]; omega
    · have hjn : j = GL.length := by omega
      subst hjn
      have hfin := fin.out (.slice (some ⟨ob, 0, none⟩) (iota n).length co) wr (HB1.out.trans (HN.out.mono hz1)) ⟨by rw [runTo_length, HL.out]; exact HO.out, fun q hq => by simp [Value.ownBlock] at hq; omega⟩
      have HF : Hid (RunPost w n bs _ wr) := hfin
      clear hfin fin HO
      go_wp2_with fail
      go_ret2
      exact HF.out

set_option maxHeartbeats 1000000 in
theorem refRun_bad (n : Int) (ca : Option Addr) (len ccap : Nat) (w : World) (hn : ¬ (1 ≤ n ∧ n ≤ 256)) : Calls Try.prog 16 #[.int .i64 n, .slice ca len ccap] w fun e w' => e = .returned (.tuple #[.slice none 0 0, .int .i64 4]) ∧ w = w' := by
  go_enter Try.func16, Try.ntmps16
  go_wp2_with (go_at_call 14; refine (refPlan_bad n w hn).mono ?_; rintro e w1 ⟨rfl, rfl⟩)
  go_ret2
  exact ⟨rfl, rfl⟩

set_option maxHeartbeats 1000000 in
theorem refRun_form (n : Nat) (ca : Option Addr) (len ccap : Nat) (w : World) (h1 : 1 ≤ n) (h2 : n ≤ 256) (hl : len ≠ (gatesL (iota n)).length) :
    Calls Try.prog 16 #[.int .i64 n, .slice ca len ccap] w fun e w' => e = .returned (.tuple #[.slice none 0 0, .int .i64 2]) ∧ Below w.heap.size w w' := by
  go_enter Try.func16, Try.ntmps16
  go_wp2_with fail
  refine (refPlan_ok n w h1 h2).mono ?_
  rintro e w1 ⟨u, rfl, hm, hb1⟩
  obtain ⟨au, cu, rfl, _⟩ := own_form hm.own
  have hne : (((gatesL (iota n)).length : Int) != (len : Int)) = true := by simp; omega
  clear hm
  go_wp2_with fail
  go_ret2
  exact ⟨rfl, hb1⟩

set_option maxHeartbeats 2000000 in
theorem refRun_ok (n : Nat) (ca : Option Addr) (bs : List Bool) (ccap : Nat) (w : World) (h1 : 1 ≤ n) (h2 : n ≤ 256) (hl : bs.length = (gatesL (iota n)).length) (hs : Sl w w.heap.size ca (bs.map Value.bool)) :
    Calls Try.prog 16 #[.int .i64 n, .slice ca bs.length ccap] w (RunPost w n bs) := by
  have hle := gates_le n h2
  have hgood := plan_good n
  have HGOOD : Hid (GoodGates n (gatesL (iota n))) := hgood
  have HS := Lib.hid hs
  have fin : Hid (∀ u w', Below w.heap.size w w' → Made w w' u (runTo (gatesL (iota n)) bs (iota n) bs.length) → RunPost w n bs (.returned (.tuple #[u, .int .i64 0])) w') := by
    intro u w' hb hm
    refine ⟨u, hb, ?_⟩
    rw [if_pos ⟨by omega, by omega⟩, if_pos (by simpa using hl)]
    exact ⟨rfl, by simpa using hm⟩
  clear hgood hs
  go_enter Try.func16, Try.ntmps16
  go_wp2_with fail
  refine (refPlan_ok n w h1 h2).mono ?_
  rintro e w1 ⟨u, rfl, hm, hb1⟩
  obtain ⟨au, cu, rfl, hau⟩ := own_form hm.own
  have hne : (((gatesL (iota n)).length : Int) != (bs.length : Int)) = false := by simp [hl]
  have HM := Lib.hid hm
  have HB1 := Lib.hid hb1
  have HAU := Lib.hid hau
  have HL := Lib.hid hl
  clear hm hb1 hau hl
  go_wp2_with fail
  refine (refUpTo_any n w1 (by omega)).mono ?_
  rintro e w2 ⟨o, rfl, hmo, hb2⟩
  obtain ⟨ao, co, rfl, hao⟩ := own_form hmo.own
  obtain ⟨ob, rfl, hob⟩ : ∃ ob, ao = some ⟨ob, 0, none⟩ ∧ ob < w2.heap.size := by
    rcases hao with h | h
    · rw [iota_length] at h; omega
    · exact h
  have HMO := Lib.hid hmo
  have HB2 := Lib.hid (below_up HB1.out hb2)
  have HGB := Lib.hid hb2
  have hobn := hmo.new_ ob (by simp [Value.ownBlock])
  have hz1 := HB1.out.size
  have hz2 := hb2.size
  clear hmo hb2 hao
  generalize hGL : gatesL (iota n) = GL at *
  have HGL := Lib.hid hGL
  clear hGL
  go_wp2_with fail
  go_loopw [30] (fun i wr => ∃ j : Nat, j ≤ GL.length ∧ i = .int .i64 j ∧ Hid (wr.ownsRow 0 3 1 (.slice (some ⟨ob, 0, none⟩) (iota n).length co) (iota n).length ((runTo GL bs (iota n) j).map (Value.int .i64))) ∧ Hid (Below w1.heap.size w1 wr)) (fun i _ => GL.length - (intOf i).toNat)
  case atStart => exact ⟨0, Nat.zero_le _, rfl, HMO.out.own, HGB.out⟩
  case round =>
    obtain ⟨j, hj, rfl, HO, HN⟩ := hrel
    clear HMO HB2 HGB
    by_cases hjl : j < GL.length
    · have hlb := HL.out
      obtain ⟨g, rfl, hg⟩ : ∃ g, au = some ⟨g, 0, none⟩ ∧ g < w1.heap.size := by
        rcases HAU.out with h | h
        · omega
        · exact h
      obtain ⟨cb, off, rfl, hcb, hcell⟩ := (HS.out.below (HB1.out.trans (HN.out.mono hz1))).at j (by simp; omega)
      have hbj : bs[j] = bs.getD j false := by simp [List.getD, List.getElem?_eq_getElem (show j < bs.length by omega)]
      rw [List.getElem_map, hbj] at hcell
      clear hbj
      obtain ⟨p, q, hpq, hlt, hqn⟩ := good_at HGOOD.out j hjl
      have hx := HM.out.own.cellAt (j * 2) (by omega)
      have hy := HM.out.own.cellAt (j * 2 + 1) (by omega)
      obtain ⟨f1, f2⟩ := flat_at GL j hjl
      rw [f1, hpq] at hx
      rw [f2, hpq] at hy
      rw [← HN.out.cell (p := ⟨g, j * 2, none⟩) hg] at hx
      rw [← HN.out.cell (p := ⟨g, j * 2 + 1, none⟩) hg] at hy
      have hzr := HN.out.size
      have hgr : g < wr.heap.size := by omega
      have hcr : cb < wr.heap.size := by omega
      have hil := iota_length n
      have hrl := runTo_length GL bs (iota n) j
      have ha := HO.out.cellAt p (by omega)
      have hb := HO.out.cellAt q (by omega)
      have hfa := HO.out.frozenAt p
      have hfb := HO.out.frozenAt q
      have hobr := (HO.out.lt ob (by simp [Value.ownBlock])).2
      have e1 : ∀ i, i < n → ((runTo GL bs (iota n) j).map (Value.int .i64))[i]? = some (.int .i64 ((runTo GL bs (iota n) j).getD i 0)) := by
        intro i hi; simp [List.getD, List.getElem?_eq_getElem (show i < (runTo GL bs (iota n) j).length by omega)]
      rw [e1 p (by omega)] at ha
      rw [e1 q hqn] at hb
      have hst : runTo GL bs (iota n) (j + 1) = if bs.getD j false then swapI (runTo GL bs (iota n) j) p q else runTo GL bs (iota n) j := by
        rw [runTo]
        have e4 : GL.getD j (0, 0) = ((p : Int), (q : Int)) := by simp [List.getD, hjl, hpq]
        rw [e4]; rfl
      have HST := Lib.hid hst
      have HIL := Lib.hid hil
      have HRL := Lib.hid hrl
      have hjb : j < bs.length := by omega
      have hiln : (iota n).length ≤ 256 := by omega
      have hpl : (p : Int) < ((iota n).length : Int) := by omega
      have hql : (q : Int) < ((iota n).length : Int) := by omega
      have hpl' : p < (iota n).length := by omega
      have hql' : q < (iota n).length := by omega
      clear f1 f2 hst e1 hil hrl hpq hlb
      simp only at hx hy
      generalize hR : runTo GL bs (iota n) j = R at *
      generalize hR1 : runTo GL bs (iota n) (j + 1) = R1 at *
      have HXY : Hid (R.getD p 0 = R.getD p 0 ∧ R.getD q 0 = R.getD q 0) := ⟨rfl, rfl⟩
      generalize hX : R.getD p 0 = x at ha
      generalize hY : R.getD q 0 = y at hb
      clear HXY
      have HXY : Hid (R.getD p 0 = x ∧ R.getD q 0 = y) := ⟨hX, hY⟩
      clear hX hY
      have HR := Lib.hid hR
      have HR1 := Lib.hid hR1
      clear hR hR1
      generalize bs.getD j false = c at hcell HST
      cases c
      · go_wp2_with fail
        go_roundw
        case rel => exact ⟨j + 1, by omega, by go_num, by show World.ownsRow _ _ _ _ _ _ _; rw [HR1.out, HST.out]; exact HO.out.alloc _, HN.out.alloc hzr _⟩
        case measure => simp [intOf]; omega
      · go_wp2_with fail
        go_quiet (fail)
        have HS1 : Hid (((((wr.alloc (.cells #[.int .i64 p, .int .i64 q] 33)).drewN nq).setCell ⟨ob, p, none⟩ (.int .i64 y)).setCell ⟨ob, q, none⟩ (.int .i64 x)).ownsRow 0 3 1 (.slice (some ⟨ob, 0, none⟩) (iota n).length co) (iota n).length (R1.map (Value.int .i64))) := by
          have h0 : ((wr.alloc (.cells #[.int .i64 p, .int .i64 q] 33)).drewN nq).ownsRow 0 3 1 (.slice (some ⟨ob, 0, none⟩) (iota n).length co) (iota n).length (R.map (Value.int .i64)) := HO.out.alloc _
          have h := ((h0.stored p (.int .i64 y)).1.stored q (.int .i64 x)).1
          have e : swapI R p q = (R.set p y).set q x := by rw [swapI, HXY.out.1, HXY.out.2]
          show World.ownsRow _ _ _ _ _ _ _
          rw [HST.out]
          simp only [↓reduceIte]
          rw [e, List.map_set, List.map_set]
          exact h
        have HN1 : Hid (Below w1.heap.size w1 ((((wr.alloc (.cells #[.int .i64 p, .int .i64 q] 33)).drewN nq).setCell ⟨ob, p, none⟩ (.int .i64 y)).setCell ⟨ob, q, none⟩ (.int .i64 x))) := by
          have h := HN.out.alloc hzr (.cells #[.int .i64 p, .int .i64 q] 33)
          have h1 : Below w1.heap.size w1 ((wr.alloc (.cells #[.int .i64 p, .int .i64 q] 33)).drewN nq) := ⟨h.os, h.tape, h.output, h.size, h.block⟩
          exact (h1.setCell hobn _).setCell hobn _
        go_wp2_with fail
        go_roundw
        case rel => exact ⟨j + 1, by omega, by go_num, by show World.ownsRow _ _ _ _ _ _ _; rw [HR1.out]; exact HS1.out, HN1.out⟩
        case measure => simp [intOf]; omega
    · have hjn : j = GL.length := by omega
      subst hjn
      have hfin := fin.out (.slice (some ⟨ob, 0, none⟩) (iota n).length co) wr (HB1.out.trans (HN.out.mono hz1)) ⟨by rw [runTo_length, HL.out]; exact HO.out, fun q hq => by simp [Value.ownBlock] at hq; omega⟩
      have HF : Hid (RunPost w n bs _ wr) := hfin
      clear hfin fin HO
      go_wp2_with fail
      go_ret2
      exact HF.out

end Go.Proofs.Ytbjhcpchljjmhaa
