/- BoardMeets: Meets of anything answers what the document says. No condition. -/
import Derived.Test.YtjmeakfjfpnciaaZBoardMeets3
import Derived.Outline
import Derived.Test.YtjmeakfjfpnciaaRows
import Derived.ProofKit
import Derived.SizedLaws
import Derived.Lib.SmallJoins
import Derived.Deep.Slices
import Derived.Deep.Fields
import Derived.ChangeMaps

set_option maxRecDepth 100000
set_option maxHeartbeats 4000000
set_option linter.unusedVariables false
set_option linter.unusedSimpArgs false
namespace Go.Proofs.Ytjmeakfjfpnciaa
open Go.RowKit
theorem MadeS.cat {w wa wb wc : World} {v1 v2 v3 : Value} {C1 C2 : List (Int × Int)} (m1 : MadeS w wa v1 C1) (m2 : MadeS wa wb v2 C2) (h : wc.ownsRow 0 75 2 v3 (C1.length + C2.length) (flat C1 ++ flat C2)) (hg : Grew wb wc v1 v3) : MadeS w wc v3 (C1 ++ C2) :=
 ⟨by rw [List.length_append, show flat (C1 ++ C2) = flat C1 ++ flat C2 from List.flatMap_append ..]; exact h, hg.from_ (Nat.le_trans m1.below.size m2.below.size) m1.new_, hg.below (below_up m1.below m2.below) (Nat.le_trans m1.below.size m2.below.size) m1.new_⟩
def LeftR (ok : Bool) (D : List ByteArray) (w : World) (e : Ending) (w' : World) : Prop := ∃ ad cd, e = .returned (.tuple #[.slice ad D.length cd, .bool ok]) ∧ Sl w' w'.heap.size ad (D.map Value.string) ∧ (ad = none → cd = 0) ∧ Below w.heap.size w w'
theorem leftR_none {w w' : World} (h : Below w.heap.size w w') : LeftR false [] w (.returned (.tuple #[.slice none 0 0, .bool false])) w' := ⟨none, 0, rfl, Or.inl rfl, fun _ => rfl, h⟩
theorem Sl.atUpL {w w1 : World} {a : Option Addr} {cs : List Value} (h : Sl w w.heap.size a cs) (hb : Below w.heap.size w w1) (i : Nat) (hi : i < cs.length) :
  ∃ b off, a = some ⟨b, off, none⟩ ∧ b < w.heap.size ∧ b < w1.heap.size ∧ w1.cell? ⟨b, off + i, none⟩ = some cs[i] := by
 obtain ⟨b, off, rfl, hl, hc⟩ := h.at i hi
 exact ⟨b, off, rfl, hl, Nat.lt_of_lt_of_le hl hb.size, (hb.cell (p := ⟨b, off + i, none⟩) hl).trans hc⟩
theorem step_joinA {P : Program} (N : Nat) (w : World) (hN : N ≤ w.heap.size) {ops : Array Oper} {o : Oper} {a : Act} {K : Act → World → Prop} {Q : Exit → Act → World → Prop} {E : Prop} (hgd : o.guard = none) (s x : Operand) (t : TypeId)
  (ho : o.op = .call { callee := .builtin .append, args := #[s, x], argTypes := #[t, t] })
  (e : TypeId) (i : TypeInfo) (z : Value) (size bytes : Nat) (ht : P.underlying t = some (.slice e)) (hi : P.info? e = some i) (hz : i.zero = some z)
  (hsize : i.size = size) (hby : i.bytes = bytes) (hzs : z.cells.size = size) (hsz : 0 < size)
  (v : Value) (n : Nat) (xs : List Value) (hs : a.eval s = v) (hown : RowO N w e size v n xs)
  (ad : Addr) (m c : Nat) (news : List Value) (hx : a.eval x = .slice (some ad) m c) (hl : news.length = m * size) (hS : Sl w w.heap.size (some ad) news) (h1 : ∀ u ∈ news, u.oneCell' = true)
  (h63 : (n + m) * bytes ≤ 140737488355328) (hn : n + m ≤ maxLen)
  (h : ∀ a' c' w', RowO N w' e size (.slice a' (n + m) c') (n + m) (xs ++ news) → w.grownBy w' v.ownBlock → K (a.put o.dst (.slice a' (n + m) c')) w') :
  if Region.wanted o (yielded ops a.tmps) = true then Oper.wp P o a w K Q else E := by
 have hw : Region.wanted o (yielded ops a.tmps) = true := by simp [Region.wanted, hgd]
 rw [if_pos hw]
 obtain ⟨v', w', hr, h2, h3, _, _⟩ := run_append_own_at (P := P) w N t o.type e i z size bytes ht hi hz hsize hby hzs hsz v n xs hown ad m c news hl hS.addr h1 hn h63 hN
 obtain ⟨a', c', rfl⟩ := RowO.form (N := N) h2
 unfold Oper.wp execOp
 simp only [ho, resolve, invoke, builtin, Sem.run_bind, Sem.run_pure, Result.andThen_ok, List.map_toArray, List.map_cons, List.map_nil, hs, hx, hr]
 exact h a' c' w' h2 h3
theorem RunP.pair2 (H : ByteArray → ByteArray → ByteArray) {b : Nat} : ∀ {l : List Pc} {a i : Nat} (h : i + 1 < l.length), RunP a l b → RunP a (l.take i ++ both H l[i] l[i + 1] :: l.drop (i + 2)) b
 | [], _, _, h, _ => absurd h (by simp)
 | [x], _, _, h, _ => absurd h (by simp)
 | x :: y :: r, a, 0, _, hr => ⟨hr.1, Nat.lt_trans hr.2.1 hr.2.2.2.1, hr.2.2.2.2⟩
 | x :: y :: r, a, i + 1, h, hr => ⟨hr.1, hr.2.1, RunP.pair2 H (l := y :: r) (i := i) (by simpa using h) hr.2.2⟩
theorem RunP.mem {b : Nat} : ∀ {l : List Pc} {a : Nat}, RunP a l b → ∀ p ∈ l, p.lo < p.hi ∧ p.hi ≤ b
 | [], _, _, p, hp => absurd hp (by simp)
 | x :: l, a, h, p, hp => by
  rcases List.mem_cons.1 hp with rfl | hp
  ·exact ⟨by rw [h.1]; exact h.2.1, h.2.2.le⟩
  ·exact RunP.mem h.2.2 p hp
theorem pc3_one (l : List Pc) : ∀ u ∈ l.flatMap pc3, u.oneCell' = true := by
 intro u hu
 obtain ⟨p, _, h⟩ := List.mem_flatMap.1 hu
 unfold pc3 at h
 simp only [List.mem_cons, List.not_mem_nil, or_false] at h
 rcases h with rfl | rfl | rfl <;> rfl
theorem flat_dropL {α : Type} (f : α → List Value) (k : Nat) (hk : ∀ x, (f x).length = k) (l : List α) (i : Nat) (hi : i ≤ l.length) : (l.flatMap f).drop (i * k) = (l.drop i).flatMap f := by
 conv => lhs; rw [← List.take_append_drop i l, List.flatMap_append]
 have h : ((l.take i).flatMap f).length = i * k := by rw [flat_len f k hk, List.length_take, Nat.min_eq_left hi]
 rw [← h, List.drop_left]
theorem infoPiece : (Try.prog.info? 88).map (fun i => (i.zero, i.size, i.bytes)) = some (some (.agg #[.int .i64 0, .int .i64 0, .string ⟨#[]⟩]), 3, 32) := by kernel_rfl
theorem Left_range (size lo hi : Int) (v1 v2 v3 : Value) (h : ¬ (0 ≤ lo ∧ lo ≤ hi ∧ hi ≤ size ∧ size ≤ 1048576)) (w : World) :
  Calls Try.prog 40 #[.int .i64 size, .int .i64 lo, .int .i64 hi, v1, v2, v3] w (LeftR false [] w) := by
 by_cases hg : 0 ≤ lo ∧ lo ≤ hi ∧ hi ≤ size
 ·have HD := Lib.hid (show decide (0 ≤ lo ∧ lo ≤ hi ∧ hi ≤ size) = true from decide_eq_true hg)
  have hd2 : size > 1048576 := by omega
  clear h hg
  go_enter Try.func40, Try.ntmps40
  go_wp2_with fail
  refine (right7_any lo hi size w).mono ?_
  rintro e wz ⟨rfl, hwz⟩
  replace hwz := hwz.symm
  subst hwz
  rw [HD.out]
  go_wp2_with fail
  go_ret2
  exact leftR_none (Below.refl _ _)
 ·have HD := Lib.hid (show decide (0 ≤ lo ∧ lo ≤ hi ∧ hi ≤ size) = false from decide_eq_false hg)
  clear h hg
  go_enter Try.func40, Try.ntmps40
  go_wp2_with fail
  refine (right7_any lo hi size w).mono ?_
  rintro e wz ⟨rfl, hwz⟩
  replace hwz := hwz.symm
  subst hwz
  rw [HD.out]
  go_wp2_with fail
  go_ret2
  exact leftR_none (Below.refl _ _)
theorem Left_len (size lo hi nb ni na : Nat) (h1 : lo ≤ hi) (h2 : hi ≤ size) (h20 : size ≤ 1048576) (ab ai aa : Option Addr) (cb ci ca : Nat) (hbad : ¬ (nb = (cover 0 lo).length ∧ ni = (cover lo hi).length ∧ na = (cover hi size).length)) (w : World) :
  Calls Try.prog 40 #[.int .i64 (size : Int), .int .i64 (lo : Int), .int .i64 (hi : Int), .slice ab nb cb, .slice ai ni ci, .slice aa na ca] w (LeftR false [] w) := by
 have HD := Lib.hid (show decide (0 ≤ (lo : Int) ∧ (lo : Int) ≤ (hi : Int) ∧ (hi : Int) ≤ (size : Int)) = true from decide_eq_true (by omega))
 have h20' : ¬ ((size : Int) > 1048576) := by omega
 have HP1 := Lib.hid (fun w => Parts_any lo 0 lo w (by omega) (Nat.zero_le _) (by omega))
 have HP2 := Lib.hid (fun w => Parts_any (hi - lo) lo hi w (by omega) (by omega) (by omega))
 have HP3 := Lib.hid (fun w => Parts_any (size - hi) hi size w (by omega) (by omega) (by omega))
 have HL1 := Lib.hid (show (cover 0 lo).length ≤ 1048576 from Nat.le_trans (cover_length 0 lo) (by omega))
 have HL2 := Lib.hid (show (cover lo hi).length ≤ 1048576 from Nat.le_trans (cover_length lo hi) (by omega))
 have HL3 := Lib.hid (show (cover hi size).length ≤ 1048576 from Nat.le_trans (cover_length hi size) (by omega))
 unfold DownPost at HP1 HP2 HP3
 generalize cover 0 lo = C1 at *
 generalize cover lo hi = C2 at *
 generalize cover hi size = C3 at *
 obtain ⟨k1, hk1⟩ : ∃ k, C1.length = k := ⟨_, rfl⟩
 obtain ⟨k2, hk2⟩ : ∃ k, C2.length = k := ⟨_, rfl⟩
 obtain ⟨k3, hk3⟩ : ∃ k, C3.length = k := ⟨_, rfl⟩
 rw [hk1, hk2, hk3] at hbad
 have HK1 := Lib.hid hk1
 have HK2 := Lib.hid hk2
 have HK3 := Lib.hid hk3
 have hb := Lib.hid hbad
 clear hk1 hk2 hk3 h1 h2 h20 hbad
 by_cases e1 : nb = k1
 case neg =>
  have hd1 : ((nb : Int) != (k1 : Int)) = true := by simp; omega
  clear e1
  go_enter Try.func40, Try.ntmps40
  go_wp2_with fail
  refine (right7_any lo hi size w).mono ?_
  rintro e wz ⟨rfl, hwz⟩
  replace hwz := hwz.symm
  subst hwz
  rw [HD.out]
  go_wp2_with fail
  refine (HP1.out w).mono ?_
  rintro e wa ⟨v1, rfl, m1⟩
  have M1 := Lib.hid m1
  clear m1
  go_wp2_with fail
  refine (HP2.out wa).mono ?_
  rintro e wb ⟨v2, rfl, m2⟩
  have M2 := Lib.hid m2
  clear m2
  have how1 := RowO.up (N := 0) M1.out.own M2.out.below
  have hcl1 := HL1.out
  have hcl2 := HL2.out
  have hcl3 := HL3.out
  obtain ⟨ig, hig, gz0, gz1, gz2⟩ := info_parts infoSpan
  go_wp2_with (at_builtin; refine wpList_join wb rfl _ _ 64 rfl 75 ig _ 2 16 Try.underlying64 hig gz0 gz1 gz2 rfl (by omega) v1 C1.length (flat C1) rfl how1 v2 C2.length (flat C2) rfl M2.out.own (flat_cells _) (by omega) (by unfold maxLen; omega) ?_)
  intro v3 wc hown9 hgr9
  have M3 := Lib.hid (MadeS.cat M1.out M2.out hown9 hgr9)
  clear hown9 hgr9 how1 M1 M2
  obtain ⟨C12, hC12⟩ : ∃ C, C1 ++ C2 = C := ⟨_, rfl⟩
  rw [hC12] at M3
  have hln9 : C12.length ≤ 2097152 := by rw [← hC12, List.length_append]; omega
  have HC12 := Lib.hid hC12
  clear hC12
  go_wp2_with fail
  refine (HP3.out wc).mono ?_
  rintro e wd ⟨v4, rfl, m4⟩
  have M4 := Lib.hid m4
  clear m4
  have how1 := RowO.up (N := 0) M3.out.own M4.out.below
  go_wp2_with (at_builtin; refine wpList_join wd rfl _ _ 64 rfl 75 ig _ 2 16 Try.underlying64 hig gz0 gz1 gz2 rfl (by omega) v3 C12.length (flat C12) rfl how1 v4 C3.length (flat C3) rfl M4.out.own (flat_cells _) (by omega) (by unfold maxLen; omega) ?_)
  intro v5 we hown9 hgr9
  have M5 := Lib.hid (MadeS.cat M3.out M4.out hown9 hgr9)
  clear hown9 hgr9 how1 M3 M4 hig gz0 gz1 gz2 hln9 hcl1 hcl2 hcl3
  obtain ⟨sp, sc, rfl⟩ := RowO.form (N := 0) M5.out.own
  have HB := Lib.hid M5.out.below
  have HZ5 := Lib.hid M5.out.below.size
  have HZS := HZ5
  have BS := Lib.hid (Below.refl we.heap.size we)
  go_wp2_with fail
  refine (HP1.out we).mono ?_
  rintro e wf ⟨v9, rfl, m9⟩
  obtain ⟨p9, c9, rfl⟩ := RowO.form (N := 0) m9.own
  have hb9 := m9.below
  clear m9
  replace BS := hbu BS hb9
  replace HB := hbu HB hb9
  replace HZS := sz HZS hb9.size
  clear hb9
  rw [HK1.out]
  go_wp2_with fail
  go_ret2
  exact leftR_none HB.out
 have hd1 : ((nb : Int) != (k1 : Int)) = false := by simp; omega
 by_cases e2 : ni = k2
 case neg =>
  have hd2 : ((ni : Int) != (k2 : Int)) = true := by simp; omega
  clear e1 e2
  go_enter Try.func40, Try.ntmps40
  go_wp2_with fail
  refine (right7_any lo hi size w).mono ?_
  rintro e wz ⟨rfl, hwz⟩
  replace hwz := hwz.symm
  subst hwz
  rw [HD.out]
  go_wp2_with fail
  refine (HP1.out w).mono ?_
  rintro e wa ⟨v1, rfl, m1⟩
  have M1 := Lib.hid m1
  clear m1
  go_wp2_with fail
  refine (HP2.out wa).mono ?_
  rintro e wb ⟨v2, rfl, m2⟩
  have M2 := Lib.hid m2
  clear m2
  have how1 := RowO.up (N := 0) M1.out.own M2.out.below
  have hcl1 := HL1.out
  have hcl2 := HL2.out
  have hcl3 := HL3.out
  obtain ⟨ig, hig, gz0, gz1, gz2⟩ := info_parts infoSpan
  go_wp2_with (at_builtin; refine wpList_join wb rfl _ _ 64 rfl 75 ig _ 2 16 Try.underlying64 hig gz0 gz1 gz2 rfl (by omega) v1 C1.length (flat C1) rfl how1 v2 C2.length (flat C2) rfl M2.out.own (flat_cells _) (by omega) (by unfold maxLen; omega) ?_)
  intro v3 wc hown9 hgr9
  have M3 := Lib.hid (MadeS.cat M1.out M2.out hown9 hgr9)
  clear hown9 hgr9 how1 M1 M2
  obtain ⟨C12, hC12⟩ : ∃ C, C1 ++ C2 = C := ⟨_, rfl⟩
  rw [hC12] at M3
  have hln9 : C12.length ≤ 2097152 := by rw [← hC12, List.length_append]; omega
  have HC12 := Lib.hid hC12
  clear hC12
  go_wp2_with fail
  refine (HP3.out wc).mono ?_
  rintro e wd ⟨v4, rfl, m4⟩
  have M4 := Lib.hid m4
  clear m4
  have how1 := RowO.up (N := 0) M3.out.own M4.out.below
  go_wp2_with (at_builtin; refine wpList_join wd rfl _ _ 64 rfl 75 ig _ 2 16 Try.underlying64 hig gz0 gz1 gz2 rfl (by omega) v3 C12.length (flat C12) rfl how1 v4 C3.length (flat C3) rfl M4.out.own (flat_cells _) (by omega) (by unfold maxLen; omega) ?_)
  intro v5 we hown9 hgr9
  have M5 := Lib.hid (MadeS.cat M3.out M4.out hown9 hgr9)
  clear hown9 hgr9 how1 M3 M4 hig gz0 gz1 gz2 hln9 hcl1 hcl2 hcl3
  obtain ⟨sp, sc, rfl⟩ := RowO.form (N := 0) M5.out.own
  have HB := Lib.hid M5.out.below
  have HZ5 := Lib.hid M5.out.below.size
  have HZS := HZ5
  have BS := Lib.hid (Below.refl we.heap.size we)
  go_wp2_with fail
  refine (HP1.out we).mono ?_
  rintro e wf ⟨v9, rfl, m9⟩
  obtain ⟨p9, c9, rfl⟩ := RowO.form (N := 0) m9.own
  have hb9 := m9.below
  clear m9
  replace BS := hbu BS hb9
  replace HB := hbu HB hb9
  replace HZS := sz HZS hb9.size
  clear hb9
  rw [HK1.out]
  go_wp2_with fail
  refine (HP2.out wf).mono ?_
  rintro e wg ⟨v9, rfl, m9⟩
  obtain ⟨p9, c9, rfl⟩ := RowO.form (N := 0) m9.own
  have hb9 := m9.below
  clear m9
  replace BS := hbu BS hb9
  replace HB := hbu HB hb9
  replace HZS := sz HZS hb9.size
  clear hb9
  rw [HK2.out]
  go_wp2_with fail
  go_ret2
  exact leftR_none HB.out
 have hd2 : ((ni : Int) != (k2 : Int)) = false := by simp; omega
 have hd3 : ((na : Int) != (k3 : Int)) = true := by have := hb.out; simp; omega
 clear e1 e2
 go_enter Try.func40, Try.ntmps40
 go_wp2_with fail
 refine (right7_any lo hi size w).mono ?_
 rintro e wz ⟨rfl, hwz⟩
 replace hwz := hwz.symm
 subst hwz
 rw [HD.out]
 go_wp2_with fail
 refine (HP1.out w).mono ?_
 rintro e wa ⟨v1, rfl, m1⟩
 have M1 := Lib.hid m1
 clear m1
 go_wp2_with fail
 refine (HP2.out wa).mono ?_
 rintro e wb ⟨v2, rfl, m2⟩
 have M2 := Lib.hid m2
 clear m2
 have how1 := RowO.up (N := 0) M1.out.own M2.out.below
 have hcl1 := HL1.out
 have hcl2 := HL2.out
 have hcl3 := HL3.out
 obtain ⟨ig, hig, gz0, gz1, gz2⟩ := info_parts infoSpan
 go_wp2_with (at_builtin; refine wpList_join wb rfl _ _ 64 rfl 75 ig _ 2 16 Try.underlying64 hig gz0 gz1 gz2 rfl (by omega) v1 C1.length (flat C1) rfl how1 v2 C2.length (flat C2) rfl M2.out.own (flat_cells _) (by omega) (by unfold maxLen; omega) ?_)
 intro v3 wc hown9 hgr9
 have M3 := Lib.hid (MadeS.cat M1.out M2.out hown9 hgr9)
 clear hown9 hgr9 how1 M1 M2
 obtain ⟨C12, hC12⟩ : ∃ C, C1 ++ C2 = C := ⟨_, rfl⟩
 rw [hC12] at M3
 have hln9 : C12.length ≤ 2097152 := by rw [← hC12, List.length_append]; omega
 have HC12 := Lib.hid hC12
 clear hC12
 go_wp2_with fail
 refine (HP3.out wc).mono ?_
 rintro e wd ⟨v4, rfl, m4⟩
 have M4 := Lib.hid m4
 clear m4
 have how1 := RowO.up (N := 0) M3.out.own M4.out.below
 go_wp2_with (at_builtin; refine wpList_join wd rfl _ _ 64 rfl 75 ig _ 2 16 Try.underlying64 hig gz0 gz1 gz2 rfl (by omega) v3 C12.length (flat C12) rfl how1 v4 C3.length (flat C3) rfl M4.out.own (flat_cells _) (by omega) (by unfold maxLen; omega) ?_)
 intro v5 we hown9 hgr9
 have M5 := Lib.hid (MadeS.cat M3.out M4.out hown9 hgr9)
 clear hown9 hgr9 how1 M3 M4 hig gz0 gz1 gz2 hln9 hcl1 hcl2 hcl3
 obtain ⟨sp, sc, rfl⟩ := RowO.form (N := 0) M5.out.own
 have HB := Lib.hid M5.out.below
 have HZ5 := Lib.hid M5.out.below.size
 have HZS := HZ5
 have BS := Lib.hid (Below.refl we.heap.size we)
 go_wp2_with fail
 refine (HP1.out we).mono ?_
 rintro e wf ⟨v9, rfl, m9⟩
 obtain ⟨p9, c9, rfl⟩ := RowO.form (N := 0) m9.own
 have hb9 := m9.below
 clear m9
 replace BS := hbu BS hb9
 replace HB := hbu HB hb9
 replace HZS := sz HZS hb9.size
 clear hb9
 rw [HK1.out]
 go_wp2_with fail
 refine (HP2.out wf).mono ?_
 rintro e wg ⟨v9, rfl, m9⟩
 obtain ⟨p9, c9, rfl⟩ := RowO.form (N := 0) m9.own
 have hb9 := m9.below
 clear m9
 replace BS := hbu BS hb9
 replace HB := hbu HB hb9
 replace HZS := sz HZS hb9.size
 clear hb9
 rw [HK2.out]
 go_wp2_with fail
 refine (HP3.out wg).mono ?_
 rintro e wh ⟨v9, rfl, m9⟩
 obtain ⟨p9, c9, rfl⟩ := RowO.form (N := 0) m9.own
 have hb9 := m9.below
 clear m9
 replace BS := hbu BS hb9
 replace HB := hbu HB hb9
 replace HZS := sz HZS hb9.size
 clear hb9
 rw [HK3.out]
 go_wp2_with fail
 go_ret2
 exact leftR_none HB.out
theorem Left_body (size lo hi nb ni na : Nat) (h1 : lo ≤ hi) (h2 : hi ≤ size) (h20 : size ≤ 1048576) (b i a : List ByteArray) (hbl : b.length = nb) (hil : i.length = ni) (hal : a.length = na) (ab ai aa : Option Addr) (cb ci ca : Nat) (hcb : ab = none → cb = 0) (hci : ai = none → ci = 0) (hca : aa = none → ca = 0) (hl1 : nb = (cover 0 lo).length) (hl2 : ni = (cover lo hi).length) (hl3 : na = (cover hi size).length) (w : World) (hB : Sl w w.heap.size ab (b.map Value.string)) (hI : Sl w w.heap.size ai (i.map Value.string)) (hA : Sl w w.heap.size aa (a.map Value.string)) :
  Calls Try.prog 40 #[.int .i64 (size : Int), .int .i64 (lo : Int), .int .i64 (hi : Int), .slice ab nb cb, .slice ai ni ci, .slice aa na ca] w (LeftR (meetOk lo hi size b i a) (if meetOk lo hi size b i a = true then meetD lo hi size b i a else []) w) := by
 have HSZ := Lib.hid h20
 have HD := Lib.hid (show decide (0 ≤ (lo : Int) ∧ (lo : Int) ≤ (hi : Int) ∧ (hi : Int) ≤ (size : Int)) = true from decide_eq_true (by omega))
 have h20' : ¬ ((size : Int) > 1048576) := by omega
 have HP1 := Lib.hid (fun w => Parts_any lo 0 lo w (by omega) (Nat.zero_le _) (by omega))
 have HP2 := Lib.hid (fun w => Parts_any (hi - lo) lo hi w (by omega) (by omega) (by omega))
 have HP3 := Lib.hid (fun w => Parts_any (size - hi) hi size w (by omega) (by omega) (by omega))
 have HL1 := Lib.hid (show (cover 0 lo).length ≤ 1048576 from Nat.le_trans (cover_length 0 lo) (by omega))
 have HL2 := Lib.hid (show (cover lo hi).length ≤ 1048576 from Nat.le_trans (cover_length lo hi) (by omega))
 have HL3 := Lib.hid (show (cover hi size).length ≤ 1048576 from Nat.le_trans (cover_length hi size) (by omega))
 unfold DownPost at HP1 HP2 HP3
 have HOK := Lib.hid (show meetOk lo hi size b i a = !shortB (b ++ i ++ a) by
  have e : shortB (b ++ i ++ a) = (shortB b || (shortB i || shortB a)) := by unfold shortB; rw [List.any_append, List.any_append, Bool.or_assoc]
  unfold meetOk
  rw [e, hbl, hil, hal, decide_eq_true hl1, decide_eq_true hl2, decide_eq_true hl3, Bool.true_and, Bool.true_and, Bool.true_and]
  cases shortB b <;> cases shortB i <;> cases shortB a <;> rfl)
 have HNB := Lib.hid (show nb ≤ 1048576 by rw [hl1]; exact HL1.out)
 have HNI := Lib.hid (show ni ≤ 1048576 by rw [hl2]; exact HL2.out)
 have HNA := Lib.hid (show na ≤ 1048576 by rw [hl3]; exact HL3.out)
 have HK1 := Lib.hid hl1.symm
 have HK2 := Lib.hid hl2.symm
 have HK3 := Lib.hid hl3.symm
 have HBL := Lib.hid hbl
 have HIL := Lib.hid hil
 have HAL := Lib.hid hal
 have HBX := Lib.hid hB
 have HIX := Lib.hid hI
 have HAX := Lib.hid hA
 have HWD := Lib.hid (fun a9 c9 W h => wide_any (b ++ i ++ a) (nb + ni + na) (by rw [List.length_append, List.length_append, hbl, hil, hal]) (by have := HNB.out; have := HNI.out; have := HNA.out; omega) a9 c9 W h)
 unfold Gives at HWD
 obtain ⟨sb, hsb⟩ : ∃ x, shortB (b ++ i ++ a) = x := ⟨_, rfl⟩
 rw [HOK.out, hsb]
 rw [hsb] at HWD
 have HSB := Lib.hid hsb
 have HMO := Lib.hid (fun (h : sb = false) => show meetOk lo hi size b i a = true by rw [HOK.out, hsb, h]; rfl)
 have HMR := Lib.hid (fun (h : sb = false) => meet_run h1 h2 (HMO.out h))
 have HMM := Lib.hid (fun (p : Pc) (h : p ∈ meetL lo hi size b i a) => meet_mem h1 h2 h)
 have HM3 := Lib.hid (fun (h : sb = false) => meet_32 h1 h2 (HMO.out h))
 have HSPN := Lib.hid (show flat (cover 0 lo ++ (cover lo hi ++ cover hi size)) = (meetL lo hi size b i a).flatMap pcC by
  rw [← meet_spans (hbl.trans hl1) (hil.trans hl2) (hal.trans hl3)]
  show ((meetL lo hi size b i a).map _).flatMap _ = _
  rw [List.flatMap_map]
  rfl)
 have HDSN := Lib.hid (show b.map Value.string ++ (i.map Value.string ++ a.map Value.string) = (meetL lo hi size b i a).map (fun p => Value.string p.d) by
  rw [← List.map_append, ← List.map_append, ← meet_ds (hbl.trans hl1) (hil.trans hl2) (hal.trans hl3), List.map_map]
  rfl)
 have HPLN := Lib.hid (show (meetL lo hi size b i a).length = nb + ni + na by
  have h9 := congrArg List.length (meet_ds (hbl.trans hl1) (hil.trans hl2) (hal.trans hl3))
  rw [List.length_map, List.length_append, List.length_append, hbl, hil, hal] at h9
  omega)
 have HGT := Lib.hid (show meetD lo hi size b i a = (leftH bothS (meetL lo hi size b i a)).map Pc.d from rfl)
 clear HOK hsb hl1 hl2 hl3 hbl hil hal hB hI hA h1 h2 h20
 generalize meetL lo hi size b i a = PL at *
 generalize cover 0 lo = C1 at *
 generalize cover lo hi = C2 at *
 generalize cover hi size = C3 at *
 have hd1 : ((nb : Int) != (nb : Int)) = false := by simp
 have hd2 : ((ni : Int) != (ni : Int)) = false := by simp
 have hd3 : ((na : Int) != (na : Int)) = false := by simp
 cases sb
 case true =>
  clear HMO HMR HMM HM3
  rw [if_neg (by decide)]
  go_enter Try.func40, Try.ntmps40
  go_wp2_with fail
  refine (right7_any lo hi size w).mono ?_
  rintro e wz ⟨rfl, hwz⟩
  replace hwz := hwz.symm
  subst hwz
  rw [HD.out]
  go_wp2_with fail
  refine (HP1.out w).mono ?_
  rintro e wa ⟨v1, rfl, m1⟩
  have M1 := Lib.hid m1
  clear m1
  go_wp2_with fail
  refine (HP2.out wa).mono ?_
  rintro e wb ⟨v2, rfl, m2⟩
  have M2 := Lib.hid m2
  clear m2
  have how1 := RowO.up (N := 0) M1.out.own M2.out.below
  have hcl1 := HL1.out
  have hcl2 := HL2.out
  have hcl3 := HL3.out
  obtain ⟨ig, hig, gz0, gz1, gz2⟩ := info_parts infoSpan
  go_wp2_with (at_builtin; refine wpList_join wb rfl _ _ 64 rfl 75 ig _ 2 16 Try.underlying64 hig gz0 gz1 gz2 rfl (by omega) v1 C1.length (flat C1) rfl how1 v2 C2.length (flat C2) rfl M2.out.own (flat_cells _) (by omega) (by unfold maxLen; omega) ?_)
  intro v3 wc hown9 hgr9
  have M3 := Lib.hid (MadeS.cat M1.out M2.out hown9 hgr9)
  clear hown9 hgr9 how1 M1 M2
  obtain ⟨C12, hC12⟩ : ∃ C, C1 ++ C2 = C := ⟨_, rfl⟩
  rw [hC12] at M3
  have hln9 : C12.length ≤ 2097152 := by rw [← hC12, List.length_append]; omega
  have HC12 := Lib.hid hC12
  clear hC12
  go_wp2_with fail
  refine (HP3.out wc).mono ?_
  rintro e wd ⟨v4, rfl, m4⟩
  have M4 := Lib.hid m4
  clear m4
  have how1 := RowO.up (N := 0) M3.out.own M4.out.below
  go_wp2_with (at_builtin; refine wpList_join wd rfl _ _ 64 rfl 75 ig _ 2 16 Try.underlying64 hig gz0 gz1 gz2 rfl (by omega) v3 C12.length (flat C12) rfl how1 v4 C3.length (flat C3) rfl M4.out.own (flat_cells _) (by omega) (by unfold maxLen; omega) ?_)
  intro v5 we hown9 hgr9
  have M5 := Lib.hid (MadeS.cat M3.out M4.out hown9 hgr9)
  clear hown9 hgr9 how1 M3 M4 hig gz0 gz1 gz2 hln9 hcl1 hcl2 hcl3
  obtain ⟨sp, sc, rfl⟩ := RowO.form (N := 0) M5.out.own
  have HB := Lib.hid M5.out.below
  have HZ5 := Lib.hid M5.out.below.size
  have HZS := HZ5
  have BS := Lib.hid (Below.refl we.heap.size we)
  go_wp2_with fail
  refine (HP1.out we).mono ?_
  rintro e wf ⟨v9, rfl, m9⟩
  obtain ⟨p9, c9, rfl⟩ := RowO.form (N := 0) m9.own
  have hb9 := m9.below
  clear m9
  replace BS := hbu BS hb9
  replace HB := hbu HB hb9
  replace HZS := sz HZS hb9.size
  clear hb9
  rw [HK1.out]
  go_wp2_with fail
  refine (HP2.out wf).mono ?_
  rintro e wg ⟨v9, rfl, m9⟩
  obtain ⟨p9, c9, rfl⟩ := RowO.form (N := 0) m9.own
  have hb9 := m9.below
  clear m9
  replace BS := hbu BS hb9
  replace HB := hbu HB hb9
  replace HZS := sz HZS hb9.size
  clear hb9
  rw [HK2.out]
  go_wp2_with fail
  refine (HP3.out wg).mono ?_
  rintro e wh ⟨v9, rfl, m9⟩
  obtain ⟨p9, c9, rfl⟩ := RowO.form (N := 0) m9.own
  have hb9 := m9.below
  clear m9
  replace BS := hbu BS hb9
  replace HB := hbu HB hb9
  replace HZS := sz HZS hb9.size
  clear hb9
  rw [HK3.out]
  obtain ⟨w1, hq1, hb9, hz9, Hz⟩ := new1 wh 9 (([] : List Value))
  replace BS := hbu BS hb9
  replace HB := hbu HB hb9
  replace HZS := sz HZS hz9.out
  clear hb9 hz9
  have Hr9 := Lib.hid (RowO.of_bx (N := wh.heap.size) (n := 0) (size := 1) Hz.out (Nat.le_refl _) rfl (by decide))
  clear Hz
  have Hr := Hr9
  clear Hr9
  have hnb := HNB.out
  have hni := HNI.out
  have hna := HNA.out
  obtain ⟨i9, hi9, hz90, hz91, hz92⟩ := info_parts infoStrP
  go_wp2_with (at_builtin; refine wpList_joinR (wh.heap.size) w1 (by have g0 := HZS.out; omega) rfl _ _ 22 rfl 9 i9 _ 1 16 Try.underlying22 hi9 hz90 hz91 hz92 rfl (by omega) ((.slice (some ⟨wh.heap.size, 0, none⟩) 0 0)) (0) (([] : List Value)) rfl Hr.out (ab) (nb) (cb) (b.map Value.string) rfl (by rw [List.length_map, HBL.out, Nat.mul_one]) ((HBX.out.up HB.out)) (hcb) (by simp [Value.oneCell']) (by omega) (by unfold maxLen; omega) ?_)
  intro a2 c2 w2 hown9 hg9
  clear hq1
  have hb9 := Below.grown HB.out hg9 (by have g0 := HZS.out; omega) (fun q hq => Nat.le_trans (show w.heap.size ≤ wh.heap.size by have g0 := HZS.out; omega) (Hr.out.lt q hq).1)
  replace BS := Lib.hid (Below.grown BS.out hg9 (by have g0 := HZS.out; omega) (fun q hq => Nat.le_trans (show we.heap.size ≤ wh.heap.size by have g0 := HZS.out; omega) (Hr.out.lt q hq).1))
  replace HZS := sz HZS hg9.size
  clear Hr HB
  have Hr := Lib.hid hown9
  have HB := Lib.hid hb9
  clear hb9 hown9 hg9 hi9 hz90 hz91 hz92
  obtain ⟨i9, hi9, hz90, hz91, hz92⟩ := info_parts infoStrP
  go_wp2_with (at_builtin; refine wpList_joinR (wh.heap.size) w2 (by have g0 := HZS.out; omega) rfl _ _ 22 rfl 9 i9 _ 1 16 Try.underlying22 hi9 hz90 hz91 hz92 rfl (by omega) ((.slice a2 nb c2)) (nb) ((b.map Value.string)) rfl Hr.out (ai) (ni) (ci) (i.map Value.string) rfl (by rw [List.length_map, HIL.out, Nat.mul_one]) ((HIX.out.up HB.out)) (hci) (by simp [Value.oneCell']) (by omega) (by unfold maxLen; omega) ?_)
  intro a3 c3 w3 hown9 hg9
  have hb9 := Below.grown HB.out hg9 (by have g0 := HZS.out; omega) (fun q hq => Nat.le_trans (show w.heap.size ≤ wh.heap.size by have g0 := HZS.out; omega) (Hr.out.lt q hq).1)
  replace BS := Lib.hid (Below.grown BS.out hg9 (by have g0 := HZS.out; omega) (fun q hq => Nat.le_trans (show we.heap.size ≤ wh.heap.size by have g0 := HZS.out; omega) (Hr.out.lt q hq).1))
  replace HZS := sz HZS hg9.size
  clear Hr HB
  have Hr := Lib.hid hown9
  have HB := Lib.hid hb9
  clear hb9 hown9 hg9 hi9 hz90 hz91 hz92
  obtain ⟨i9, hi9, hz90, hz91, hz92⟩ := info_parts infoStrP
  go_wp2_with (at_builtin; refine wpList_joinR (wh.heap.size) w3 (by have g0 := HZS.out; omega) rfl _ _ 22 rfl 9 i9 _ 1 16 Try.underlying22 hi9 hz90 hz91 hz92 rfl (by omega) ((.slice a3 (nb + ni) c3)) ((nb + ni)) ((b.map Value.string ++ i.map Value.string)) rfl Hr.out (aa) (na) (ca) (a.map Value.string) rfl (by rw [List.length_map, HAL.out, Nat.mul_one]) ((HAX.out.up HB.out)) (hca) (by simp [Value.oneCell']) (by omega) (by unfold maxLen; omega) ?_)
  intro a4 c4 w4 hown9 hg9
  have hb9 := Below.grown HB.out hg9 (by have g0 := HZS.out; omega) (fun q hq => Nat.le_trans (show w.heap.size ≤ wh.heap.size by have g0 := HZS.out; omega) (Hr.out.lt q hq).1)
  replace BS := Lib.hid (Below.grown BS.out hg9 (by have g0 := HZS.out; omega) (fun q hq => Nat.le_trans (show we.heap.size ≤ wh.heap.size by have g0 := HZS.out; omega) (Hr.out.lt q hq).1))
  replace HZS := sz HZS hg9.size
  clear Hr HB
  have Hr := Lib.hid hown9
  have HB := Lib.hid hb9
  clear hb9 hown9 hg9 hi9 hz90 hz91 hz92
  go_wp2_with fail
  refine (HWD.out _ _ w4 (by rw [List.map_append, List.map_append, List.append_assoc]; exact Hr.out.sl)).mono ?_
  rintro e w5 ⟨rfl, hb9⟩
  replace Hr := Lib.hid (Hr.out.up hb9)
  replace BS := hbu BS hb9
  replace HB := hbu HB hb9
  replace HZS := sz HZS hb9.size
  clear hb9
  go_wp2_with fail
  go_ret2
  exact leftR_none HB.out
 case false =>
  rw [if_pos (by decide), HGT.out]
  have HOKP := Lib.hid (fun p hp => (show p.lo < p.hi ∧ p.hi ≤ 1048576 ∧ p.d.size = 32 from ⟨(HMM.out p hp).2.1, Nat.le_trans (HMM.out p hp).2.2.1 HSZ.out, HM3.out rfl p hp⟩))
  have HRUN := Lib.hid (HMR.out rfl)
  have HBT := Lib.hid (fun (x y : ByteArray) hx hy W => rBoth_any x y hx hy W)
  have HB32 := Lib.hid bothS_size
  unfold Gives at HBT
  generalize bothS = BO at *
  clear HMO HMR HMM HM3 HGT
  go_enter Try.func40, Try.ntmps40
  go_wp2_with fail
  refine (right7_any lo hi size w).mono ?_
  rintro e wz ⟨rfl, hwz⟩
  replace hwz := hwz.symm
  subst hwz
  rw [HD.out]
  go_wp2_with fail
  refine (HP1.out w).mono ?_
  rintro e wa ⟨v1, rfl, m1⟩
  have M1 := Lib.hid m1
  clear m1
  go_wp2_with fail
  refine (HP2.out wa).mono ?_
  rintro e wb ⟨v2, rfl, m2⟩
  have M2 := Lib.hid m2
  clear m2
  have how1 := RowO.up (N := 0) M1.out.own M2.out.below
  have hcl1 := HL1.out
  have hcl2 := HL2.out
  have hcl3 := HL3.out
  obtain ⟨ig, hig, gz0, gz1, gz2⟩ := info_parts infoSpan
  go_wp2_with (at_builtin; refine wpList_join wb rfl _ _ 64 rfl 75 ig _ 2 16 Try.underlying64 hig gz0 gz1 gz2 rfl (by omega) v1 C1.length (flat C1) rfl how1 v2 C2.length (flat C2) rfl M2.out.own (flat_cells _) (by omega) (by unfold maxLen; omega) ?_)
  intro v3 wc hown9 hgr9
  have M3 := Lib.hid (MadeS.cat M1.out M2.out hown9 hgr9)
  clear hown9 hgr9 how1 M1 M2
  obtain ⟨C12, hC12⟩ : ∃ C, C1 ++ C2 = C := ⟨_, rfl⟩
  rw [hC12] at M3
  have hln9 : C12.length ≤ 2097152 := by rw [← hC12, List.length_append]; omega
  have HC12 := Lib.hid hC12
  clear hC12
  go_wp2_with fail
  refine (HP3.out wc).mono ?_
  rintro e wd ⟨v4, rfl, m4⟩
  have M4 := Lib.hid m4
  clear m4
  have how1 := RowO.up (N := 0) M3.out.own M4.out.below
  go_wp2_with (at_builtin; refine wpList_join wd rfl _ _ 64 rfl 75 ig _ 2 16 Try.underlying64 hig gz0 gz1 gz2 rfl (by omega) v3 C12.length (flat C12) rfl how1 v4 C3.length (flat C3) rfl M4.out.own (flat_cells _) (by omega) (by unfold maxLen; omega) ?_)
  intro v5 we hown9 hgr9
  have M5 := Lib.hid (MadeS.cat M3.out M4.out hown9 hgr9)
  clear hown9 hgr9 how1 M3 M4 hig gz0 gz1 gz2 hln9 hcl1 hcl2 hcl3
  obtain ⟨sp, sc, rfl⟩ := RowO.form (N := 0) M5.out.own
  have HB := Lib.hid M5.out.below
  have HZ5 := Lib.hid M5.out.below.size
  have HZS := HZ5
  have BS := Lib.hid (Below.refl we.heap.size we)
  go_wp2_with fail
  refine (HP1.out we).mono ?_
  rintro e wf ⟨v9, rfl, m9⟩
  obtain ⟨p9, c9, rfl⟩ := RowO.form (N := 0) m9.own
  have hb9 := m9.below
  clear m9
  replace BS := hbu BS hb9
  replace HB := hbu HB hb9
  replace HZS := sz HZS hb9.size
  clear hb9
  rw [HK1.out]
  go_wp2_with fail
  refine (HP2.out wf).mono ?_
  rintro e wg ⟨v9, rfl, m9⟩
  obtain ⟨p9, c9, rfl⟩ := RowO.form (N := 0) m9.own
  have hb9 := m9.below
  clear m9
  replace BS := hbu BS hb9
  replace HB := hbu HB hb9
  replace HZS := sz HZS hb9.size
  clear hb9
  rw [HK2.out]
  go_wp2_with fail
  refine (HP3.out wg).mono ?_
  rintro e wh ⟨v9, rfl, m9⟩
  obtain ⟨p9, c9, rfl⟩ := RowO.form (N := 0) m9.own
  have hb9 := m9.below
  clear m9
  replace BS := hbu BS hb9
  replace HB := hbu HB hb9
  replace HZS := sz HZS hb9.size
  clear hb9
  rw [HK3.out]
  obtain ⟨w1, hq1, hb9, hz9, Hz⟩ := new1 wh 9 (([] : List Value))
  replace BS := hbu BS hb9
  replace HB := hbu HB hb9
  replace HZS := sz HZS hz9.out
  clear hb9 hz9
  have Hr9 := Lib.hid (RowO.of_bx (N := wh.heap.size) (n := 0) (size := 1) Hz.out (Nat.le_refl _) rfl (by decide))
  clear Hz
  have Hr := Hr9
  clear Hr9
  have hnb := HNB.out
  have hni := HNI.out
  have hna := HNA.out
  obtain ⟨i9, hi9, hz90, hz91, hz92⟩ := info_parts infoStrP
  go_wp2_with (at_builtin; refine wpList_joinR (wh.heap.size) w1 (by have g0 := HZS.out; omega) rfl _ _ 22 rfl 9 i9 _ 1 16 Try.underlying22 hi9 hz90 hz91 hz92 rfl (by omega) ((.slice (some ⟨wh.heap.size, 0, none⟩) 0 0)) (0) (([] : List Value)) rfl Hr.out (ab) (nb) (cb) (b.map Value.string) rfl (by rw [List.length_map, HBL.out, Nat.mul_one]) ((HBX.out.up HB.out)) (hcb) (by simp [Value.oneCell']) (by omega) (by unfold maxLen; omega) ?_)
  intro a2 c2 w2 hown9 hg9
  clear hq1
  have hb9 := Below.grown HB.out hg9 (by have g0 := HZS.out; omega) (fun q hq => Nat.le_trans (show w.heap.size ≤ wh.heap.size by have g0 := HZS.out; omega) (Hr.out.lt q hq).1)
  replace BS := Lib.hid (Below.grown BS.out hg9 (by have g0 := HZS.out; omega) (fun q hq => Nat.le_trans (show we.heap.size ≤ wh.heap.size by have g0 := HZS.out; omega) (Hr.out.lt q hq).1))
  replace HZS := sz HZS hg9.size
  clear Hr HB
  have Hr := Lib.hid hown9
  have HB := Lib.hid hb9
  clear hb9 hown9 hg9 hi9 hz90 hz91 hz92
  obtain ⟨i9, hi9, hz90, hz91, hz92⟩ := info_parts infoStrP
  go_wp2_with (at_builtin; refine wpList_joinR (wh.heap.size) w2 (by have g0 := HZS.out; omega) rfl _ _ 22 rfl 9 i9 _ 1 16 Try.underlying22 hi9 hz90 hz91 hz92 rfl (by omega) ((.slice a2 nb c2)) (nb) ((b.map Value.string)) rfl Hr.out (ai) (ni) (ci) (i.map Value.string) rfl (by rw [List.length_map, HIL.out, Nat.mul_one]) ((HIX.out.up HB.out)) (hci) (by simp [Value.oneCell']) (by omega) (by unfold maxLen; omega) ?_)
  intro a3 c3 w3 hown9 hg9
  have hb9 := Below.grown HB.out hg9 (by have g0 := HZS.out; omega) (fun q hq => Nat.le_trans (show w.heap.size ≤ wh.heap.size by have g0 := HZS.out; omega) (Hr.out.lt q hq).1)
  replace BS := Lib.hid (Below.grown BS.out hg9 (by have g0 := HZS.out; omega) (fun q hq => Nat.le_trans (show we.heap.size ≤ wh.heap.size by have g0 := HZS.out; omega) (Hr.out.lt q hq).1))
  replace HZS := sz HZS hg9.size
  clear Hr HB
  have Hr := Lib.hid hown9
  have HB := Lib.hid hb9
  clear hb9 hown9 hg9 hi9 hz90 hz91 hz92
  obtain ⟨i9, hi9, hz90, hz91, hz92⟩ := info_parts infoStrP
  go_wp2_with (at_builtin; refine wpList_joinR (wh.heap.size) w3 (by have g0 := HZS.out; omega) rfl _ _ 22 rfl 9 i9 _ 1 16 Try.underlying22 hi9 hz90 hz91 hz92 rfl (by omega) ((.slice a3 (nb + ni) c3)) ((nb + ni)) ((b.map Value.string ++ i.map Value.string)) rfl Hr.out (aa) (na) (ca) (a.map Value.string) rfl (by rw [List.length_map, HAL.out, Nat.mul_one]) ((HAX.out.up HB.out)) (hca) (by simp [Value.oneCell']) (by omega) (by unfold maxLen; omega) ?_)
  intro a4 c4 w4 hown9 hg9
  have hb9 := Below.grown HB.out hg9 (by have g0 := HZS.out; omega) (fun q hq => Nat.le_trans (show w.heap.size ≤ wh.heap.size by have g0 := HZS.out; omega) (Hr.out.lt q hq).1)
  replace BS := Lib.hid (Below.grown BS.out hg9 (by have g0 := HZS.out; omega) (fun q hq => Nat.le_trans (show we.heap.size ≤ wh.heap.size by have g0 := HZS.out; omega) (Hr.out.lt q hq).1))
  replace HZS := sz HZS hg9.size
  clear Hr HB
  have Hr := Lib.hid hown9
  have HB := Lib.hid hb9
  clear hb9 hown9 hg9 hi9 hz90 hz91 hz92
  have HALS := Lib.hid (show Sl w4 w4.heap.size _ (PL.map fun p => Value.string p.d) by rw [← HDSN.out]; exact Hr.out.sl)
  have HSP := Lib.hid (show Sl we we.heap.size sp (PL.flatMap pcC) by rw [← HSPN.out, ← List.append_assoc, HC12.out]; exact RowO.sl (N := 0) M5.out.own)
  have HSP2 := Lib.hid (HSP.out.up BS.out)
  have HKL := Lib.hid (show C12.length + na = nb + ni + na by rw [← HC12.out, List.length_append, HK1.out, HK2.out])
  rw [HKL.out]
  have HKB := Lib.hid (show nb + ni + na ≤ 4194304 by omega)
  obtain ⟨k, hk⟩ : ∃ k, nb + ni + na = k := ⟨_, rfl⟩
  rw [hk] at HWD HPLN HKB Hr ⊢
  have HSR := Lib.hid Hr.out.sl
  rw [← List.append_assoc] at HDSN
  clear HSP HSPN HKL hk Hr
  go_wp2_with fail
  clear BS
  have BX := Lib.hid (Below.refl w4.heap.size w4)
  refine (HWD.out _ _ w4 (by rw [List.map_append, List.map_append, List.append_assoc]; exact HSR.out)).mono ?_
  rintro e w5 ⟨rfl, hb9⟩
  replace BX := hbu BX hb9
  replace HB := hbu HB hb9
  replace HZS := sz HZS hb9.size
  clear hb9
  have HSP := Lib.hid (HSP2.out.up BX.out)
  have HAL2 := Lib.hid (HALS.out.up BX.out)
  clear HSP2 HALS HSR BX
  have HBWL := HB
  have BL := Lib.hid (Below.refl w5.heap.size w5)
  go_wp2_with fail
  go_loopw [79, 16] (fun i v wr => ∃ (j : Nat) (g : Option Addr) (c9 : Nat), j ≤ k ∧ i = .int .i64 (j : Int) ∧ v = .slice g j c9 ∧ Hid (Below w5.heap.size w5 wr) ∧ Hid (RowO w5.heap.size wr 88 3 (.slice g j c9) j ((PL.take j).flatMap pc3))) (fun i _ _ => k - (intOf i).toNat)
  case atStart => exact ⟨0, none, 0, Nat.zero_le _, rfl, rfl, BL, RowO.nil⟩
  case round =>
   obtain ⟨j, g, c9, hj, rfl, rfl, HL9, Hr⟩ := hrel
   have hb9 := HL9.out
   clear HL9
   replace BL := hbu BL hb9
   replace HB := hbu HB hb9
   replace HZS := sz HZS hb9.size
   clear hb9
   by_cases hjn : j < k
   ·have hjl : j < PL.length := by rw [HPLN.out]; exact hjn
    obtain ⟨b1, o1, rfl, hb1, hc⟩ := (HSP.out.up BL.out).elem pcC_len (by omega) j hjl
    have hc_0 := hc 0 _ rfl
    rw [Nat.add_zero] at hc_0
    have hc_1 := hc 1 _ rfl
    clear hc
    obtain ⟨b2, o2, rfl, hb20, hb2, hd⟩ := HAL2.out.atUpL BL.out j (by simpa using hjl)
    rw [List.getElem_map] at hd
    have HB20 := Lib.hid hb20
    replace HZS := sz HZS HB20.out
    clear hb20
    have HSN := Lib.hid (show (PL.take (j + 1)).flatMap pc3 = (PL.take j).flatMap pc3 ++ pc3 PL[j] by rw [List.take_succ_eq_append_getElem hjl, List.flatMap_append]; simp)
    generalize PL[j] = p at *
    have hkb := HKB.out
    have HNP := Lib.hid (fun q e => (Hr.out.lt q e).2)
    have BR := Lib.hid (Below.refl wr.heap.size wr)
    obtain ⟨w6, hq6, hb9, hz9, Hsx⟩ := new1 wr 75 [.int .i64 (p.lo : Int), .int .i64 (p.hi : Int)]
    replace Hr := Lib.hid (Hr.out.up hb9)
    replace BL := hbu BL hb9
    replace BR := hbu BR hb9
    replace HB := hbu HB hb9
    replace HZS := sz HZS hz9.out
    clear hb9 hz9
    have sx_ := Hsx.out.c2
    go_wp2_with fail
    clear hq6
    replace hd := (BR.out.cell (p := ⟨b2, o2 + j, none⟩) hb2).trans hd
    replace hb2 := Nat.lt_of_lt_of_le hb2 BR.out.size
    clear BR hc_0 hc_1 hb1
    have HT := Lib.hid (show Below w6.heap.size w6 w6.drew from (Below.refl _ _).drew)
    have hl_sx := Hsx.out.lt
    refine wp_region_tree (fun wq9 => ∃ E : But w6 (Value.ownBlock (.slice g j c9)), wq9 = E.w) ((.qs [0, 1, 2, 3, 4, 5, 6] (.a 7 (.a 8 (.qs [9] .done))))) (by kernel_rfl) (by kernel_rfl) (fun _ _ d _ _ h => by cases d <;> exact h) ⟨⟨_, ((below_grown HT.out).but _)⟩, rfl⟩ ?_
    have hov_sx := fun (E : But w6 (Value.ownBlock (.slice g j c9))) o => E.cell (b := wr.heap.size) o hl_sx (by intro e9; have a2 := HNP.out _ e9; have a1 := Hr.out.lt _ e9; have g0 := HZS.out; omega)
    have hov_b2 := fun (E : But w6 (Value.ownBlock (.slice g j c9))) o => E.cell (b := b2) o hb2 (by intro e9; have a2 := HNP.out _ e9; have a1 := Hr.out.lt _ e9; have g0 := HZS.out; omega)
    simp only [Tree.qs]
    repeat (refine tree_q rfl rfl ?_; go_big_quiet_step (fail); refine wpQuiet_nil ?_)
    clear hov_sx hl_sx hov_b2
    refine tree_a rfl (fun K hK => ?_)
    go_simp
    refine hK _ _ ⟨⟨⟨_, (below_grown (HT.out.alloc HT.out.size _)).but _⟩, rfl⟩, ?_⟩
    clear hK K
    obtain ⟨i9, hi9, hz90, hz91, hz92⟩ := info_parts infoPiece
    have HG1 := Lib.hid ((below_grown HT.out).but (Value.ownBlock (.slice g j c9)))
    clear sx_
    replace Hsx := Lib.hid (Hsx.out.up HT.out)
    replace Hr := Lib.hid (Hr.out.up HT.out)
    replace BL := hbu BL HT.out
    replace HB := hbu HB HT.out
    replace HZS := sz HZS HT.out.size
    refine tree_a rfl (fun K hK => ?_)
    refine step_pushR (w5.heap.size) (w6.drew) (by have g0 := HZS.out; omega) rfl _ _ 86 rfl 88 i9 _ 3 32 Try.underlying86 hi9 hz90 hz91 hz92 rfl (by omega) ((.slice g j c9)) (j) (((PL.take j).flatMap pc3)) rfl Hr.out _ _ _ rfl rfl rfl (by simp [Value.oneCell']) (by omega) (by unfold maxLen; omega) ?_
    intro g7 c7 w7 hown9 hg9
    have HGR := Lib.hid (HG1.out.trans hg9)
    have hb9 := Below.grown HB.out hg9 (by have g0 := HZS.out; omega) (fun q hq => Nat.le_trans (show w.heap.size ≤ w5.heap.size by have g0 := HZS.out; omega) (Hr.out.lt q hq).1)
    replace Hsx := Lib.hid (Hsx.out.grown hg9 (fun e9 => by have a2 := HNP.out _ e9; have a1 := Hr.out.lt _ e9; have g0 := HZS.out; omega))
    replace BL := Lib.hid (Below.grown BL.out hg9 (by have g0 := HZS.out; omega) (fun q hq => Nat.le_trans (show w5.heap.size ≤ w5.heap.size by have g0 := HZS.out; omega) (Hr.out.lt q hq).1))
    replace HZS := sz HZS hg9.size
    clear Hr HB HT HG1
    have Hr := Lib.hid hown9
    have HB := Lib.hid hb9
    clear hb9 hown9 hg9 hi9 hz90 hz91 hz92
    refine hK _ _ ⟨⟨⟨w7, HGR.out⟩, rfl⟩, ?_⟩
    clear hK K HGR
    have sx_ := Hsx.out.c2
    try simp only [Act.put, List.setIfInBounds_toArray, List.set_cons_succ, List.set_cons_zero]
    repeat (refine tree_q rfl rfl ?_; go_big_quiet_step (fail); refine wpQuiet_nil ?_)
    refine tree_end ?_
    go_wp2_with fail
    go_roundw
    case rel => exact ⟨j + 1, _, _, hjn, by go_num, rfl, BL, Hr.out.eq HSN.out.symm rfl⟩
    case measure => simp [intOf]; omega
   ·obtain rfl : k = j := by omega
    rw [List.take_of_length_le (by rw [HPLN.out]; exact Nat.le_refl _)] at Hr
    have HPS := Lib.hid Hr.out.sl
    have HR0 := Hr
    clear Hr HSP HAL2
    obtain ⟨wo, rfl⟩ : ∃ wo : World, wo = wr := ⟨_, rfl⟩
    go_wp2_with fail
    refine (pair_any PL k HPLN.out HKB.out (fun p hp => ⟨(HOKP.out p hp).1, (HOKP.out p hp).2.1⟩) g c9 wo HPS.out).mono ?_
    rintro e wp ⟨⟨r0, rfl, hpr⟩, hb9⟩
    have HPR0 := Lib.hid hpr
    have HR1 := Lib.hid (HR0.out.up hb9)
    clear hpr HPS HR0
    replace BL := hbu BL hb9
    replace HB := hbu HB hb9
    replace HZS := sz HZS hb9.size
    clear hb9
    rw [← HPLN.out] at HR1
    have HKP := Lib.hid (show PL.length ≤ 4194304 by rw [HPLN.out]; exact HKB.out)
    go_wp2_with fail
    go_loopw [16, 19] (fun v i wr => ∃ (Q : List Pc) (r : Int) (g : Option Addr) (c9 : Nat), v = .slice g Q.length c9 ∧ i = .int .i64 r ∧ Q.length ≤ PL.length ∧ Hid (PairR Q r) ∧ Hid (leftH BO Q = leftH BO PL) ∧ Hid (RunP 0 Q size) ∧ Hid (∀ p ∈ Q, p.d.size = 32) ∧ Hid (RowO w5.heap.size wr 88 3 (.slice g Q.length c9) Q.length (Q.flatMap pc3)) ∧ Hid (Below w5.heap.size w5 wr)) (fun v _ _ => match v with | .slice _ n _ => n | _ => 0)
    case atStart => exact ⟨PL, r0, g, c9, by rw [HPLN.out], rfl, Nat.le_refl _, HPR0, rfl, HRUN, (fun p hp => (HOKP.out p hp).2.2), HR1, BL⟩
    case round =>
     obtain ⟨Q, r, g2, c2, rfl, rfl, hql, HPR, HLH, HRN, H32, HRW, BL2⟩ := hrel
     have HB9 := Lib.hid (below_up HBWL.out BL2.out)
     clear HB BL
     have HQN := Lib.hid (show Q.length ≤ 4194304 from Nat.le_trans hql HKP.out)
     rcases HPR.out with ⟨rfl, hno⟩ | ⟨i9, rfl, hi1, hh, hlt⟩
     ·have HDE := Lib.hid (show (leftH BO PL).map Pc.d = Q.map Pc.d by rw [← HLH.out, leftH_none BO hno])
      clear hno
      have HB := HB9
      have HQS := Lib.hid HRW.out.sl
      obtain ⟨wo2, rfl⟩ : ∃ wo2 : World, wo2 = wr := ⟨_, rfl⟩
      have HZ2 := Lib.hid HB.out.size
      replace HZS := sz HZS HZ2.out
      obtain ⟨m, hm⟩ : ∃ m, Q.length = m := ⟨_, rfl⟩
      rw [hm] at HQN ⊢
      have HM := Lib.hid hm
      clear hm
      have BQ := Lib.hid (Below.refl wo2.heap.size wo2)
      go_wp2_with fail
      go_loopw [142, 21] (fun i v wr => ∃ (j : Nat) (g3 : Option Addr) (c3 : Nat), j ≤ m ∧ i = .int .i64 (j : Int) ∧ v = .slice g3 j c3 ∧ Hid (Below wo2.heap.size wo2 wr) ∧ Hid (RowO wo2.heap.size wr 9 1 (.slice g3 j c3) j ((Q.take j).map fun p => Value.string p.d))) (fun i _ _ => m - (intOf i).toNat)
      case atStart => exact ⟨0, none, 0, Nat.zero_le _, rfl, rfl, BQ, RowO.nil⟩
      case round =>
       obtain ⟨j, g3, c3, hj3, rfl, rfl, HL9, Hr⟩ := hrel
       have hb9 := HL9.out
       clear HL9
       replace BQ := hbu BQ hb9
       replace HB := hbu HB hb9
       replace HZS := sz HZS hb9.size
       clear hb9
       by_cases hjm : j < m
       ·have hjq : j < Q.length := by rw [HM.out]; exact hjm
        obtain ⟨b1, o1, rfl, hb1, hc⟩ := (HQS.out.up BQ.out).elem pc3_len (by omega) j hjq
        have hc_0 := hc 0 _ rfl
        rw [Nat.add_zero] at hc_0
        have hc_1 := hc 1 _ rfl
        have hc_2 := hc 2 _ rfl
        clear hc
        have HSN := Lib.hid (show (Q.take (j + 1)).map (fun p => Value.string p.d) = (Q.take j).map (fun p => Value.string p.d) ++ [.string Q[j].d] by rw [List.take_succ_eq_append_getElem hjq, List.map_append]; rfl)
        generalize Q[j] = p at *
        have hqn := HQN.out
        obtain ⟨w6, hq6, hb9, hz9, Hsx⟩ := new1 wr 88 [.int .i64 (p.lo : Int), .int .i64 (p.hi : Int), .string p.d]
        replace Hr := Lib.hid (Hr.out.up hb9)
        replace BQ := hbu BQ hb9
        replace HB := hbu HB hb9
        replace HZS := sz HZS hz9.out
        clear hb9 hz9
        have sx_ := Hsx.out.c3
        obtain ⟨i9, hi9, hz90, hz91, hz92⟩ := info_parts infoStrP
        go_wp2_with (at_builtin; refine wpList_pushR (wo2.heap.size) w6 (by have g0 := HZS.out; omega) rfl _ _ 22 rfl 9 i9 _ 1 16 Try.underlying22 hi9 hz90 hz91 hz92 rfl (by omega) ((.slice g3 j c3)) (j) (((Q.take j).map fun p => Value.string p.d)) rfl Hr.out _ _ _ rfl rfl rfl (by simp [Value.oneCell']) (by omega) (by unfold maxLen; omega) ?_)
        intro g7 c7 w7 hown9 hg9
        clear hq6 sx_ Hsx
        have hb9 := Below.grown HB.out hg9 (by have g0 := HZS.out; omega) (fun q hq => Nat.le_trans (show w.heap.size ≤ wo2.heap.size by have g0 := HZS.out; omega) (Hr.out.lt q hq).1)
        replace BQ := Lib.hid (Below.grown BQ.out hg9 (by have g0 := HZS.out; omega) (fun q hq => Nat.le_trans (show wo2.heap.size ≤ wo2.heap.size by have g0 := HZS.out; omega) (Hr.out.lt q hq).1))
        replace HZS := sz HZS hg9.size
        clear Hr HB
        have Hr := Lib.hid hown9
        have HB := Lib.hid hb9
        clear hb9 hown9 hg9 hi9 hz90 hz91 hz92
        go_wp2_with fail
        go_roundw
        case rel => exact ⟨j + 1, _, _, hjm, by go_num, rfl, BQ, Hr.out.eq (by first | exact HSN.out.symm | (rw [← List.map_take]; exact HSN.out.symm)) rfl⟩
        case measure => simp [intOf]; omega
       ·obtain rfl : m = j := by omega
        rw [List.take_of_length_le (by rw [HM.out]; exact Nat.le_refl _)] at Hr
        go_wp2_with fail
        go_ret2
        have hcap9 : g3 = none → c3 = 0 := by
         intro e
         rcases Hr.out.2 with ⟨hv, _⟩ | ⟨gg, cap, cur, hv, _⟩
         ·simp only [Value.slice.injEq] at hv
          exact hv.2.2
         ·simp only [Value.slice.injEq] at hv
          rw [hv.1] at e
          cases e
        exact ⟨g3, c3, by rw [HDE.out, List.length_map, HM.out]; rfl, by rw [HDE.out, List.map_map]; exact Hr.out.sl, hcap9, HB.out⟩
     ·have hi0 : i9 < Q.length := by omega
      obtain ⟨bl, q2, rfl, hblN, hcap2, hbx⟩ := HRW.out.bx (show 0 < Q.length by omega)
      obtain ⟨b1, o1, hae, hb1, hc⟩ := HRW.out.sl.elem pc3_len (by omega) i9 hi0
      cases hae
      have hc_0 := hc 0 _ rfl
      rw [Nat.add_zero] at hc_0
      have hc_1 := hc 1 _ rfl
      have hc_2 := hc 2 _ rfl
      clear hc
      obtain ⟨b2, o2, hae, hb2, hd⟩ := HRW.out.sl.elem pc3_len (by omega) (i9 + 1) hi1
      cases hae
      have hd_0 := hd 0 _ rfl
      rw [Nat.add_zero] at hd_0
      have hd_1 := hd 1 _ rfl
      have hd_2 := hd 2 _ rfl
      clear hd
      rw [Nat.zero_add] at hc_0 hc_1 hc_2 hd_0 hd_1 hd_2
      have HLH2 := Lib.hid (show leftH BO (Q.take i9 ++ both BO Q[i9] Q[i9 + 1] :: Q.drop (i9 + 2)) = leftH BO PL from (leftH_pair BO hi1 hh hlt).trans HLH.out)
      have HRN2 := Lib.hid (RunP.pair2 BO hi1 HRN.out)
      have H322 := Lib.hid (show ∀ p ∈ Q.take i9 ++ both BO Q[i9] Q[i9 + 1] :: Q.drop (i9 + 2), p.d.size = 32 from fun p hp => by
       rcases List.mem_append.1 hp with h | h
       ·exact H32.out p (List.mem_of_mem_take h)
       ·rcases List.mem_cons.1 h with rfl | h
        ·exact HB32.out _ _
        ·exact H32.out p (List.mem_of_mem_drop h))
      have hxs := H32.out _ (List.getElem_mem hi0)
      have hys := H32.out _ (List.getElem_mem hi1)
      obtain ⟨m, hm⟩ : ∃ m, Q.length = m := ⟨_, rfl⟩
      have HTL := Lib.hid (show (Q.take i9).length = i9 ∧ (Q.drop (i9 + 2)).length = m - (i9 + 2) by rw [List.length_take, List.length_drop, hm]; omega)
      have HSA := Lib.hid (show Sl wr wr.heap.size (some ⟨bl, 0, none⟩) ((Q.take i9).flatMap pc3) from by
       have h9 := HRW.out.sl
       rw [← List.take_append_drop i9 Q, List.flatMap_append] at h9
       exact Sl.app_left h9)
      have HSB := Lib.hid (show Sl wr wr.heap.size (some ⟨bl, (i9 + 2) * 3, none⟩) ((Q.drop (i9 + 2)).flatMap pc3) from by
       have h9 := HRW.out.sl.cut ((i9 + 2) * 3) ((Q.drop (i9 + 2)).flatMap pc3).length
       rw [flat_dropL pc3 3 pc3_len Q (i9 + 2) (by omega), List.take_of_length_le (Nat.le_refl _), Nat.zero_add] at h9
       exact h9)
      obtain ⟨ad2, hif9, hsb9⟩ : ∃ ad2 : Addr, (if c2 = i9 + 2 then some (⟨bl, 0, none⟩ : Addr) else some ⟨bl, (i9 + 2) * 3, none⟩) = some ad2 ∧ Sl wr wr.heap.size (some ad2) ((Q.drop (i9 + 2)).flatMap pc3) := by
       by_cases hce : c2 = i9 + 2
       ·exact ⟨_, if_pos hce, Or.inl (by rw [List.drop_eq_nil_of_le (by omega)]; rfl)⟩
       ·exact ⟨_, if_neg hce, HSB.out⟩
      have HIF := Lib.hid hif9
      have HSB2 := Lib.hid hsb9
      clear hif9 hsb9
      rw [hm] at hi1 hi0 HQN hcap2 hql ⊢
      have HM := Lib.hid hm
      clear hm hh hlt hbx
      generalize Q[i9] = x at *
      generalize Q[i9 + 1] = y at *
      have hxs9 : x.d.size < 140737488355328 := by omega
      have hys9 : y.d.size < 140737488355328 := by omega
      have HBW9 := Lib.hid (HBT.out x.d y.d hxs9 hys9)
      clear hxs hys hxs9 hys9
      have HB := HB9
      have HZ2 := Lib.hid HB.out.size
      have hqn := HQN.out
      replace HZS := sz HZS HZ2.out
      have BLW := Lib.hid (Below.refl wr.heap.size wr)
      go_wp2_with fail
      go_cut [20] from 100 to 126 (fun v9 wq9 => ∃ b9, v9 = .pointer (some ⟨b9, 0, none⟩) ∧ Hid (wr.heap.size ≤ b9) ∧ Hid (Bx wq9 b9 88 [.int .i64 (x.lo : Int), .int .i64 (y.hi : Int), .string (BO x.d y.d)]) ∧ Hid (Below wr.heap.size wr wq9))
      case first =>
       have HT := Lib.hid (show Below wr.heap.size wr wr.drew from (Below.refl _ _).drew)
       refine wp_region_tree (fun wq9 => ∃ E : Over wr, wq9 = E.w) ((.qs [0, 1, 2, 3, 4, 5, 6, 7, 8, 9, 10, 11, 12, 13, 14, 15, 16, 17, 18, 19, 20, 21, 22, 23, 24] (.two 25 (.qs [26] (.a 27 (.a 28 .done))) 27 (.a 25 (.qs [26] (.a 28 .done)))))) (by kernel_rfl) (by kernel_rfl) (fun _ _ d _ _ h => by cases d <;> exact h) ⟨⟨_, HT.out⟩, rfl⟩ ?_
       have hov_bl := fun (E : Over wr) o => E.cell (b := bl) o hb1
       obtain ⟨wd, hwd⟩ : ∃ W9 : World, wr.drew = W9 := ⟨_, rfl⟩
       rw [hwd] at HT ⊢
       clear hwd
       simp only [Tree.qs]
       repeat (refine tree_q rfl rfl ?_; go_big_quiet_step (fail); refine wpQuiet_nil ?_)
       refine tree_two rfl rfl ?ta1 ?ta2
       case ta1 =>
        intro K hK
        go_simp
        refine (HBW9.out _).mono ?_
        rintro e wz3 ⟨rfl, hb9⟩
        replace HT := Lib.hid (below_up HT.out hb9)
        clear hb9
        refine hK _ _ ⟨⟨⟨wz3, HT.out⟩, rfl⟩, ?_⟩
        clear hK K
        repeat (refine tree_q rfl rfl ?_; go_big_quiet_step (fail); refine wpQuiet_nil ?_)
        refine tree_a rfl (fun K hK => ?_)
        go_simp
        have hb9 : Below wz3.heap.size wz3 (wz3.alloc (Obj.cells #[.int .i64 0, .int .i64 0, .string ⟨#[]⟩] 88)) := (Below.refl _ _).alloc (Nat.le_refl _) _
        have hx9 : Bx (wz3.alloc (Obj.cells #[.int .i64 0, .int .i64 0, .string ⟨#[]⟩] 88)) wz3.heap.size 88 [.int .i64 0, .int .i64 0, .string ⟨#[]⟩] := Bx.new _ _ _ _ rfl
        obtain ⟨wz4, hq9⟩ : ∃ W9 : World, (wz3.alloc (Obj.cells #[.int .i64 0, .int .i64 0, .string ⟨#[]⟩] 88)) = W9 := ⟨_, rfl⟩
        rw [hq9] at hb9 hx9
        try rw [hq9]
        clear hq9
        have HLE := Lib.hid HT.out.size
        replace HT := Lib.hid (below_up HT.out hb9)
        have HX := Lib.hid hx9
        clear hb9 hx9
        refine hK _ _ ⟨⟨⟨wz4, HT.out⟩, rfl⟩, ?_⟩
        clear hK K
        refine tree_a rfl (fun K hK => ?_)
        have fz_0 := HX.out.frozen 0
        have cz_0 := HX.out.cell (i := 0) rfl
        have fz_1 := HX.out.frozen 1
        have cz_1 := HX.out.cell (i := 1) rfl
        have fz_2 := HX.out.frozen 2
        have cz_2 := HX.out.cell (i := 2) rfl
        go_simp
        have hx9 : Bx (((wz4.setCell ⟨wz3.heap.size, 0, none⟩ (.int .i64 (x.lo : Int))).setCell ⟨wz3.heap.size, 1, none⟩ (.int .i64 (y.hi : Int))).setCell ⟨wz3.heap.size, 2, none⟩ (.string (BO x.d y.d))) wz3.heap.size 88 [.int .i64 (x.lo : Int), .int .i64 (y.hi : Int), .string (BO x.d y.d)] := (((HX.out.set 0 (.int .i64 (x.lo : Int))).set 1 (.int .i64 (y.hi : Int))).set 2 (.string (BO x.d y.d)))
        have hb9 : Below wr.heap.size wr (((wz4.setCell ⟨wz3.heap.size, 0, none⟩ (.int .i64 (x.lo : Int))).setCell ⟨wz3.heap.size, 1, none⟩ (.int .i64 (y.hi : Int))).setCell ⟨wz3.heap.size, 2, none⟩ (.string (BO x.d y.d))) := (((HT.out.setCell (show wr.heap.size ≤ wz3.heap.size from HLE.out) _).setCell (show wr.heap.size ≤ wz3.heap.size from HLE.out) _).setCell (show wr.heap.size ≤ wz3.heap.size from HLE.out) _)
        obtain ⟨wy, hq9⟩ : ∃ W9 : World, (((wz4.setCell ⟨wz3.heap.size, 0, none⟩ (.int .i64 (x.lo : Int))).setCell ⟨wz3.heap.size, 1, none⟩ (.int .i64 (y.hi : Int))).setCell ⟨wz3.heap.size, 2, none⟩ (.string (BO x.d y.d))) = W9 := ⟨_, rfl⟩
        rw [hq9] at hx9 hb9
        try rw [hq9]
        clear hq9
        refine hK _ _ ⟨⟨⟨wy, hb9⟩, rfl⟩, ?_⟩
        refine tree_end ?_
        clear hK K
        go_wp2_with fail
        go_meet
        case rel => exact ⟨_, rfl, HLE.out, hx9, hb9⟩
       case ta2 =>
        intro K hK
        go_simp
        have hb9 : Below wd.heap.size wd (wd.alloc (Obj.cells #[.int .i64 0, .int .i64 0, .string ⟨#[]⟩] 88)) := (Below.refl _ _).alloc (Nat.le_refl _) _
        have hx9 : Bx (wd.alloc (Obj.cells #[.int .i64 0, .int .i64 0, .string ⟨#[]⟩] 88)) wd.heap.size 88 [.int .i64 0, .int .i64 0, .string ⟨#[]⟩] := Bx.new _ _ _ _ rfl
        obtain ⟨wz6, hq9⟩ : ∃ W9 : World, (wd.alloc (Obj.cells #[.int .i64 0, .int .i64 0, .string ⟨#[]⟩] 88)) = W9 := ⟨_, rfl⟩
        rw [hq9] at hb9 hx9
        try rw [hq9]
        clear hq9
        have HLE := Lib.hid HT.out.size
        replace HT := Lib.hid (below_up HT.out hb9)
        have HX := Lib.hid hx9
        clear hb9 hx9
        refine hK _ _ ⟨⟨⟨wz6, HT.out⟩, rfl⟩, ?_⟩
        clear hK K
        refine tree_a rfl (fun K hK => ?_)
        go_simp
        refine (HBW9.out _).mono ?_
        rintro e wz7 ⟨rfl, hb9⟩
        replace HX := Lib.hid (HX.out.up hb9)
        replace HT := Lib.hid (below_up HT.out hb9)
        clear hb9
        refine hK _ _ ⟨⟨⟨wz7, HT.out⟩, rfl⟩, ?_⟩
        clear hK K
        repeat (refine tree_q rfl rfl ?_; go_big_quiet_step (fail); refine wpQuiet_nil ?_)
        refine tree_a rfl (fun K hK => ?_)
        have fz_0 := HX.out.frozen 0
        have cz_0 := HX.out.cell (i := 0) rfl
        have fz_1 := HX.out.frozen 1
        have cz_1 := HX.out.cell (i := 1) rfl
        have fz_2 := HX.out.frozen 2
        have cz_2 := HX.out.cell (i := 2) rfl
        go_simp
        have hx9 : Bx (((wz7.setCell ⟨wd.heap.size, 0, none⟩ (.int .i64 (x.lo : Int))).setCell ⟨wd.heap.size, 1, none⟩ (.int .i64 (y.hi : Int))).setCell ⟨wd.heap.size, 2, none⟩ (.string (BO x.d y.d))) wd.heap.size 88 [.int .i64 (x.lo : Int), .int .i64 (y.hi : Int), .string (BO x.d y.d)] := (((HX.out.set 0 (.int .i64 (x.lo : Int))).set 1 (.int .i64 (y.hi : Int))).set 2 (.string (BO x.d y.d)))
        have hb9 : Below wr.heap.size wr (((wz7.setCell ⟨wd.heap.size, 0, none⟩ (.int .i64 (x.lo : Int))).setCell ⟨wd.heap.size, 1, none⟩ (.int .i64 (y.hi : Int))).setCell ⟨wd.heap.size, 2, none⟩ (.string (BO x.d y.d))) := (((HT.out.setCell (show wr.heap.size ≤ wd.heap.size from HLE.out) _).setCell (show wr.heap.size ≤ wd.heap.size from HLE.out) _).setCell (show wr.heap.size ≤ wd.heap.size from HLE.out) _)
        obtain ⟨wy, hq9⟩ : ∃ W9 : World, (((wz7.setCell ⟨wd.heap.size, 0, none⟩ (.int .i64 (x.lo : Int))).setCell ⟨wd.heap.size, 1, none⟩ (.int .i64 (y.hi : Int))).setCell ⟨wd.heap.size, 2, none⟩ (.string (BO x.d y.d))) = W9 := ⟨_, rfl⟩
        rw [hq9] at hx9 hb9
        try rw [hq9]
        clear hq9
        refine hK _ _ ⟨⟨⟨wy, hb9⟩, rfl⟩, ?_⟩
        refine tree_end ?_
        clear hK K
        go_wp2_with fail
        go_meet
        case rel => exact ⟨_, rfl, HLE.out, hx9, hb9⟩
      case rest =>
       obtain ⟨bpb, rfl, Hzpb, hx9, hb9⟩ := hcut
       replace hb9 := hb9.out
       replace BL2 := hbu BL2 hb9
       replace BLW := hbu BLW hb9
       replace HB := hbu HB hb9
       replace HZS := sz HZS hb9.size
       clear hb9
       have Hpb := hx9
       clear hx9
       replace HZS := sz HZS Hzpb.out
       replace HZS := sz HZS Hpb.out.lt
       have pb_ := Hpb.out.c3
       clear hc_0 hc_1 hc_2 hd_0 hd_1 hd_2 hb1 hb2
       have hif9 := HIF.out
       go_wp2_with fail
       have HT := Lib.hid (show Below wc.heap.size wc wc.drew from (Below.refl _ _).drew)
       have hl_pb := Hpb.out.lt
       obtain ⟨ig, hig, gz0, gz1, gz2⟩ := info_parts infoPiece
       refine wp_region_tree (fun wq9 => ∃ E : Over wc, wq9 = E.w) (.qs [1, 2, 3, 5, 8, 9, 10, 11] (.two 0 (.two 4 (.a 6 (.a 7 (.a 12 (.qs [13] .done)))) 6 (.a 4 (.a 7 (.a 12 (.qs [13] .done))))) 6 (.a 0 (.a 4 (.a 7 (.a 12 (.qs [13] .done))))))) (by kernel_rfl) (by kernel_rfl) (fun _ _ d _ _ h => by cases d <;> exact h) ⟨⟨_, HT.out⟩, rfl⟩ ?_
       have hov_pb := fun (E : Over wc) o => E.cell (b := bpb) o hl_pb
       obtain ⟨wd, hwd⟩ : ∃ W9 : World, wc.drew = W9 := ⟨_, rfl⟩
       rw [hwd] at HT ⊢
       clear hwd
       simp only [Tree.qs]
       repeat (refine tree_q rfl rfl ?_; go_big_quiet_step (fail); refine wpQuiet_nil ?_)
       clear hov_pb hl_pb
       refine tree_two rfl rfl ?ua1 ?ua2
       case ua1 =>
        intro K hK
        go_simp
        have hb9 : Below (wd).heap.size (wd) ((wd).alloc (Obj.cells #[] 88)) := (Below.refl _ _).alloc (Nat.le_refl _) _
        have HE := Lib.hid (RowO.of_bx (N := wc.heap.size) (n := 0) (size := 3) (Bx.new (wd) 88 [] #[] rfl) (HT.out.size) rfl (by decide))
        have HNN := Lib.hid (show wc.heap.size ≤ wc.heap.size by have g1 := HT.out.size; omega)
        have HNC := Lib.hid (show wc.heap.size ≤ ((wd).alloc (Obj.cells #[] 88)).heap.size by have g1 := HT.out.size; rw [World.size_alloc]; omega)
        have HAE := Lib.hid (show (wd).heap.size < ((wd).alloc (Obj.cells #[] 88)).heap.size by rw [World.size_alloc]; omega)
        obtain ⟨wA, hqA⟩ : ∃ W9 : World, (wd).alloc (Obj.cells #[] 88) = W9 := ⟨_, rfl⟩
        rw [hqA] at hb9 HE HNC HAE ⊢
        clear hqA
        skip
        replace HT := Lib.hid (below_up HT.out hb9)
        refine hK _ _ ⟨⟨⟨wA, HT.out⟩, rfl⟩, ?_⟩
        clear hK K hb9
        refine tree_two rfl rfl ?ub1 ?ub2
        case ub1 =>
         intro K hK
         refine step_joinA (wc.heap.size) (wA) HNC.out rfl _ _ 86 rfl 88 ig _ 3 32 Try.underlying86 hig gz0 gz1 gz2 rfl (by omega) _ 0 [] rfl HE.out ⟨bl, 0, none⟩ i9 c2 ((Q.take i9).flatMap pc3) rfl (by rw [flat_len pc3 3 pc3_len, HTL.out.1]) (HSA.out.up (below_up BLW.out HT.out)) (pc3_one _) (by omega) (by unfold maxLen; omega) ?_
         intro a3 c3 wC hown9 hg9
         have hb9 : Below wc.heap.size wc wC := Below.grown HT.out hg9 HT.out.size (fun q hq => Nat.le_trans HNN.out (HE.out.lt q hq).1)
         skip
         replace HNC := Lib.hid (Nat.le_trans HNC.out hg9.size)
         rw [Nat.zero_add, List.nil_append] at hown9
         replace HT := Lib.hid hb9
         replace HE := Lib.hid hown9
         refine hK _ _ ⟨⟨⟨wC, HT.out⟩, rfl⟩, ?_⟩
         clear hK K hb9 hown9 hg9
         try simp only [Nat.zero_add]
         refine tree_a rfl (fun K hK => ?_)
         go_simp
         have hb9 : Below (wC).heap.size (wC) ((wC).alloc (Obj.cells #[.int .i64 (x.lo : Int), .int .i64 (y.hi : Int), .string (BO x.d y.d)] 88)) := (Below.refl _ _).alloc (Nat.le_refl _) _
         have HX := Lib.hid (show Bx ((wC).alloc (Obj.cells #[.int .i64 (x.lo : Int), .int .i64 (y.hi : Int), .string (BO x.d y.d)] 88)) (wC).heap.size 88 [.int .i64 (x.lo : Int), .int .i64 (y.hi : Int), .string (BO x.d y.d)] from Bx.new _ _ _ _ rfl)
         obtain ⟨wB, hqB⟩ : ∃ W9 : World, (wC).alloc (Obj.cells #[.int .i64 (x.lo : Int), .int .i64 (y.hi : Int), .string (BO x.d y.d)] 88) = W9 := ⟨_, rfl⟩
         rw [hqB] at hb9 HX ⊢
         clear hqB
         (replace HE := Lib.hid (HE.out.up hb9); replace HNC := Lib.hid (Nat.le_trans HNC.out hb9.size))
         replace HT := Lib.hid (below_up HT.out hb9)
         refine hK _ _ ⟨⟨⟨wB, HT.out⟩, rfl⟩, ?_⟩
         clear hK K hb9
         refine tree_a rfl (fun K hK => ?_)
         refine step_joinA (wc.heap.size) (wB) HNC.out rfl _ _ 86 rfl 88 ig _ 3 32 Try.underlying86 hig gz0 gz1 gz2 rfl (by omega) _ i9 _ rfl HE.out ⟨_, 0, none⟩ 1 1 _ rfl rfl (Sl.ofB HX.out) (by simp [Value.oneCell']) (by omega) (by unfold maxLen; omega) ?_
         intro a4 c4 wD hown9 hg9
         have hb9 : Below wc.heap.size wc wD := Below.grown HT.out hg9 HT.out.size (fun q hq => Nat.le_trans HNN.out (HE.out.lt q hq).1)
         replace HNC := Lib.hid (Nat.le_trans HNC.out hg9.size)
         replace HT := Lib.hid hb9
         replace HE := Lib.hid hown9
         refine hK _ _ ⟨⟨⟨wD, HT.out⟩, rfl⟩, ?_⟩
         clear hK K hb9 hown9 hg9 HX
         refine tree_a rfl (fun K hK => ?_)
         refine step_joinA (wc.heap.size) wD HNC.out rfl _ _ 86 rfl 88 ig _ 3 32 Try.underlying86 hig gz0 gz1 gz2 rfl (by omega) _ (i9 + 1) _ rfl HE.out ad2 (m - (i9 + 2)) (c2 - (i9 + 2)) ((Q.drop (i9 + 2)).flatMap pc3) rfl (by rw [flat_len pc3 3 pc3_len, HTL.out.2]) (HSB2.out.up (below_up BLW.out HT.out)) (pc3_one _) (by omega) (by unfold maxLen; omega) ?_
         intro a5 c5 wE hown9 hg9
         have hb9 : Below wc.heap.size wc wE := Below.grown HT.out hg9 HT.out.size (fun q hq => Nat.le_trans HNN.out (HE.out.lt q hq).1)
         replace HT := Lib.hid hb9
         replace HE := Lib.hid hown9
         refine hK _ _ ⟨⟨⟨wE, HT.out⟩, rfl⟩, ?_⟩
         clear hK K hb9 hown9 hg9
         try simp only [Act.put, List.setIfInBounds_toArray, List.set_cons_succ, List.set_cons_zero]
         repeat (refine tree_q rfl rfl ?_; go_big_quiet_step (fail); refine wpQuiet_nil ?_)
         refine tree_end ?_
         have hm1 : i9 + 1 + (m - (i9 + 2)) = m - 1 := by omega
         rw [hm1] at HE
         try rw [hm1]
         have HQL := Lib.hid (show (Q.take i9 ++ both BO x y :: Q.drop (i9 + 2)).length = m - 1 by rw [List.length_append, List.length_cons, HTL.out.1, HTL.out.2]; omega)
         have HE2 := Lib.hid (HE.out.eq (show _ = (Q.take i9 ++ both BO x y :: Q.drop (i9 + 2)).flatMap pc3 by rw [List.flatMap_append, List.flatMap_cons, List.append_assoc]; rfl) rfl)
         have HBE := Lib.hid (below_up BL2.out HT.out)
         clear hig gz0 gz1 gz2 HE HNC HAE
         go_wp2_with fail
         refine (pair_any (Q.take i9 ++ both BO x y :: Q.drop (i9 + 2)) (m - 1) HQL.out (by have := HQN.out; omega) (fun p hp => ⟨(RunP.mem HRN2.out p hp).1, Nat.le_trans (RunP.mem HRN2.out p hp).2 HSZ.out⟩) a5 c5 wE HE2.out.sl).mono ?_
         rintro e wp2 ⟨⟨r2, rfl, hpr2⟩, hb9⟩
         have HPR2 := Lib.hid hpr2
         have HE3 := Lib.hid (RowO.up HE2.out hb9)
         have HBE3 := Lib.hid (below_up HBE.out hb9)
         clear hpr2 hb9
         go_wp2_with fail
         go_roundw
         case rel => exact ⟨Q.take i9 ++ both BO x y :: Q.drop (i9 + 2), r2, a5, c5, by rw [HQL.out], rfl, by rw [HQL.out]; omega, HPR2, HLH2, HRN2, H322, by rw [HQL.out]; exact ownsRow_down HE3.out (Nat.le_trans BL2.out.size HNN.out), HBE3⟩
         case measure => show m - 1 < m; omega
        case ub2 =>
         intro K hK
         go_simp
         have hb9 : Below (wA).heap.size (wA) ((wA).alloc (Obj.cells #[.int .i64 (x.lo : Int), .int .i64 (y.hi : Int), .string (BO x.d y.d)] 88)) := (Below.refl _ _).alloc (Nat.le_refl _) _
         have HX := Lib.hid (show Bx ((wA).alloc (Obj.cells #[.int .i64 (x.lo : Int), .int .i64 (y.hi : Int), .string (BO x.d y.d)] 88)) (wA).heap.size 88 [.int .i64 (x.lo : Int), .int .i64 (y.hi : Int), .string (BO x.d y.d)] from Bx.new _ _ _ _ rfl)
         obtain ⟨wB, hqB⟩ : ∃ W9 : World, (wA).alloc (Obj.cells #[.int .i64 (x.lo : Int), .int .i64 (y.hi : Int), .string (BO x.d y.d)] 88) = W9 := ⟨_, rfl⟩
         rw [hqB] at hb9 HX ⊢
         clear hqB
         (replace HE := Lib.hid (HE.out.up hb9); replace HNC := Lib.hid (Nat.le_trans HNC.out hb9.size))
         replace HT := Lib.hid (below_up HT.out hb9)
         refine hK _ _ ⟨⟨⟨wB, HT.out⟩, rfl⟩, ?_⟩
         clear hK K hb9
         refine tree_a rfl (fun K hK => ?_)
         refine step_joinA (wc.heap.size) (wB) HNC.out rfl _ _ 86 rfl 88 ig _ 3 32 Try.underlying86 hig gz0 gz1 gz2 rfl (by omega) _ 0 [] rfl HE.out ⟨bl, 0, none⟩ i9 c2 ((Q.take i9).flatMap pc3) rfl (by rw [flat_len pc3 3 pc3_len, HTL.out.1]) (HSA.out.up (below_up BLW.out HT.out)) (pc3_one _) (by omega) (by unfold maxLen; omega) ?_
         intro a3 c3 wC hown9 hg9
         have hb9 : Below wc.heap.size wc wC := Below.grown HT.out hg9 HT.out.size (fun q hq => Nat.le_trans HNN.out (HE.out.lt q hq).1)
         replace HX := Lib.hid (HX.out.grown hg9 (fun e9 => by have a0 : some wd.heap.size = some wA.heap.size := e9; have a1 := Option.some.inj a0; have a2 := HAE.out; omega))
         replace HNC := Lib.hid (Nat.le_trans HNC.out hg9.size)
         rw [Nat.zero_add, List.nil_append] at hown9
         replace HT := Lib.hid hb9
         replace HE := Lib.hid hown9
         refine hK _ _ ⟨⟨⟨wC, HT.out⟩, rfl⟩, ?_⟩
         clear hK K hb9 hown9 hg9
         try simp only [Nat.zero_add]
         refine tree_a rfl (fun K hK => ?_)
         refine step_joinA (wc.heap.size) (wC) HNC.out rfl _ _ 86 rfl 88 ig _ 3 32 Try.underlying86 hig gz0 gz1 gz2 rfl (by omega) _ i9 _ rfl HE.out ⟨_, 0, none⟩ 1 1 _ rfl rfl (Sl.ofB HX.out) (by simp [Value.oneCell']) (by omega) (by unfold maxLen; omega) ?_
         intro a4 c4 wD hown9 hg9
         have hb9 : Below wc.heap.size wc wD := Below.grown HT.out hg9 HT.out.size (fun q hq => Nat.le_trans HNN.out (HE.out.lt q hq).1)
         replace HNC := Lib.hid (Nat.le_trans HNC.out hg9.size)
         replace HT := Lib.hid hb9
         replace HE := Lib.hid hown9
         refine hK _ _ ⟨⟨⟨wD, HT.out⟩, rfl⟩, ?_⟩
         clear hK K hb9 hown9 hg9 HX
         refine tree_a rfl (fun K hK => ?_)
         refine step_joinA (wc.heap.size) wD HNC.out rfl _ _ 86 rfl 88 ig _ 3 32 Try.underlying86 hig gz0 gz1 gz2 rfl (by omega) _ (i9 + 1) _ rfl HE.out ad2 (m - (i9 + 2)) (c2 - (i9 + 2)) ((Q.drop (i9 + 2)).flatMap pc3) rfl (by rw [flat_len pc3 3 pc3_len, HTL.out.2]) (HSB2.out.up (below_up BLW.out HT.out)) (pc3_one _) (by omega) (by unfold maxLen; omega) ?_
         intro a5 c5 wE hown9 hg9
         have hb9 : Below wc.heap.size wc wE := Below.grown HT.out hg9 HT.out.size (fun q hq => Nat.le_trans HNN.out (HE.out.lt q hq).1)
         replace HT := Lib.hid hb9
         replace HE := Lib.hid hown9
         refine hK _ _ ⟨⟨⟨wE, HT.out⟩, rfl⟩, ?_⟩
         clear hK K hb9 hown9 hg9
         try simp only [Act.put, List.setIfInBounds_toArray, List.set_cons_succ, List.set_cons_zero]
         repeat (refine tree_q rfl rfl ?_; go_big_quiet_step (fail); refine wpQuiet_nil ?_)
         refine tree_end ?_
         have hm1 : i9 + 1 + (m - (i9 + 2)) = m - 1 := by omega
         rw [hm1] at HE
         try rw [hm1]
         have HQL := Lib.hid (show (Q.take i9 ++ both BO x y :: Q.drop (i9 + 2)).length = m - 1 by rw [List.length_append, List.length_cons, HTL.out.1, HTL.out.2]; omega)
         have HE2 := Lib.hid (HE.out.eq (show _ = (Q.take i9 ++ both BO x y :: Q.drop (i9 + 2)).flatMap pc3 by rw [List.flatMap_append, List.flatMap_cons, List.append_assoc]; rfl) rfl)
         have HBE := Lib.hid (below_up BL2.out HT.out)
         clear hig gz0 gz1 gz2 HE HNC HAE
         go_wp2_with fail
         refine (pair_any (Q.take i9 ++ both BO x y :: Q.drop (i9 + 2)) (m - 1) HQL.out (by have := HQN.out; omega) (fun p hp => ⟨(RunP.mem HRN2.out p hp).1, Nat.le_trans (RunP.mem HRN2.out p hp).2 HSZ.out⟩) a5 c5 wE HE2.out.sl).mono ?_
         rintro e wp2 ⟨⟨r2, rfl, hpr2⟩, hb9⟩
         have HPR2 := Lib.hid hpr2
         have HE3 := Lib.hid (RowO.up HE2.out hb9)
         have HBE3 := Lib.hid (below_up HBE.out hb9)
         clear hpr2 hb9
         go_wp2_with fail
         go_roundw
         case rel => exact ⟨Q.take i9 ++ both BO x y :: Q.drop (i9 + 2), r2, a5, c5, by rw [HQL.out], rfl, by rw [HQL.out]; omega, HPR2, HLH2, HRN2, H322, by rw [HQL.out]; exact ownsRow_down HE3.out (Nat.le_trans BL2.out.size HNN.out), HBE3⟩
         case measure => show m - 1 < m; omega
       case ua2 =>
        intro K hK
        go_simp
        have hb9 : Below (wd).heap.size (wd) ((wd).alloc (Obj.cells #[.int .i64 (x.lo : Int), .int .i64 (y.hi : Int), .string (BO x.d y.d)] 88)) := (Below.refl _ _).alloc (Nat.le_refl _) _
        have HX := Lib.hid (show Bx ((wd).alloc (Obj.cells #[.int .i64 (x.lo : Int), .int .i64 (y.hi : Int), .string (BO x.d y.d)] 88)) (wd).heap.size 88 [.int .i64 (x.lo : Int), .int .i64 (y.hi : Int), .string (BO x.d y.d)] from Bx.new _ _ _ _ rfl)
        obtain ⟨wB, hqB⟩ : ∃ W9 : World, (wd).alloc (Obj.cells #[.int .i64 (x.lo : Int), .int .i64 (y.hi : Int), .string (BO x.d y.d)] 88) = W9 := ⟨_, rfl⟩
        rw [hqB] at hb9 HX ⊢
        clear hqB
        skip
        replace HT := Lib.hid (below_up HT.out hb9)
        refine hK _ _ ⟨⟨⟨wB, HT.out⟩, rfl⟩, ?_⟩
        clear hK K hb9
        have HDL := Lib.hid HX.out.lt
        refine tree_a rfl (fun K hK => ?_)
        go_simp
        have hb9 : Below (wB).heap.size (wB) ((wB).alloc (Obj.cells #[] 88)) := (Below.refl _ _).alloc (Nat.le_refl _) _
        have HE := Lib.hid (RowO.of_bx (N := wB.heap.size) (n := 0) (size := 3) (Bx.new (wB) 88 [] #[] rfl) (Nat.le_refl _) rfl (by decide))
        have HNN := Lib.hid (show wc.heap.size ≤ wB.heap.size by have g1 := HT.out.size; omega)
        have HNC := Lib.hid (show wB.heap.size ≤ ((wB).alloc (Obj.cells #[] 88)).heap.size by have g1 := HT.out.size; rw [World.size_alloc]; omega)
        have HAE := Lib.hid (show (wB).heap.size < ((wB).alloc (Obj.cells #[] 88)).heap.size by rw [World.size_alloc]; omega)
        obtain ⟨wA, hqA⟩ : ∃ W9 : World, (wB).alloc (Obj.cells #[] 88) = W9 := ⟨_, rfl⟩
        rw [hqA] at hb9 HE HNC HAE ⊢
        clear hqA
        replace HX := Lib.hid (HX.out.up hb9)
        replace HT := Lib.hid (below_up HT.out hb9)
        refine hK _ _ ⟨⟨⟨wA, HT.out⟩, rfl⟩, ?_⟩
        clear hK K hb9
        refine tree_a rfl (fun K hK => ?_)
        refine step_joinA (wB.heap.size) (wA) HNC.out rfl _ _ 86 rfl 88 ig _ 3 32 Try.underlying86 hig gz0 gz1 gz2 rfl (by omega) _ 0 [] rfl HE.out ⟨bl, 0, none⟩ i9 c2 ((Q.take i9).flatMap pc3) rfl (by rw [flat_len pc3 3 pc3_len, HTL.out.1]) (HSA.out.up (below_up BLW.out HT.out)) (pc3_one _) (by omega) (by unfold maxLen; omega) ?_
        intro a3 c3 wC hown9 hg9
        have hb9 : Below wc.heap.size wc wC := Below.grown HT.out hg9 HT.out.size (fun q hq => Nat.le_trans HNN.out (HE.out.lt q hq).1)
        replace HX := Lib.hid (HX.out.grown hg9 (fun e9 => by have a1 := (HE.out.lt _ e9).1; have a2 := HDL.out; omega))
        replace HNC := Lib.hid (Nat.le_trans HNC.out hg9.size)
        rw [Nat.zero_add, List.nil_append] at hown9
        replace HT := Lib.hid hb9
        replace HE := Lib.hid hown9
        refine hK _ _ ⟨⟨⟨wC, HT.out⟩, rfl⟩, ?_⟩
        clear hK K hb9 hown9 hg9
        try simp only [Nat.zero_add]
        refine tree_a rfl (fun K hK => ?_)
        refine step_joinA (wB.heap.size) (wC) HNC.out rfl _ _ 86 rfl 88 ig _ 3 32 Try.underlying86 hig gz0 gz1 gz2 rfl (by omega) _ i9 _ rfl HE.out ⟨_, 0, none⟩ 1 1 _ rfl rfl (Sl.ofB HX.out) (by simp [Value.oneCell']) (by omega) (by unfold maxLen; omega) ?_
        intro a4 c4 wD hown9 hg9
        have hb9 : Below wc.heap.size wc wD := Below.grown HT.out hg9 HT.out.size (fun q hq => Nat.le_trans HNN.out (HE.out.lt q hq).1)
        replace HNC := Lib.hid (Nat.le_trans HNC.out hg9.size)
        replace HT := Lib.hid hb9
        replace HE := Lib.hid hown9
        refine hK _ _ ⟨⟨⟨wD, HT.out⟩, rfl⟩, ?_⟩
        clear hK K hb9 hown9 hg9 HX
        refine tree_a rfl (fun K hK => ?_)
        refine step_joinA (wB.heap.size) wD HNC.out rfl _ _ 86 rfl 88 ig _ 3 32 Try.underlying86 hig gz0 gz1 gz2 rfl (by omega) _ (i9 + 1) _ rfl HE.out ad2 (m - (i9 + 2)) (c2 - (i9 + 2)) ((Q.drop (i9 + 2)).flatMap pc3) rfl (by rw [flat_len pc3 3 pc3_len, HTL.out.2]) (HSB2.out.up (below_up BLW.out HT.out)) (pc3_one _) (by omega) (by unfold maxLen; omega) ?_
        intro a5 c5 wE hown9 hg9
        have hb9 : Below wc.heap.size wc wE := Below.grown HT.out hg9 HT.out.size (fun q hq => Nat.le_trans HNN.out (HE.out.lt q hq).1)
        replace HT := Lib.hid hb9
        replace HE := Lib.hid hown9
        refine hK _ _ ⟨⟨⟨wE, HT.out⟩, rfl⟩, ?_⟩
        clear hK K hb9 hown9 hg9
        try simp only [Act.put, List.setIfInBounds_toArray, List.set_cons_succ, List.set_cons_zero]
        repeat (refine tree_q rfl rfl ?_; go_big_quiet_step (fail); refine wpQuiet_nil ?_)
        refine tree_end ?_
        have hm1 : i9 + 1 + (m - (i9 + 2)) = m - 1 := by omega
        rw [hm1] at HE
        try rw [hm1]
        have HQL := Lib.hid (show (Q.take i9 ++ both BO x y :: Q.drop (i9 + 2)).length = m - 1 by rw [List.length_append, List.length_cons, HTL.out.1, HTL.out.2]; omega)
        have HE2 := Lib.hid (HE.out.eq (show _ = (Q.take i9 ++ both BO x y :: Q.drop (i9 + 2)).flatMap pc3 by rw [List.flatMap_append, List.flatMap_cons, List.append_assoc]; rfl) rfl)
        have HBE := Lib.hid (below_up BL2.out HT.out)
        clear hig gz0 gz1 gz2 HE HNC HAE
        go_wp2_with fail
        refine (pair_any (Q.take i9 ++ both BO x y :: Q.drop (i9 + 2)) (m - 1) HQL.out (by have := HQN.out; omega) (fun p hp => ⟨(RunP.mem HRN2.out p hp).1, Nat.le_trans (RunP.mem HRN2.out p hp).2 HSZ.out⟩) a5 c5 wE HE2.out.sl).mono ?_
        rintro e wp2 ⟨⟨r2, rfl, hpr2⟩, hb9⟩
        have HPR2 := Lib.hid hpr2
        have HE3 := Lib.hid (RowO.up HE2.out hb9)
        have HBE3 := Lib.hid (below_up HBE.out hb9)
        clear hpr2 hb9
        go_wp2_with fail
        go_roundw
        case rel => exact ⟨Q.take i9 ++ both BO x y :: Q.drop (i9 + 2), r2, a5, c5, by rw [HQL.out], rfl, by rw [HQL.out]; omega, HPR2, HLH2, HRN2, H322, by rw [HQL.out]; exact ownsRow_down HE3.out (Nat.le_trans BL2.out.size HNN.out), HBE3⟩
        case measure => show m - 1 < m; omega
end Go.Proofs.Ytjmeakfjfpnciaa
namespace Go.Proofs.Ytjmeakfjfpnciaa
open Go.ChangeShapes Go.WideShapes Go.ChangeAt Go.RowKit
theorem law_own : ownKnob Try.prog.godebug = none := by kernel_rfl
theorem law_laidOut : laidOutB Try.prog = true := by kernel_rfl
section
variable {H : Type} {enc : TypeId × Value → H} {P : Program} {w : World}
theorem add_plain (b off i : Nat) : (⟨b, off, none⟩ : Addr).add i = ⟨b, off + i, none⟩ := by unfold Addr.add; split <;> simp_all
end
end Go.Proofs.Ytjmeakfjfpnciaa
namespace Go.Proofs.Ytjmeakfjfpnciaa
open Go.RowKit
theorem toList_bne7 {a b : ByteArray} (h : ¬ a = b) : (a.toList == b.toList) = false := beq_eq_false_iff_ne.2 (fun e => h (by
 have h9 : (a == b) = true := by rw [beq_toListBytes]; exact beq_iff_eq.2 e
 obtain ⟨x⟩ := a
 obtain ⟨y⟩ := b
 have h10 : (x == y) = true := h9
 rw [eq_of_beq h10]))
end Go.Proofs.Ytjmeakfjfpnciaa
namespace Go.Proofs.Ytjmeakfjfpnciaa
open Go.RowKit
theorem Left_any (size lo hi : Int) (b i a : List ByteArray) (ab ai aa : Option Addr) (cb ci ca : Nat) (hcb : ab = none → cb = 0) (hci : ai = none → ci = 0) (hca : aa = none → ca = 0) (w : World) (hB : Sl w w.heap.size ab (b.map Value.string)) (hI : Sl w w.heap.size ai (i.map Value.string)) (hA : Sl w w.heap.size aa (a.map Value.string)) :
  Calls Try.prog 40 #[.int .i64 size, .int .i64 lo, .int .i64 hi, .slice ab b.length cb, .slice ai i.length ci, .slice aa a.length ca] w
   (LeftR (decide (0 ≤ lo ∧ lo ≤ hi ∧ hi ≤ size ∧ size ≤ 1048576) && meetOk lo.toNat hi.toNat size.toNat b i a) (if (decide (0 ≤ lo ∧ lo ≤ hi ∧ hi ≤ size ∧ size ≤ 1048576) && meetOk lo.toNat hi.toNat size.toNat b i a) = true then meetD lo.toNat hi.toNat size.toNat b i a else []) w) := by
 by_cases hg : 0 ≤ lo ∧ lo ≤ hi ∧ hi ≤ size ∧ size ≤ 1048576
 case neg =>
  rw [decide_eq_false hg, Bool.false_and, if_neg (by decide)]
  exact Left_range size lo hi _ _ _ hg w
 rw [decide_eq_true hg, Bool.true_and]
 obtain ⟨l, rfl⟩ : ∃ k : Nat, lo = k := ⟨lo.toNat, by omega⟩
 obtain ⟨h, rfl⟩ : ∃ k : Nat, hi = k := ⟨hi.toNat, by omega⟩
 obtain ⟨s, rfl⟩ : ∃ k : Nat, size = k := ⟨size.toNat, by omega⟩
 rw [Int.toNat_natCast, Int.toNat_natCast, Int.toNat_natCast]
 by_cases hl : b.length = (cover 0 l).length ∧ i.length = (cover l h).length ∧ a.length = (cover h s).length
 ·exact Left_body s l h _ _ _ (by omega) (by omega) (by omega) b i a rfl rfl rfl ab ai aa cb ci ca hcb hci hca hl.1 hl.2.1 hl.2.2 w hB hI hA
 ·have hno : meetOk l h s b i a = false := by
   refine Bool.eq_false_iff.2 fun e => hl ?_
   obtain ⟨⟨e1, e2, e3⟩, _⟩ := meetOk_iff.1 e
   rw [coverN_len] at e1 e2 e3
   exact ⟨e1, e2, e3⟩
  rw [hno, if_neg (by decide)]
  exact Left_len s l h _ _ _ (by omega) (by omega) (by omega) ab ai aa cb ci ca hl w
theorem rMeets_any (h : ByteArray) (size lo hi : Int) (b i a : List ByteArray) (ab ai aa : Option Addr) (cb ci ca : Nat) (hcb : ab = none → cb = 0) (hci : ai = none → ci = 0) (hca : aa = none → ca = 0) (w : World) (hB : Sl w w.heap.size ab (b.map Value.string)) (hI : Sl w w.heap.size ai (i.map Value.string)) (hA : Sl w w.heap.size aa (a.map Value.string)) :
  Calls Try.prog 11 #[.string h, .int .i64 size, .int .i64 lo, .int .i64 hi, .slice ab b.length cb, .slice ai i.length ci, .slice aa a.length ca] w (Gives (.bool (meetB h size lo hi b i a)) w) := by
 have HLF := Lib.hid (Left_any size lo hi b i a ab ai aa cb ci ca hcb hci hca w hB hI hA)
 obtain ⟨ok, hok⟩ : ∃ x, (decide (0 ≤ lo ∧ lo ≤ hi ∧ hi ≤ size ∧ size ≤ 1048576) && meetOk lo.toNat hi.toNat size.toNat b i a) = x := ⟨_, rfl⟩
 rw [hok] at HLF
 have HME : meetB h size lo hi b i a = (ok && decide (headS size.toNat (meetD lo.toNat hi.toNat size.toNat b i a) = h)) := by
  unfold meetB
  rw [← hok, Bool.and_assoc]
 rw [HME]
 unfold LeftR at HLF
 unfold Gives
 cases ok
 ·rw [if_neg (by decide)] at HLF
  rw [Bool.false_and]
  clear hok HME hB hI hA hcb hci hca
  go_enter Try.func11, Try.ntmps11
  go_wp2_with fail
  refine HLF.out.mono ?_
  rintro e wa ⟨ad, cd, rfl, _, _, hb9⟩
  have HB := Lib.hid hb9
  go_wp2_with fail
  go_ret
  exact ⟨rfl, HB.out⟩
 ·rw [if_pos rfl] at HLF
  rw [Bool.true_and]
  rw [Bool.and_eq_true] at hok
  have hg := of_decide_eq_true hok.1
  obtain ⟨m1, m2⟩ := meet_head (lo := lo.toNat) (hi := hi.toNat) (size := size.toNat) (by omega) (by omega) (by omega) hok.2
  have HHD := Lib.hid (fun a9 c9 W h1 h2 => rHead_any size (meetD lo.toNat hi.toNat size.toNat b i a) _ rfl (by have h9 := cover_length 0 size.toNat; omega) a9 c9 h1 W h2)
  have hhr : headR size (meetD lo.toNat hi.toNat size.toNat b i a) = (headS size.toNat (meetD lo.toNat hi.toNat size.toNat b i a), 0) := by
   unfold headR
   rw [if_pos (by omega), if_pos ⟨m1, m2⟩]
  rw [hhr] at HHD
  unfold Gives at HHD
  generalize headS size.toNat (meetD lo.toNat hi.toNat size.toNat b i a) = hs at *
  generalize meetD lo.toNat hi.toNat size.toNat b i a = D at *
  clear hok HME hB hI hA hcb hci hca hg m1 m2 hhr
  have hbb : (hs.toList == h.toList) = decide (hs = h) := by
   by_cases e : hs = h
   ·subst e; simp
   ·rw [decide_eq_false e]
    exact toList_bne7 e
  go_enter Try.func11, Try.ntmps11
  go_wp2_with fail
  refine HLF.out.mono ?_
  rintro e wa ⟨ad, cd, rfl, hs9, hc9, hb9⟩
  have HB := Lib.hid hb9
  have HZ := Lib.hid hb9.size
  have HS9 := Lib.hid hs9
  clear hb9 hs9
  have HZS := HZ
  go_wp2_with fail
  refine (HHD.out ad cd wa hc9 HS9.out).mono ?_
  rintro e w1 ⟨rfl, hb9⟩
  replace HB := hbu HB hb9
  replace HZS := sz HZS hb9.size
  clear hb9
  go_wp2_with fail
  go_ret
  exact ⟨rfl, HB.out⟩
end Go.Proofs.Ytjmeakfjfpnciaa
namespace Go.Proofs.Ytjmeakfjfpnciaa
open Go.ChangeShapes Go.WideShapes Go.ChangeAt Go.RowKit
theorem flat_range (g : Nat → Value) (k len : Nat) : ((List.range len).map fun i => (List.range k).map fun j => g (i * k + j)).flatten = (List.range (len * k)).map g := by
 induction len with
 | zero => simp
 | succ m ih =>
  rw [List.range_succ, List.map_append, List.flatten_append, ih, Nat.succ_mul, List.range_add, List.map_append]
  simp [List.map_map, Function.comp_def]
section
variable {H : Type} {enc : TypeId × Value → H} {P : Program} {w : World}
theorem list_shapes {α : Type} (f : α → List Value) (R : α → Prop) : ∀ css : List (List Value), (∀ l ∈ css, ∃ x, l = f x ∧ R x) → ∃ xs : List α, xs.length = css.length ∧ css.flatten = xs.flatMap f ∧ ∀ x ∈ xs, R x
 | [], _ => ⟨[], rfl, rfl, by simp⟩
 | l :: css, h => by
  obtain ⟨x, rfl, hR⟩ := h l (by simp)
  obtain ⟨xs, h1, h2, h3⟩ := list_shapes f R css (fun c hc => h c (by simp [hc]))
  refine ⟨x :: xs, by simp [h1], by simp [h2], ?_⟩
  intro y hy
  rcases List.mem_cons.1 hy with rfl | hy
  ·exact hR
  ·exact h3 y hy
theorem open_str {sp : Nat → Bool} {held : Bool} {t : TypeId} {fuel : Nat} {c : Value} {y : DataW H × List MemPlace} (ht : P.underlying t = some .string) (h : DataW.trod enc P w 0 sp held fuel t [c] = some y) : ∃ s : ByteArray, c = .string s := by
 obtain ⟨s, hs, _⟩ := DataW.trod_string ht h
 simp only [List.cons.injEq, and_true] at hs
 exact ⟨s, hs⟩
end
end Go.Proofs.Ytjmeakfjfpnciaa
namespace Go.Proofs.Ytjmeakfjfpnciaa
open Go.ChangeShapes Go.WideShapes Go.ChangeAt Go.RowKit
def Wt {H : Type} (P : Program) (t : TypeId) (d : DataW H) : Prop := ∀ n ∈ DataW.weights P t d, n ≤ reachBytes
theorem weightsAll_mem {H : Type} {P : Program} {e : TypeId} : ∀ {l : List (DataW H)} {d : DataW H}, d ∈ l → ∀ n ∈ DataW.weights P e d, n ∈ DataW.weightsAll P e l
 | x :: l, d, hd, n, hn => by
  simp only [DataW.weightsAll, List.mem_append]
  rcases List.mem_cons.1 hd with rfl | h
  ·exact Or.inl hn
  ·exact Or.inr (weightsAll_mem h n hn)
theorem Wt.slice {H : Type} {P : Program} {t e : TypeId} {elems spare : List (DataW H)} (ht : P.underlying t = some (.slice e)) (h : Wt P t (.slice elems spare)) : elems.length * P.bytesOf e ≤ reachBytes ∧ ∀ d ∈ elems, Wt P e d := by
 unfold Wt at h
 simp only [DataW.weights, ht, List.mem_cons, List.mem_append] at h
 refine ⟨Nat.le_trans (Nat.mul_le_mul_right _ (Nat.le_add_right _ _)) (h _ (Or.inl rfl)), fun d hd n hn => h n (Or.inr (Or.inl (weightsAll_mem hd n hn)))⟩
theorem Wt.arg {H : Type} {P : Program} {ts : List TypeId} {ds : List (DataW H)} (h : (DataW.weightsEach P ts ds).all (· ≤ reachBytes) = true) {j : Nat} {t : TypeId} {d : DataW H} (ht : ts[j]? = some t) (hd : ds[j]? = some d) : Wt P t d :=
 fun n hn => of_decide_eq_true (List.all_eq_true.1 h _ (DataW.weights_mem_each ht hd n hn))
section
variable {H : Type} {enc : TypeId × Value → H} {P : Program} {w : World}
theorem open_flatW {sp : Nat → Bool} {held : Bool} {t e : TypeId} {k fuel : Nat} {c : Value} {y : DataW H × List MemPlace} (ht : P.underlying t = some (.slice e)) (hk : P.cellsOf e = k) (hk0 : 0 < k) (hW : Wt P t y.1)
  (h : DataW.trod enc P w 0 sp held fuel t [c] = some y) :
  ∃ (a : Option Addr) (cap : Nat) (css : List (List Value)), c = .slice a css.length cap ∧ css.length * P.bytesOf e ≤ reachBytes ∧ (a = none → cap = 0) ∧ (∀ l ∈ css, l.length = k) ∧ Sl w w.heap.size a css.flatten ∧
   ∀ l ∈ css, ∃ n y', Wt P e y'.1 ∧ DataW.trod enc P w 0 sp held n e l = some y' := by
 have hlt := DataW.trod_lt _ _ _ _ h
 rcases DataW.trod_slice ht h with ⟨hcs, _⟩ | ⟨x, len, cap, elems, rest, n, _, hcs, hx, hb, hl, hm, hlen, hel, _, _⟩
 ·simp only [List.cons.injEq, and_true] at hcs
  exact ⟨none, 0, [], hcs, by simp, fun _ => rfl, by simp, Or.inl rfl, by simp⟩
 simp only [List.cons.injEq, and_true] at hcs
 subst hcs
 by_cases h0 : len = 0
 ·subst h0
  exact ⟨some x, cap, [], rfl, by simp, by simp, by simp, Or.inl rfl, by simp⟩
 have hbk := Wt.slice (elems := elems.map (·.1)) (spare := rest.map (·.1)) ht (by rw [hx] at hW; exact hW)
 have each : ∀ i, i < len → ∃ l y', w.cells? 0 (x.add (i * k)) k = some l ∧ Wt P e y'.1 ∧ DataW.trod enc P w 0 sp held n e l = some y' := by
  intro i hi
  have h1 := hel i hi
  rw [hk, show elems[i]? = some (elems[i]'(by omega)) from List.getElem?_eq_getElem (by omega), Option.bind_eq_some_iff] at h1
  obtain ⟨l, hl, hy⟩ := h1
  exact ⟨l, _, hl, hbk.2 _ (List.mem_map.2 ⟨_, List.getElem_mem _, rfl⟩), hy⟩
 obtain ⟨b, off, spot⟩ := x
 have hspot : spot = none := by
  obtain ⟨l, _, h1, _⟩ := each 0 (by omega)
  obtain ⟨_, h2, h3⟩ := World.cells?_some h1
  have h4 := h3 0 hk0
  obtain ⟨v, hv⟩ : ∃ v, l[0]? = some v := ⟨_, List.getElem?_eq_getElem (by omega)⟩
  rw [hv, Deep.add_add, Nat.zero_mul, Nat.zero_add] at h4
  simpa [Addr.add] using World.cell?_spot h4
 subst hspot
 have hbW : b < w.heap.size := hlt (.cell b off) (by
  rw [hx]
  exact List.mem_append_left _ (MemPlace.mem_row.2 ⟨0, by rw [hk]; have : 0 < (elems.length + rest.length) * k := Nat.mul_pos (by omega) hk0; omega, by simp⟩))
 have hL : ∀ i, i < len → ((List.range k).map fun j => (w.cell? ⟨b, off + (i * k + j), none⟩).getD (.bool false)).length = k ∧
   (∀ j, j < k → w.cell? ⟨b, off + (i * k + j), none⟩ = some ((w.cell? ⟨b, off + (i * k + j), none⟩).getD (.bool false))) ∧
   ∃ y', Wt P e y'.1 ∧ DataW.trod enc P w 0 sp held n e ((List.range k).map fun j => (w.cell? ⟨b, off + (i * k + j), none⟩).getD (.bool false)) = some y' := by
  intro i hi
  obtain ⟨l, y', h1, h2b, h2⟩ := each i hi
  obtain ⟨_, h3, h4⟩ := World.cells?_some h1
  have h5 : ∀ j, j < k → w.cell? ⟨b, off + (i * k + j), none⟩ = l[j]? := by
   intro j hj
   have := h4 j hj
   rwa [Deep.add_add, add_plain] at this
  have e1 : (List.range k).map (fun j => (w.cell? ⟨b, off + (i * k + j), none⟩).getD (.bool false)) = l := by
   apply List.ext_getElem?
   intro j
   by_cases hj : j < k
   ·rw [List.getElem?_map, List.getElem?_range hj, Option.map_some, h5 j hj, List.getElem?_eq_getElem (show j < l.length by omega), Option.getD_some]
   ·rw [List.getElem?_eq_none (by simp; omega), List.getElem?_eq_none (by omega)]
  refine ⟨by simp, ?_, ?_⟩
  ·intro j hj
   rw [h5 j hj, List.getElem?_eq_getElem (show j < l.length by omega), Option.getD_some]
  ·rw [e1]; exact ⟨y', h2b, h2⟩
 refine ⟨some ⟨b, off, none⟩, cap, (List.range len).map fun i => (List.range k).map fun j => (w.cell? ⟨b, off + (i * k + j), none⟩).getD (.bool false), by simp, ?_, by simp, ?_, Or.inr ⟨b, off, rfl, hbW, ?_⟩, ?_⟩
 ·have := hbk.1; rw [List.length_map, hlen] at this; simpa using this
 ·intro l hl
  obtain ⟨i, _, rfl⟩ := List.mem_map.1 hl
  simp
 ·have hflat := flat_range (fun m => (w.cell? ⟨b, off + m, none⟩).getD (.bool false)) k len
  intro i v hv
  rw [hflat] at hv
  have hi : i < len * k := by have := (List.getElem?_eq_some_iff.1 hv).1; simpa using this
  have hq : i / k < len := Nat.div_lt_of_lt_mul (by rwa [Nat.mul_comm] at hi)
  have hc := (hL (i / k) hq).2.1 (i % k) (Nat.mod_lt _ hk0)
  rw [show i / k * k + i % k = i by rw [Nat.mul_comm]; exact Nat.div_add_mod i k] at hc
  rw [hc, ← hv, List.getElem?_map, List.getElem?_range hi, Option.map_some]
 ·intro l hl
  obtain ⟨i, hi, rfl⟩ := List.mem_map.1 hl
  obtain ⟨y', hyb, hy⟩ := (hL i (List.mem_range.1 hi)).2.2
  exact ⟨n, y', hyb, hy⟩
theorem open_elsW {α : Type} (f : α → List Value) (R : α → Prop) {sp : Nat → Bool} {held : Bool} {t e : TypeId} {k fuel : Nat} {c : Value} {y : DataW H × List MemPlace} (ht : P.underlying t = some (.slice e)) (hk : P.cellsOf e = k) (hk0 : 0 < k) (hW : Wt P t y.1)
  (hel : ∀ n l y', l.length = k → Wt P e y'.1 → DataW.trod enc P w 0 sp held n e l = some y' → ∃ x, l = f x ∧ R x) (h : DataW.trod enc P w 0 sp held fuel t [c] = some y) :
  ∃ (a : Option Addr) (cap : Nat) (xs : List α), c = .slice a xs.length cap ∧ xs.length * P.bytesOf e ≤ reachBytes ∧ (a = none → cap = 0) ∧ Sl w w.heap.size a (xs.flatMap f) ∧ ∀ x ∈ xs, R x := by
 obtain ⟨a, cap, css, rfl, hlB, hno, hl, hs, he⟩ := open_flatW ht hk hk0 hW h
 obtain ⟨xs, h1, h2, h3⟩ := list_shapes f R css (fun l hm => by
  obtain ⟨n, y', hyb, hy⟩ := he l hm
  exact hel n l y' (hl l hm) hyb hy)
 exact ⟨a, cap, xs, by rw [h1], by rw [h1]; exact hlB, hno, h2 ▸ hs, h3⟩
end
end Go.Proofs.Ytjmeakfjfpnciaa
namespace Go.Proofs.Ytjmeakfjfpnciaa
open Go.ChangeShapes Go.WideShapes Go.ChangeAt Go.RowKit
theorem Wt.str7 {H : Type} {enc : TypeId × Value → H} {P : Program} {w : World} {sp : Nat → Bool} {held : Bool} {t : TypeId} {fuel : Nat} {s : ByteArray} {y : DataW H × List MemPlace} (ht : P.underlying t = some .string) (hW : Wt P t y.1) (h : DataW.trod enc P w 0 sp held fuel t [.string s] = some y) : s.size ≤ reachBytes := by
 obtain ⟨s', hs, hy, _⟩ := DataW.trod_string ht h
 simp only [List.cons.injEq, and_true, Value.string.injEq] at hs
 subst hs
 rw [hy] at hW
 exact hW s.data.toList.length (by simp [DataW.weights])
theorem open_strsC {H : Type} {enc : TypeId × Value → H} {P : Program} {w : World} {sp : Nat → Bool} {held : Bool} {t e : TypeId} {fuel : Nat} {c : Value} {y : DataW H × List MemPlace} (ht : P.underlying t = some (.slice e)) (he : P.underlying e = some .string) (hk : P.cellsOf e = 1) (hW : Wt P t y.1) (h : DataW.trod enc P w 0 sp held fuel t [c] = some y) :
  ∃ (a : Option Addr) (cap : Nat) (bs : List ByteArray), c = .slice a bs.length cap ∧ bs.length * P.bytesOf e ≤ reachBytes ∧ Sl w w.heap.size a (bs.map Value.string) ∧ (∀ x ∈ bs, x.size ≤ reachBytes) ∧ bs.length ≤ cap ∧ (a = none → cap = 0) := by
 obtain ⟨a, cap, xs, h1, hb, hno, h2, h3⟩ := open_elsW (fun s : ByteArray => [Value.string s]) (fun s => s.size ≤ reachBytes) ht hk (by omega) hW (fun n l y' hl hw hy => by
  match l, hl with
  | [c'], _ =>
   obtain ⟨s, rfl⟩ := open_str he hy
   exact ⟨s, rfl, Wt.str7 he hw hy⟩) h
 refine ⟨a, cap, xs, h1, hb, ?_, h3, ?_, hno⟩
 ·rw [← List.flatMap_singleton' (xs.map Value.string), List.flatMap_map]
  exact h2
 ·rw [h1] at h
  rcases DataW.trod_slice ht h with ⟨hcs, _⟩ | ⟨x, len, cap', elems, rest, n', _, hcs, hx, hb, hl, hm, hlen, hel, _, _⟩
  ·simp only [List.cons.injEq, Value.slice.injEq, and_true] at hcs
   omega
  ·simp only [List.cons.injEq, Value.slice.injEq, and_true] at hcs
   omega
theorem str7_cells : Try.prog.cellsOf 9 = 1 := by kernel_rfl
theorem str7_bytes : Try.prog.bytesOf 9 = 16 := by kernel_rfl
theorem reach7_lt : reachBytes < 140737488355328 := by decide
end Go.Proofs.Ytjmeakfjfpnciaa
namespace Go.Proofs.Ytjmeakfjfpnciaa
open Go.ChangeShapes Go.WideShapes Go.ChangeAt Go.RowKit
def zipP (s : List (Int × Int)) (ds : List ByteArray) : List Pc := List.zipWith (fun x d => ⟨x.1.toNat, x.2.toNat, d⟩) s ds
theorem zipP_app : ∀ (s t : List (Int × Int)) (ds : List ByteArray), zipP (s ++ t) ds = zipP s ds ++ zipP t (ds.drop s.length)
 | [], t, ds => rfl
 | x :: s, t, [] => by simp [zipP]
 | x :: s, t, d :: ds => by
  have ih := zipP_app s t ds
  unfold zipP at ih ⊢
  simp only [List.cons_append, List.zipWith_cons_cons, List.length_cons, List.drop_succ_cons, ih]
theorem zipP_cover (lo hi : Nat) (ds : List ByteArray) : zipP (cover lo hi) ds = pcsOf (coverN lo hi) ds := by
 rw [cover_coverN]
 unfold zipP pcsOf
 rw [List.zipWith_map_left]
 rfl
theorem RunP.split {b : Nat} {p : Pc} {m : List Pc} : ∀ {l : List Pc} {a : Nat}, RunP a (l ++ p :: m) b → RunP a l p.lo ∧ p.lo < p.hi ∧ p.hi ≤ b
 | [], a, h => ⟨h.1.symm, by have := h.2.1; have := h.1; omega, RunP.le h.2.2⟩
 | x :: l, a, h => by
  obtain ⟨h1, h2, h3⟩ := RunP.split (l := l) h.2.2
  exact ⟨⟨h.1, h.2.1, h1⟩, h2, h3⟩
theorem zipP_mem {s : List (Int × Int)} {ds : List ByteArray} {p : Pc} (h : p ∈ zipP s ds) : p.d ∈ ds := by
 unfold zipP at h
 obtain ⟨i, hi, rfl⟩ := List.getElem_of_mem h
 rw [List.getElem_zipWith]
 exact List.getElem_mem _
theorem stepM_part {pre : List Pc} {lo hi : Nat} {ds : List ByteArray} (hrun : RunP 0 pre lo) (h32 : ∀ p ∈ pre, p.d.size = 32) (hpl : pre.length ≤ lo) (hle : lo ≤ hi) (hhi : hi ≤ 1048576) (hds : ds.length = (cover lo hi).length) (hsh : shortB ds = false) {s : List (Int × Int)} {x1 x2 : Nat} (hp : s ++ [((x1 : Int), (x2 : Int))] <+: cover lo hi) (h9 : s.length < ds.length) :
  StepM bothS (heapH bothS [] (pre ++ zipP s ds)).reverse (heapH bothS [] (pre ++ zipP (s ++ [((x1 : Int), (x2 : Int))]) ds)).reverse ⟨x1, x2, ds[s.length]⟩ := by
 obtain ⟨t, ht⟩ := hp
 have hfull := pcs_run (hi - lo) lo hi ds hle (Nat.le_refl _) (by rw [hds, ← coverN_len]; rfl)
 have e1 : pcsOf (partsN (hi - lo) lo hi) ds = zipP s ds ++ ⟨x1, x2, ds[s.length]⟩ :: zipP t (ds.drop (s.length + 1)) := by
  have h := zipP_cover lo hi ds
  rw [← ht, List.append_assoc, zipP_app, List.drop_eq_getElem_cons h9] at h
  exact h.symm
 rw [e1] at hfull
 obtain ⟨r1, r2, r3⟩ := RunP.split hfull
 have e2 : zipP (s ++ [((x1 : Int), (x2 : Int))]) ds = zipP s ds ++ [⟨x1, x2, ds[s.length]⟩] := by
  rw [zipP_app, List.drop_eq_getElem_cons h9]
  rfl
 have hall : ∀ p ∈ pre ++ zipP s ds, p.d.size = 32 := fun p hp => by
  rcases List.mem_append.1 hp with h | h
  ·exact h32 p h
  ·exact short_32 hsh _ (zipP_mem h)
 have hlen : (heapH bothS [] (pre ++ zipP s ds)).reverse.length ≤ 1048576 := by
  have h := leftH_len bothS (pre ++ zipP s ds)
  unfold leftH at h
  refine Nat.le_trans h ?_
  rw [List.length_append]
  have h7 : (zipP s ds).length ≤ ds.length := by unfold zipP; rw [List.length_zipWith]; exact Nat.min_le_right _ _
  have h8 := cover_length lo hi
  omega
 refine ⟨⟨0, ?_⟩, r2, Nat.le_trans r3 hhi, fun q hq => ?_, ?_, hlen, ?_⟩
 ·rw [List.reverse_reverse]
  exact RunR.heap bothS (st := []) rfl (RunP.app hrun r1)
 ·rw [heapH_sizes (H := bothS) bothS_size _ [] (fun _ h => by cases h) hall q (List.mem_reverse.1 hq)]
  decide
 ·show (ds[s.length]).size < _
  rw [short_32 hsh _ (List.getElem_mem h9)]
  decide
 ·rw [e2, ← List.append_assoc, heapH_append bothS [] (pre ++ zipP s ds), List.reverse_reverse]
  rfl
section
variable (lo hi size : Nat) (b i a : List ByteArray) (ab ai aa : Option Addr) (cb ci ca : Nat)
def bdM : Nat → Nat | 0 => 0 | 1 => lo | 2 => hi | _ => size
def llM : Nat → List ByteArray | 0 => b | 1 => i | _ => a
def adM : Nat → Option Addr | 0 => ab | 1 => ai | _ => aa
def cpM : Nat → Nat | 0 => cb | 1 => ci | _ => ca
def preM : Nat → List Pc | 0 => [] | 1 => pcsOf (coverN 0 lo) b | 2 => pcsOf (coverN 0 lo) b ++ pcsOf (coverN lo hi) i | _ => meetL lo hi size b i a
end
theorem pcsOf_small (lo hi : Nat) (ds : List ByteArray) : (pcsOf (coverN lo hi) ds).length ≤ hi - lo := by
 unfold pcsOf
 rw [List.length_zipWith, coverN_len]
 exact Nat.le_trans (Nat.min_le_left _ _) (cover_length lo hi)
theorem lt3 {P : Nat → Prop} (h0 : P 0) (h1 : P 1) (h2 : P 2) (j : Nat) (hj : j < 3) : P j := by
 rcases (show j = 0 ∨ j = 1 ∨ j = 2 by omega) with rfl | rfl | rfl
 ·exact h0
 ·exact h1
 ·exact h2
theorem pre32 {lo hi : Nat} {ds : List ByteArray} (h : shortB ds = false) : ∀ p ∈ pcsOf (coverN lo hi) ds, p.d.size = 32 := fun _ hp => short_32 h _ (pcs_mem hp).2
theorem run_cov {lo hi : Nat} {ds : List ByteArray} (hle : lo ≤ hi) (h : ds.length = (cover lo hi).length) : RunP lo (pcsOf (coverN lo hi) ds) hi := pcs_run _ lo hi ds hle (Nat.le_refl _) (by rw [h, ← coverN_len]; rfl)
theorem bMeets_body (h : ByteArray) (size lo hi : Nat) (h1 : lo ≤ hi) (h2 : hi ≤ size) (h20 : size ≤ 1048576) (b i a : List ByteArray) (hlb : b.length ≤ 1152921504606846976) (hli : i.length ≤ 1152921504606846976) (hla : a.length ≤ 1152921504606846976) (ab ai aa : Option Addr) (cb ci ca : Nat) (w : World) (hB : Sl w w.heap.size ab (b.map Value.string)) (hI : Sl w w.heap.size ai (i.map Value.string)) (hA : Sl w w.heap.size aa (a.map Value.string)) :
  Calls Try.prog 10 #[.string h, .int .i64 (size : Int), .int .i64 (lo : Int), .int .i64 (hi : Int), .slice ab b.length cb, .slice ai i.length ci, .slice aa a.length ca] w (Gives (.bool (meetOk lo hi size b i a && decide (headS size (meetD lo hi size b i a) = h))) w) := by
 have key : ∀ j, j < 3 → (∀ t, t < j + 1 → (llM b i a t).length = (cover (bdM lo hi size t) (bdM lo hi size (t + 1))).length ∧ shortB (llM b i a t) = false) → RunP 0 (preM lo hi size b i a j) (bdM lo hi size j) ∧ (∀ p ∈ preM lo hi size b i a j, p.d.size = 32) ∧ (preM lo hi size b i a j).length ≤ bdM lo hi size j := by
  refine lt3 (fun _ => ⟨rfl, fun _ h => (by cases h), Nat.le_refl _⟩) (fun ok => ?_) (fun ok => ?_)
  ·have o0 := ok 0 (by omega)
   exact ⟨run_cov (Nat.zero_le _) o0.1, pre32 o0.2, pcsOf_small 0 lo b⟩
  ·have o0 := ok 0 (by omega)
   have o1 := ok 1 (by omega)
   refine ⟨RunP.app (run_cov (Nat.zero_le _) o0.1) (run_cov h1 o1.1), fun p hp => ?_, ?_⟩
   ·rcases List.mem_append.1 hp with hp | hp
    ·exact pre32 o0.2 p hp
    ·exact pre32 o1.2 p hp
   ·show (_ ++ _ : List Pc).length ≤ hi
    rw [List.length_append]
    have := pcsOf_small 0 lo b
    have := pcsOf_small lo hi i
    omega
 refine bMeets_gen h (bdM lo hi size) (fun j => (llM b i a j).length) (llM b i a) (adM ab ai aa) (cpM cb ci ca) bothS (fun j => (heapH bothS [] (preM lo hi size b i a j)).reverse) (fun j s => (heapH bothS [] (preM lo hi size b i a j ++ zipP s (llM b i a j))).reverse) _ _ rfl
  (fun N hb off t cs vs vd l l' s hst w hN hH => by
   obtain ⟨⟨a0, s1⟩, s2, s3, s4, s5, s6, rfl⟩ := hst
   exact put_any N hb off t cs vs vd l s a0 s1 s2 s3 s4 s5 s6 w hN hH)
  (headS size (meetD lo hi size b i a)) ?hqq ?hhead (fun j => by rw [show zipP [] (llM b i a j) = [] from rfl, List.append_nil]) ?hl1 ?hl2 ?hbm (fun j hj => ⟨rfl, ?hnn⟩) rfl ?hno ?hyes w ?hS
 case hqq =>
  by_cases e : headS size (meetD lo hi size b i a) = h
  ·rw [decide_eq_true e, e]; simp
  ·rw [decide_eq_false e]; exact toList_bne7 e
 case hhead =>
  intro hok a9 c9 W hac hS9
  obtain ⟨m1, m2⟩ := meet_head h1 h2 h20 hok
  have h8 : (meetD lo hi size b i a).length ≤ 1048576 := by have h9 := cover_length 0 size; omega
  refine head_any size h20 (meetD lo hi size b i a) _ ?_ ?_ (fun x hx => Nat.le_of_eq (short_32 m2 x hx)) a9 c9 hac W hS9
  ·unfold meetD; rw [List.length_map]; rfl
  ·unfold meetD at h8; rw [List.length_map] at h8; exact h8
 case hl1 =>
  refine lt3 ?_ ?_ ?_
  ·show (heapH bothS [] ([] ++ zipP (cover 0 lo) b)).reverse = (heapH bothS [] (pcsOf (coverN 0 lo) b)).reverse
   rw [zipP_cover]; rfl
  ·show (heapH bothS [] (pcsOf (coverN 0 lo) b ++ zipP (cover lo hi) i)).reverse = (heapH bothS [] (pcsOf (coverN 0 lo) b ++ pcsOf (coverN lo hi) i)).reverse
   rw [zipP_cover]
  ·show (heapH bothS [] (pcsOf (coverN 0 lo) b ++ pcsOf (coverN lo hi) i ++ zipP (cover hi size) a)).reverse = (heapH bothS [] (meetL lo hi size b i a)).reverse
   rw [zipP_cover, List.append_assoc]; rfl
 case hbm => exact lt3 ⟨Nat.zero_le _, by show lo ≤ _; omega⟩ ⟨h1, by show hi ≤ _; omega⟩ ⟨h2, h20⟩
 case hnn => exact lt3 (P := fun j => (llM b i a j).length ≤ 1152921504606846976) hlb hli hla j hj
 case hS => exact lt3 hB hI hA
 case hno =>
  intro j hj hn
  refine Bool.eq_false_iff.2 fun e => hn ?_
  obtain ⟨⟨e1, e2, e3⟩, g1, g2, g3⟩ := meetOk_iff.1 e
  rw [coverN_len] at e1 e2 e3
  exact lt3 (P := fun j => (llM b i a j).length = (cover (bdM lo hi size j) (bdM lo hi size (j + 1))).length ∧ shortB (llM b i a j) = false) ⟨e1, g1⟩ ⟨e2, g2⟩ ⟨e3, g3⟩ j hj
 case hyes =>
  intro ok
  have o0 := ok 0 (by omega)
  have o1 := ok 1 (by omega)
  have o2 := ok 2 (by omega)
  refine meetOk_iff.2 ?_
  rw [coverN_len, coverN_len, coverN_len]
  exact ⟨⟨o0.1, o1.1, o2.1⟩, o0.2, o1.2, o2.2⟩
 case hl2 =>
  intro j hj ok s x1 x2 hp h9
  obtain ⟨k1, k2, k3⟩ := key j hj ok
  have o := ok j (Nat.lt_succ_self j)
  exact stepM_part k1 k2 k3 (lt3 (P := fun j => bdM lo hi size j ≤ bdM lo hi size (j + 1)) (Nat.zero_le _) h1 h2 j hj) (lt3 (P := fun j => bdM lo hi size (j + 1) ≤ 1048576) (by show lo ≤ _; omega) (by show hi ≤ _; omega) h20 j hj) o.1 o.2 hp h9
theorem bMeets_any (h : ByteArray) (size lo hi : Int) (b i a : List ByteArray) (hlb : b.length ≤ 1152921504606846976) (hli : i.length ≤ 1152921504606846976) (hla : a.length ≤ 1152921504606846976) (ab ai aa : Option Addr) (cb ci ca : Nat) (w : World) (hB : Sl w w.heap.size ab (b.map Value.string)) (hI : Sl w w.heap.size ai (i.map Value.string)) (hA : Sl w w.heap.size aa (a.map Value.string)) :
  Calls Try.prog 10 #[.string h, .int .i64 size, .int .i64 lo, .int .i64 hi, .slice ab b.length cb, .slice ai i.length ci, .slice aa a.length ca] w (Gives (.bool (meetB h size lo hi b i a)) w) := by
 unfold meetB
 by_cases hg : 0 ≤ lo ∧ lo ≤ hi ∧ hi ≤ size ∧ size ≤ 1048576
 case neg =>
  rw [decide_eq_false hg, Bool.false_and]
  exact bMeets_range h size lo hi _ _ _ hg w
 rw [decide_eq_true hg, Bool.true_and]
 obtain ⟨l, rfl⟩ : ∃ k : Nat, lo = k := ⟨lo.toNat, by omega⟩
 obtain ⟨h', rfl⟩ : ∃ k : Nat, hi = k := ⟨hi.toNat, by omega⟩
 obtain ⟨s, rfl⟩ : ∃ k : Nat, size = k := ⟨size.toNat, by omega⟩
 rw [Int.toNat_natCast, Int.toNat_natCast, Int.toNat_natCast]
 exact bMeets_body h s l h' (by omega) (by omega) (by omega) b i a hlb hli hla ab ai aa cb ci ca w hB hI hA
theorem boardMeets_any (h : ByteArray) (size lo hi : Int) (b i a : List ByteArray) (hlb : b.length ≤ 1152921504606846976) (hli : i.length ≤ 1152921504606846976) (hla : a.length ≤ 1152921504606846976) (ab ai aa : Option Addr) (cb ci ca : Nat) (hcb : ab = none → cb = 0) (hci : ai = none → ci = 0) (hca : aa = none → ca = 0) (w : World) (hB : Sl w w.heap.size ab (b.map Value.string)) (hI : Sl w w.heap.size ai (i.map Value.string)) (hA : Sl w w.heap.size aa (a.map Value.string)) :
  Calls Try.prog 3 #[.string h, .int .i64 size, .int .i64 lo, .int .i64 hi, .slice ab b.length cb, .slice ai i.length ci, .slice aa a.length ca] w fun e w' => e = .returned (.bool true) ∧ Below w.heap.size w w' := by
 have H1 := Lib.hid (fun w h1 h2 h3 => bMeets_any h size lo hi b i a hlb hli hla ab ai aa cb ci ca w h1 h2 h3)
 have H2 := Lib.hid (fun w h1 h2 h3 => rMeets_any h size lo hi b i a ab ai aa cb ci ca hcb hci hca w h1 h2 h3)
 unfold Gives at H1 H2
 generalize meetB h size lo hi b i a = r at *
 have HB0 := Lib.hid hB
 have HI0 := Lib.hid hI
 have HA0 := Lib.hid hA
 generalize b.length = nb at *
 generalize i.length = ni at *
 generalize a.length = na at *
 have hd : (r == r) = true := by simp
 clear hB hI hA hlb hli hla hcb hci hca
 go_enter Try.func3, Try.ntmps3
 go_wp2_with fail
 refine (H1.out w HB0.out HI0.out HA0.out).mono ?_
 rintro e w1 ⟨rfl, hb9⟩
 have HB := Lib.hid hb9
 have HZS := Lib.hid hb9.size
 clear hb9
 go_wp2_with fail
 refine (H2.out w1 (HB0.out.up HB.out) (HI0.out.up HB.out) (HA0.out.up HB.out)).mono ?_
 rintro e w2 ⟨rfl, hb9⟩
 replace HB := hbu HB hb9
 replace HZS := sz HZS hb9.size
 clear hb9
 go_wp2_with fail
 go_ret
 exact ⟨rfl, HB.out⟩
theorem boardMeets_calls {H : Type} (enc : TypeId × Value → H) (W : World) (base : Nat) {v0 v1 v2 v3 v4 v5 v6 : Value} {d0 d1 d2 d3 d4 d5 d6 : DataW H} {p0 p1 p2 p3 p4 p5 p6 : List MemPlace}
  (h0 : DataW.Trod enc Try.prog W 0 (fun _ => true) true 9 v0 d0 p0) (h1 : DataW.Trod enc Try.prog W 0 (fun _ => true) true 3 v1 d1 p1) (h2 : DataW.Trod enc Try.prog W 0 (fun _ => true) true 3 v2 d2 p2) (h3 : DataW.Trod enc Try.prog W 0 (fun _ => true) true 3 v3 d3 p3) (h4 : DataW.Trod enc Try.prog W 0 (fun _ => true) true 22 v4 d4 p4) (h5 : DataW.Trod enc Try.prog W 0 (fun _ => true) true 22 v5 d5 p5) (h6 : DataW.Trod enc Try.prog W 0 (fun _ => true) true 22 v6 d6 p6)
  (k0 : Value.okWide Try.prog W .any base 9 v0) (k1 : Value.okWide Try.prog W .any base 3 v1) (k2 : Value.okWide Try.prog W .any base 3 v2) (k3 : Value.okWide Try.prog W .any base 3 v3) (k4 : Value.okWide Try.prog W .any base 22 v4) (k5 : Value.okWide Try.prog W .any base 22 v5) (k6 : Value.okWide Try.prog W .any base 22 v6)
  (_lt0 : ∀ x ∈ p0, x.block < W.heap.size) (_lt1 : ∀ x ∈ p1, x.block < W.heap.size) (_lt2 : ∀ x ∈ p2, x.block < W.heap.size) (_lt3 : ∀ x ∈ p3, x.block < W.heap.size) (_lt4 : ∀ x ∈ p4, x.block < W.heap.size) (_lt5 : ∀ x ∈ p5, x.block < W.heap.size) (_lt6 : ∀ x ∈ p6, x.block < W.heap.size)
  (hsz : (DataW.weightsEach Try.prog ([9, 3, 3, 3, 22, 22, 22] ++ Rows.boardMeetsSpec.plain.varTypes Try.prog) ([d0, d1, d2, d3, d4, d5, d6] ++ [])).all (· ≤ reachBytes) = true) :
  Calls Try.prog 3 #[v0, v1, v2, v3, v4, v5, v6] W fun e w' => e = .returned (.bool true) ∧ Below W.heap.size W w' := by
 obtain ⟨h, rfl, _⟩ := Go.ChangeMaps.open_string Try.underlying9 k0 h0
 obtain ⟨size, rfl, _, _, _⟩ := open_int Try.underlying3 k1 h1
 obtain ⟨lo, rfl, _, _, _⟩ := open_int Try.underlying3 k2 h2
 obtain ⟨hi, rfl, _, _, _⟩ := open_int Try.underlying3 k3 h3
 obtain ⟨b4, n4, m4, rfl⟩ := okWide_slice Try.underlying22 k4
 obtain ⟨b5, n5, m5, rfl⟩ := okWide_slice Try.underlying22 k5
 obtain ⟨b6, n6, m6, rfl⟩ := okWide_slice Try.underlying22 k6
 obtain ⟨f4, h4⟩ := h4
 obtain ⟨f5, h5⟩ := h5
 obtain ⟨f6, h6⟩ := h6
 obtain ⟨ax, cx, xs, e4, hx, hS4, _, _, hn4⟩ := open_strsC Try.underlying22 Try.underlying9 str7_cells (Wt.arg hsz (j := 4) rfl rfl) h4
 obtain ⟨ay, cy, ys, e5, hy, hS5, _, _, hn5⟩ := open_strsC Try.underlying22 Try.underlying9 str7_cells (Wt.arg hsz (j := 5) rfl rfl) h5
 obtain ⟨az, cz, zs, e6, hz, hS6, _, _, hn6⟩ := open_strsC Try.underlying22 Try.underlying9 str7_cells (Wt.arg hsz (j := 6) rfl rfl) h6
 rw [str7_bytes] at hx hy hz
 rw [e4, e5, e6]
 have h9 := reach7_lt
 exact boardMeets_any h size lo hi xs ys zs (by omega) (by omega) (by omega) ax ay az cx cy cz hn4 hn5 hn6 W hS4 hS5 hS6
theorem boardMeets_lifted (os : Os) (started : os.Started) (H : Type) (enc : TypeId × Value → H) :
  ReturnsInHanded {} Try.checked os 3 .any (Rows.boardMeetsSpec.pre6 enc Try.prog Try.f3 Rows.boardMeetsRow.domain false) (Rows.boardMeetsSpec.post enc Try.prog Try.f3 false true false false) := by
 refine returnsInHanded_of_change_sized (C := Try.checked) law_own started (by kernel_rfl) Try.func3
  (ChangeSpec.witness6 (enc := enc) (C := Try.checked) false ⟨#[], #[.string ⟨#[]⟩, .int .i64 0, .int .i64 0, .int .i64 0, .slice none 0 0, .slice none 0 0, .slice none 0 0], []⟩ 8 (by kernel_rfl) (by kernel_rfl) (by kernel_rfl) (by kernel_rfl)) ?_
 intro W base args ds gs before hval0 hW _ hsz0 _
 have hsz : (DataW.weightsEach Try.prog (Try.f3.params.toList ++ Rows.boardMeetsSpec.plain.varTypes Try.prog) (ds ++ gs)).all (· ≤ reachBytes) = true := hsz0
 clear hsz0
 have hval : ∀ (j : Nat) t v, Try.f3.params[j]? = some t → args[j]? = some v → Value.okWide Try.prog W .any base t v := hval0
 have hW' := hW
 obtain ⟨p, q, hA0, hV, rfl, _, _⟩ := hW
 have hA : DataW.TrodAll enc Try.prog W 0 (fun _ => true) true Try.f3.params.toList args.toList ds p := hA0
 rw [Try.params3] at hA hval hsz
 obtain ⟨v0, vs0, d0, ds0, p0, q0, hargs, rfl, rfl, h0, r0⟩ := trodAll_cons hA
 obtain ⟨v1, vs1, d1, ds1, p1, q1, rfl, rfl, rfl, h1, r1⟩ := trodAll_cons r0
 obtain ⟨v2, vs2, d2, ds2, p2, q2, rfl, rfl, rfl, h2, r2⟩ := trodAll_cons r1
 obtain ⟨v3, vs3, d3, ds3, p3, q3, rfl, rfl, rfl, h3, r3⟩ := trodAll_cons r2
 obtain ⟨v4, vs4, d4, ds4, p4, q4, rfl, rfl, rfl, h4, r4⟩ := trodAll_cons r3
 obtain ⟨v5, vs5, d5, ds5, p5, q5, rfl, rfl, rfl, h5, r5⟩ := trodAll_cons r4
 obtain ⟨v6, vs6, d6, ds6, p6, q6, rfl, rfl, rfl, h6, r6⟩ := trodAll_cons r5
 obtain ⟨rfl, rfl, rfl⟩ := trodAll_nil r6
 obtain rfl : args = #[v0, v1, v2, v3, v4, v5, v6] := by cases args; simp_all
 obtain ⟨rfl, rfl⟩ := trodVars_none hV
 have lt0 : ∀ x ∈ p0, x.block < W.heap.size := by obtain ⟨m, hm⟩ := h0; exact DataW.trod_lt m _ _ _ hm
 have lt1 : ∀ x ∈ p1, x.block < W.heap.size := by obtain ⟨m, hm⟩ := h1; exact DataW.trod_lt m _ _ _ hm
 have lt2 : ∀ x ∈ p2, x.block < W.heap.size := by obtain ⟨m, hm⟩ := h2; exact DataW.trod_lt m _ _ _ hm
 have lt3 : ∀ x ∈ p3, x.block < W.heap.size := by obtain ⟨m, hm⟩ := h3; exact DataW.trod_lt m _ _ _ hm
 have lt4 : ∀ x ∈ p4, x.block < W.heap.size := by obtain ⟨m, hm⟩ := h4; exact DataW.trod_lt m _ _ _ hm
 have lt5 : ∀ x ∈ p5, x.block < W.heap.size := by obtain ⟨m, hm⟩ := h5; exact DataW.trod_lt m _ _ _ hm
 have lt6 : ∀ x ∈ p6, x.block < W.heap.size := by obtain ⟨m, hm⟩ := h6; exact DataW.trod_lt m _ _ _ hm
 clear hA0 hval0
 refine (boardMeets_calls enc W base h0 h1 h2 h3 h4 h5 h6 (hval 0 9 v0 rfl rfl) (hval 1 3 v1 rfl rfl) (hval 2 3 v2 rfl rfl) (hval 3 3 v3 rfl rfl) (hval 4 22 v4 rfl rfl) (hval 5 22 v5 rfl rfl) (hval 6 22 v6 rfl rfl) lt0 lt1 lt2 lt3 lt4 lt5 lt6 hsz).mono fun e W' ⟨he, bel⟩ => ?_
 subst he
 exact ⟨_, rfl, _, _, _, [], _, [], hW', trodAll_mk1 (shut_bool Try.underlying4 _), (trodAll_cons_mk (Below.trod law_laidOut (by kernel_rfl) (of_decide_eq_true (by kernel_rfl)) h0 bel lt0) (trodAll_cons_mk (Below.trod law_laidOut (by kernel_rfl) (of_decide_eq_true (by kernel_rfl)) h1 bel lt1) (trodAll_cons_mk (Below.trod law_laidOut (by kernel_rfl) (of_decide_eq_true (by kernel_rfl)) h2 bel lt2) (trodAll_cons_mk (Below.trod law_laidOut (by kernel_rfl) (of_decide_eq_true (by kernel_rfl)) h3 bel lt3) (trodAll_cons_mk (Below.trod law_laidOut (by kernel_rfl) (of_decide_eq_true (by kernel_rfl)) h4 bel lt4) (trodAll_cons_mk (Below.trod law_laidOut (by kernel_rfl) (of_decide_eq_true (by kernel_rfl)) h5 bel lt5) (trodAll_cons_mk (Below.trod law_laidOut (by kernel_rfl) (of_decide_eq_true (by kernel_rfl)) h6 bel lt6) trodAll_mk0))))))), rfl, bel.frame _, fun h => by cases h⟩
theorem boardMeets_holds : Rows.BoardMeetsSaid :=
 OpenClaim.holds_of_wide 3 Try.f3 rfl rfl rfl rfl rfl rfl rfl ⟨rfl, rfl, rfl, rfl, rfl⟩ rfl rfl rfl rfl rfl (by kernel_rfl) Try.func3 (by kernel_rfl)
  (of_decide_eq_true (by kernel_rfl)) (by unfold Func.isWrapper; first | (rw [if_pos (by decide +kernel)]; kernel_rfl) | (rw [if_neg (by decide +kernel)]; exact ⟨rfl, rfl⟩))
  (fun os started H enc _ => boardMeets_lifted os started H enc)
#print axioms boardMeets_holds
end Go.Proofs.Ytjmeakfjfpnciaa
