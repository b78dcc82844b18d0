/- Texts of this seat, one behind the other: what BoardStamps leans on. No condition beyond those that each names. -/
import Derived.Test.YtdlnnkbigeiilaaGreatZBoardStamps5
import Derived.Deep.OwnRows
import Derived.Outline

set_option maxRecDepth 100000
set_option maxHeartbeats 4000000
set_option linter.unusedVariables false
set_option linter.unusedSimpArgs false
namespace Go.Proofs.YtdlnnkbigeiilaaGreat
open Go.RowKit
theorem elemField : ∃ f, (Tryz.prog.fieldsOf 127).toList = [f] ∧ f.name = "n" ∧ f.type = 70 ∧ f.offset = 0 := by
 have h : ((Tryz.prog.fieldsOf 127).toList.map fun f => (f.name, f.type, f.offset)) = [("n", 70, 0)] := by kernel_rfl
 generalize (Tryz.prog.fieldsOf 127).toList = fs at *
 obtain ⟨f, rfl⟩ : ∃ f, fs = [f] := List.length_eq_one_iff.1 (by have := congrArg List.length h; simpa using this)
 simp only [List.map_cons, List.map_nil, List.cons.injEq, Prod.mk.injEq, and_true] at h
 exact ⟨f, rfl, h.1, h.2.1, h.2.2⟩
theorem eqElem (x y : Nat) (hx : x < BB ^ 4) (hy : y < BB ^ 4) (w : World) (b : Bool) (hb : b = decide (x = y)) :
  (Op.equalIn 10000 127 (.agg #[.int .u64 (dig x 0 : Int), .int .u64 (dig x 1 : Int), .int .u64 (dig x 2 : Int), .int .u64 (dig x 3 : Int)]) (.agg #[.int .u64 (dig y 0 : Int), .int .u64 (dig y 1 : Int), .int .u64 (dig y 2 : Int), .int .u64 (dig y 3 : Int)])).run Tryz.prog w = .ok b w := by
 obtain ⟨f, hf, hn, ht, ho⟩ := elemField
 rw [run_equalIn_struct w 9999 _ _ _ (by kernel_rfl) (by kernel_rfl), hf]
 obtain ⟨i, hi⟩ := Option.isSome_iff_exists.1 infoU64
 have h4 := run_equalIn_four w 9997 _ _ Tryz.underlying70 Tryz.underlying68 i hi cellsU64 plainU64 (dig x 0 : Int) (dig x 1 : Int) (dig x 2 : Int) (dig x 3 : Int) (dig y 0 : Int) (dig y 1 : Int) (dig y 2 : Int) (dig y 3 : Int)
 have he : ((dig x 0 : Int) == (dig y 0 : Int) && ((dig x 1 : Int) == (dig y 1 : Int) && ((dig x 2 : Int) == (dig y 2 : Int) && (dig x 3 : Int) == (dig y 3 : Int)))) = b := by
  rw [hb, Bool.eq_iff_iff]
  simp only [Bool.and_eq_true, beq_iff_eq, Int.natCast_inj, decide_eq_true_eq]
  exact ⟨fun ⟨h0, h1, h2, h3⟩ => lim_eq x y hx hy h0 h1 h2 h3, fun e => by rw [e]; exact ⟨rfl, rfl, rfl, rfl⟩⟩
 rw [he] at h4
 simp only [Op.eqFields, hn, ht, ho]
 rw [if_pos (by decide), Sem.run_bind, partLimbs, Result.andThen_ok, Sem.run_bind, partLimbs, Result.andThen_ok, Sem.run_bind]
 erw [h4]
 cases b <;> rfl
theorem guardElem (op : BinOp) (x y : Operand) (xs ys : Array Value) (w : World) : (eqGuard op 127 x y (.agg xs) (.agg ys)).run Tryz.prog w = .ok () w := run_eqGuard_agg w op _ x y xs ys (by kernel_rfl)
theorem binElem {xs ys : Array Value} {b : Bool} {w : World} (h : (Op.equalIn 10000 127 (.agg xs) (.agg ys)).run Tryz.prog w = .ok b w) : (binOp .eql 127 (.agg xs) (.agg ys)).run Tryz.prog w = .ok (.bool b) w := by
 rw [run_eql_struct, h]
 rfl
theorem mont_iff {R : RingP} (ok : R.Ok) (x y : Nat) : mont R.m x = mont R.m y ↔ x % R.m = y % R.m :=
 ⟨fun h => mont_cancel ok.low (show (x * BB ^ 4) % R.m = (y * BB ^ 4) % R.m from h), fun h => by rw [← mont_mod R.m x, h, mont_mod]⟩
theorem dvd_sub_iff (p x y : Nat) : (p : Int) ∣ (x : Int) - y ↔ x % p = y % p :=
 ⟨fun h => by have := Int.emod_eq_emod_iff_emod_sub_eq_zero.2 (Int.emod_eq_zero_of_dvd h); exact_mod_cast this, fun h => Int.dvd_of_emod_eq_zero (Int.emod_eq_emod_iff_emod_sub_eq_zero.1 (by exact_mod_cast h))⟩
theorem same_iff {G : GP} (ok : G.Ok) (x y : Nat) : lowN G x = lowN G y ↔ mont G.p.m x = mont G.p.m y ∨ mont G.p.m (x + y) = 0 := by
 rw [lowN_iff ok, mont_iff ok.p, ← mont_zero G.p.m, mont_iff ok.p]
 unfold PM
 rw [dvd_sub_iff]
 refine or_congr Iff.rfl ⟨fun h => ?_, fun h => ?_⟩
 ·have h2 : G.p.m ∣ x + y := by exact_mod_cast h
  rw [Nat.mod_eq_zero_of_dvd h2, Nat.zero_mod]
 ·have h2 : G.p.m ∣ x + y := Nat.dvd_of_mod_eq_zero (by rw [h, Nat.zero_mod])
  exact_mod_cast h2
theorem gSame_any (G : GP) (ok : G.Ok) (gb x y : Nat) (w : World) (hG : GroupAt w gb G) :
  Calls Tryz.prog 119 #[.pointer (some ⟨gb, 0, none⟩), elV G x, elV G y] w (Gives (.bool (decide (lowN G x = lowN G y))) w) := by
 have OK := Lib.hid ok
 have HG := Lib.hid hG
 obtain ⟨b1, hb1⟩ : ∃ b, decide (mont G.p.m x = mont G.p.m y) = b := ⟨_, rfl⟩
 obtain ⟨b2, hb2⟩ : ∃ b, decide (mont G.p.m (x + y) = 0) = b := ⟨_, rfl⟩
 have hr : decide (lowN G x = lowN G y) = (b1 || b2) := by
  rw [← hb1, ← hb2, Bool.eq_iff_iff]
  simp only [Bool.or_eq_true, decide_eq_true_eq]
  exact same_iff ok x y
 have HEQ := Lib.hid (fun W => binElem (w := W) (eqElem (mont G.p.m x) (mont G.p.m y) (ok.p.mont _) (ok.p.mont _) W b1 hb1.symm))
 have HEZ := Lib.hid (fun W => binLimbs (w := W) (eqZero (mont G.p.m (x + y)) (ok.p.mont _) W b2 hb2.symm))
 rw [hr]
 clear ok hG hb1 hb2 hr
 unfold Gives elV limbV
 go_enter Tryz.func119, Tryz.ntmps119
 go_wp2_with fail
 obtain ⟨w1, hq1, hb9, hz9, Hbx, Hby⟩ := new2 w 127 [.int .u64 (dig (mont G.p.m x) 0 : Int), .int .u64 (dig (mont G.p.m x) 1 : Int), .int .u64 (dig (mont G.p.m x) 2 : Int), .int .u64 (dig (mont G.p.m x) 3 : Int)] 127 [.int .u64 (dig (mont G.p.m y) 0 : Int), .int .u64 (dig (mont G.p.m y) 1 : Int), .int .u64 (dig (mont G.p.m y) 2 : Int), .int .u64 (dig (mont G.p.m y) 3 : Int)]
 rw [hq1]
 clear hq1
 replace HG := Lib.hid (HG.out.up hb9)
 have HB := Lib.hid hb9
 have HZS := hz9
 clear hb9 hz9
 have bx_ := Hbx.out.c4
 have by_ := Hby.out.c4
 go_wp2_with fail
 cases b1
 ·have hl_bx := Hbx.out.lt
  have hl_by := Hby.out.lt
  refine wp_region_over (by kernel_rfl) (by kernel_rfl) ?_
  have hov_bx := fun (E : Over w1) o => E.cell (b := w.heap.size) o hl_bx
  have hov_by := fun (E : Over w1) o => E.cell (b := w.heap.size + 1) o hl_by
  go_big_quiet_step (fail)
  go_big_quiet_step (fail)
  refine wpQuiet_bin rfl .eql _ _ 127 _ rfl _ _ (.bool false) rfl rfl (fun _ => guardElem _ _ _ _ _ _) (fun _ => HEQ.out _) ?_
  simp only [Act.put, List.setIfInBounds_toArray, List.set_cons_succ, List.set_cons_zero]
  repeat (go_big_quiet_step (first | (go_at_call 114; exact calls_over (addM G.p OK.out.p gb 2 x y _ (HG.out.up (Over.h _)).p))))
  unfold limbV
  refine wpQuiet_bin rfl .eql _ _ 70 _ rfl _ _ (.bool b2) rfl rfl (fun _ => guardLimbs _ _ _ _ _ _) (fun _ => HEZ.out _) ?_
  simp only [Act.put, List.setIfInBounds_toArray, List.set_cons_succ, List.set_cons_zero]
  repeat (go_big_quiet_step (fail))
  refine wpQuiet_nil ?_
  rintro _ ⟨E, rfl⟩
  clear hov_bx hl_bx hov_by hl_by bx_
  replace Hbx := Lib.hid (Hbx.out.up E.h)
  clear by_
  replace Hby := Lib.hid (Hby.out.up E.h)
  replace HG := Lib.hid (HG.out.up E.h)
  replace HB := hbu HB E.h
  replace HZS := sz HZS E.h.size
  obtain ⟨w2, hq9⟩ : ∃ W9 : World, E.w = W9 := ⟨_, rfl⟩
  rw [hq9] at Hbx Hby HG HB HZS ⊢
  clear hq9 E
  have bx_ := Hbx.out.c4
  have by_ := Hby.out.c4
  go_wp2_with fail
  go_ret
  exact ⟨by simp, HB.out⟩
 ·have hl_bx := Hbx.out.lt
  have hl_by := Hby.out.lt
  refine wp_region_over (by kernel_rfl) (by kernel_rfl) ?_
  have hov_bx := fun (E : Over w1) o => E.cell (b := w.heap.size) o hl_bx
  have hov_by := fun (E : Over w1) o => E.cell (b := w.heap.size + 1) o hl_by
  go_big_quiet_step (fail)
  go_big_quiet_step (fail)
  refine wpQuiet_bin rfl .eql _ _ 127 _ rfl _ _ (.bool true) rfl rfl (fun _ => guardElem _ _ _ _ _ _) (fun _ => HEQ.out _) ?_
  simp only [Act.put, List.setIfInBounds_toArray, List.set_cons_succ, List.set_cons_zero]
  repeat (go_big_quiet_step (fail))
  refine wpQuiet_nil ?_
  rintro _ ⟨E, rfl⟩
  clear hov_bx hl_bx hov_by hl_by bx_
  replace Hbx := Lib.hid (Hbx.out.up E.h)
  clear by_
  replace Hby := Lib.hid (Hby.out.up E.h)
  replace HG := Lib.hid (HG.out.up E.h)
  replace HB := hbu HB E.h
  replace HZS := sz HZS E.h.size
  obtain ⟨w2, hq9⟩ : ∃ W9 : World, E.w = W9 := ⟨_, rfl⟩
  rw [hq9] at Hbx Hby HG HB HZS ⊢
  clear hq9 E
  have bx_ := Hbx.out.c4
  have by_ := Hby.out.c4
  go_wp2_with fail
  go_ret
  exact ⟨by simp, HB.out⟩
end Go.Proofs.YtdlnnkbigeiilaaGreat
namespace Go.Proofs.YtdlnnkbigeiilaaGreat
open Go.RowKit
def ScalQ (G : GP) (er : Nat) (l : List ByteArray) (w : World) (e : Ending) (w' : World) : Prop :=
 Below w.heap.size w w' ∧ ∃ v, e = .returned (.tuple #[v, .int .i64 (er : Int)]) ∧ (er = 0 → ∃ a c, v = .slice a l.length c ∧ Sl w' w'.heap.size a (l.flatMap (limC G.q.m)) ∧ (∀ x, a = some x → w.heap.size ≤ x.block))
def ScalR (G : GP) (n : Nat) (l : List ByteArray) (w : World) (e : Ending) (w' : World) : Prop := ScalQ G (scE G n l) l w e w'
theorem scalars_any (G : GP) (ok : G.Ok) (gb n : Nat) (a : Option Addr) (c : Nat) (l : List ByteArray) (al : Option Addr) (cl : Nat) (hn : l.length ≤ 8796093022207) (w : World) (hG : GroupAt w gb G) (hS : Sl w w.heap.size al (l.map Value.string)) :
  Calls Tryz.prog 53 #[.agg #[.pointer (some ⟨gb, 0, none⟩), .slice a n c], .slice al l.length cl] w (ScalR G n l w) := by
 have OK := Lib.hid ok
 have HG := Lib.hid hG
 have HS := Lib.hid hS
 clear ok hG hS
 obtain ⟨z, hz⟩ : ∃ z, scE G n l = z := ⟨_, rfl⟩
 have hzz : z = if l.length = n then if l.all (isSc G.q.m G.size) = true then 0 else 6 else 2 := hz.symm
 unfold ScalR
 rw [hz]
 clear hz
 by_cases h1 : l.length = n
 ·have hd : ((l.length : Int) != (n : Int)) = false := by simp; omega
  rw [if_pos h1] at hzz
  obtain ⟨b, hb⟩ : ∃ b, l.all (isSc G.q.m G.size) = b := ⟨_, rfl⟩
  rw [hb] at hzz
  have HBB := Lib.hid hb
  clear hb h1
  go_enter Tryz.func53, Tryz.ntmps53
  go_wp2_with fail
  obtain ⟨w1, hq1, hb9, hz9, Hbs⟩ := new1 w 64 [.pointer (some ⟨gb, 0, none⟩), .slice a n c]
  rw [hq1]
  clear hq1
  replace HG := Lib.hid (HG.out.up hb9)
  have HB := Lib.hid hb9
  have HZS := hz9
  clear hb9 hz9
  have bs_ := Hbs.out.c2
  go_wp2_with fail
  refine (allSc_v G OK.out gb l b HBB.out l.length rfl al cl hn w1 HG.out (HS.out.up HB.out)).mono ?_
  rintro e w2 ⟨vx, rfl, hb9, hx9⟩
  clear bs_
  replace Hbs := Lib.hid (Hbs.out.up hb9)
  replace HG := Lib.hid (HG.out.up hb9)
  replace HB := hbu HB hb9
  replace HZS := sz HZS hb9.size
  have HX := Lib.hid hx9
  clear hx9 hb9
  have bs_ := Hbs.out.c2
  cases b
  ·obtain rfl : z = 6 := by rw [hzz, if_neg (by decide)]
   clear hzz
   go_wp2_with fail
   go_ret2
   exact ⟨HB.out, .slice none 0 0, rfl, fun h => by cases h⟩
  ·obtain rfl : z = 0 := by rw [hzz, if_pos rfl]
   clear hzz
   obtain ⟨ax, cx, rfl, hsx, hfx⟩ := HX.out rfl
   have HSX := Lib.hid hsx
   have HFX := Lib.hid (show ∀ x, ax = some x → w.heap.size ≤ x.block from fun x hx => Nat.le_trans (by have a0 := HZS.out; omega) (hfx x hx))
   clear hsx hfx HX
   go_wp2_with fail
   go_ret2
   exact ⟨HB.out, .slice ax l.length cx, rfl, fun _ => ⟨ax, cx, rfl, HSX.out, HFX.out⟩⟩
 ·have hd : ((l.length : Int) != (n : Int)) = true := by simp; omega
  obtain rfl : z = 2 := by rw [hzz, if_neg h1]
  clear hzz h1
  go_enter Tryz.func53, Tryz.ntmps53
  go_wp2_with fail
  obtain ⟨w1, hq1, hb9, hz9, Hbs⟩ := new1 w 64 [.pointer (some ⟨gb, 0, none⟩), .slice a n c]
  rw [hq1]
  clear hq1
  have HB := Lib.hid hb9
  have HZS := hz9
  clear hb9 hz9
  have bs_ := Hbs.out.c2
  go_wp2_with fail
  go_ret2
  exact ⟨HB.out, .slice none 0 0, rfl, fun h => by cases h⟩
def openE (G : GP) (l : List ClaimA) (xs : List ByteArray) : Nat := if wrongE G l ≠ 0 then wrongE G l else scE G l.length xs
def OpenOk (G : GP) (l : List ClaimA) (xs : List ByteArray) (w' : World) (p q v : Value) : Prop := ∃ gb rs a c a' c', p = .pointer (some ⟨gb, 0, none⟩) ∧ q = .slice a rs.length c ∧ v = .slice a' xs.length c' ∧ rs.map ClaimR.k = l ∧ GroupAt w' gb G ∧ SetAt G w' a rs ∧ (∀ r ∈ rs, r.Src w') ∧ Sl w' w'.heap.size a' (xs.flatMap (limC G.q.m))
def OpenS (G : GP) (er : Nat) (l : List ClaimA) (xs : List ByteArray) (w : World) (e : Ending) (w' : World) : Prop :=
 Below w.heap.size w w' ∧ ∃ pp qa qn qc v, e = .returned (.tuple #[.agg #[.pointer pp, .slice qa qn qc], v, .int .i64 (er : Int)]) ∧ (er = 0 → OpenOk G l xs w' (.pointer pp) (.slice qa qn qc) v)
theorem open_none (k : Int) (hk : ¬ (1 ≤ k ∧ k ≤ 3)) (l : List ClaimA) (xs : List ByteArray) (v1 v2 : Value) (w : World) : Calls Tryz.prog 36 #[.int .i64 k, v1, v2] w (OpenS (grp 1) 1 l xs w) := by
 go_enter Tryz.func36, Tryz.ntmps36
 go_wp2_with fail
 obtain ⟨w1, hq1, hb9, hz9, Hbr⟩ := new1 w 64 [.pointer none, .slice none 0 0]
 rw [hq1]
 clear hq1
 have HB := Lib.hid hb9
 have HZS := hz9
 clear hb9 hz9
 have br_ := Hbr.out.c2
 go_wp2_with fail
 refine (of_none k hk _).mono ?_
 rintro e w2 ⟨rfl, rfl⟩
 have f2_br := Hbr.out.frozen
 have o2_br_ := br_; clear br_
 obtain ⟨w2, hq2, hg9, hz9, hx9⟩ := put2 Hbr 0 (.pointer none) 1 (.slice none 0 0) [.pointer none, .slice none 0 0] rfl
 replace HB := hbg HB hg9 (by have g0 := HZS.out; omega)
 replace HZS := sz HZS hz9.out
 replace Hbr := hx9
 clear hx9 hg9 hz9
 have br_ := Hbr.out.c2
 go_wp2_with fail
 clear hq2 o2_br_ f2_br
 simp [bodyPost, results, Tryz.results36, go_sem, br_]
 exact ⟨HB.out, _, _, _, _, _, rfl, fun h => by cases h⟩
theorem open_some (k : Nat) (h1 : 1 ≤ k) (h3 : k ≤ 3) (l : List ClaimA) (al : Option Addr) (cl : Nat) (xs : List ByteArray) (ax : Option Addr) (cx : Nat) (hn : xs.length ≤ 8796093022207) (w : World) (hC : ClaimsAt w al l) (hS : Sl w w.heap.size ax (xs.map Value.string)) :
  Calls Tryz.prog 36 #[.int .i64 (k : Int), .slice al l.length cl, .slice ax xs.length cx] w (OpenS (grp k) (openE (grp k) l xs) l xs w) := by
 have OK := Lib.hid (grp_ok k h1 h3)
 have HC := Lib.hid hC
 have HS := Lib.hid hS
 clear hC hS
 obtain ⟨z, hz⟩ : ∃ z, wrongE (grp k) l = z := ⟨_, rfl⟩
 obtain ⟨y, hy⟩ : ∃ z, scE (grp k) l.length xs = z := ⟨_, rfl⟩
 have hoe : openE (grp k) l xs = if z ≠ 0 then z else y := by unfold openE; rw [hz, hy]
 rw [hoe]
 have HZ := Lib.hid hz
 have HY := Lib.hid hy
 clear hoe hz hy
 by_cases h0 : z = 0
 ·subst h0
  rw [if_neg (by decide)]
  go_enter Tryz.func36, Tryz.ntmps36
  go_wp2_with fail
  obtain ⟨w1, hq1, hb9, hz9, Hbr⟩ := new1 w 64 [.pointer none, .slice none 0 0]
  rw [hq1]
  clear hq1
  have HB := Lib.hid hb9
  have HZS := hz9
  clear hb9 hz9
  have br_ := Hbr.out.c2
  go_wp2_with fail
  refine (of_some k h1 h3 w1).mono ?_
  rintro e w2 ⟨rfl, hg9, hb9⟩
  clear br_
  replace Hbr := Lib.hid (Hbr.out.up hb9)
  replace HB := hbu HB hb9
  replace HZS := sz HZS hb9.size
  have HG := Lib.hid hg9
  clear hg9 hb9
  have br_ := Hbr.out.c2
  have HsG := Lib.hid HG.out.lt
  replace HZS := sz HZS HsG.out
  go_wp2_with fail
  refine (sread_any (grp k) OK.out _ l al cl w2 HG.out (HC.out.up HB.out)).mono ?_
  rintro e w3 ⟨hb9, hx9⟩
  clear br_
  replace Hbr := Lib.hid (Hbr.out.up hb9)
  replace HG := Lib.hid (HG.out.up hb9)
  replace HB := hbu HB hb9
  replace HZS := sz HZS hb9.size
  have HX := Lib.hid hx9
  clear hx9 hb9
  have br_ := Hbr.out.c2
  obtain ⟨rs, a, c, rfl, hrk, hset, hnew, bl, ol, hal, hrp⟩ : ∃ rs a c, e = .returned (.tuple #[.agg #[.pointer (some ⟨_, 0, none⟩), .slice a rs.length c], .int .i64 0]) ∧ rs.map ClaimR.k = l ∧ SetAt (grp k) w3 a rs ∧ SetNew w2.heap.size a rs ∧ (∃ bl ol, al = some ⟨bl, ol, none⟩ ∧ RsP bl ol rs) := by
   have h9 := HX.out
   rwa [if_pos HZ.out] at h9
  clear HX
  have HRL := Lib.hid (show rs.length = l.length by rw [← hrk, List.length_map])
  have HRK := Lib.hid hrk
  have HSET := Lib.hid hset
  have HNEW := Lib.hid (hnew.mono (show w.heap.size + 1 ≤ w2.heap.size by have a0 := HZS.out; have a1 := HZS.out; omega))
  have HSRC := Lib.hid (src_all hrk hrp (hal ▸ HC.out))
  clear hrk hset hnew hal hrp
  have BS := Lib.hid (Below.refl w3.heap.size w3)
  have o4_br_ := br_; clear br_
  obtain ⟨w4, hq4, hb9, hz9, Hbs⟩ := new1 w3 64 [.pointer (some ⟨w1.heap.size, 0, none⟩), .slice a rs.length c]
  replace Hbr := Lib.hid (Hbr.out.up hb9)
  replace HG := Lib.hid (HG.out.up hb9)
  replace BS := hbu BS hb9
  replace HB := hbu HB hb9
  replace HZS := sz HZS hz9.out
  clear hb9 hz9
  have br_ := Hbr.out.c2
  have bs_ := Hbs.out.c2
  go_wp2_with fail
  clear hq4 o4_br_
  refine (scalars_any (grp k) OK.out _ rs.length a c xs ax cx hn w4 HG.out (HS.out.up HB.out)).mono ?_
  rintro e w5 ⟨hb9, v, rfl, hx9⟩
  clear br_
  replace Hbr := Lib.hid (Hbr.out.up hb9)
  clear bs_
  replace Hbs := Lib.hid (Hbs.out.up hb9)
  replace HG := Lib.hid (HG.out.up hb9)
  replace BS := hbu BS hb9
  replace HB := hbu HB hb9
  replace HZS := sz HZS hb9.size
  have HX := Lib.hid hx9
  clear hx9 hb9
  have br_ := Hbr.out.c2
  have bs_ := Hbs.out.c2
  have hy9 : scE (grp k) rs.length xs = y := by rw [HRL.out]; exact HY.out
  rw [hy9] at HX ⊢
  clear hy9
  have HSET2 := Lib.hid (HSET.out.up BS.out)
  have HX2 := Lib.hid (show y = 0 → ∃ a' c', v = .slice a' xs.length c' ∧ Sl w5 w5.heap.size a' (xs.flatMap (limC (grp k).q.m)) ∧ (∀ x, a' = some x → w.heap.size + 1 ≤ x.block) from fun h => let ⟨a', c', e1, e2, e3⟩ := HX.out h; ⟨a', c', e1, e2, fun x hx => Nat.le_trans (by have a0 := HZS.out; have a1 := HZS.out; have a2 := HZS.out; have a3 := HZS.out; omega) (e3 x hx)⟩)
  clear HX
  have HKB := Lib.hid (Kept.refl (fun q9 => q9 = w.heap.size) w5)
  have f6_br := Hbr.out.frozen
  have o6_br_ := br_; clear br_
  have o6_bs_ := bs_; clear bs_
  obtain ⟨w6, hq6, hg9, hz9, hx9⟩ := put2 Hbr 0 (.pointer (some ⟨w1.heap.size, 0, none⟩)) 1 (.slice a rs.length c) [.pointer (some ⟨w1.heap.size, 0, none⟩), .slice a rs.length c] rfl
  replace Hbs := Lib.hid (Hbs.out.grown hg9.out (sne (by have g0 := HZS.out; omega)))
  replace HG := Lib.hid (HG.out.grown hg9.out (sne (by have g0 := HZS.out; omega)))
  replace HKB := Lib.hid (Kept.grown HKB.out hg9.out (fun q9 e9 => by obtain rfl := Option.some.inj e9; exact Or.inr (rfl)))
  replace HB := hbg HB hg9 (by have g0 := HZS.out; omega)
  replace HZS := sz HZS hz9.out
  replace Hbr := hx9
  clear hx9 hg9 hz9
  have br_ := Hbr.out.c2
  have bs_ := Hbs.out.c2
  go_wp2_with fail
  clear hq6 o6_bs_ o6_br_ f6_br
  have HX3 := Lib.hid (show y = 0 → OpenOk (grp k) l xs w6 (.pointer (some ⟨w1.heap.size, 0, none⟩)) (.slice a rs.length c) v from fun h => let ⟨a', c', e1, e2, e3⟩ := HX2.out h; ⟨w1.heap.size, rs, a, c, a', c', rfl, rfl, e1, HRK.out, HG.out, HSET2.out.keptP HKB.out HNEW.out (fun q hq => by subst hq; omega), fun r hr => (HSRC.out r hr).up HB.out, e2.kept HKB.out (fun x hx hq => by have := e3 x hx; have hq : x.block = w.heap.size := hq; omega)⟩)
  simp [bodyPost, results, Tryz.results36, go_sem, br_]
  exact ⟨HB.out, _, _, _, _, _, rfl, HX3.out⟩
 ·have hd : ((z : Int) != 0) = true := by simp; omega
  rw [if_pos h0]
  clear h0
  go_enter Tryz.func36, Tryz.ntmps36
  go_wp2_with fail
  obtain ⟨w1, hq1, hb9, hz9, Hbr⟩ := new1 w 64 [.pointer none, .slice none 0 0]
  rw [hq1]
  clear hq1
  have HB := Lib.hid hb9
  have HZS := hz9
  clear hb9 hz9
  have br_ := Hbr.out.c2
  go_wp2_with fail
  refine (of_some k h1 h3 w1).mono ?_
  rintro e w2 ⟨rfl, hg9, hb9⟩
  clear br_
  replace Hbr := Lib.hid (Hbr.out.up hb9)
  replace HB := hbu HB hb9
  replace HZS := sz HZS hb9.size
  have HG := Lib.hid hg9
  clear hg9 hb9
  have br_ := Hbr.out.c2
  have HsG := Lib.hid HG.out.lt
  replace HZS := sz HZS HsG.out
  go_wp2_with fail
  refine (sread_any (grp k) OK.out _ l al cl w2 HG.out (HC.out.up HB.out)).mono ?_
  rintro e w3 ⟨hb9, hx9⟩
  clear br_
  replace Hbr := Lib.hid (Hbr.out.up hb9)
  replace HG := Lib.hid (HG.out.up hb9)
  replace HB := hbu HB hb9
  replace HZS := sz HZS hb9.size
  have HX := Lib.hid hx9
  clear hx9 hb9
  have br_ := Hbr.out.c2
  obtain rfl : e = .returned (.tuple #[set0, .int .i64 (z : Int)]) := by
   have h9 := HX.out
   rw [HZ.out, if_neg (by rintro rfl; simp at hd)] at h9
   exact h9
  clear HX
  unfold set0
  have o4_br_ := br_; clear br_
  obtain ⟨w4, hq4, hb9, hz9, Hbs⟩ := new1 w3 64 [.pointer none, .slice none 0 0]
  replace Hbr := Lib.hid (Hbr.out.up hb9)
  replace HG := Lib.hid (HG.out.up hb9)
  replace HB := hbu HB hb9
  replace HZS := sz HZS hz9.out
  clear hb9 hz9
  have br_ := Hbr.out.c2
  have bs_ := Hbs.out.c2
  have f5_bs := Hbs.out.frozen
  have o5_br_ := br_; clear br_
  have o5_bs_ := bs_; clear bs_
  obtain ⟨w5, hq5, hg9, hz9, hx9⟩ := put2 Hbs 0 (.pointer none) 1 (.slice none 0 0) [.pointer none, .slice none 0 0] rfl
  replace Hbr := Lib.hid (Hbr.out.grown hg9.out (sne (by have g0 := HZS.out; omega)))
  replace HG := Lib.hid (HG.out.grown hg9.out (sne (by have g0 := HZS.out; omega)))
  replace HB := hbg HB hg9 (by have g0 := HZS.out; omega)
  replace HZS := sz HZS hz9.out
  replace Hbs := hx9
  clear hx9 hg9 hz9
  have br_ := Hbr.out.c2
  have bs_ := Hbs.out.c2
  have f6_br := Hbr.out.frozen
  have o6_br_ := br_; clear br_
  have o6_bs_ := bs_; clear bs_
  obtain ⟨w6, hq6, hg9, hz9, hx9⟩ := put2 Hbr 0 (.pointer none) 1 (.slice none 0 0) [.pointer none, .slice none 0 0] rfl
  replace Hbs := Lib.hid (Hbs.out.grown hg9.out (sne (by have g0 := HZS.out; omega)))
  replace HG := Lib.hid (HG.out.grown hg9.out (sne (by have g0 := HZS.out; omega)))
  replace HB := hbg HB hg9 (by have g0 := HZS.out; omega)
  replace HZS := sz HZS hz9.out
  replace Hbr := hx9
  clear hx9 hg9 hz9
  have br_ := Hbr.out.c2
  have bs_ := Hbs.out.c2
  go_wp2_with fail
  clear hq6 o6_bs_ o6_br_ f6_br hq5 o5_bs_ o5_br_ f5_bs hq4 o4_br_
  simp [bodyPost, results, Tryz.results36, go_sem, br_]
  exact ⟨HB.out, _, _, _, _, _, rfl, fun h => by subst h; simp at hd⟩
end Go.Proofs.YtdlnnkbigeiilaaGreat
namespace Go.Proofs.YtdlnnkbigeiilaaGreat
open Go.RowKit
def limN (m n : Nat) : List Value := [.int .u64 (dig (mont m n) 0 : Int), .int .u64 (dig (mont m n) 1 : Int), .int .u64 (dig (mont m n) 2 : Int), .int .u64 (dig (mont m n) 3 : Int)]
def powC (G : GP) (x : Nat) (b : ByteArray) : List Value := limN G.p.m (numOf b ^ (x % G.q.m))
theorem powC_len (G : GP) (x : Nat) (b : ByteArray) : (powC G x b).length = 4 := rfl
theorem SetAt.at {G : GP} {w : World} {a : Option Addr} {rs : List ClaimR} (h : SetAt G w a rs) (i : Nat) (hi : i < rs.length) : ∃ b o, a = some ⟨b, o, none⟩ ∧ b < w.heap.size :=
 let ⟨b, o, e, hb, _⟩ := h.s.elem ClaimR.cells_len (by omega) i hi
 ⟨b, o, e, hb⟩
theorem SetAt.cells {G : GP} {w w1 : World} {b o : Nat} {rs : List ClaimR} (h : SetAt G w (some ⟨b, o, none⟩) rs) (hb : Below w.heap.size w w1) (i : Nat) (hi : i < rs.length) : ∀ j v, (rs[i].cells)[j]? = some v → w1.cell? ⟨b, o + i * 3 + j, none⟩ = some v :=
 ((h.s.up hb).elemS ClaimR.cells_len (by omega) i hi).2
theorem powers_any (G : GP) (ok : G.Ok) (gb : Nat) (rs : List ClaimR) (a : Option Addr) (c i : Nat) (hi : i < rs.length) (x : Nat) (hlen : rs[i].k.bases.length ≤ 8) (w : World) (hG : GroupAt w gb G) (hS : SetAt G w a rs) :
  Calls Tryz.prog 118 #[.agg #[.pointer (some ⟨gb, 0, none⟩), .slice a rs.length c], .int .i64 (i : Int), scV G x] w
   (fun e w' => ∃ a' c', e = .returned (.slice a' rs[i].k.bases.length c') ∧ Below w.heap.size w w' ∧ Sl w' w'.heap.size a' (rs[i].k.bases.flatMap (powC G x))) := by
 obtain ⟨ba, oa, rfl, hba⟩ := hS.at i hi
 have HCC := Lib.hid (fun w1 (hb : Below w.heap.size w w1) => hS.cells hb i hi)
 have HRB := Lib.hid (hS.e _ (List.getElem_mem hi)).b
 have HBA := Lib.hid hba
 have HGB := Lib.hid hG.lt
 have HG := Lib.hid hG
 have OK := Lib.hid ok
 have hin : (i : Nat) < rs.length := hi
 generalize rs[i] = r at *
 generalize rs.length = n at *
 obtain ⟨m, hm⟩ : ∃ m, r.k.bases.length = m := ⟨_, rfl⟩
 have HM := Lib.hid hm
 rw [hm] at hlen ⊢
 clear hS hba hG ok hm hi
 unfold scV limbV
 have hc_1 := HCC.out w (Below.refl _ _) 1 _ rfl
 rw [HM.out] at hc_1
 have hba9 := HBA.out
 go_enter Tryz.func118, Tryz.ntmps118
 go_wp2_with fail
 have HZS := HBA
 replace HZS := sz HZS HGB.out
 obtain ⟨w1, hq1, hb9, hz9, Hbs, Hbx⟩ := new2 w 64 [.pointer (some ⟨gb, 0, none⟩), .slice (some ⟨ba, oa, none⟩) n c] 72 [.int .u64 (dig (mont G.q.m x) 0 : Int), .int .u64 (dig (mont G.q.m x) 1 : Int), .int .u64 (dig (mont G.q.m x) 2 : Int), .int .u64 (dig (mont G.q.m x) 3 : Int)]
 rw [hq1]
 clear hq1
 replace HG := Lib.hid (HG.out.up hb9)
 have HB := Lib.hid hb9
 replace HZS := sz HZS hz9.out
 clear hb9 hz9
 have bs_ := Hbs.out.c2
 have bx_ := Hbx.out.c4
 have BL := Lib.hid (Below.refl w1.heap.size w1)
 clear hc_1 hba9
 go_wp2_with fail
 go_loopw [17, 7] (fun i v wr => ∃ (j : Nat) (g : Option Addr) (c9 : Nat), j ≤ m ∧ i = .int .i64 j ∧ v = .slice g j c9 ∧ Hid (Below w1.heap.size w1 wr) ∧ Hid (RowO w1.heap.size wr 127 4 (.slice g j c9) j ((r.k.bases.take j).flatMap (powC G x)))) (fun i _ _ => m - (intOf i).toNat)
 case atStart => exact ⟨0, none, 0, Nat.zero_le _, rfl, rfl, BL, RowO.nil⟩
 case round =>
  obtain ⟨j, g, c9, hj, rfl, rfl, HL9, Hr⟩ := hrel
  have hb9 := HL9.out
  clear HL9 bs_
  replace Hbs := Lib.hid (Hbs.out.up hb9)
  clear bx_
  replace Hbx := Lib.hid (Hbx.out.up hb9)
  replace HG := Lib.hid (HG.out.up hb9)
  replace BL := hbu BL hb9
  replace HB := hbu HB hb9
  replace HZS := sz HZS hb9.size
  clear hb9
  have bs_ := Hbs.out.c2
  have bx_ := Hbx.out.c4
  by_cases hjm : j < m
  ·have hjl : j < r.k.bases.length := by rw [HM.out]; exact hjm
   have hce := ((HRB.out.up HB.out).elemS (limC_len _) (by omega) j hjl).2
   have HSN := Lib.hid (flat_snoc (powC G x) r.k.bases j hjl)
   generalize r.k.bases[j] = b at *
   have hce_0 := hce 0 _ rfl
   rw [Nat.add_zero] at hce_0
   have hce_1 := hce 1 _ rfl
   have hce_2 := hce 2 _ rfl
   have hce_3 := hce 3 _ rfl
   clear hce
   have o2_bs_ := bs_; clear bs_
   have o2_bx_ := bx_; clear bx_
   obtain ⟨w2, hq2, hb9, hz9, Hbe⟩ := new1 wr 127 [.int .u64 (dig (mont G.p.m (numOf b)) 0 : Int), .int .u64 (dig (mont G.p.m (numOf b)) 1 : Int), .int .u64 (dig (mont G.p.m (numOf b)) 2 : Int), .int .u64 (dig (mont G.p.m (numOf b)) 3 : Int)]
   replace Hbs := Lib.hid (Hbs.out.up hb9)
   replace Hbx := Lib.hid (Hbx.out.up hb9)
   replace HG := Lib.hid (HG.out.up hb9)
   replace Hr := Lib.hid (Hr.out.up hb9)
   replace BL := hbu BL hb9
   replace HB := hbu HB hb9
   replace HZS := sz HZS hz9.out
   clear hb9 hz9
   have bs_ := Hbs.out.c2
   have bx_ := Hbx.out.c4
   have be_ := Hbe.out.c4
   go_wp2_with fail
   clear hq2 o2_bx_ o2_bs_ hce_0 hce_1 hce_2 hce_3
   refine (gPower_any G OK.out gb (numOf b) x w2 HG.out).mono ?_
   rintro e w3 ⟨rfl, hb9⟩
   clear bs_
   replace Hbs := Lib.hid (Hbs.out.up hb9)
   clear bx_
   replace Hbx := Lib.hid (Hbx.out.up hb9)
   clear be_
   replace Hbe := Lib.hid (Hbe.out.up hb9)
   replace HG := Lib.hid (HG.out.up hb9)
   replace Hr := Lib.hid (Hr.out.up hb9)
   replace BL := hbu BL hb9
   replace HB := hbu HB hb9
   replace HZS := sz HZS hb9.size
   clear hb9
   have bs_ := Hbs.out.c2
   have bx_ := Hbx.out.c4
   have be_ := Hbe.out.c4
   unfold elV limbV
   clear be_ Hbe
   obtain ⟨i9, hi9, hz90, hz91, hz92⟩ := info_parts infoElem
   go_wp2_with (at_builtin; refine wpList_pushR (w1.heap.size) w3 (by have g0 := HZS.out; omega) rfl _ _ 152 rfl 127 i9 _ 4 32 Tryz.underlying152 hi9 hz90 hz91 hz92 rfl (by omega) ((.slice g j c9)) (j) (((r.k.bases.take j).flatMap (powC G x))) rfl Hr.out _ _ _ rfl rfl rfl (by simp [Value.oneCell']) (by omega) (by unfold maxLen; omega) ?_)
   intro g4 c4 w4 hown9 hg9
   clear bs_ bx_
   have hb9 := Below.grown HB.out hg9 (by have g0 := HZS.out; omega) (fun q hq => Nat.le_trans (show w.heap.size ≤ w1.heap.size by have g0 := HZS.out; omega) (Hr.out.lt q hq).1)
   replace Hbs := Lib.hid (Hbs.out.grown hg9 (fun e9 => by have a1 := Hr.out.lt _ e9; have g0 := HZS.out; omega))
   replace Hbx := Lib.hid (Hbx.out.grown hg9 (fun e9 => by have a1 := Hr.out.lt _ e9; have g0 := HZS.out; omega))
   replace HG := Lib.hid (HG.out.grown hg9 (fun e9 => by have a1 := Hr.out.lt _ e9; have g0 := HZS.out; omega))
   replace BL := Lib.hid (Below.grown BL.out hg9 (by have g0 := HZS.out; omega) (fun q hq => Nat.le_trans (show w1.heap.size ≤ w1.heap.size by have g0 := HZS.out; omega) (Hr.out.lt q hq).1))
   replace HZS := sz HZS hg9.size
   clear Hr HB
   have Hr := Lib.hid hown9
   have HB := Lib.hid hb9
   clear hb9 hown9 hg9 hi9 hz90 hz91 hz92
   have bs_ := Hbs.out.c2
   have bx_ := Hbx.out.c4
   go_wp2_with fail
   go_roundw
   case rel => exact ⟨j + 1, _, _, by omega, by go_num, rfl, BL, Hr.out.eq HSN.out.symm rfl⟩
   case measure => simp [intOf]; omega
  ·have hjn : j = m := by omega
   subst hjn
   have hT : r.k.bases.take j = r.k.bases := List.take_of_length_le (by rw [HM.out]; exact Nat.le_refl _)
   rw [hT] at Hr
   clear hT
   go_wp2_with fail
   go_ret
   exact ⟨g, c9, rfl, HB.out, Hr.out.sl⟩
end Go.Proofs.YtdlnnkbigeiilaaGreat
namespace Go.Proofs.YtdlnnkbigeiilaaGreat
open Go.RowKit
structure PrfA where
 c : ByteArray
 aa : Option Addr
 ca : Nat
 l : List ByteArray
def PrfA.cells (p : PrfA) : List Value := [.string p.c, .slice p.aa p.l.length p.ca]
structure PrfA.At (p : PrfA) (w : World) : Prop where
 s : Sl w w.heap.size p.aa (p.l.map Value.string)
 n : p.aa = none → p.ca = 0
end Go.Proofs.YtdlnnkbigeiilaaGreat
namespace Go.Proofs.YtdlnnkbigeiilaaGreat
open Go.RowKit
end Go.Proofs.YtdlnnkbigeiilaaGreat
namespace Go.Proofs.YtdlnnkbigeiilaaGreat
open Go.RowKit
theorem bx_made (w : World) (e : TypeId) (z : Value) (n : Nat) : Bx (w.alloc (.cells (madeCells #[z] n) e)) w.heap.size e (List.replicate n z) := by
 have h : madeCells #[z] n = (List.replicate n z).toArray := by
  apply Array.ext
  ·simp [madeCells]
  ·intro i h1 h2
   simp [madeCells, Nat.mod_one]
 rw [h]
 exact Bx.new w e _ _ rfl
theorem mid_get {xs ys : List Value} {v : Value} {j : Nat} (h : xs.length = j) : (xs ++ v :: ys)[j]? = some v := by subst h; simp
theorem mid_set {xs ys : List Value} {v u : Value} {j : Nat} (h : xs.length = j) : (xs ++ v :: ys).set j u = xs ++ u :: ys := by subst h; simp
theorem rows_len (ro : List RowA) : (ro.flatMap RowA.cells).length = ro.length := by rw [flat_len RowA.cells 1 RowA.cells_len, Nat.mul_one]
def eachL (G : GP) (val : Nat → Nat → Nat) (i m : Nat) : List ByteArray := (List.range m).map fun t => textS (lowN G (val i t)) G.size
def RowsR (L : List (List ByteArray)) (w : World) (e : Ending) (w' : World) : Prop :=
 Below w.heap.size w w' ∧ ∃ a c ro, e = .returned (.slice a L.length c) ∧ ro.map RowA.l = L ∧ RowsAt w' a ro ∧ (∀ r ∈ ro, r.Ok)
def RowsF (L : List (List ByteArray)) (w : World) (e : Ending) (w' : World) : Prop :=
 Below w.heap.size w w' ∧ ∃ a c ro, e = .returned (.slice a L.length c) ∧ ro.map RowA.l = L ∧ RowsAt w' a ro ∧ (∀ r ∈ ro, r.Ok) ∧ (∀ x, a = some x → w.heap.size ≤ x.block) ∧ ∀ r ∈ ro, ∀ x, r.a = some x → w.heap.size ≤ x.block
theorem fresh_le {n m : Nat} {a : Option Addr} {ro : List RowA} (h : (∀ r ∈ ro, r.Ok) ∧ (∀ x, a = some x → m ≤ x.block) ∧ ∀ r ∈ ro, ∀ x, r.a = some x → m ≤ x.block) (hn : n ≤ m) : (∀ r ∈ ro, r.Ok) ∧ (∀ x, a = some x → n ≤ x.block) ∧ ∀ r ∈ ro, ∀ x, r.a = some x → n ≤ x.block :=
 ⟨h.1, fun x hx => Nat.le_trans hn (h.2.1 x hx), fun r hr x hx => Nat.le_trans hn (h.2.2 r hr x hx)⟩
def eachA (G : GP) (val : Nat → Nat → Nat) (ms : List Nat) (j : Nat) : List (List ByteArray) := (List.range j).map fun i => eachL G val i (ms.getD i 0)
theorem eachA_snoc (G : GP) (val : Nat → Nat → Nat) (ms : List Nat) (j : Nat) : eachA G val ms (j + 1) = eachA G val ms j ++ [eachL G val j (ms.getD j 0)] := by unfold eachA; rw [List.range_succ, List.map_append]; rfl
theorem eachA_len (G : GP) (val : Nat → Nat → Nat) (ms : List Nat) (j : Nat) : (eachA G val ms j).length = j := by unfold eachA; simp
theorem eachL_snoc (G : GP) (val : Nat → Nat → Nat) (i t : Nat) : (eachL G val i (t + 1)).map Value.string = (eachL G val i t).map Value.string ++ [.string (textS (lowN G (val i t)) G.size)] := by unfold eachL; rw [List.range_succ, List.map_append, List.map_append]; rfl
theorem eachL_len (G : GP) (val : Nat → Nat → Nat) (i t : Nat) : (eachL G val i t).length = t := by unfold eachL; simp
def RowsNew (n : Nat) (w : World) (ro : List RowA) : Prop := ∀ r ∈ ro, RowA.At w r ∧ (∀ x, r.a = some x → n ≤ x.block) ∧ r.Ok
theorem RowsNew.kept {n b : Nat} {w w1 : World} {ro : List RowA} (h : RowsNew n w ro) (hk : Kept (fun q => q = b) w w1) (hb : b < n) : RowsNew n w1 ro := fun r hr =>
 let ⟨h1, h2, h3⟩ := h r hr
 ⟨Sl.kept h1 hk (fun x hx e => by have := h2 x hx; have e : x.block = b := e; omega), h2, h3⟩
theorem infoStrs : (Tryz.prog.info? 23).map (fun i => (i.zero, i.size, i.bytes)) = some (some (.slice none 0 0), 1, 24) := by kernel_rfl
theorem RowO.none_cap {N n c k size : Nat} {w : World} {e : TypeId} {a : Option Addr} {xs : List Value} (h : RowO N w e size (.slice a k c) n xs) (hx : a = none) : c = 0 := by
 rcases h.2 with ⟨hv, _⟩ | ⟨g, cap, cur, hv, hN, _⟩
 ·simp only [Value.slice.injEq] at hv
  exact hv.2.2
 ·simp only [Value.slice.injEq] at hv
  rw [hv.1] at hx
  cases hx
theorem RowO.rowOk {N n c k : Nat} {w : World} {e : TypeId} {a : Option Addr} {L : List ByteArray} (h : RowO N w e 1 (.slice a k c) n (L.map Value.string)) : RowA.Ok ⟨a, c, L⟩ := by
 have hl := h.1
 rw [List.length_map, Nat.mul_one] at hl
 refine ⟨fun hx => RowO.none_cap h hx, ?_⟩
 show L.length ≤ c
 rcases h.2 with ⟨hv, h0⟩ | ⟨g, cap, cur, hv, hN, _, hc, _⟩
 ·omega
 ·simp only [Value.slice.injEq] at hv
  omega
theorem eachFirst (G : GP) (ok : G.Ok) (gb : Nat) (rs : List ClaimR) (n : Nat) (hrs : rs.length = n) (hn : n ≤ 64) (ms : List Nat) (hms : rs.map (fun r => r.k.bases.length) = ms) (hm8 : ∀ r ∈ rs, r.k.bases.length ≤ 8) (a : Option Addr) (c : Nat) (p1 p2 : Value) (val : Nat → Nat → Nat) (w : World) (hG : GroupAt w gb G) (hS : SetAt G w a rs)
  (hcall : ∀ w1, Below w.heap.size w w1 → ∀ i t : Nat, i < n → t < ms.getD i 0 → Calls Tryz.prog 121 #[.int .i64 (i : Int), .int .i64 (t : Int), p1, p2] w1 (Gives (elV G (val i t)) w1)) :
  Calls Tryz.prog 100 #[.agg #[.pointer (some ⟨gb, 0, none⟩), .slice a n c], .func (.func 121) #[] #[p1, p2]] w (RowsF (eachA G val ms n) w) := by
 have HRS := Lib.hid hrs
 have HMS := Lib.hid hms
 have HM8 := Lib.hid hm8
 have HG := Lib.hid hG
 have HGB := Lib.hid hG.lt
 have OK := Lib.hid ok
 have HS := Lib.hid hS
 have HCALL := Lib.hid hcall
 clear hrs hms hm8 hG ok hS hcall
 have hmk := Go.run_make_row' (P := Tryz.prog) 28 23 (.slice none 0 0) 24 Tryz.underlying28 infoStrs rfl .i64 .i64 n (by omega) (by omega)
 go_enter Tryz.func100, Tryz.ntmps100
 have HZS := HGB
 go_upto_region 1 with fail
 obtain ⟨w1, hq1, hb9, hz9, Hbs⟩ := new1 w 64 [.pointer (some ⟨gb, 0, none⟩), .slice a n c]
 rw [hq1]
 clear hq1
 replace HG := Lib.hid (HG.out.up hb9)
 have HB := Lib.hid hb9
 replace HZS := sz HZS hz9.out
 clear hb9 hz9
 have bs_ := Hbs.out.c2
 go_upto_region 2 with fail
 have hmb := bx_made w1 23 (.slice none 0 0) n
 have hb9 : Below w1.heap.size w1 (w1.alloc (.cells (madeCells #[.slice none 0 0] n) 23)) := (Below.refl _ _).alloc (Nat.le_refl _) _
 have hz9 : (w1.alloc (.cells (madeCells #[.slice none 0 0] n) 23)).heap.size = w1.heap.size + 1 := by simp
 obtain ⟨wm, hq9⟩ : ∃ W9 : World, (w1.alloc (.cells (madeCells #[.slice none 0 0] n) 23)) = W9 := ⟨_, rfl⟩
 rw [hq9] at hmb hb9 hz9 ⊢
 clear hq9 hmk
 have HZM := Lib.hid hz9
 have HZ9 := Lib.hid HB.out.size
 clear hz9
 replace HZS := sz HZS HZM.out
 clear bs_
 replace Hbs := Lib.hid (Hbs.out.up hb9)
 replace HG := Lib.hid (HG.out.up hb9)
 replace HB := hbu HB hb9
 replace HZS := sz HZS hb9.size
 clear hb9
 have bs_ := Hbs.out.c2
 have Hob := Lib.hid hmb
 clear hmb
 have HK := Lib.hid (Kept.refl (fun q9 => q9 = w1.heap.size) wm)
 go_wp2_with fail
 go_loopw [15] (fun i wr => ∃ (j : Nat) (ro : List RowA), j ≤ n ∧ i = .int .i64 j ∧ Hid (ro.length = j) ∧ Hid (ro.map RowA.l = eachA G val ms j) ∧ Hid (Kept (fun q => q = w1.heap.size) wm wr) ∧ Hid (Bx wr w1.heap.size 23 (ro.flatMap RowA.cells ++ List.replicate (n - j) (.slice none 0 0))) ∧ Hid (RowsNew wm.heap.size wr ro)) (fun i _ => n - (intOf i).toNat)
 case atStart => exact ⟨0, [], Nat.zero_le _, rfl, rfl, rfl, HK, by simpa using Hob, fun _ h => by cases h⟩
 case round =>
  obtain ⟨j, ro, hj, rfl, HRL, HRM, HK, Hob9, HRN⟩ := hrel
  have hg9 := HK.out
  clear bs_ Hob
  replace Hbs := Lib.hid (Hbs.out.keptP hg9 (show ¬ (_ = w1.heap.size) by have g0 := HZS.out; omega))
  replace HG := Lib.hid (HG.out.keptP hg9 (show ¬ (_ = w1.heap.size) by have g0 := HZS.out; omega))
  replace HB := Lib.hid (Below.keptP HB.out hg9 (by have g0 := HZS.out; omega) (fun q9 h9 => (show w.heap.size ≤ _ by subst h9; have g0 := HZS.out; omega)))
  replace HZS := sz HZS (show wm.heap.size ≤ wr.heap.size from hg9.size)
  clear hg9
  have bs_ := Hbs.out.c2
  have Hob := Hob9
  clear Hob9
  by_cases hjn : j < n
  ·have hjr : j < rs.length := by rw [HRS.out]; exact hjn
   obtain ⟨ba, oa, rfl, hba0⟩ := HS.out.at j hjr
   have HCC := Lib.hid (fun w1 (hb : Below w.heap.size w w1) => HS.out.cells hb j hjr)
   have HMJ := Lib.hid (show rs[j].k.bases.length = ms.getD j 0 by rw [← HMS.out]; simp [List.getD, hjr])
   have HM1 := Lib.hid (HM8.out _ (List.getElem_mem hjr))
   generalize rs[j] = r at *
   obtain ⟨m, hm⟩ : ∃ m, ms.getD j 0 = m := ⟨_, rfl⟩
   rw [hm] at HMJ
   have HMM := Lib.hid hm
   have hm8 : m ≤ 8 := by rw [← HMJ.out]; exact HM1.out
   rw [show n - j = (n - j - 1) + 1 by omega, List.replicate_succ] at Hob
   clear hm
   obtain ⟨wo, rfl⟩ : ∃ wo : World, wo = wr := ⟨_, rfl⟩
   have hc := HCC.out _ HB.out
   have hc_1 := hc 1 _ rfl
   rw [HMJ.out] at hc_1
   clear hc
   have HRN2 := HRN
   have HK2 := Lib.hid (Kept.refl (fun q9 => q9 = w1.heap.size) wo)
   have hba9 := hba0
   go_wp2_with fail
   clear hc_1 hba9
   go_loopw [25] (fun i wr => ∃ (t : Nat) (g : Option Addr) (c9 : Nat), t ≤ m ∧ i = .int .i64 t ∧ Hid (Kept (fun q => q = w1.heap.size) wo wr) ∧ Hid (Bx wr w1.heap.size 23 (ro.flatMap RowA.cells ++ (.slice g t c9) :: List.replicate (n - j - 1) (.slice none 0 0))) ∧ Hid (RowO wo.heap.size wr 9 1 (.slice g t c9) t ((eachL G val j t).map Value.string))) (fun i _ => m - (intOf i).toNat)
   case atStart => exact ⟨0, none, 0, Nat.zero_le _, rfl, HK2, Hob, RowO.nil⟩
   case round =>
    obtain ⟨t, g, c9, ht, rfl, HK2, Hob9, Hr⟩ := hrel
    have hg9 := HK2.out
    clear bs_ Hob
    replace Hbs := Lib.hid (Hbs.out.keptP hg9 (show ¬ (_ = w1.heap.size) by have g0 := HZS.out; omega))
    replace HG := Lib.hid (HG.out.keptP hg9 (show ¬ (_ = w1.heap.size) by have g0 := HZS.out; omega))
    replace HB := Lib.hid (Below.keptP HB.out hg9 (by have g0 := HZS.out; omega) (fun q9 h9 => (show w.heap.size ≤ _ by subst h9; have g0 := HZS.out; omega)))
    replace HZS := sz HZS (show wo.heap.size ≤ wr.heap.size from hg9.size)
    clear hg9
    have bs_ := Hbs.out.c2
    have Hob := Hob9
    clear Hob9
    by_cases htm : t < m
    ·have hob : w1.heap.size < wr.heap.size := Hob.out.lt
     have hoc : wr.cell? ⟨w1.heap.size, j, none⟩ = some (.slice g t c9) := Hob.out.cell (mid_get (by rw [rows_len, HRL.out]))
     go_wp2_with fail
     have HT := Lib.hid (show Below wr.heap.size wr wr.drew from (Below.refl _ _).drew)
     have hl_bs := Hbs.out.lt
     refine wp_region_treek (fun wq9 => ∃ E : But wr (Value.ownBlock (.slice g t c9)), wq9 = E.w) 16 ((.qs [0, 1, 2, 3, 4] (.e 5 [] (.qs [6] (.e 7 [] (.qs [8, 9, 10] (.a 11 (.a 12 (.a 13 (.a 14 (.qs [15] (.a 16 .done)))))))))))) (by kernel_rfl) (by kernel_rfl) (fun _ _ d _ _ h => by cases d <;> exact h) ⟨⟨_, ((below_grown HT.out).but _)⟩, rfl⟩ ?_
     have hov_bs := fun (E : But wr (Value.ownBlock (.slice g t c9))) o => E.cell (b := w.heap.size) o hl_bs (by intro e9; have a1 := Hr.out.lt _ e9; have g0 := HZS.out; omega)
     have hov_w1_heap_size := fun (E : But wr (Value.ownBlock (.slice g t c9))) o => E.cell (b := w1.heap.size) o hob (by intro e9; have a1 := Hr.out.lt _ e9; have g0 := HZS.out; omega)
     simp only [TreeK.qs]
     repeat (first | (refine treek_q rfl rfl ?_; go_big_quiet_step (fail); refine wpQuiet_nil ?_) | (refine treek_e rfl rfl ?_; go_big_quiet_step (fail); refine wpQuiet_nil ?_))
     refine treek_a rfl (fun K hK => ?_)
     go_simp
     refine (HCALL.out _ (below_up HB.out HT.out) j t hjn (by rw [HMM.out]; exact htm)).mono ?_
     rintro e w2 ⟨rfl, hb9⟩
     replace HT := Lib.hid (below_up HT.out hb9)
     replace HZS := sz HZS (show wr.heap.size ≤ w2.heap.size from HT.out.size)
     clear hb9
     refine hK _ _ ⟨fun _ => ⟨⟨w2, ((below_grown HT.out).but _)⟩, rfl⟩, ?_⟩
     clear hK K
     repeat (first | (refine treek_q rfl rfl ?_; go_big_quiet_step (fail); refine wpQuiet_nil ?_) | (refine treek_e rfl rfl ?_; go_big_quiet_step (fail); refine wpQuiet_nil ?_))
     refine treek_a rfl (fun K hK => ?_)
     go_simp
     refine (gText_any G OK.out gb (val j t) _ (HG.out.up HT.out)).mono ?_
     rintro e w3 ⟨rfl, hb9⟩
     replace HT := Lib.hid (below_up HT.out hb9)
     replace HZS := sz HZS (show wr.heap.size ≤ w3.heap.size from HT.out.size)
     clear hb9
     refine hK _ _ ⟨fun _ => ⟨⟨w3, ((below_grown HT.out).but _)⟩, rfl⟩, ?_⟩
     clear hK K
     repeat (first | (refine treek_q rfl rfl ?_; go_big_quiet_step (fail); refine wpQuiet_nil ?_) | (refine treek_e rfl rfl ?_; go_big_quiet_step (fail); refine wpQuiet_nil ?_))
     clear hoc hob hov_bs hl_bs hov_w1_heap_size
     refine treek_a rfl (fun K hK => ?_)
     go_simp
     refine hK _ _ ⟨fun _ => ⟨⟨_, (below_grown (HT.out.alloc HT.out.size _)).but _⟩, rfl⟩, ?_⟩
     clear hK K
     obtain ⟨i9, hi9, hz90, hz91, hz92⟩ := info_parts infoStr
     have HG1 := Lib.hid ((below_grown HT.out).but (Value.ownBlock (.slice g t c9)))
     clear bs_
     replace Hbs := Lib.hid (Hbs.out.up HT.out)
     replace Hob := Lib.hid (Hob.out.up HT.out)
     replace HG := Lib.hid (HG.out.up HT.out)
     replace Hr := Lib.hid (Hr.out.up HT.out)
     replace HK2 := Lib.hid (Kept.up HK2.out HT.out)
     replace HB := hbu HB HT.out
     replace HZS := sz HZS HT.out.size
     refine treek_a rfl (fun K hK => ?_)
     refine step_pushF (wo.heap.size) w3 (by have g0 := HZS.out; omega) rfl _ _ 23 rfl 9 i9 _ 1 16 Tryz.underlying23 hi9 hz90 hz91 hz92 rfl (by omega) ((.slice g t c9)) (t) (((eachL G val j t).map Value.string)) rfl Hr.out _ _ _ rfl rfl rfl (by simp [Value.oneCell']) (by omega) (by unfold maxLen; omega) ?_
     intro g4 c4 w4 hown9 hg9 hf9
     have HF9 := Lib.hid hf9
     clear hf9
     have HGR := Lib.hid (HG1.out.trans hg9)
     have hb9 := Below.grown HB.out hg9 (by have g0 := HZS.out; omega) (fun q hq => Nat.le_trans (show w.heap.size ≤ wo.heap.size by have g0 := HZS.out; omega) (Hr.out.lt q hq).1)
     replace Hbs := Lib.hid (Hbs.out.grown hg9 (fun e9 => by have a1 := Hr.out.lt _ e9; have g0 := HZS.out; omega))
     replace Hob := Lib.hid (Hob.out.grown hg9 (fun e9 => by have a1 := Hr.out.lt _ e9; have g0 := HZS.out; omega))
     replace HG := Lib.hid (HG.out.grown hg9 (fun e9 => by have a1 := Hr.out.lt _ e9; have g0 := HZS.out; omega))
     replace HK2 := Lib.hid (Kept.grown HK2.out hg9 (fun q hq => Or.inl (Nat.le_trans (show wo.heap.size ≤ wo.heap.size by have g0 := HZS.out; omega) (Hr.out.lt q hq).1)))
     replace HZS := sz HZS hg9.size
     clear Hr HB HT HG1
     have Hr := Lib.hid hown9
     have HB := Lib.hid hb9
     clear hb9 hown9 hg9 hi9 hz90 hz91 hz92
     refine hK _ _ ⟨fun _ => ⟨⟨w4, HGR.out⟩, rfl⟩, ?_⟩
     clear hK K HGR
     try simp only [Act.put, List.setIfInBounds_toArray, List.set_cons_succ, List.set_cons_zero]
     repeat (first | (refine treek_q rfl rfl ?_; go_big_quiet_step (fail); refine wpQuiet_nil ?_) | (refine treek_e rfl rfl ?_; go_big_quiet_step (fail); refine wpQuiet_nil ?_))
     replace HZS := sz HZS (Hr.out.lt g4 rfl).1
     have hoc := Hob.out.cell (mid_get (v := .slice g t c9) (ys := List.replicate (n - j - 1) (.slice none 0 0)) (show (ro.flatMap RowA.cells).length = j by rw [rows_len, HRL.out]))
     have bs_ := Hbs.out.c2
     have f5_ob := Hob.out.frozen
     have o5_bs_ := bs_; clear bs_
     obtain ⟨w5, hq5, hg9, hz9, hx9⟩ := put1 Hob j (.slice (some ⟨g4, 0, none⟩) (t + 1) c4) _ rfl
     replace Hbs := Lib.hid (Hbs.out.grown hg9.out (sne (by have g0 := HZS.out; omega)))
     replace HG := Lib.hid (HG.out.grown hg9.out (sne (by have g0 := HZS.out; omega)))
     replace Hr := Lib.hid (RowO.grown Hr.out hg9.out (fun q9 e8 e9 => by have a1 := Hr.out.lt _ e8; have a0 := Option.some.inj e9; have g0 := HZS.out; omega))
     replace HK2 := Lib.hid (Kept.grown HK2.out hg9.out (fun q9 e9 => by obtain rfl := Option.some.inj e9; exact Or.inr (rfl)))
     replace HB := hbg HB hg9 (by have g0 := HZS.out; omega)
     replace HZS := sz HZS hz9.out
     replace Hob := hx9
     clear hx9 hg9 hz9
     have bs_ := Hbs.out.c2
     refine treek_a rfl (fun K hK => ?_)
     go_simp
     try rw [hq5]
     refine hK _ _ ⟨fun h9 => absurd rfl h9, ?_⟩
     clear hK K hq5 o5_bs_ f5_ob hoc
     refine treek_end ?_
     go_wp2_with fail
     go_roundw
     case rel => exact ⟨t + 1, _, _, by omega, by go_num, HK2, Lib.hid (by have h9 := Hob.out; rwa [mid_set (by rw [rows_len, HRL.out])] at h9), Hr.out.eq (eachL_snoc G val j t).symm rfl⟩
     case measure => simp [intOf]; omega
    ·have htm' : t = m := by omega
     subst htm'
     have HROW := Lib.hid (show RowsNew wm.heap.size wr (ro ++ [⟨g, c9, eachL G val j t⟩]) from fun x hx => by
      rcases List.mem_append.1 hx with hx | hx
      ·exact (HRN.out.kept HK2.out (by have a0 := HZM.out; omega)) x hx
      ·obtain rfl := List.mem_singleton.1 hx
       exact ⟨Hr.out.sl, fun y hy => Nat.le_trans (by have a1 := HZS.out; omega) (RowO.own_le Hr.out hy), RowO.rowOk Hr.out⟩)
     go_wp2_with fail
     go_roundw
     case rel => exact ⟨j + 1, ro ++ [⟨g, c9, eachL G val j t⟩], by omega, by go_num, Lib.hid (by rw [List.length_append, HRL.out]; rfl), Lib.hid (by rw [List.map_append, HRM.out, eachA_snoc, HMM.out]; rfl), Lib.hid (HK.out.trans HK2.out), Lib.hid (by rw [List.flatMap_append]; have h9 := Hob.out; simpa [RowA.cells, eachL_len, Nat.sub_sub] using h9), HROW⟩
     case measure => simp [intOf]; omega
  ·have hjn' : j = n := by omega
   subst hjn'
   have hsl : Sl wr wr.heap.size (some ⟨w1.heap.size, 0, none⟩) (ro.flatMap RowA.cells) := by
    have h9 := Hob.out
    rw [Nat.sub_self, List.replicate_zero, List.append_nil] at h9
    simpa using Sl.of_block h9
   have HSL := Lib.hid hsl
   clear hsl
   go_wp2_with fail
   go_ret
   exact ⟨HB.out, _, j, ro, by rw [eachA_len]; rfl, HRM.out, ⟨HSL.out, fun r hr => (HRN.out r hr).1⟩, fun r hr => (HRN.out r hr).2.2, fun x hx => by cases hx; show w.heap.size ≤ w1.heap.size; have a0 := HZ9.out; omega, fun r hr x hx => Nat.le_trans (show w.heap.size ≤ wm.heap.size by have a0 := HZ9.out; have a1 := HZM.out; omega) ((HRN.out r hr).2.1 x hx)⟩
theorem eachBack (G : GP) (ok : G.Ok) (gb : Nat) (rs : List ClaimR) (n : Nat) (hrs : rs.length = n) (hn : n ≤ 64) (ms : List Nat) (hms : rs.map (fun r => r.k.bases.length) = ms) (hm8 : ∀ r ∈ rs, r.k.bases.length ≤ 8) (a : Option Addr) (c : Nat) (p1 p2 p3 : Value) (val : Nat → Nat → Nat) (w : World) (hG : GroupAt w gb G) (hS : SetAt G w a rs)
  (hcall : ∀ w1, Below w.heap.size w w1 → ∀ i t : Nat, i < n → t < ms.getD i 0 → Calls Tryz.prog 101 #[.int .i64 (i : Int), .int .i64 (t : Int), p1, p2, p3] w1 (Gives (elV G (val i t)) w1)) :
  Calls Tryz.prog 100 #[.agg #[.pointer (some ⟨gb, 0, none⟩), .slice a n c], .func (.func 101) #[] #[p1, p2, p3]] w (RowsF (eachA G val ms n) w) := by
 have HRS := Lib.hid hrs
 have HMS := Lib.hid hms
 have HM8 := Lib.hid hm8
 have HG := Lib.hid hG
 have HGB := Lib.hid hG.lt
 have OK := Lib.hid ok
 have HS := Lib.hid hS
 have HCALL := Lib.hid hcall
 clear hrs hms hm8 hG ok hS hcall
 have hmk := Go.run_make_row' (P := Tryz.prog) 28 23 (.slice none 0 0) 24 Tryz.underlying28 infoStrs rfl .i64 .i64 n (by omega) (by omega)
 go_enter Tryz.func100, Tryz.ntmps100
 have HZS := HGB
 go_upto_region 1 with fail
 obtain ⟨w1, hq1, hb9, hz9, Hbs⟩ := new1 w 64 [.pointer (some ⟨gb, 0, none⟩), .slice a n c]
 rw [hq1]
 clear hq1
 replace HG := Lib.hid (HG.out.up hb9)
 have HB := Lib.hid hb9
 replace HZS := sz HZS hz9.out
 clear hb9 hz9
 have bs_ := Hbs.out.c2
 go_upto_region 2 with fail
 have hmb := bx_made w1 23 (.slice none 0 0) n
 have hb9 : Below w1.heap.size w1 (w1.alloc (.cells (madeCells #[.slice none 0 0] n) 23)) := (Below.refl _ _).alloc (Nat.le_refl _) _
 have hz9 : (w1.alloc (.cells (madeCells #[.slice none 0 0] n) 23)).heap.size = w1.heap.size + 1 := by simp
 obtain ⟨wm, hq9⟩ : ∃ W9 : World, (w1.alloc (.cells (madeCells #[.slice none 0 0] n) 23)) = W9 := ⟨_, rfl⟩
 rw [hq9] at hmb hb9 hz9 ⊢
 clear hq9 hmk
 have HZM := Lib.hid hz9
 have HZ9 := Lib.hid HB.out.size
 clear hz9
 replace HZS := sz HZS HZM.out
 clear bs_
 replace Hbs := Lib.hid (Hbs.out.up hb9)
 replace HG := Lib.hid (HG.out.up hb9)
 replace HB := hbu HB hb9
 replace HZS := sz HZS hb9.size
 clear hb9
 have bs_ := Hbs.out.c2
 have Hob := Lib.hid hmb
 clear hmb
 have HK := Lib.hid (Kept.refl (fun q9 => q9 = w1.heap.size) wm)
 go_wp2_with fail
 go_loopw [15] (fun i wr => ∃ (j : Nat) (ro : List RowA), j ≤ n ∧ i = .int .i64 j ∧ Hid (ro.length = j) ∧ Hid (ro.map RowA.l = eachA G val ms j) ∧ Hid (Kept (fun q => q = w1.heap.size) wm wr) ∧ Hid (Bx wr w1.heap.size 23 (ro.flatMap RowA.cells ++ List.replicate (n - j) (.slice none 0 0))) ∧ Hid (RowsNew wm.heap.size wr ro)) (fun i _ => n - (intOf i).toNat)
 case atStart => exact ⟨0, [], Nat.zero_le _, rfl, rfl, rfl, HK, by simpa using Hob, fun _ h => by cases h⟩
 case round =>
  obtain ⟨j, ro, hj, rfl, HRL, HRM, HK, Hob9, HRN⟩ := hrel
  have hg9 := HK.out
  clear bs_ Hob
  replace Hbs := Lib.hid (Hbs.out.keptP hg9 (show ¬ (_ = w1.heap.size) by have g0 := HZS.out; omega))
  replace HG := Lib.hid (HG.out.keptP hg9 (show ¬ (_ = w1.heap.size) by have g0 := HZS.out; omega))
  replace HB := Lib.hid (Below.keptP HB.out hg9 (by have g0 := HZS.out; omega) (fun q9 h9 => (show w.heap.size ≤ _ by subst h9; have g0 := HZS.out; omega)))
  replace HZS := sz HZS (show wm.heap.size ≤ wr.heap.size from hg9.size)
  clear hg9
  have bs_ := Hbs.out.c2
  have Hob := Hob9
  clear Hob9
  by_cases hjn : j < n
  ·have hjr : j < rs.length := by rw [HRS.out]; exact hjn
   obtain ⟨ba, oa, rfl, hba0⟩ := HS.out.at j hjr
   have HCC := Lib.hid (fun w1 (hb : Below w.heap.size w w1) => HS.out.cells hb j hjr)
   have HMJ := Lib.hid (show rs[j].k.bases.length = ms.getD j 0 by rw [← HMS.out]; simp [List.getD, hjr])
   have HM1 := Lib.hid (HM8.out _ (List.getElem_mem hjr))
   generalize rs[j] = r at *
   obtain ⟨m, hm⟩ : ∃ m, ms.getD j 0 = m := ⟨_, rfl⟩
   rw [hm] at HMJ
   have HMM := Lib.hid hm
   have hm8 : m ≤ 8 := by rw [← HMJ.out]; exact HM1.out
   rw [show n - j = (n - j - 1) + 1 by omega, List.replicate_succ] at Hob
   clear hm
   obtain ⟨wo, rfl⟩ : ∃ wo : World, wo = wr := ⟨_, rfl⟩
   have hc := HCC.out _ HB.out
   have hc_1 := hc 1 _ rfl
   rw [HMJ.out] at hc_1
   clear hc
   have HRN2 := HRN
   have HK2 := Lib.hid (Kept.refl (fun q9 => q9 = w1.heap.size) wo)
   have hba9 := hba0
   go_wp2_with fail
   clear hc_1 hba9
   go_loopw [25] (fun i wr => ∃ (t : Nat) (g : Option Addr) (c9 : Nat), t ≤ m ∧ i = .int .i64 t ∧ Hid (Kept (fun q => q = w1.heap.size) wo wr) ∧ Hid (Bx wr w1.heap.size 23 (ro.flatMap RowA.cells ++ (.slice g t c9) :: List.replicate (n - j - 1) (.slice none 0 0))) ∧ Hid (RowO wo.heap.size wr 9 1 (.slice g t c9) t ((eachL G val j t).map Value.string))) (fun i _ => m - (intOf i).toNat)
   case atStart => exact ⟨0, none, 0, Nat.zero_le _, rfl, HK2, Hob, RowO.nil⟩
   case round =>
    obtain ⟨t, g, c9, ht, rfl, HK2, Hob9, Hr⟩ := hrel
    have hg9 := HK2.out
    clear bs_ Hob
    replace Hbs := Lib.hid (Hbs.out.keptP hg9 (show ¬ (_ = w1.heap.size) by have g0 := HZS.out; omega))
    replace HG := Lib.hid (HG.out.keptP hg9 (show ¬ (_ = w1.heap.size) by have g0 := HZS.out; omega))
    replace HB := Lib.hid (Below.keptP HB.out hg9 (by have g0 := HZS.out; omega) (fun q9 h9 => (show w.heap.size ≤ _ by subst h9; have g0 := HZS.out; omega)))
    replace HZS := sz HZS (show wo.heap.size ≤ wr.heap.size from hg9.size)
    clear hg9
    have bs_ := Hbs.out.c2
    have Hob := Hob9
    clear Hob9
    by_cases htm : t < m
    ·have hob : w1.heap.size < wr.heap.size := Hob.out.lt
     have hoc : wr.cell? ⟨w1.heap.size, j, none⟩ = some (.slice g t c9) := Hob.out.cell (mid_get (by rw [rows_len, HRL.out]))
     go_wp2_with fail
     have HT := Lib.hid (show Below wr.heap.size wr wr.drew from (Below.refl _ _).drew)
     have hl_bs := Hbs.out.lt
     refine wp_region_treek (fun wq9 => ∃ E : But wr (Value.ownBlock (.slice g t c9)), wq9 = E.w) 16 ((.qs [0, 1, 2, 3, 4] (.e 5 [] (.qs [6] (.e 7 [] (.qs [8, 9, 10] (.a 11 (.a 12 (.a 13 (.a 14 (.qs [15] (.a 16 .done)))))))))))) (by kernel_rfl) (by kernel_rfl) (fun _ _ d _ _ h => by cases d <;> exact h) ⟨⟨_, ((below_grown HT.out).but _)⟩, rfl⟩ ?_
     have hov_bs := fun (E : But wr (Value.ownBlock (.slice g t c9))) o => E.cell (b := w.heap.size) o hl_bs (by intro e9; have a1 := Hr.out.lt _ e9; have g0 := HZS.out; omega)
     have hov_w1_heap_size := fun (E : But wr (Value.ownBlock (.slice g t c9))) o => E.cell (b := w1.heap.size) o hob (by intro e9; have a1 := Hr.out.lt _ e9; have g0 := HZS.out; omega)
     simp only [TreeK.qs]
     repeat (first | (refine treek_q rfl rfl ?_; go_big_quiet_step (fail); refine wpQuiet_nil ?_) | (refine treek_e rfl rfl ?_; go_big_quiet_step (fail); refine wpQuiet_nil ?_))
     refine treek_a rfl (fun K hK => ?_)
     go_simp
     refine (HCALL.out _ (below_up HB.out HT.out) j t hjn (by rw [HMM.out]; exact htm)).mono ?_
     rintro e w2 ⟨rfl, hb9⟩
     replace HT := Lib.hid (below_up HT.out hb9)
     replace HZS := sz HZS (show wr.heap.size ≤ w2.heap.size from HT.out.size)
     clear hb9
     refine hK _ _ ⟨fun _ => ⟨⟨w2, ((below_grown HT.out).but _)⟩, rfl⟩, ?_⟩
     clear hK K
     repeat (first | (refine treek_q rfl rfl ?_; go_big_quiet_step (fail); refine wpQuiet_nil ?_) | (refine treek_e rfl rfl ?_; go_big_quiet_step (fail); refine wpQuiet_nil ?_))
     refine treek_a rfl (fun K hK => ?_)
     go_simp
     refine (gText_any G OK.out gb (val j t) _ (HG.out.up HT.out)).mono ?_
     rintro e w3 ⟨rfl, hb9⟩
     replace HT := Lib.hid (below_up HT.out hb9)
     replace HZS := sz HZS (show wr.heap.size ≤ w3.heap.size from HT.out.size)
     clear hb9
     refine hK _ _ ⟨fun _ => ⟨⟨w3, ((below_grown HT.out).but _)⟩, rfl⟩, ?_⟩
     clear hK K
     repeat (first | (refine treek_q rfl rfl ?_; go_big_quiet_step (fail); refine wpQuiet_nil ?_) | (refine treek_e rfl rfl ?_; go_big_quiet_step (fail); refine wpQuiet_nil ?_))
     clear hoc hob hov_bs hl_bs hov_w1_heap_size
     refine treek_a rfl (fun K hK => ?_)
     go_simp
     refine hK _ _ ⟨fun _ => ⟨⟨_, (below_grown (HT.out.alloc HT.out.size _)).but _⟩, rfl⟩, ?_⟩
     clear hK K
     obtain ⟨i9, hi9, hz90, hz91, hz92⟩ := info_parts infoStr
     have HG1 := Lib.hid ((below_grown HT.out).but (Value.ownBlock (.slice g t c9)))
     clear bs_
     replace Hbs := Lib.hid (Hbs.out.up HT.out)
     replace Hob := Lib.hid (Hob.out.up HT.out)
     replace HG := Lib.hid (HG.out.up HT.out)
     replace Hr := Lib.hid (Hr.out.up HT.out)
     replace HK2 := Lib.hid (Kept.up HK2.out HT.out)
     replace HB := hbu HB HT.out
     replace HZS := sz HZS HT.out.size
     refine treek_a rfl (fun K hK => ?_)
     refine step_pushF (wo.heap.size) w3 (by have g0 := HZS.out; omega) rfl _ _ 23 rfl 9 i9 _ 1 16 Tryz.underlying23 hi9 hz90 hz91 hz92 rfl (by omega) ((.slice g t c9)) (t) (((eachL G val j t).map Value.string)) rfl Hr.out _ _ _ rfl rfl rfl (by simp [Value.oneCell']) (by omega) (by unfold maxLen; omega) ?_
     intro g4 c4 w4 hown9 hg9 hf9
     have HF9 := Lib.hid hf9
     clear hf9
     have HGR := Lib.hid (HG1.out.trans hg9)
     have hb9 := Below.grown HB.out hg9 (by have g0 := HZS.out; omega) (fun q hq => Nat.le_trans (show w.heap.size ≤ wo.heap.size by have g0 := HZS.out; omega) (Hr.out.lt q hq).1)
     replace Hbs := Lib.hid (Hbs.out.grown hg9 (fun e9 => by have a1 := Hr.out.lt _ e9; have g0 := HZS.out; omega))
     replace Hob := Lib.hid (Hob.out.grown hg9 (fun e9 => by have a1 := Hr.out.lt _ e9; have g0 := HZS.out; omega))
     replace HG := Lib.hid (HG.out.grown hg9 (fun e9 => by have a1 := Hr.out.lt _ e9; have g0 := HZS.out; omega))
     replace HK2 := Lib.hid (Kept.grown HK2.out hg9 (fun q hq => Or.inl (Nat.le_trans (show wo.heap.size ≤ wo.heap.size by have g0 := HZS.out; omega) (Hr.out.lt q hq).1)))
     replace HZS := sz HZS hg9.size
     clear Hr HB HT HG1
     have Hr := Lib.hid hown9
     have HB := Lib.hid hb9
     clear hb9 hown9 hg9 hi9 hz90 hz91 hz92
     refine hK _ _ ⟨fun _ => ⟨⟨w4, HGR.out⟩, rfl⟩, ?_⟩
     clear hK K HGR
     try simp only [Act.put, List.setIfInBounds_toArray, List.set_cons_succ, List.set_cons_zero]
     repeat (first | (refine treek_q rfl rfl ?_; go_big_quiet_step (fail); refine wpQuiet_nil ?_) | (refine treek_e rfl rfl ?_; go_big_quiet_step (fail); refine wpQuiet_nil ?_))
     replace HZS := sz HZS (Hr.out.lt g4 rfl).1
     have hoc := Hob.out.cell (mid_get (v := .slice g t c9) (ys := List.replicate (n - j - 1) (.slice none 0 0)) (show (ro.flatMap RowA.cells).length = j by rw [rows_len, HRL.out]))
     have bs_ := Hbs.out.c2
     have f5_ob := Hob.out.frozen
     have o5_bs_ := bs_; clear bs_
     obtain ⟨w5, hq5, hg9, hz9, hx9⟩ := put1 Hob j (.slice (some ⟨g4, 0, none⟩) (t + 1) c4) _ rfl
     replace Hbs := Lib.hid (Hbs.out.grown hg9.out (sne (by have g0 := HZS.out; omega)))
     replace HG := Lib.hid (HG.out.grown hg9.out (sne (by have g0 := HZS.out; omega)))
     replace Hr := Lib.hid (RowO.grown Hr.out hg9.out (fun q9 e8 e9 => by have a1 := Hr.out.lt _ e8; have a0 := Option.some.inj e9; have g0 := HZS.out; omega))
     replace HK2 := Lib.hid (Kept.grown HK2.out hg9.out (fun q9 e9 => by obtain rfl := Option.some.inj e9; exact Or.inr (rfl)))
     replace HB := hbg HB hg9 (by have g0 := HZS.out; omega)
     replace HZS := sz HZS hz9.out
     replace Hob := hx9
     clear hx9 hg9 hz9
     have bs_ := Hbs.out.c2
     refine treek_a rfl (fun K hK => ?_)
     go_simp
     try rw [hq5]
     refine hK _ _ ⟨fun h9 => absurd rfl h9, ?_⟩
     clear hK K hq5 o5_bs_ f5_ob hoc
     refine treek_end ?_
     go_wp2_with fail
     go_roundw
     case rel => exact ⟨t + 1, _, _, by omega, by go_num, HK2, Lib.hid (by have h9 := Hob.out; rwa [mid_set (by rw [rows_len, HRL.out])] at h9), Hr.out.eq (eachL_snoc G val j t).symm rfl⟩
     case measure => simp [intOf]; omega
    ·have htm' : t = m := by omega
     subst htm'
     have HROW := Lib.hid (show RowsNew wm.heap.size wr (ro ++ [⟨g, c9, eachL G val j t⟩]) from fun x hx => by
      rcases List.mem_append.1 hx with hx | hx
      ·exact (HRN.out.kept HK2.out (by have a0 := HZM.out; omega)) x hx
      ·obtain rfl := List.mem_singleton.1 hx
       exact ⟨Hr.out.sl, fun y hy => Nat.le_trans (by have a1 := HZS.out; omega) (RowO.own_le Hr.out hy), RowO.rowOk Hr.out⟩)
     go_wp2_with fail
     go_roundw
     case rel => exact ⟨j + 1, ro ++ [⟨g, c9, eachL G val j t⟩], by omega, by go_num, Lib.hid (by rw [List.length_append, HRL.out]; rfl), Lib.hid (by rw [List.map_append, HRM.out, eachA_snoc, HMM.out]; rfl), Lib.hid (HK.out.trans HK2.out), Lib.hid (by rw [List.flatMap_append]; have h9 := Hob.out; simpa [RowA.cells, eachL_len, Nat.sub_sub] using h9), HROW⟩
     case measure => simp [intOf]; omega
  ·have hjn' : j = n := by omega
   subst hjn'
   have hsl : Sl wr wr.heap.size (some ⟨w1.heap.size, 0, none⟩) (ro.flatMap RowA.cells) := by
    have h9 := Hob.out
    rw [Nat.sub_self, List.replicate_zero, List.append_nil] at h9
    simpa using Sl.of_block h9
   have HSL := Lib.hid hsl
   clear hsl
   go_wp2_with fail
   go_ret
   exact ⟨HB.out, _, j, ro, by rw [eachA_len]; rfl, HRM.out, ⟨HSL.out, fun r hr => (HRN.out r hr).1⟩, fun r hr => (HRN.out r hr).2.2, fun x hx => by cases hx; show w.heap.size ≤ w1.heap.size; have a0 := HZ9.out; omega, fun r hr x hx => Nat.le_trans (show w.heap.size ≤ wm.heap.size by have a0 := HZ9.out; have a1 := HZM.out; omega) ((HRN.out r hr).2.1 x hx)⟩
end Go.Proofs.YtdlnnkbigeiilaaGreat
namespace Go.Proofs.YtdlnnkbigeiilaaGreat
open Go.RowKit
theorem cell_up {W w1 : World} {n b o : Nat} {v : Value} (hb : Below n W w1) (hl : b < n) (h : W.cell? ⟨b, o, none⟩ = some v) : w1.cell? ⟨b, o, none⟩ = some v := (hb.cell (p := ⟨b, o, none⟩) hl).trans h
theorem first1_any (G : GP) (ok : G.Ok) (gb b1 b2 : Nat) (rs : List ClaimR) (n : Nat) (a : Option Addr) (c : Nat) (xs : List ByteArray) (ax : Option Addr) (cx i t : Nat) (hi : i < rs.length) (hix : i < xs.length) (ht : t < rs[i].k.bases.length) (w : World) (hG : GroupAt w gb G) (hS : SetAt G w a rs) (hX : Sl w w.heap.size ax (xs.flatMap (limC G.q.m)))
  (hrs : rs.length = n) (hxs : xs.length = n) (h1 : Bx w b1 64 [.pointer (some ⟨gb, 0, none⟩), .slice a n c]) (h2 : Bx w b2 65 [.slice ax n cx]) :
  Calls Tryz.prog 121 #[.int .i64 (i : Int), .int .i64 (t : Int), .pointer (some ⟨b1, 0, none⟩), .pointer (some ⟨b2, 0, none⟩)] w (Gives (elV G (numOf rs[i].k.bases[t] ^ (numOf xs[i] % G.q.m))) w) := by
 have HG := Lib.hid hG
 have HGB := Lib.hid hG.lt
 have OK := Lib.hid ok
 have HL1 := Lib.hid h1.lt
 have HL2 := Lib.hid h2.lt
 obtain ⟨ba, oa, rfl, hba0⟩ := hS.at i hi
 obtain ⟨bx, ox, rfl, hbx0⟩ := hX.adr (flat_ne (limC_len _) (by omega) (List.length_pos_iff.1 (by omega)))
 have hca := hS.cells (Below.refl _ _) i hi
 have hcx := (hX.elemS (limC_len _) (by omega) i hix).2
 have hAT := hS.e _ (List.getElem_mem hi)
 have hcb := (hAT.b.elemS (limC_len _) (by omega) t ht).2
 have HBB := Lib.hid hAT.bl
 have HBA := Lib.hid hba0
 have HBX := Lib.hid hbx0
 have hin : i < n := by omega
 have h11 := h1.cell (i := 0) rfl
 have h12 := h1.cell (i := 1) rfl
 have h21 := h2.cell (i := 0) rfl
 generalize xs[i] = x at *
 generalize rs[i] = r at *
 obtain ⟨m, hm⟩ : ∃ m, r.k.bases.length = m := ⟨_, rfl⟩
 have htm : t < m := by omega
 generalize r.k.bases[t] = bb at *
 have hca_0 := hca 0 _ rfl
 rw [Nat.add_zero] at hca_0
 have hca_1 := hca 1 _ rfl
 have hca_2 := hca 2 _ rfl
 clear hca
 have hcx_0 := hcx 0 _ rfl
 rw [Nat.add_zero] at hcx_0
 have hcx_1 := hcx 1 _ rfl
 have hcx_2 := hcx 2 _ rfl
 have hcx_3 := hcx 3 _ rfl
 clear hcx
 have hcb_0 := hcb 0 _ rfl
 rw [Nat.add_zero] at hcb_0
 have hcb_1 := hcb 1 _ rfl
 have hcb_2 := hcb 2 _ rfl
 have hcb_3 := hcb 3 _ rfl
 clear hcb
 rw [hm] at hca_1
 clear hAT hS hX hG ok h1 h2 hi hix ht hrs hxs hm
 unfold Gives elV limbV
 go_enter Tryz.func121, Tryz.ntmps121
 go_wp2_with fail
 have HZS := HGB
 replace HZS := sz HZS HL1.out
 replace HZS := sz HZS HL2.out
 replace HZS := sz HZS HBB.out
 replace HZS := sz HZS HBA.out
 replace HZS := sz HZS HBX.out
 have BW := Lib.hid (Below.refl w.heap.size w)
 obtain ⟨w1, hq1, hb9, hz9, Hbr⟩ := new1 w 127 [.int .u64 0, .int .u64 0, .int .u64 0, .int .u64 0]
 rw [hq1]
 clear hq1
 replace HG := Lib.hid (HG.out.up hb9)
 replace BW := hbu BW hb9
 have HB := Lib.hid hb9
 replace HZS := sz HZS hz9.out
 clear hb9 hz9
 have br_ := Hbr.out.c4
 replace h11 := cell_up BW.out HL1.out h11
 replace h12 := cell_up BW.out HL1.out h12
 replace h21 := cell_up BW.out HL2.out h21
 replace hca_0 := cell_up BW.out HBA.out hca_0
 replace hca_1 := cell_up BW.out HBA.out hca_1
 replace hca_2 := cell_up BW.out HBA.out hca_2
 replace hcx_0 := cell_up BW.out HBX.out hcx_0
 replace hcx_1 := cell_up BW.out HBX.out hcx_1
 replace hcx_2 := cell_up BW.out HBX.out hcx_2
 replace hcx_3 := cell_up BW.out HBX.out hcx_3
 replace hcb_0 := cell_up BW.out HBB.out hcb_0
 replace hcb_1 := cell_up BW.out HBB.out hcb_1
 replace hcb_2 := cell_up BW.out HBB.out hcb_2
 replace hcb_3 := cell_up BW.out HBB.out hcb_3
 have hl1 := Nat.lt_of_lt_of_le HL1.out BW.out.size
 have hl2 := Nat.lt_of_lt_of_le HL2.out BW.out.size
 have hba1 := Nat.lt_of_lt_of_le HBA.out BW.out.size
 have hbx1 := Nat.lt_of_lt_of_le HBX.out BW.out.size
 have hbb1 := Nat.lt_of_lt_of_le HBB.out BW.out.size
 clear hba0 hbx0
 have HT := Lib.hid (show Below w1.heap.size w1 w1.drew from (Below.refl _ _).drew)
 refine wp_region_tree (fun wq9 => ∃ E : But w1 (some (w.heap.size)), wq9 = E.w) ((.qs [0, 1, 2, 3, 4, 5, 6, 7, 8, 9, 10, 11, 12, 13, 14] (.a 15 (.a 16 .done)))) (by kernel_rfl) (by kernel_rfl) (fun _ _ d _ _ h => by cases d <;> exact h) ⟨⟨_, ((below_grown HT.out).but _)⟩, rfl⟩ ?_
 have hov_b1 := fun (E : But w1 (some (w.heap.size))) o => E.cell (b := b1) o hl1 (by intro e9; have a0 := Option.some.inj e9; have g0 := HZS.out; omega)
 have hov_b2 := fun (E : But w1 (some (w.heap.size))) o => E.cell (b := b2) o hl2 (by intro e9; have a0 := Option.some.inj e9; have g0 := HZS.out; omega)
 have hov_ba := fun (E : But w1 (some (w.heap.size))) o => E.cell (b := ba) o hba1 (by intro e9; have a0 := Option.some.inj e9; have g0 := HZS.out; omega)
 have hov_bx := fun (E : But w1 (some (w.heap.size))) o => E.cell (b := bx) o hbx1 (by intro e9; have a0 := Option.some.inj e9; have g0 := HZS.out; omega)
 have hov_r_bb := fun (E : But w1 (some (w.heap.size))) o => E.cell (b := r.bb) o hbb1 (by intro e9; have a0 := Option.some.inj e9; have g0 := HZS.out; omega)
 simp only [Tree.qs]
 repeat (refine tree_q rfl rfl ?_; go_big_quiet_step (fail); refine wpQuiet_nil ?_)
 refine tree_a rfl (fun K hK => ?_)
 go_simp
 refine (gPower_any G OK.out gb (numOf bb) (numOf x) _ (HG.out.up HT.out)).mono ?_
 rintro e w2 ⟨rfl, hb9⟩
 replace HT := Lib.hid (below_up HT.out hb9)
 replace HZS := sz HZS (show w1.heap.size ≤ w2.heap.size from HT.out.size)
 clear hb9
 unfold elV limbV
 refine hK _ _ ⟨⟨⟨w2, ((below_grown HT.out).but _)⟩, rfl⟩, ?_⟩
 clear hK K
 repeat (refine tree_q rfl rfl ?_; go_big_quiet_step (fail); refine wpQuiet_nil ?_)
 clear h11 h12 h21 hca_0 hca_1 hca_2 hcx_0 hcx_1 hcx_2 hcx_3 hcb_0 hcb_1 hcb_2 hcb_3 hov_b1 hov_b2 hov_ba hov_bx hov_r_bb
 refine tree_a rfl (fun K hK => ?_)
 clear br_
 replace Hbr := Lib.hid (Hbr.out.up HT.out)
 replace HG := Lib.hid (HG.out.up HT.out)
 replace HB := hbu HB HT.out
 replace HZS := sz HZS HT.out.size
 have br_ := Hbr.out.c4
 have f3_br := Hbr.out.frozen
 have o3_br_ := br_; clear br_
 obtain ⟨w3, hq3, hg9, hz9, hx9⟩ := put4 Hbr 0 (.int .u64 (dig (mont G.p.m (numOf bb ^ (numOf x % G.q.m))) 0 : Int)) 1 (.int .u64 (dig (mont G.p.m (numOf bb ^ (numOf x % G.q.m))) 1 : Int)) 2 (.int .u64 (dig (mont G.p.m (numOf bb ^ (numOf x % G.q.m))) 2 : Int)) 3 (.int .u64 (dig (mont G.p.m (numOf bb ^ (numOf x % G.q.m))) 3 : Int)) [.int .u64 (dig (mont G.p.m (numOf bb ^ (numOf x % G.q.m))) 0 : Int), .int .u64 (dig (mont G.p.m (numOf bb ^ (numOf x % G.q.m))) 1 : Int), .int .u64 (dig (mont G.p.m (numOf bb ^ (numOf x % G.q.m))) 2 : Int), .int .u64 (dig (mont G.p.m (numOf bb ^ (numOf x % G.q.m))) 3 : Int)] rfl
 replace HG := Lib.hid (HG.out.grown hg9.out (sne (by have g0 := HZS.out; omega)))
 replace HB := hbg HB hg9 (by have g0 := HZS.out; omega)
 replace HZS := sz HZS hz9.out
 replace Hbr := hx9
 have HGR := Lib.hid (((below_grown HT.out).but _).trans hg9.out)
 clear hx9 hg9 hz9
 have br_ := Hbr.out.c4
 clear HT
 go_simp
 try rw [hq3]
 refine hK _ _ ⟨⟨⟨w3, HGR.out⟩, rfl⟩, ?_⟩
 clear hK K HGR hq3 o3_br_ f3_br
 repeat (refine tree_q rfl rfl ?_; go_big_quiet_step (fail); refine wpQuiet_nil ?_)
 refine tree_end ?_
 go_wp2_with fail
 simp [bodyPost, results, Tryz.results121, go_sem, br_]
 exact HB.out
theorem back1_any (G : GP) (ok : G.Ok) (gb b1 b2 b3 y : Nat) (rs : List ClaimR) (n : Nat) (a : Option Addr) (c : Nat) (xs : List ByteArray) (ax : Option Addr) (cx i t : Nat) (hi : i < rs.length) (hix : i < xs.length) (ht : t < rs[i].k.bases.length) (hti : t < rs[i].k.images.length) (w : World) (hG : GroupAt w gb G) (hS : SetAt G w a rs) (hX : Sl w w.heap.size ax (xs.flatMap (limC G.q.m)))
  (hrs : rs.length = n) (hxs : xs.length = n) (h1 : Bx w b1 64 [.pointer (some ⟨gb, 0, none⟩), .slice a n c]) (h2 : Bx w b2 65 [.slice ax n cx]) (h3 : Bx w b3 72 (limN G.q.m y)) :
  Calls Tryz.prog 101 #[.int .i64 (i : Int), .int .i64 (t : Int), .pointer (some ⟨b1, 0, none⟩), .pointer (some ⟨b2, 0, none⟩), .pointer (some ⟨b3, 0, none⟩)] w (Gives (elV G (numOf rs[i].k.bases[t] ^ (numOf xs[i] % G.q.m) * numOf rs[i].k.images[t] ^ (y % G.q.m))) w) := by
 have HG := Lib.hid hG
 have HGB := Lib.hid hG.lt
 have OK := Lib.hid ok
 have HL1 := Lib.hid h1.lt
 have HL2 := Lib.hid h2.lt
 obtain ⟨ba, oa, rfl, hba0⟩ := hS.at i hi
 obtain ⟨bx, ox, rfl, hbx0⟩ := hX.adr (flat_ne (limC_len _) (by omega) (List.length_pos_iff.1 (by omega)))
 have hca := hS.cells (Below.refl _ _) i hi
 have hcx := (hX.elemS (limC_len _) (by omega) i hix).2
 have hAT := hS.e _ (List.getElem_mem hi)
 have hcb := (hAT.b.elemS (limC_len _) (by omega) t ht).2
 have HBB := Lib.hid hAT.bl
 have HBA := Lib.hid hba0
 have HBX := Lib.hid hbx0
 have HL3 := Lib.hid h3.lt
 have hci := (hAT.i.elemS (limC_len _) (by omega) t hti).2
 have HBI := Lib.hid hAT.il
 have hin : i < n := by omega
 have h11 := h1.cell (i := 0) rfl
 have h12 := h1.cell (i := 1) rfl
 have h21 := h2.cell (i := 0) rfl
 have h30 := h3.cell (i := 0) rfl
 have h31 := h3.cell (i := 1) rfl
 have h32 := h3.cell (i := 2) rfl
 have h33 := h3.cell (i := 3) rfl
 generalize xs[i] = x at *
 generalize rs[i] = r at *
 obtain ⟨m, hm⟩ : ∃ m, r.k.bases.length = m := ⟨_, rfl⟩
 obtain ⟨m2, hm2⟩ : ∃ m, r.k.images.length = m := ⟨_, rfl⟩
 have htm : t < m := by omega
 have htm2 : t < m2 := by omega
 generalize r.k.bases[t] = bb at *
 generalize r.k.images[t] = mm at *
 have hca_0 := hca 0 _ rfl
 rw [Nat.add_zero] at hca_0
 have hca_1 := hca 1 _ rfl
 have hca_2 := hca 2 _ rfl
 clear hca
 have hcx_0 := hcx 0 _ rfl
 rw [Nat.add_zero] at hcx_0
 have hcx_1 := hcx 1 _ rfl
 have hcx_2 := hcx 2 _ rfl
 have hcx_3 := hcx 3 _ rfl
 clear hcx
 have hcb_0 := hcb 0 _ rfl
 rw [Nat.add_zero] at hcb_0
 have hcb_1 := hcb 1 _ rfl
 have hcb_2 := hcb 2 _ rfl
 have hcb_3 := hcb 3 _ rfl
 clear hcb
 have hci_0 := hci 0 _ rfl
 rw [Nat.add_zero] at hci_0
 have hci_1 := hci 1 _ rfl
 have hci_2 := hci 2 _ rfl
 have hci_3 := hci 3 _ rfl
 clear hci
 rw [hm] at hca_1
 rw [hm2] at hca_2
 clear hAT hS hX hG ok h1 h2 h3 hi hix ht hti hrs hxs hm hm2
 unfold Gives elV limbV
 go_enter Tryz.func101, Tryz.ntmps101
 go_wp2_with fail
 have HZS := HGB
 replace HZS := sz HZS HL1.out
 replace HZS := sz HZS HL2.out
 replace HZS := sz HZS HL3.out
 replace HZS := sz HZS HBB.out
 replace HZS := sz HZS HBA.out
 replace HZS := sz HZS HBX.out
 replace HZS := sz HZS HBI.out
 have BW := Lib.hid (Below.refl w.heap.size w)
 obtain ⟨w1, hq1, hb9, hz9, Hbr⟩ := new1 w 127 [.int .u64 0, .int .u64 0, .int .u64 0, .int .u64 0]
 rw [hq1]
 clear hq1
 replace HG := Lib.hid (HG.out.up hb9)
 replace BW := hbu BW hb9
 have HB := Lib.hid hb9
 replace HZS := sz HZS hz9.out
 clear hb9 hz9
 have br_ := Hbr.out.c4
 replace h11 := cell_up BW.out HL1.out h11
 replace h12 := cell_up BW.out HL1.out h12
 replace h21 := cell_up BW.out HL2.out h21
 replace hca_0 := cell_up BW.out HBA.out hca_0
 replace hca_1 := cell_up BW.out HBA.out hca_1
 replace hca_2 := cell_up BW.out HBA.out hca_2
 replace hcx_0 := cell_up BW.out HBX.out hcx_0
 replace hcx_1 := cell_up BW.out HBX.out hcx_1
 replace hcx_2 := cell_up BW.out HBX.out hcx_2
 replace hcx_3 := cell_up BW.out HBX.out hcx_3
 replace hcb_0 := cell_up BW.out HBB.out hcb_0
 replace hcb_1 := cell_up BW.out HBB.out hcb_1
 replace hcb_2 := cell_up BW.out HBB.out hcb_2
 replace hcb_3 := cell_up BW.out HBB.out hcb_3
 have hl1 := Nat.lt_of_lt_of_le HL1.out BW.out.size
 have hl2 := Nat.lt_of_lt_of_le HL2.out BW.out.size
 have hba1 := Nat.lt_of_lt_of_le HBA.out BW.out.size
 have hbx1 := Nat.lt_of_lt_of_le HBX.out BW.out.size
 have hbb1 := Nat.lt_of_lt_of_le HBB.out BW.out.size
 clear hba0 hbx0
 replace h30 := cell_up BW.out HL3.out h30
 replace h31 := cell_up BW.out HL3.out h31
 replace h32 := cell_up BW.out HL3.out h32
 replace h33 := cell_up BW.out HL3.out h33
 replace hci_0 := cell_up BW.out HBI.out hci_0
 replace hci_1 := cell_up BW.out HBI.out hci_1
 replace hci_2 := cell_up BW.out HBI.out hci_2
 replace hci_3 := cell_up BW.out HBI.out hci_3
 have hl3 := Nat.lt_of_lt_of_le HL3.out BW.out.size
 have hbi1 := Nat.lt_of_lt_of_le HBI.out BW.out.size
 have HT := Lib.hid (show Below w1.heap.size w1 w1.drew from (Below.refl _ _).drew)
 refine wp_region_tree (fun wq9 => ∃ E : But w1 (some (w.heap.size)), wq9 = E.w) ((.qs [0, 1, 2, 3, 4, 5, 6, 7, 8, 9, 10, 11, 12, 13, 14, 15, 16, 18, 19, 20, 21, 22, 23, 24, 25, 26, 27, 28, 29] (.a 17 (.a 30 (.a 31 (.a 32 .done)))))) (by kernel_rfl) (by kernel_rfl) (fun _ _ d _ _ h => by cases d <;> exact h) ⟨⟨_, ((below_grown HT.out).but _)⟩, rfl⟩ ?_
 have hov_b1 := fun (E : But w1 (some (w.heap.size))) o => E.cell (b := b1) o hl1 (by intro e9; have a0 := Option.some.inj e9; have g0 := HZS.out; omega)
 have hov_b2 := fun (E : But w1 (some (w.heap.size))) o => E.cell (b := b2) o hl2 (by intro e9; have a0 := Option.some.inj e9; have g0 := HZS.out; omega)
 have hov_b3 := fun (E : But w1 (some (w.heap.size))) o => E.cell (b := b3) o hl3 (by intro e9; have a0 := Option.some.inj e9; have g0 := HZS.out; omega)
 have hov_ba := fun (E : But w1 (some (w.heap.size))) o => E.cell (b := ba) o hba1 (by intro e9; have a0 := Option.some.inj e9; have g0 := HZS.out; omega)
 have hov_bx := fun (E : But w1 (some (w.heap.size))) o => E.cell (b := bx) o hbx1 (by intro e9; have a0 := Option.some.inj e9; have g0 := HZS.out; omega)
 have hov_r_bb := fun (E : But w1 (some (w.heap.size))) o => E.cell (b := r.bb) o hbb1 (by intro e9; have a0 := Option.some.inj e9; have g0 := HZS.out; omega)
 have hov_r_ib := fun (E : But w1 (some (w.heap.size))) o => E.cell (b := r.ib) o hbi1 (by intro e9; have a0 := Option.some.inj e9; have g0 := HZS.out; omega)
 simp only [Tree.qs]
 repeat (refine tree_q rfl rfl ?_; go_big_quiet_step (fail); refine wpQuiet_nil ?_)
 refine tree_a rfl (fun K hK => ?_)
 go_simp
 refine (gPower_any G OK.out gb (numOf bb) (numOf x) _ (HG.out.up HT.out)).mono ?_
 rintro e w2 ⟨rfl, hb9⟩
 replace HT := Lib.hid (below_up HT.out hb9)
 replace HZS := sz HZS (show w1.heap.size ≤ w2.heap.size from HT.out.size)
 clear hb9
 refine hK _ _ ⟨⟨⟨w2, ((below_grown HT.out).but _)⟩, rfl⟩, ?_⟩
 clear hK K
 repeat (refine tree_q rfl rfl ?_; go_big_quiet_step (fail); refine wpQuiet_nil ?_)
 refine tree_a rfl (fun K hK => ?_)
 go_simp
 refine (gPower_any G OK.out gb (numOf mm) y _ (HG.out.up HT.out)).mono ?_
 rintro e w3 ⟨rfl, hb9⟩
 replace HT := Lib.hid (below_up HT.out hb9)
 replace HZS := sz HZS (show w1.heap.size ≤ w3.heap.size from HT.out.size)
 clear hb9
 refine hK _ _ ⟨⟨⟨w3, ((below_grown HT.out).but _)⟩, rfl⟩, ?_⟩
 clear hK K
 repeat (refine tree_q rfl rfl ?_; go_big_quiet_step (fail); refine wpQuiet_nil ?_)
 refine tree_a rfl (fun K hK => ?_)
 go_simp
 refine (gTimes_any G OK.out gb (numOf bb ^ (numOf x % G.q.m)) (numOf mm ^ (y % G.q.m)) _ (HG.out.up HT.out)).mono ?_
 rintro e w4 ⟨rfl, hb9⟩
 replace HT := Lib.hid (below_up HT.out hb9)
 replace HZS := sz HZS (show w1.heap.size ≤ w4.heap.size from HT.out.size)
 clear hb9
 unfold elV limbV
 refine hK _ _ ⟨⟨⟨w4, ((below_grown HT.out).but _)⟩, rfl⟩, ?_⟩
 clear hK K
 repeat (refine tree_q rfl rfl ?_; go_big_quiet_step (fail); refine wpQuiet_nil ?_)
 clear h11 h12 h21 h30 h31 h32 h33 hca_0 hca_1 hca_2 hcx_0 hcx_1 hcx_2 hcx_3 hcb_0 hcb_1 hcb_2 hcb_3 hci_0 hci_1 hci_2 hci_3 hov_b1 hov_b2 hov_b3 hov_ba hov_bx hov_r_bb hov_r_ib
 refine tree_a rfl (fun K hK => ?_)
 clear br_
 replace Hbr := Lib.hid (Hbr.out.up HT.out)
 replace HG := Lib.hid (HG.out.up HT.out)
 replace HB := hbu HB HT.out
 replace HZS := sz HZS HT.out.size
 have br_ := Hbr.out.c4
 have f5_br := Hbr.out.frozen
 have o5_br_ := br_; clear br_
 obtain ⟨w5, hq5, hg9, hz9, hx9⟩ := put4 Hbr 0 (.int .u64 (dig (mont G.p.m (numOf bb ^ (numOf x % G.q.m) * numOf mm ^ (y % G.q.m))) 0 : Int)) 1 (.int .u64 (dig (mont G.p.m (numOf bb ^ (numOf x % G.q.m) * numOf mm ^ (y % G.q.m))) 1 : Int)) 2 (.int .u64 (dig (mont G.p.m (numOf bb ^ (numOf x % G.q.m) * numOf mm ^ (y % G.q.m))) 2 : Int)) 3 (.int .u64 (dig (mont G.p.m (numOf bb ^ (numOf x % G.q.m) * numOf mm ^ (y % G.q.m))) 3 : Int)) [.int .u64 (dig (mont G.p.m (numOf bb ^ (numOf x % G.q.m) * numOf mm ^ (y % G.q.m))) 0 : Int), .int .u64 (dig (mont G.p.m (numOf bb ^ (numOf x % G.q.m) * numOf mm ^ (y % G.q.m))) 1 : Int), .int .u64 (dig (mont G.p.m (numOf bb ^ (numOf x % G.q.m) * numOf mm ^ (y % G.q.m))) 2 : Int), .int .u64 (dig (mont G.p.m (numOf bb ^ (numOf x % G.q.m) * numOf mm ^ (y % G.q.m))) 3 : Int)] rfl
 replace HG := Lib.hid (HG.out.grown hg9.out (sne (by have g0 := HZS.out; omega)))
 replace HB := hbg HB hg9 (by have g0 := HZS.out; omega)
 replace HZS := sz HZS hz9.out
 replace Hbr := hx9
 have HGR := Lib.hid (((below_grown HT.out).but _).trans hg9.out)
 clear hx9 hg9 hz9
 have br_ := Hbr.out.c4
 clear HT
 go_simp
 try rw [hq5]
 refine hK _ _ ⟨⟨⟨w5, HGR.out⟩, rfl⟩, ?_⟩
 clear hK K HGR hq5 o5_br_ f5_br
 repeat (refine tree_q rfl rfl ?_; go_big_quiet_step (fail); refine wpQuiet_nil ?_)
 refine tree_end ?_
 go_wp2_with fail
 simp [bodyPost, results, Tryz.results101, go_sem, br_]
 exact HB.out
end Go.Proofs.YtdlnnkbigeiilaaGreat
namespace Go.Proofs.YtdlnnkbigeiilaaGreat
open Go.RowKit
def hold2 (G : GP) (x : ByteArray) (b m : ByteArray) : Bool := decide (lowN G (numOf b ^ (numOf x % G.q.m)) = lowN G (numOf m))
def hold1 (G : GP) (k : ClaimA) (x : ByteArray) : Bool := (List.zipWith (hold2 G x) k.bases k.images).all id
def holdP (G : GP) (l : List ClaimA) (xs : List ByteArray) : Bool := (List.zipWith (hold1 G) l xs).all id
theorem gSame_b (G : GP) (ok : G.Ok) (gb x y : Nat) (b : Bool) (hb : decide (lowN G x = lowN G y) = b) (w : World) (hG : GroupAt w gb G) :
  Calls Tryz.prog 119 #[.pointer (some ⟨gb, 0, none⟩), elV G x, elV G y] w (Gives (.bool b) w) := by
 subst hb
 exact gSame_any G ok gb x y w hG
theorem zalls_snoc {α β : Type} {f : α → β → Bool} {l : List α} {m : List β} {j : Nat} (hl : j < l.length) (hm : j < m.length) (h : ((List.zipWith f l m).take j).all id = true) (h1 : f l[j] m[j] = true) : ((List.zipWith f l m).take (j + 1)).all id = true := by
 rw [List.take_succ_eq_append_getElem (by rw [List.length_zipWith]; omega), List.all_append, h, List.getElem_zipWith, h1]
 rfl
theorem zalls_not {α β : Type} {f : α → β → Bool} {l : List α} {m : List β} {j : Nat} (hl : j < l.length) (hm : j < m.length) (h1 : f l[j] m[j] = false) : (List.zipWith f l m).all id = false := by
 rw [List.all_eq_false]
 exact ⟨(List.zipWith f l m)[j]'(by rw [List.length_zipWith]; omega), List.getElem_mem _, by rw [List.getElem_zipWith]; simp [h1]⟩
theorem zalls_end {α β : Type} {f : α → β → Bool} {l : List α} {m : List β} {n : Nat} (hl : l.length = n) (h : ((List.zipWith f l m).take n).all id = true) : (List.zipWith f l m).all id = true := by
 rwa [List.take_of_length_le (by rw [List.length_zipWith]; omega)] at h
theorem holds_any (G : GP) (ok : G.Ok) (gb : Nat) (rs : List ClaimR) (n : Nat) (hrs : rs.length = n) (a : Option Addr) (c : Nat) (xs : List ByteArray) (hxs : xs.length = n) (ax : Option Addr) (cx : Nat) (hn : n ≤ 64) (hsh : ∀ r ∈ rs, r.k.bases.length ≤ 8 ∧ r.k.images.length = r.k.bases.length) (b : Bool) (hb : holdP G (rs.map ClaimR.k) xs = b) (w : World) (hG : GroupAt w gb G) (hS : SetAt G w a rs) (hX : Sl w w.heap.size ax (xs.flatMap (limC G.q.m))) :
  Calls Tryz.prog 64 #[.agg #[.pointer (some ⟨gb, 0, none⟩), .slice a n c], .slice ax n cx] w (Gives (.bool b) w) := by
 have HRS := Lib.hid hrs
 have HXS := Lib.hid hxs
 have HSH := Lib.hid hsh
 have HBB := Lib.hid hb
 have HG := Lib.hid hG
 have OK := Lib.hid ok
 have HS := Lib.hid hS
 have HX := Lib.hid hX
 clear hrs hxs hsh hb hG ok hS hX
 unfold Gives
 go_enter Tryz.func64, Tryz.ntmps64
 go_wp2_with fail
 obtain ⟨w1, hq1, hb9, hz9, Hbs⟩ := new1 w 64 [.pointer (some ⟨gb, 0, none⟩), .slice a n c]
 rw [hq1]
 clear hq1
 replace HG := Lib.hid (HG.out.up hb9)
 have HB := Lib.hid hb9
 have HZS := hz9
 clear hb9 hz9
 have bs_ := Hbs.out.c2
 have BL := Lib.hid (Below.refl w1.heap.size w1)
 go_wp2_with fail
 go_loopw [12] (fun i wr => ∃ j : Nat, j ≤ n ∧ i = .int .i64 j ∧ Hid (Below w1.heap.size w1 wr) ∧ Hid (((List.zipWith (hold1 G) (rs.map ClaimR.k) xs).take j).all id = true)) (fun i _ => n - (intOf i).toNat)
 case atStart => exact ⟨0, Nat.zero_le _, rfl, BL, rfl⟩
 case round =>
  obtain ⟨j, hj, rfl, HL9, HAL⟩ := hrel
  have hb9 := HL9.out
  clear HL9 bs_
  replace Hbs := Lib.hid (Hbs.out.up hb9)
  replace HG := Lib.hid (HG.out.up hb9)
  replace BL := hbu BL hb9
  replace HB := hbu HB hb9
  replace HZS := sz HZS hb9.size
  clear hb9
  have bs_ := Hbs.out.c2
  by_cases hjn : j < n
  ·have hjr : j < rs.length := by rw [HRS.out]; exact hjn
   have hjx : j < xs.length := by rw [HXS.out]; exact hjn
   obtain ⟨ba, oa, rfl, hba⟩ := HS.out.at j hjr
   obtain ⟨bx, ox, rfl, hbx0⟩ := HX.out.adr (flat_ne (limC_len _) (by omega) (List.length_pos_iff.1 (by omega)))
   have HSA := Lib.hid (HS.out.up HB.out)
   have hcx := ((HX.out.up HB.out).elemS (limC_len _) (by omega) j hjx).2
   have hca := HSA.out.cells (Below.refl _ _) j hjr
   have HAT := Lib.hid (HSA.out.e _ (List.getElem_mem hjr))
   have HSJ := Lib.hid (HSH.out _ (List.getElem_mem hjr))
   have HSN := Lib.hid (zalls_snoc (f := hold1 G) (l := rs.map ClaimR.k) (m := xs) (by simpa using hjr) hjx HAL.out)
   have HNO := Lib.hid (zalls_not (f := hold1 G) (l := rs.map ClaimR.k) (m := xs) (by simpa using hjr) hjx)
   rw [List.getElem_map] at HSN HNO
   have HPW := Lib.hid (fun (w1 : World) (x : Nat) (h1 : GroupAt w1 gb G) (h2 : SetAt G w1 (some ⟨ba, oa, none⟩) rs) => powers_any G OK.out gb rs (some ⟨ba, oa, none⟩) c j hjr x HSJ.out.1 w1 h1 h2)
   rw [HRS.out] at HPW
   generalize rs[j] = r at *
   generalize xs[j] = x at *
   have hca_0 := hca 0 _ rfl
   rw [Nat.add_zero] at hca_0
   have hca_1 := hca 1 _ rfl
   have hca_2 := hca 2 _ rfl
   clear hca
   have hcx_0 := hcx 0 _ rfl
   rw [Nat.add_zero] at hcx_0
   have hcx_1 := hcx 1 _ rfl
   have hcx_2 := hcx 2 _ rfl
   have hcx_3 := hcx 3 _ rfl
   clear hcx
   have hbx := Nat.lt_of_lt_of_le hbx0 HB.out.size
   have BR := Lib.hid (Below.refl wr.heap.size wr)
   have o2_bs_ := bs_; clear bs_
   obtain ⟨w2, hq2, hb9, hz9, Hbc⟩ := new1 wr 154 [.pointer (some ⟨r.pb, r.po, none⟩), .slice (some ⟨r.bb, r.bo, none⟩) r.k.bases.length r.bc, .slice (some ⟨r.ib, r.io, none⟩) r.k.images.length r.ic]
   replace Hbs := Lib.hid (Hbs.out.up hb9)
   replace HG := Lib.hid (HG.out.up hb9)
   replace BL := hbu BL hb9
   replace BR := hbu BR hb9
   replace HB := hbu HB hb9
   replace HZS := sz HZS hz9.out
   clear hb9 hz9
   have bs_ := Hbs.out.c2
   have bc_ := Hbc.out.c3
   go_wp2_with fail
   clear hq2 o2_bs_
   have hbx' := Nat.lt_of_lt_of_le hbx BR.out.size
   have hcx_0' := (BR.out.cell (p := ⟨bx, ox + j * 4, none⟩) hbx).trans hcx_0
   have hcx_1' := (BR.out.cell (p := ⟨bx, ox + j * 4 + 1, none⟩) hbx).trans hcx_1
   have hcx_2' := (BR.out.cell (p := ⟨bx, ox + j * 4 + 2, none⟩) hbx).trans hcx_2
   have hcx_3' := (BR.out.cell (p := ⟨bx, ox + j * 4 + 3, none⟩) hbx).trans hcx_3
   clear hca_0 hca_1 hca_2 hcx_0 hcx_1 hcx_2 hcx_3
   have HT := Lib.hid (show Below w2.heap.size w2 w2.drew from (Below.refl _ _).drew)
   have hl_bs := Hbs.out.lt
   have hl_bc := Hbc.out.lt
   refine wp_region_tree (fun wq9 => ∃ E : Over w2, wq9 = E.w) ((.qs [0, 1, 2, 3, 4, 5, 8] (.a 6 (.qs [7] .done)))) (by kernel_rfl) (by kernel_rfl) (fun _ _ d _ _ h => by cases d <;> exact h) ⟨⟨_, HT.out⟩, rfl⟩ ?_
   have hov_bs := fun (E : Over w2) o => E.cell (b := w.heap.size) o hl_bs
   have hov_bc := fun (E : Over w2) o => E.cell (b := wr.heap.size) o hl_bc
   have hov_bx := fun (E : Over w2) o => E.cell (b := bx) o hbx'
   simp only [Tree.qs]
   repeat (refine tree_q rfl rfl ?_; go_big_quiet_step (fail); refine wpQuiet_nil ?_)
   refine tree_a rfl (fun K hK => ?_)
   go_simp
   refine (HPW.out _ (numOf x) (HG.out.up HT.out) (HSA.out.up (below_up BR.out HT.out))).mono ?_
   rintro e w3 ⟨a9, c9, rfl, hb9, hs9⟩
   replace HT := Lib.hid (below_up HT.out hb9)
   replace HZS := sz HZS (show w2.heap.size ≤ w3.heap.size from HT.out.size)
   clear hb9
   have HP := Lib.hid hs9
   clear hs9
   refine hK _ _ ⟨⟨⟨w3, HT.out⟩, rfl⟩, ?_⟩
   clear hK K
   repeat (refine tree_q rfl rfl ?_; go_big_quiet_step (fail); refine wpQuiet_nil ?_)
   refine tree_end ?_
   clear hov_bs hl_bs hov_bc hl_bc hov_bx bs_
   replace Hbs := Lib.hid (Hbs.out.up HT.out)
   clear bc_
   replace Hbc := Lib.hid (Hbc.out.up HT.out)
   replace HG := Lib.hid (HG.out.up HT.out)
   replace BL := hbu BL HT.out
   replace BR := hbu BR HT.out
   replace HB := hbu HB HT.out
   replace HZS := sz HZS HT.out.size
   clear HT
   have bs_ := Hbs.out.c2
   have bc_ := Hbc.out.c3
   clear hcx_0' hcx_1' hcx_2' hcx_3' hbx'
   have hm8 := HSJ.out.1
   obtain ⟨wo, rfl⟩ : ∃ wo : World, wo = wr := ⟨_, rfl⟩
   have BI := Lib.hid (Below.refl w3.heap.size w3)
   go_wp2_with fail
   go_loopw [25] (fun i wr => ∃ t : Nat, t ≤ r.k.bases.length ∧ i = .int .i64 t ∧ Hid (Below w3.heap.size w3 wr) ∧ Hid (((List.zipWith (hold2 G x) r.k.bases r.k.images).take t).all id = true)) (fun i _ => r.k.bases.length - (intOf i).toNat)
   case atStart => exact ⟨0, Nat.zero_le _, rfl, BI, rfl⟩
   case round =>
    obtain ⟨t, ht, rfl, HL9, HAI⟩ := hrel
    have hb9 := HL9.out
    clear HL9 bs_
    replace Hbs := Lib.hid (Hbs.out.up hb9)
    clear bc_
    replace Hbc := Lib.hid (Hbc.out.up hb9)
    replace HG := Lib.hid (HG.out.up hb9)
    replace BL := hbu BL hb9
    replace BR := hbu BR hb9
    replace BI := hbu BI hb9
    replace HB := hbu HB hb9
    replace HZS := sz HZS hb9.size
    clear hb9
    have bs_ := Hbs.out.c2
    have bc_ := Hbc.out.c3
    by_cases htm : t < r.k.bases.length
    ·have hti : t < r.k.images.length := by rw [HSJ.out.2]; exact htm
     obtain ⟨b9, o9, rfl, hb90, hb9', hcp⟩ := HP.out.elemUp BI.out (powC_len G _) (by omega) t htm
     have hci := ((HAT.out.i.up BR.out).elemS (limC_len _) (by omega) t hti).2
     have hil := Nat.lt_of_lt_of_le HAT.out.il BR.out.size
     have HTN := Lib.hid (zalls_snoc (f := hold2 G x) htm hti HAI.out)
     have HTO := Lib.hid (zalls_not (f := hold2 G x) htm hti)
     generalize r.k.bases[t] = bb at *
     generalize r.k.images[t] = mm at *
     obtain ⟨q, hq⟩ : ∃ q, hold2 G x bb mm = q := ⟨_, rfl⟩
     have HQ := Lib.hid hq
     clear hq
     have hcp_0 := hcp 0 _ rfl
     rw [Nat.add_zero] at hcp_0
     have hcp_1 := hcp 1 _ rfl
     have hcp_2 := hcp 2 _ rfl
     have hcp_3 := hcp 3 _ rfl
     clear hcp
     have hci_0 := hci 0 _ rfl
     rw [Nat.add_zero] at hci_0
     have hci_1 := hci 1 _ rfl
     have hci_2 := hci 2 _ rfl
     have hci_3 := hci 3 _ rfl
     clear hci
     have BQ := Lib.hid (Below.refl wr.heap.size wr)
     have o4_bs_ := bs_; clear bs_
     have o4_bc_ := bc_; clear bc_
     obtain ⟨w4, hq4, hb9, hz9, Hbp⟩ := new1 wr 127 [.int .u64 (dig (mont G.p.m (numOf bb ^ (numOf x % G.q.m))) 0 : Int), .int .u64 (dig (mont G.p.m (numOf bb ^ (numOf x % G.q.m))) 1 : Int), .int .u64 (dig (mont G.p.m (numOf bb ^ (numOf x % G.q.m))) 2 : Int), .int .u64 (dig (mont G.p.m (numOf bb ^ (numOf x % G.q.m))) 3 : Int)]
     replace Hbs := Lib.hid (Hbs.out.up hb9)
     replace Hbc := Lib.hid (Hbc.out.up hb9)
     replace HG := Lib.hid (HG.out.up hb9)
     replace BL := hbu BL hb9
     replace BR := hbu BR hb9
     replace BI := hbu BI hb9
     replace BQ := hbu BQ hb9
     replace HB := hbu HB hb9
     replace HZS := sz HZS hz9.out
     clear hb9 hz9
     have bs_ := Hbs.out.c2
     have bc_ := Hbc.out.c3
     have bp_ := Hbp.out.c4
     go_wp2_with fail
     clear hq4 o4_bc_ o4_bs_
     have hil' := Nat.lt_of_lt_of_le hil BQ.out.size
     have hci_0' := (BQ.out.cell (p := ⟨r.ib, r.io + t * 4, none⟩) hil).trans hci_0
     have hci_1' := (BQ.out.cell (p := ⟨r.ib, r.io + t * 4 + 1, none⟩) hil).trans hci_1
     have hci_2' := (BQ.out.cell (p := ⟨r.ib, r.io + t * 4 + 2, none⟩) hil).trans hci_2
     have hci_3' := (BQ.out.cell (p := ⟨r.ib, r.io + t * 4 + 3, none⟩) hil).trans hci_3
     clear hci_0 hci_1 hci_2 hci_3 hcp_0 hcp_1 hcp_2 hcp_3
     have hl_bs := Hbs.out.lt
     have hl_bc := Hbc.out.lt
     have hl_bp := Hbp.out.lt
     refine wp_region_over (by kernel_rfl) (by kernel_rfl) ?_
     have hov_bs := fun (E : Over w4) o => E.cell (b := w.heap.size) o hl_bs
     have hov_bc := fun (E : Over w4) o => E.cell (b := wo.heap.size) o hl_bc
     have hov_bp := fun (E : Over w4) o => E.cell (b := wr.heap.size) o hl_bp
     have hov_r_ib := fun (E : Over w4) o => E.cell (b := r.ib) o hil'
     repeat (go_big_quiet_step (first | (go_at_call 119; exact calls_over (gSame_b G OK.out gb (numOf bb ^ (numOf x % G.q.m)) (numOf mm) q HQ.out _ (HG.out.up (Over.h _))))))
     all_goals (try unfold elV limbV)
     repeat (go_big_quiet_step (first | (go_at_call 119; exact calls_over (gSame_b G OK.out gb (numOf bb ^ (numOf x % G.q.m)) (numOf mm) q HQ.out _ (HG.out.up (Over.h _))))))
     all_goals (try unfold elV limbV)
     repeat (go_big_quiet_step (first | (go_at_call 119; exact calls_over (gSame_b G OK.out gb (numOf bb ^ (numOf x % G.q.m)) (numOf mm) q HQ.out _ (HG.out.up (Over.h _))))))
     all_goals (try unfold ciphV)
     refine wpQuiet_nil ?_
     rintro _ ⟨E, rfl⟩
     clear hov_bs hl_bs hov_bc hl_bc hov_bp hl_bp hov_r_ib bs_
     replace Hbs := Lib.hid (Hbs.out.up E.h)
     clear bc_
     replace Hbc := Lib.hid (Hbc.out.up E.h)
     clear bp_
     replace Hbp := Lib.hid (Hbp.out.up E.h)
     replace HG := Lib.hid (HG.out.up E.h)
     replace BL := hbu BL E.h
     replace BR := hbu BR E.h
     replace BI := hbu BI E.h
     replace BQ := hbu BQ E.h
     replace HB := hbu HB E.h
     replace HZS := sz HZS E.h.size
     obtain ⟨w5, hq9⟩ : ∃ W9 : World, E.w = W9 := ⟨_, rfl⟩
     rw [hq9] at Hbs Hbc Hbp HG BL BR BI BQ HB HZS ⊢
     clear hq9 E
     have bs_ := Hbs.out.c2
     have bc_ := Hbc.out.c3
     have bp_ := Hbp.out.c4
     cases q
     ·obtain rfl : b = false := by rw [← HBB.out]; exact HNO.out (HTO.out HQ.out)
      go_wp2_with fail
      go_ret
      exact ⟨rfl, HB.out⟩
     ·go_wp2_with fail
      go_roundw
      case rel => exact ⟨t + 1, by omega, by go_num, BI, HTN.out HQ.out⟩
      case measure => simp [intOf]; omega
    ·have htm' : t = r.k.bases.length := by omega
     subst htm'
     have HHT := Lib.hid (HSN.out (zalls_end rfl HAI.out))
     go_wp2_with fail
     go_roundw
     case rel => exact ⟨j + 1, by omega, by go_num, BL, HHT⟩
     case measure => simp [intOf]; omega
  ·have hjn' : j = n := by omega
   subst hjn'
   obtain rfl : b = true := by rw [← HBB.out]; exact zalls_end (by rw [List.length_map]; exact HRS.out) HAL.out
   go_wp2_with fail
   go_ret
   exact ⟨rfl, HB.out⟩
end Go.Proofs.YtdlnnkbigeiilaaGreat
namespace Go.Proofs.YtdlnnkbigeiilaaGreat
open Go.RowKit
def claim0 : ClaimA := ⟨none, 0, [], none, 0, []⟩
def valF (G : GP) (l : List ClaimA) (xs : List ByteArray) (i t : Nat) : Nat := numOf ((l.getD i claim0).bases.getD t ⟨#[]⟩) ^ (numOf (xs.getD i ⟨#[]⟩) % G.q.m)
def valB (G : GP) (y : Nat) (l : List ClaimA) (xs : List ByteArray) (i t : Nat) : Nat := valF G l xs i t * numOf ((l.getD i claim0).images.getD t ⟨#[]⟩) ^ (y % G.q.m)
theorem valF_eq (G : GP) {rs : List ClaimR} {xs : List ByteArray} {i t : Nat} (hi : i < rs.length) (hx : i < xs.length) (ht : t < rs[i].k.bases.length) : valF G (rs.map ClaimR.k) xs i t = numOf rs[i].k.bases[t] ^ (numOf xs[i] % G.q.m) := by
 unfold valF
 simp [List.getD, hi, hx, ht]
theorem valB_eq (G : GP) (y : Nat) {rs : List ClaimR} {xs : List ByteArray} {i t : Nat} (hi : i < rs.length) (hx : i < xs.length) (ht : t < rs[i].k.bases.length) (hti : t < rs[i].k.images.length) : valB G y (rs.map ClaimR.k) xs i t = numOf rs[i].k.bases[t] ^ (numOf xs[i] % G.q.m) * numOf rs[i].k.images[t] ^ (y % G.q.m) := by
 unfold valB
 rw [valF_eq G hi hx ht]
 simp [List.getD, hi, hti]
def lens (l : List ClaimA) : List Nat := l.map fun k => k.bases.length
theorem firsts_any (G : GP) (ok : G.Ok) (gb : Nat) (rs : List ClaimR) (n : Nat) (hrs : rs.length = n) (hn : n ≤ 64) (hm8 : ∀ r ∈ rs, r.k.bases.length ≤ 8) (a : Option Addr) (c : Nat) (xs : List ByteArray) (hxs : xs.length = n) (ax : Option Addr) (cx : Nat) (w : World) (hG : GroupAt w gb G) (hS : SetAt G w a rs) (hX : Sl w w.heap.size ax (xs.flatMap (limC G.q.m))) :
  Calls Tryz.prog 67 #[.agg #[.pointer (some ⟨gb, 0, none⟩), .slice a n c], .slice ax n cx] w (RowsF (eachA G (valF G (rs.map ClaimR.k) xs) (lens (rs.map ClaimR.k)) n) w) := by
 have HRS := Lib.hid hrs
 have HXS := Lib.hid hxs
 have HM8 := Lib.hid hm8
 have HG := Lib.hid hG
 have OK := Lib.hid ok
 have HS := Lib.hid hS
 have HX := Lib.hid hX
 have HML := Lib.hid (show rs.map (fun r => r.k.bases.length) = lens (rs.map ClaimR.k) by unfold lens; rw [List.map_map]; rfl)
 have HLG := Lib.hid (show ∀ i (hi : i < rs.length), (lens (rs.map ClaimR.k)).getD i 0 = rs[i].k.bases.length from fun i hi => by unfold lens; simp [List.getD, hi])
 clear hrs hxs hm8 hG ok hS hX
 go_enter Tryz.func67, Tryz.ntmps67
 go_wp2_with fail
 obtain ⟨w1, hq1, hb9, hz9, Hbs, Hbx⟩ := new2 w 64 [.pointer (some ⟨gb, 0, none⟩), .slice a n c] 65 [.slice ax n cx]
 rw [hq1]
 clear hq1
 replace HG := Lib.hid (HG.out.up hb9)
 have HB := Lib.hid hb9
 have HZS := hz9
 clear hb9 hz9
 have bs_ := Hbs.out.c2
 have bx_ := Hbx.out.c1
 go_wp2_with fail
 have HB9 := Lib.hid HB.out.size
 refine (eachFirst G OK.out gb rs n HRS.out hn (lens (rs.map ClaimR.k)) HML.out HM8.out a c _ _ (valF G (rs.map ClaimR.k) xs) w1 HG.out (HS.out.up HB.out) (fun w9 hb9 i t hi ht => by rw [HLG.out i (by rw [HRS.out]; exact hi)] at ht; rw [valF_eq G (by rw [HRS.out]; exact hi) (by rw [HXS.out]; exact hi) ht]; exact first1_any G OK.out gb _ _ rs n a c xs ax cx i t (by rw [HRS.out]; exact hi) (by rw [HXS.out]; exact hi) ht w9 (HG.out.up hb9) (HS.out.up (below_up HB.out hb9)) (HX.out.up (below_up HB.out hb9)) HRS.out HXS.out (Hbs.out.up hb9) (Hbx.out.up hb9))).mono ?_
 rintro e w2 ⟨hb9, a9, c9, ro, rfl, hm9, hr9, hz9⟩
 clear bs_
 replace Hbs := Lib.hid (Hbs.out.up hb9)
 clear bx_
 replace Hbx := Lib.hid (Hbx.out.up hb9)
 replace HG := Lib.hid (HG.out.up hb9)
 replace HB := hbu HB hb9
 replace HZS := sz HZS hb9.size
 have HMR := Lib.hid hm9
 clear hm9
 have HRR := Lib.hid hr9
 clear hr9
 have HZR := Lib.hid hz9
 clear hz9 hb9
 have bs_ := Hbs.out.c2
 have bx_ := Hbx.out.c1
 go_wp2_with fail
 go_ret
 exact ⟨HB.out, a9, c9, ro, rfl, HMR.out, HRR.out, fresh_le HZR.out HB9.out⟩
theorem back_any (G : GP) (ok : G.Ok) (gb y : Nat) (hy : y ≤ G.q.m) (rs : List ClaimR) (n : Nat) (hrs : rs.length = n) (hn : n ≤ 64) (hm8 : ∀ r ∈ rs, r.k.bases.length ≤ 8 ∧ r.k.images.length = r.k.bases.length) (a : Option Addr) (c : Nat) (xs : List ByteArray) (hxs : xs.length = n) (ax : Option Addr) (cx : Nat) (w : World) (hG : GroupAt w gb G) (hS : SetAt G w a rs) (hX : Sl w w.heap.size ax (xs.flatMap (limC G.q.m))) :
  Calls Tryz.prog 41 #[.agg #[.pointer (some ⟨gb, 0, none⟩), .slice a n c], scV G y, .slice ax n cx] w (RowsF (eachA G (valB G (G.q.m - y) (rs.map ClaimR.k) xs) (lens (rs.map ClaimR.k)) n) w) := by
 have HRS := Lib.hid hrs
 have HXS := Lib.hid hxs
 have HM8 := Lib.hid hm8
 have HG := Lib.hid hG
 have OK := Lib.hid ok
 have HS := Lib.hid hS
 have HX := Lib.hid hX
 have HY := Lib.hid hy
 have HML := Lib.hid (show rs.map (fun r => r.k.bases.length) = lens (rs.map ClaimR.k) by unfold lens; rw [List.map_map]; rfl)
 have HLG := Lib.hid (show ∀ i (hi : i < rs.length), (lens (rs.map ClaimR.k)).getD i 0 = rs[i].k.bases.length from fun i hi => by unfold lens; simp [List.getD, hi])
 clear hrs hxs hm8 hG ok hS hX hy
 unfold scV limbV
 go_enter Tryz.func41, Tryz.ntmps41
 go_wp2_with fail
 obtain ⟨w1, hq1, hb9, hz9, Hbs, Hbc, Hbx⟩ := new3 w 64 [.pointer (some ⟨gb, 0, none⟩), .slice a n c] 72 [.int .u64 (dig (mont G.q.m y) 0 : Int), .int .u64 (dig (mont G.q.m y) 1 : Int), .int .u64 (dig (mont G.q.m y) 2 : Int), .int .u64 (dig (mont G.q.m y) 3 : Int)] 65 [.slice ax n cx]
 rw [hq1]
 clear hq1
 replace HG := Lib.hid (HG.out.up hb9)
 have HB := Lib.hid hb9
 have HZS := hz9
 clear hb9 hz9
 have bs_ := Hbs.out.c2
 have bc_ := Hbc.out.c4
 have bx_ := Hbx.out.c1
 go_wp2_with fail
 refine (gNeg_any G OK.out gb y HY.out w1 HG.out).mono ?_
 rintro e w2 ⟨rfl, hb9⟩
 clear bs_
 replace Hbs := Lib.hid (Hbs.out.up hb9)
 clear bc_
 replace Hbc := Lib.hid (Hbc.out.up hb9)
 clear bx_
 replace Hbx := Lib.hid (Hbx.out.up hb9)
 replace HG := Lib.hid (HG.out.up hb9)
 replace HB := hbu HB hb9
 replace HZS := sz HZS hb9.size
 clear hb9
 have bs_ := Hbs.out.c2
 have bc_ := Hbc.out.c4
 have bx_ := Hbx.out.c1
 unfold scV limbV
 have o3_bs_ := bs_; clear bs_
 have o3_bc_ := bc_; clear bc_
 have o3_bx_ := bx_; clear bx_
 obtain ⟨w3, hq3, hb9, hz9, Hbm⟩ := new1 w2 72 [.int .u64 (dig (mont G.q.m (G.q.m - y)) 0 : Int), .int .u64 (dig (mont G.q.m (G.q.m - y)) 1 : Int), .int .u64 (dig (mont G.q.m (G.q.m - y)) 2 : Int), .int .u64 (dig (mont G.q.m (G.q.m - y)) 3 : Int)]
 replace Hbs := Lib.hid (Hbs.out.up hb9)
 replace Hbc := Lib.hid (Hbc.out.up hb9)
 replace Hbx := Lib.hid (Hbx.out.up hb9)
 replace HG := Lib.hid (HG.out.up hb9)
 replace HB := hbu HB hb9
 replace HZS := sz HZS hz9.out
 clear hb9 hz9
 have bs_ := Hbs.out.c2
 have bc_ := Hbc.out.c4
 have bx_ := Hbx.out.c1
 have bm_ := Hbm.out.c4
 go_wp2_with fail
 clear hq3 o3_bx_ o3_bc_ o3_bs_
 have HB9 := Lib.hid HB.out.size
 refine (eachBack G OK.out gb rs n HRS.out hn (lens (rs.map ClaimR.k)) HML.out (fun r hr => (HM8.out r hr).1) a c _ _ _ (valB G (G.q.m - y) (rs.map ClaimR.k) xs) w3 HG.out (HS.out.up HB.out) (fun w9 hb9 i t hi ht => by rw [HLG.out i (by rw [HRS.out]; exact hi)] at ht; have hti := (HM8.out _ (List.getElem_mem (show i < rs.length by rw [HRS.out]; exact hi))).2; rw [valB_eq G _ (by rw [HRS.out]; exact hi) (by rw [HXS.out]; exact hi) ht (by omega)]; exact back1_any G OK.out gb _ _ _ (G.q.m - y) rs n a c xs ax cx i t (by rw [HRS.out]; exact hi) (by rw [HXS.out]; exact hi) ht (by omega) w9 (HG.out.up hb9) (HS.out.up (below_up HB.out hb9)) (HX.out.up (below_up HB.out hb9)) HRS.out HXS.out (Hbs.out.up hb9) (Hbx.out.up hb9) (Hbm.out.up hb9))).mono ?_
 rintro e w4 ⟨hb9, a9, c9, ro, rfl, hm9, hr9, hz9⟩
 clear bs_
 replace Hbs := Lib.hid (Hbs.out.up hb9)
 clear bc_
 replace Hbc := Lib.hid (Hbc.out.up hb9)
 clear bx_
 replace Hbx := Lib.hid (Hbx.out.up hb9)
 clear bm_
 replace Hbm := Lib.hid (Hbm.out.up hb9)
 replace HG := Lib.hid (HG.out.up hb9)
 replace HB := hbu HB hb9
 replace HZS := sz HZS hb9.size
 have HMR := Lib.hid hm9
 clear hm9
 have HRR := Lib.hid hr9
 clear hr9
 have HZR := Lib.hid hz9
 clear hz9 hb9
 have bs_ := Hbs.out.c2
 have bc_ := Hbc.out.c4
 have bx_ := Hbx.out.c1
 have bm_ := Hbm.out.c4
 go_wp2_with fail
 go_ret
 exact ⟨HB.out, a9, c9, ro, rfl, HMR.out, HRR.out, fresh_le HZR.out HB9.out⟩
end Go.Proofs.YtdlnnkbigeiilaaGreat
namespace Go.Proofs.YtdlnnkbigeiilaaGreat
open Go.RowKit
def openK (k : Int) (l : List ClaimA) (xs : List ByteArray) : Nat := if 1 ≤ k ∧ k ≤ 3 then openE (grp k.toNat) l xs else 1
def firstK (k : Int) (l : List ClaimA) (xs : List ByteArray) : List (List ByteArray) := if openK k l xs = 0 then eachA (grp k.toNat) (valF (grp k.toNat) l xs) (lens l) l.length else []
def backE (k : Int) (l : List ClaimA) (ch : ByteArray) (xs : List ByteArray) : Nat := if openK k l xs ≠ 0 then openK k l xs else if isSc (grp k.toNat).q.m (grp k.toNat).size ch = true then 0 else 6
def backK (k : Int) (l : List ClaimA) (ch : ByteArray) (xs : List ByteArray) : List (List ByteArray) := if backE k l ch xs = 0 then eachA (grp k.toNat) (valB (grp k.toNat) ((grp k.toNat).q.m - numOf ch) l xs) (lens l) l.length else []
def RowsE (er : Int) (L : List (List ByteArray)) (w : World) (e : Ending) (w' : World) : Prop :=
 Below w.heap.size w w' ∧ ∃ a c ro, e = .returned (.tuple #[.slice a L.length c, .int .i64 er]) ∧ ro.map RowA.l = L ∧ RowsAt w' a ro ∧ (∀ r ∈ ro, r.Ok)
theorem rowsE_none (er : Int) {w w' : World} (h : Below w.heap.size w w') : RowsE er [] w (.returned (.tuple #[.slice none 0 0, .int .i64 er])) w' := ⟨h, none, 0, [], rfl, rfl, ⟨Or.inl rfl, fun _ h => by cases h⟩, fun _ h => by cases h⟩
theorem open_any (k : Int) (l : List ClaimA) (al : Option Addr) (cl : Nat) (xs : List ByteArray) (ax : Option Addr) (cx : Nat) (hn : xs.length ≤ 8796093022207) (w : World) (hC : ClaimsAt w al l) (hS : Sl w w.heap.size ax (xs.map Value.string)) :
  Calls Tryz.prog 36 #[.int .i64 k, .slice al l.length cl, .slice ax xs.length cx] w (OpenS (grp k.toNat) (openK k l xs) l xs w) := by
 unfold openK
 by_cases hk : 1 ≤ k ∧ k ≤ 3
 ·rw [if_pos hk]
  obtain ⟨j, rfl⟩ : ∃ j : Nat, k = j := ⟨k.toNat, by omega⟩
  exact open_some j (by omega) (by omega) l al cl xs ax cx hn w hC hS
 ·rw [if_neg hk]
  refine (open_none k hk l xs _ _ w).mono ?_
  rintro e w' ⟨hb, p, q, n9, c9, v, he, _⟩
  exact ⟨hb, p, q, n9, c9, v, he, fun h => by cases h⟩
theorem openK_ok {k : Int} {l : List ClaimA} {xs : List ByteArray} (h : openK k l xs = 0) : (1 ≤ k ∧ k ≤ 3) ∧ shapeE l = 0 ∧ l.all (cElems (grp k.toNat)) = true ∧ xs.length = l.length ∧ xs.all (isSc (grp k.toNat).q.m (grp k.toNat).size) = true := by
 unfold openK at h
 by_cases hk : 1 ≤ k ∧ k ≤ 3
 ·rw [if_pos hk] at h
  unfold openE at h
  by_cases hw : wrongE (grp k.toNat) l = 0
  ·rw [if_neg (by simpa using hw)] at h
   unfold scE at h
   by_cases hl : xs.length = l.length
   ·rw [if_pos hl] at h
    by_cases ha : xs.all (isSc (grp k.toNat).q.m (grp k.toNat).size) = true
    ·exact ⟨hk, (wrong_ok hw).1, (wrong_ok hw).2, hl, ha⟩
    ·rw [if_neg ha] at h; cases h
   ·rw [if_neg hl] at h; cases h
  ·rw [if_pos hw] at h; exact absurd h hw
 ·rw [if_neg hk] at h; cases h
end Go.Proofs.YtdlnnkbigeiilaaGreat
namespace Go.Proofs.YtdlnnkbigeiilaaGreat
open Go.RowKit Go.Lib
def chT (s label : ByteArray) : ByteArray := tagS askedB [tagS askedB [s, label], label]
def chN (s label : ByteArray) : Nat := numOf (tagS askB [s, label] ++ tagS askB [tagS askedB [s, label], label])
theorem chT_size (s label : ByteArray) : (chT s label).size = 32 := tagS_size _ _
theorem ask2_size (a b : List ByteArray) : (tagS askB a ++ tagS askB b).size = 64 := by rw [ByteArray.size_append, tagS_size, tagS_size]
theorem numSet {W : World} {b : Nat} {t : TypeId} {s : ByteArray} {a : Option Addr} {n : Nat} (h : NumAt W a n) (hb : Bx W b t [.string s]) (i : Nat) (v : Value) : NumAt (W.setCell ⟨b, i, none⟩ v) a n := by
 by_cases h0 : dl n = 0
 ·exact Or.inl (by rw [List.map_eq_nil_iff]; exact List.eq_nil_of_length_eq_zero (by rw [digs_length]; exact h0))
 ·refine Sl.kept h ((Kept.refl (fun q => q = b) W).set rfl i v) (fun x hx e => ?_)
  obtain ⟨b', off, rfl, hl, hc⟩ := NumAt.all h (by omega)
  have e1 : b' = b := by rw [← Option.some.inj hx] at e; exact e
  subst e1
  have h1 := hc 0 (by omega)
  rw [World.cell?, show W.heap[b']? = _ from hb] at h1
  rcases off with _ | off
  ·simp at h1
  ·simp at h1
theorem gChallenge_any (G : GP) (ok : G.Ok) (gb tb : Nat) (s label : ByteArray) (hs : s.size < 140737488355328) (hl : label.size < 140737488355328) (w : World) (hG : GroupAt w gb G) (hT : TalkAt w tb s) (hne : ¬ gb = tb) :
  Calls Tryz.prog 42 #[.pointer (some ⟨gb, 0, none⟩), .pointer (some ⟨tb, 0, none⟩), .string label] w fun e w' => e = .returned (scV G (chN s label)) ∧ TalkAt w' tb (chT s label) ∧ Kept (fun q => q = tb) w w' := by
 obtain ⟨s1, hs1⟩ : ∃ x, tagS askedB [s, label] = x := ⟨_, rfl⟩
 have hz1 : s1.size < 140737488355328 := by rw [← hs1, tagS_size]; decide
 have HA1 := Lib.hid (fun w h => Ask_any tb s label hs hl w h)
 have HA2 := Lib.hid (fun w h => Ask_any tb s1 label hz1 hl w h)
 unfold chN chT
 rw [hs1] at HA1 ⊢
 obtain ⟨s2, hs2⟩ : ∃ x, tagS askedB [s1, label] = x := ⟨_, rfl⟩
 rw [hs2] at HA2 ⊢
 obtain ⟨A, hA⟩ : ∃ x, tagS askB [s, label] = x := ⟨_, rfl⟩
 obtain ⟨D, hD⟩ : ∃ x, tagS askB [s1, label] = x := ⟨_, rfl⟩
 have hsz : (A ++ D).size ≤ maxLen := by rw [← hA, ← hD, ask2_size]; decide
 have hcc : ¬ (9223372036854775807 < A.size + D.size) := by rw [← hA, ← hD, tagS_size, tagS_size]; decide
 rw [hA] at HA1 ⊢
 rw [hD] at HA2 ⊢
 have HR := Lib.hid (fun w h => gReduce_any G ok gb (A ++ D) hsz w h)
 unfold scV limbV at HR ⊢
 generalize mont G.q.m (numOf (A ++ D)) = n at HR ⊢
 have HG := Lib.hid hG
 have HT := Lib.hid hT
 have HNE := Lib.hid hne
 have HLT := Lib.hid hT.lt
 clear hG hT hne ok hs hl hz1 hs1 hs2 hA hD hsz
 go_enter Tryz.func42, Tryz.ntmps42
 go_wp2_with fail
 obtain ⟨w1, hq1, hb9, hz9, Ho⟩ := new1 w 72 [.int .u64 0, .int .u64 0, .int .u64 0, .int .u64 0]
 rw [hq1]
 clear hq1
 have HB := Lib.hid hb9
 have HZS := hz9
 clear hb9 hz9
 have o_ := Ho.out.c4
 go_wp2_with fail
 refine (HA1.out _ (HT.out.up HB.out)).mono ?_
 rintro e wz ⟨rfl, ht, hk⟩
 have HG1 := Lib.hid ((HG.out.up HB.out).keptP hk HNE.out)
 have Ht := Lib.hid ht
 have HK := Lib.hid (((Kept.refl (fun q => q = tb) w).up HB.out).trans hk)
 have Ho1 := Lib.hid (Ho.out.keptP hk (show ¬ w.heap.size = tb by have := HLT.out; omega))
 clear HB HT HG Ho o_ ht hk HA1
 have Ho := Ho1
 clear Ho1
 go_wp2_with fail
 refine (HA2.out _ Ht.out).mono ?_
 rintro e wy ⟨rfl, ht, hk⟩
 have HG2 := Lib.hid (HG1.out.keptP hk HNE.out)
 have HK2 := Lib.hid (HK.out.trans hk)
 have Ho2 := Lib.hid (Ho.out.keptP hk (show ¬ w.heap.size = tb by have := HLT.out; omega))
 have HT2 := Lib.hid ht
 clear HG1 HK Ho Ht ht hk HA2
 go_wp2_with fail
 refine (HR.out _ HG2.out).mono ?_
 rintro e wx ⟨rfl, hb9⟩
 have Ht := Lib.hid (HT2.out.up hb9)
 have HK := Lib.hid (HK2.out.up hb9)
 have Ho := Lib.hid (Ho2.out.up hb9)
 have HZS : Hid (w.heap.size < wx.heap.size) := HK.out.size |> fun _ => Ho.out.lt
 clear HG2 HK2 Ho2 HT2 hb9 HR HNE
 have o_ := Ho.out.c4
 replace HZS := sz HZS HLT.out
 have f2_o := Ho.out.frozen
 have o2_o_ := o_; clear o_
 obtain ⟨w2, hq2, hg9, hz9, hx9⟩ := put4 Ho 0 (.int .u64 (dig n 0 : Int)) 1 (.int .u64 (dig n 1 : Int)) 2 (.int .u64 (dig n 2 : Int)) 3 (.int .u64 (dig n 3 : Int)) [.int .u64 (dig n 0 : Int), .int .u64 (dig n 1 : Int), .int .u64 (dig n 2 : Int), .int .u64 (dig n 3 : Int)] rfl
 replace Ht := Lib.hid (Ht.out.grown hg9.out (sne (by have g0 := HZS.out; omega)))
 replace HK := Lib.hid (Kept.grown HK.out hg9.out (fun q9 e9 => by obtain rfl := Option.some.inj e9; exact Or.inl (show w.heap.size ≤ w.heap.size by have g0 := HZS.out; omega)))
 replace HZS := sz HZS hz9.out
 replace Ho := hx9
 clear hx9 hg9 hz9
 have o_ := Ho.out.c4
 go_wp2_with fail
 clear hq2 o2_o_ f2_o
 simp [bodyPost, results, Tryz.results42, go_sem, o_]
 exact ⟨Ht.out, HK.out⟩
theorem rChallenge_any (gz q : Nat) (pv : Value) (hq : 0 < q) (aq : Option Addr) (cq : Nat) (s label : ByteArray) (hs : s.size < 140737488355328) (hl : label.size < 140737488355328) (w : World) (hQ : NumAt w aq q) :
  Calls Tryz.prog 45 #[.agg #[.int .i64 (gz : Int), .slice aq (dl q) cq, pv], .agg #[.string s], .string label] w fun e w' => ∃ a c, e = .returned (.tuple #[.slice a (dl (chN s label % q)) c, .agg #[.string (chT s label)]]) ∧ NumAt w' a (chN s label % q) ∧ Below w.heap.size w w' := by
 obtain ⟨s1, hs1⟩ : ∃ x, tagS askedB [s, label] = x := ⟨_, rfl⟩
 have hz1 : s1.size < 140737488355328 := by rw [← hs1, tagS_size]; decide
 have HA1 := Lib.hid (fun w => rAsk_any s label hs hl w)
 have HA2 := Lib.hid (fun w => rAsk_any s1 label hz1 hl w)
 unfold chN chT
 rw [hs1] at HA1 ⊢
 obtain ⟨s2, hs2⟩ : ∃ x, tagS askedB [s1, label] = x := ⟨_, rfl⟩
 rw [hs2] at HA2 ⊢
 obtain ⟨A, hA⟩ : ∃ x, tagS askB [s, label] = x := ⟨_, rfl⟩
 obtain ⟨D, hD⟩ : ∃ x, tagS askB [s1, label] = x := ⟨_, rfl⟩
 have hsz : (A ++ D).size ≤ 1048576 := by rw [← hA, ← hD, ask2_size]; decide
 have hcc : ¬ (9223372036854775807 < A.size + D.size) := by rw [← hA, ← hD, tagS_size, tagS_size]; decide
 have hdl : dl (numOf (A ++ D)) ≤ 1048576 := by
  refine Nat.le_trans (dl_of_lt _ 32 ?_) (by decide)
  have h := numL_lt (A ++ D).data.toList
  have e : (A ++ D).data.toList.length = 64 := by show (A ++ D).size = 64; rw [← hA, ← hD, ask2_size]
  rw [e] at h
  exact h
 rw [hA] at HA1 ⊢
 rw [hD] at HA2 ⊢
 have HRD := Lib.hid (fun w => refRead_any (A ++ D) hsz w)
 obtain ⟨n, hn⟩ : ∃ x, numOf (A ++ D) = x := ⟨_, rfl⟩
 rw [hn] at HRD hdl ⊢
 have HMD := Lib.hid (fun aa am ca cm w h1 h2 => refMod_any n q aa am ca cm hdl hq w h1 h2)
 have HQ := Lib.hid hQ
 clear hQ hq hs hl hz1 hs1 hs2 hA hD hsz hdl hn
 go_enter Tryz.func45, Tryz.ntmps45
 go_wp2_with fail
 obtain ⟨w1, hq1, hb9, hz9, Hbg, Hbt, Ho⟩ := new3 w 86 [.int .i64 (gz : Int), .slice aq (dl q) cq, pv] 89 [.string s] 89 [.string ⟨#[]⟩]
 rw [hq1]
 clear hq1
 have HB := Lib.hid hb9
 have HZS := hz9
 clear hb9 hz9
 have bg_ := Hbg.out.c3
 have bt_ := Hbt.out.c1
 have o_ := Ho.out.c1
 go_wp2_with fail
 refine (HA1.out w1).mono ?_
 rintro e w2 ⟨rfl, hb9⟩
 clear bg_
 replace Hbg := Lib.hid (Hbg.out.up hb9)
 clear bt_
 replace Hbt := Lib.hid (Hbt.out.up hb9)
 clear o_
 replace Ho := Lib.hid (Ho.out.up hb9)
 replace HB := hbu HB hb9
 replace HZS := sz HZS hb9.size
 clear hb9
 have bg_ := Hbg.out.c3
 have bt_ := Hbt.out.c1
 have o_ := Ho.out.c1
 have f3_bt := Hbt.out.frozen
 have o3_bg_ := bg_; clear bg_
 have o3_bt_ := bt_; clear bt_
 have o3_o_ := o_; clear o_
 obtain ⟨w3, hq3, hg9, hz9, hx9⟩ := put1 Hbt 0 (.string s1) [.string s1] rfl
 replace Hbg := Lib.hid (Hbg.out.grown hg9.out (sne (by have g0 := HZS.out; omega)))
 replace Ho := Lib.hid (Ho.out.grown hg9.out (sne (by have g0 := HZS.out; omega)))
 replace HB := hbg HB hg9 (by have g0 := HZS.out; omega)
 replace HZS := sz HZS hz9.out
 replace Hbt := hx9
 clear hx9 hg9 hz9
 have bg_ := Hbg.out.c3
 have bt_ := Hbt.out.c1
 have o_ := Ho.out.c1
 go_wp2_with fail
 clear hq3 o3_o_ o3_bt_ o3_bg_ f3_bt
 refine (HA2.out w3).mono ?_
 rintro e w4 ⟨rfl, hb9⟩
 clear bg_
 replace Hbg := Lib.hid (Hbg.out.up hb9)
 clear bt_
 replace Hbt := Lib.hid (Hbt.out.up hb9)
 clear o_
 replace Ho := Lib.hid (Ho.out.up hb9)
 replace HB := hbu HB hb9
 replace HZS := sz HZS hb9.size
 clear hb9
 have bg_ := Hbg.out.c3
 have bt_ := Hbt.out.c1
 have o_ := Ho.out.c1
 have f5_bt := Hbt.out.frozen
 have o5_bg_ := bg_; clear bg_
 have o5_bt_ := bt_; clear bt_
 have o5_o_ := o_; clear o_
 obtain ⟨w5, hq5, hg9, hz9, hx9⟩ := put1 Hbt 0 (.string s2) [.string s2] rfl
 replace Hbg := Lib.hid (Hbg.out.grown hg9.out (sne (by have g0 := HZS.out; omega)))
 replace Ho := Lib.hid (Ho.out.grown hg9.out (sne (by have g0 := HZS.out; omega)))
 replace HB := hbg HB hg9 (by have g0 := HZS.out; omega)
 replace HZS := sz HZS hz9.out
 replace Hbt := hx9
 clear hx9 hg9 hz9
 have bg_ := Hbg.out.c3
 have bt_ := Hbt.out.c1
 have o_ := Ho.out.c1
 go_wp2_with fail
 clear hq5 o5_o_ o5_bt_ o5_bg_ f5_bt
 have HT := Lib.hid (show Below w5.heap.size w5 w5.drew from (Below.refl _ _).drew)
 have hl_bg := Hbg.out.lt
 have hl_bt := Hbt.out.lt
 refine wp_region_tree (fun wq9 => ∃ E : But w5 (some (w.heap.size + 2)), wq9 = E.w) ((.qs [0, 1, 2, 4, 5, 7] (.a 3 (.a 6 (.qs [8] (.a 9 .done)))))) (by kernel_rfl) (by kernel_rfl) (fun _ _ d _ _ h => by cases d <;> exact h) ⟨⟨_, ((below_grown HT.out).but _)⟩, rfl⟩ ?_
 have hov_bg := fun (E : But w5 (some (w.heap.size + 2))) o => E.cell (b := w.heap.size) o hl_bg (by intro e9; have a0 := Option.some.inj e9; have g0 := HZS.out; omega)
 have hov_bt := fun (E : But w5 (some (w.heap.size + 2))) o => E.cell (b := w.heap.size + 1) o hl_bt (by intro e9; have a0 := Option.some.inj e9; have g0 := HZS.out; omega)
 simp only [Tree.qs]
 repeat (refine tree_q rfl rfl ?_; go_big_quiet_step (fail); refine wpQuiet_nil ?_)
 refine tree_a rfl (fun K hK => ?_)
 go_simp
 refine (HRD.out _).mono ?_
 rintro e w6 ⟨a4, c4, rfl, hn9, hb9⟩
 replace HT := Lib.hid (below_up HT.out hb9)
 replace HZS := sz HZS (show w5.heap.size ≤ w6.heap.size from HT.out.size)
 clear hb9
 have HN4 := Lib.hid hn9
 clear hn9
 refine hK _ _ ⟨⟨⟨w6, ((below_grown HT.out).but _)⟩, rfl⟩, ?_⟩
 clear hK K
 repeat (refine tree_q rfl rfl ?_; go_big_quiet_step (fail); refine wpQuiet_nil ?_)
 refine tree_a rfl (fun K hK => ?_)
 go_simp
 refine (HMD.out _ _ _ _ _ HN4.out (HQ.out.up (below_up HB.out HT.out))).mono ?_
 rintro e w7 ⟨a5, c5, rfl, hn9, hb9⟩
 replace HN4 := Lib.hid (HN4.out.up hb9)
 replace HT := Lib.hid (below_up HT.out hb9)
 replace HZS := sz HZS (show w5.heap.size ≤ w7.heap.size from HT.out.size)
 clear hb9
 have HN5 := Lib.hid hn9
 clear hn9
 refine hK _ _ ⟨⟨⟨w7, ((below_grown HT.out).but _)⟩, rfl⟩, ?_⟩
 clear hK K
 repeat (refine tree_q rfl rfl ?_; go_big_quiet_step (fail); refine wpQuiet_nil ?_)
 clear hov_bg hl_bg hov_bt hl_bt
 refine tree_a rfl (fun K hK => ?_)
 clear bg_
 replace Hbg := Lib.hid (Hbg.out.up HT.out)
 clear bt_
 replace Hbt := Lib.hid (Hbt.out.up HT.out)
 clear o_
 replace Ho := Lib.hid (Ho.out.up HT.out)
 replace HB := hbu HB HT.out
 replace HZS := sz HZS HT.out.size
 have bg_ := Hbg.out.c3
 have bt_ := Hbt.out.c1
 have o_ := Ho.out.c1
 replace HN5 := Lib.hid (numSet HN5.out Ho.out 0 (.string s2))
 clear HN4
 have f8_o := Ho.out.frozen
 have o8_bg_ := bg_; clear bg_
 have o8_bt_ := bt_; clear bt_
 have o8_o_ := o_; clear o_
 obtain ⟨w8, hq8, hg9, hz9, hx9⟩ := put1 Ho 0 (.string s2) [.string s2] rfl
 replace Hbg := Lib.hid (Hbg.out.grown hg9.out (sne (by have g0 := HZS.out; omega)))
 replace Hbt := Lib.hid (Hbt.out.grown hg9.out (sne (by have g0 := HZS.out; omega)))
 replace HB := hbg HB hg9 (by have g0 := HZS.out; omega)
 replace HZS := sz HZS hz9.out
 replace Ho := hx9
 have HGR := Lib.hid (((below_grown HT.out).but _).trans hg9.out)
 clear hx9 hg9 hz9
 have bg_ := Hbg.out.c3
 have bt_ := Hbt.out.c1
 have o_ := Ho.out.c1
 rw [hq8] at HN5
 clear HT
 go_simp
 try rw [hq8]
 refine hK _ _ ⟨⟨⟨w8, HGR.out⟩, rfl⟩, ?_⟩
 clear hK K HGR hq8 o8_o_ o8_bt_ o8_bg_ f8_o
 repeat (refine tree_q rfl rfl ?_; go_big_quiet_step (fail); refine wpQuiet_nil ?_)
 refine tree_end ?_
 go_wp2_with fail
 simp [bodyPost, results, Tryz.results45, go_sem, o_]
 exact ⟨HN5.out, HB.out⟩
end Go.Proofs.YtdlnnkbigeiilaaGreat
namespace Go.Proofs.YtdlnnkbigeiilaaGreat
open Go.RowKit
theorem kept_grown {b : Nat} {W w : World} (h : Kept (fun q => q = b) W w) : W.grownBy w (some b) :=
 ⟨h.os, h.tape, h.output, h.size, fun q hq hne => h.block q hq (fun e => hne (by rw [e]))⟩
theorem grp_kind (k : Nat) (h1 : 1 ≤ k) (h3 : k ≤ 3) : (grp k).kind = k := by
 obtain rfl | rfl | rfl : k = 1 ∨ k = 2 ∨ k = 3 := by omega
 all_goals rfl
theorem eachA_small {G : GP} {val : Nat → Nat → Nat} {ms : List Nat} {n : Nat} (hs : G.size ≤ 32) (h8 : ∀ i, ms.getD i 0 ≤ 8) {ro : List RowA} (hm : ro.map RowA.l = eachA G val ms n) : ∀ r ∈ ro, r.l.length ≤ 8 ∧ ∀ x ∈ r.l, x.size ≤ 32 := by
 intro r hr
 have h1 : r.l ∈ ro.map RowA.l := List.mem_map.2 ⟨r, hr, rfl⟩
 rw [hm] at h1
 unfold eachA at h1
 obtain ⟨i, _, hi⟩ := List.mem_map.1 h1
 rw [← hi]
 refine ⟨by rw [eachL_len]; exact h8 i, fun x hx => ?_⟩
 unfold eachL at hx
 obtain ⟨t, _, rfl⟩ := List.mem_map.1 hx
 rw [textS_size]
 exact hs
theorem lens_small {l : List ClaimA} (h : ∀ c ∈ l, c.bases.length ≤ 8) (i : Nat) : (lens l).getD i 0 ≤ 8 := by
 unfold lens
 by_cases hi : i < l.length
 ·rw [List.getD_eq_getElem?_getD, List.getElem?_map, List.getElem?_eq_getElem hi]
  exact h _ (List.getElem_mem hi)
 ·rw [List.getD_eq_getElem?_getD, List.getElem?_map, List.getElem?_eq_none (by omega)]
  exact Nat.zero_le _
def verT (k : Int) (label : ByteArray) (l : List ClaimA) (rows : List (List ByteArray)) : ByteArray := sayFi (sayCl (beginT claimsB label k) l) rows
def verR (k : Int) (l : List ClaimA) (ch : ByteArray) (xs : List ByteArray) : List (List ByteArray) := eachA (grp k.toNat) (valB (grp k.toNat) ((grp k.toNat).q.m - numOf ch) l xs) (lens l) l.length
def verK (k : Int) (label : ByteArray) (l : List ClaimA) (ch : ByteArray) (xs : List ByteArray) : Bool :=
 decide (openK k l xs = 0) && (isSc (grp k.toNat).q.m (grp k.toNat).size ch && decide (mont (grp k.toNat).q.m (chN (verT k label l (verR k l ch xs)) challengeB) = mont (grp k.toNat).q.m (numOf ch)))
theorem sVerify_any (k : Int) (label : ByteArray) (hlb : label.size < 140737488355328) (l : List ClaimA) (al : Option Addr) (cl : Nat) (ch : ByteArray) (xs : List ByteArray) (ax : Option Addr) (cx : Nat) (hn : xs.length ≤ 8796093022207) (hcap : ∀ c ∈ l, CapOk c) (w : World) (hC : ClaimsAt w al l) (hS : Sl w w.heap.size ax (xs.map Value.string)) :
  Calls Tryz.prog 10 #[.int .i64 k, .string label, .slice al l.length cl, .agg #[.string ch, .slice ax xs.length cx]] w fun e w' => e = .returned (.bool (verK k label l ch xs)) ∧ Below w.heap.size w w' := by
 have HCAP := Lib.hid hcap
 have HO := Lib.hid (fun w1 (hb : Below w.heap.size w w1) => open_any k l al cl xs ax cx hn w1 (hC.up hb) (hS.up hb))
 obtain ⟨V, hV⟩ : ∃ b, verK k label l ch xs = b := ⟨_, rfl⟩
 rw [hV]
 obtain ⟨z, hz⟩ : ∃ z, openK k l xs = z := ⟨_, rfl⟩
 obtain ⟨bc, hbc⟩ : ∃ b, isSc (grp k.toNat).q.m (grp k.toNat).size ch = b := ⟨_, rfl⟩
 have HV := Lib.hid (show V = (decide (z = 0) && (bc && decide (mont (grp k.toNat).q.m (chN (verT k label l (verR k l ch xs)) challengeB) = mont (grp k.toNat).q.m (numOf ch)))) by rw [← hV]; unfold verK; rw [hz, hbc])
 rw [hz] at HO
 have HBC := Lib.hid hbc
 clear hC hS hbc hV hcap
 by_cases h0 : z = 0
 ·subst h0
  unfold verT at HV
  have HF1 := Lib.hid (fun (h : 1 ≤ k ∧ k ≤ 3) gb w hG => sbegin_any (grp k.toNat) gb claimsB label (by decide) hlb (by rw [grp_kind k.toNat (by omega) (by omega)]; omega) w hG)
  have HF2 := Lib.hid (fun gv tb s rs hz' h64 sh al cl w0 w hb htb hT hS hC => say_any (grp k.toNat) gv tb s rs rs.length rfl h64 hz' sh al cl w0 w hb htb hT hS hC)
  have HF3 := Lib.hid (fun tb s ro hz' h64 sh hok al cl w hT hC ha hr => said_any tb s ro ro.length rfl h64 hz' sh hok al cl w hT hC ha hr)
  have HF4 := Lib.hid (fun ok gb tb s hs w hG hT hne => gChallenge_any (grp k.toNat) ok gb tb s challengeB hs (by decide) w hG hT hne)
  have HZ1 := Lib.hid (show ∀ k, (beginT claimsB label k).size = 32 from fun k => say1_size _ _ _)
  have HZ2 := Lib.hid sayCl_size
  have HZ3 := Lib.hid sayFi_size
  generalize beginT claimsB label = BT at HF1 HZ1 HV
  generalize sayCl = SC at HF2 HZ2 HV
  generalize sayFi = SF at HF3 HZ3 HV
  generalize chN = CN at HF4 HV
  generalize chT = CT at HF4
  go_enter Tryz.func10, Tryz.ntmps10
  go_wp2_with fail
  obtain ⟨w1, hq1, hb9, hz9, Hbp⟩ := new1 w 25 [.string ch, .slice ax xs.length cx]
  rw [hq1]
  clear hq1
  have HB := Lib.hid hb9
  have HZS := hz9
  clear hb9 hz9
  have bp_ := Hbp.out.c2
  go_wp2_with fail
  refine (HO.out _ HB.out).mono ?_
  rintro e w2 ⟨hb9, pp, qa, qn, qc, v, rfl, hok⟩
  clear bp_
  replace Hbp := Lib.hid (Hbp.out.up hb9)
  replace HB := hbu HB hb9
  replace HZS := sz HZS hb9.size
  have HOK := Lib.hid hok
  clear hok hb9
  have bp_ := Hbp.out.c2
  obtain ⟨gb, rs, a, c, a', c', e1, e2, rfl, hrk, hg9, hs9, hp9, hx9⟩ := HOK.out rfl
  obtain rfl := Value.pointer.inj e1
  obtain ⟨rfl, rfl, rfl⟩ := Value.slice.inj e2
  obtain ⟨hk9, hsh, hel, hxl, hxa⟩ := openK_ok hz
  have HRK := Lib.hid hrk
  have HRL := Lib.hid (show rs.length = l.length by rw [← hrk, List.length_map])
  have HG := Lib.hid hg9
  have HST := Lib.hid hs9
  have HXX := Lib.hid hx9
  have HSP := Lib.hid hp9
  have HXL := Lib.hid hxl
  have HK9 := Lib.hid hk9
  have hl64 := (shape_ok hsh).2.1
  have HSHP := Lib.hid (show ∀ r ∈ rs, r.k.bases.length ≤ 8 ∧ r.k.images.length = r.k.bases.length from fun r hr => by
   have h9 := (shape_ok hsh).2.2 r.k (by rw [← hrk]; exact List.mem_map.2 ⟨r, hr, rfl⟩)
   exact ⟨h9.2.1, h9.2.2⟩)
  have OK := Lib.hid (grp_ok k.toNat (by omega) (by omega))
  have HSY := Lib.hid (show ∀ r ∈ rs, SayOk r.k ∧ CapOk r.k from fun r hr => by
   have hm : r.k ∈ l := by rw [← hrk]; exact List.mem_map.2 ⟨r, hr, rfl⟩
   have h9 := (shape_ok hsh).2.2 r.k hm
   have h8 := List.all_eq_true.1 hel r.k hm
   unfold cElems at h8
   rw [Bool.and_eq_true] at h8
   have hs := OK.out.size_le
   have hsm : ∀ s, isEl (grp k.toNat).q.m (grp k.toNat).size s = true → s.size ≤ 32 := fun s h => by
    unfold isEl at h
    simp only [Bool.and_eq_true, decide_eq_true_eq] at h
    omega
   exact ⟨⟨h9.2.1, by omega, fun x hx => hsm x (List.all_eq_true.1 h8.1 x hx), fun x hx => hsm x (List.all_eq_true.1 h8.2 x hx)⟩, HCAP.out _ hm⟩)
  rw [show xs.length = rs.length by rw [HXL.out, HRL.out]]
  clear hrk hg9 hs9 hp9 hx9 hsh hel hxl hxa hk9 HOK
  have BS := Lib.hid (Below.refl w2.heap.size w2)
  have o3_bp_ := bp_; clear bp_
  obtain ⟨w3, hq3, hb9, hz9, Hbs⟩ := new1 w2 64 [.pointer (some ⟨gb, 0, none⟩), .slice qa rs.length qc]
  replace Hbp := Lib.hid (Hbp.out.up hb9)
  replace BS := hbu BS hb9
  replace HB := hbu HB hb9
  replace HZS := sz HZS hz9.out
  clear hb9 hz9
  have bp_ := Hbp.out.c2
  have bs_ := Hbs.out.c2
  go_wp2_with fail
  clear hq3 o3_bp_
  refine (gScalar_m (grp k.toNat) OK.out gb ch bc HBC.out w3 (HG.out.up BS.out)).mono ?_
  rintro e w4 ⟨x, rfl, hb9, hx9⟩
  clear bp_
  replace Hbp := Lib.hid (Hbp.out.up hb9)
  clear bs_
  replace Hbs := Lib.hid (Hbs.out.up hb9)
  replace BS := hbu BS hb9
  replace HB := hbu HB hb9
  replace HZS := sz HZS hb9.size
  have HX := Lib.hid hx9
  clear hx9 hb9
  have bp_ := Hbp.out.c2
  have bs_ := Hbs.out.c2
  unfold limbV
  have o5_bp_ := bp_; clear bp_
  have o5_bs_ := bs_; clear bs_
  obtain ⟨w5, hq5, hb9, hz9, Hbx⟩ := new1 w4 72 [.int .u64 (dig (x) 0 : Int), .int .u64 (dig (x) 1 : Int), .int .u64 (dig (x) 2 : Int), .int .u64 (dig (x) 3 : Int)]
  replace Hbp := Lib.hid (Hbp.out.up hb9)
  replace Hbs := Lib.hid (Hbs.out.up hb9)
  replace BS := hbu BS hb9
  replace HB := hbu HB hb9
  replace HZS := sz HZS hz9.out
  clear hb9 hz9
  have bp_ := Hbp.out.c2
  have bs_ := Hbs.out.c2
  have bx_ := Hbx.out.c4
  cases bc
  ·obtain rfl : V = false := HV.out
   go_wp2_with fail
   clear hq5 o5_bs_ o5_bp_
   go_ret
   exact ⟨rfl, HB.out⟩
  ·obtain rfl : x = mont (grp k.toNat).q.m (numOf ch) := HX.out rfl
   go_wp2_with fail
   clear hq5 o5_bs_ o5_bp_
   have HST5 := Lib.hid (HST.out.up BS.out)
   have HSP5 := Lib.hid (fun r hr => (HSP.out r hr).up BS.out)
   have HGL := Lib.hid (Nat.lt_of_lt_of_le HG.out.lt BS.out.size)
   have HZW := Lib.hid HB.out.size
   have HZB := Lib.hid BS.out.size
   have HKK := Lib.hid (show ((grp k.toNat).kind : Int) = k by rw [grp_kind k.toNat (by have := HK9.out; omega) (by have := HK9.out; omega)]; have := HK9.out; omega)
   have BQ := Lib.hid (Below.refl w5.heap.size w5)
   refine (HF1.out HK9.out gb w5 (HG.out.up BS.out)).mono ?_
   rintro e wa ⟨tb, rfl, hge, ht, hb9⟩
   rw [HKK.out] at ht
   have HGE := Lib.hid (show w5.heap.size ≤ tb from hge)
   have Ht := Lib.hid (show Bx wa tb 192 [.string (BT k)] from ht)
   clear hge ht bp_
   replace Hbp := Lib.hid (Hbp.out.up hb9)
   clear bs_
   replace Hbs := Lib.hid (Hbs.out.up hb9)
   clear bx_
   replace Hbx := Lib.hid (Hbx.out.up hb9)
   replace BS := hbu BS hb9
   replace BQ := hbu BQ hb9
   replace HB := hbu HB hb9
   replace HZS := sz HZS hb9.size
   clear hb9
   have bp_ := Hbp.out.c2
   have bs_ := Hbs.out.c2
   have bx_ := Hbx.out.c4
   replace HZS := sz HZS HGE.out
   replace HZS := sz HZS HZW.out
   replace HZS := sz HZS HZB.out
   have t_ := Ht.out.c1
   go_wp2_with fail
   refine (HF2.out _ tb (BT k) rs (HZ1.out k) (by rw [HRL.out]; exact hl64) HSY.out qa qc w5 wa BQ.out HGE.out Ht.out HST5.out HSP5.out).mono ?_
   rintro e wb ⟨rfl, ht, hk⟩
   have HK1 := Lib.hid hk
   have Ht1 := Lib.hid (show Bx wb tb 192 [.string (SC (BT k) (rs.map ClaimR.k))] from ht)
   clear ht hk
   have hg9 := HK1.out
   clear bp_ bs_ bx_ t_ Ht
   replace Hbp := Lib.hid (Hbp.out.keptP hg9 (show ¬ (_ = tb) by have g0 := HZS.out; omega))
   replace Hbs := Lib.hid (Hbs.out.keptP hg9 (show ¬ (_ = tb) by have g0 := HZS.out; omega))
   replace Hbx := Lib.hid (Hbx.out.keptP hg9 (show ¬ (_ = tb) by have g0 := HZS.out; omega))
   replace BS := Lib.hid (Below.keptP BS.out hg9 (by have g0 := HZS.out; omega) (fun q9 h9 => (show w2.heap.size ≤ _ by subst h9; have g0 := HZS.out; omega)))
   replace BQ := Lib.hid (Below.keptP BQ.out hg9 (by have g0 := HZS.out; omega) (fun q9 h9 => (show w5.heap.size ≤ _ by subst h9; have g0 := HZS.out; omega)))
   replace HB := Lib.hid (Below.keptP HB.out hg9 (by have g0 := HZS.out; omega) (fun q9 h9 => (show w.heap.size ≤ _ by subst h9; have g0 := HZS.out; omega)))
   replace HZS := sz HZS (show wa.heap.size ≤ wb.heap.size from hg9.size)
   clear hg9
   have bp_ := Hbp.out.c2
   have bs_ := Hbs.out.c2
   have bx_ := Hbx.out.c4
   have Ht := Ht1
   clear Ht1
   have t_ := Ht.out.c1
   have HTL := Lib.hid Ht.out.lt
   replace HZS := sz HZS HTL.out
   go_wp2_with fail
   refine (back_any (grp k.toNat) OK.out gb (numOf ch) (isSc_le HBC.out) rs rs.length rfl (by rw [HRL.out]; exact hl64) HSHP.out qa qc xs (by rw [HXL.out, HRL.out]) a' c' wb (HG.out.up BS.out) (HST.out.up BS.out) (HXX.out.up BS.out)).mono ?_
   rintro e w6 ⟨hb9, a9, c9, ro, rfl, hm9, hr9, hz9⟩
   clear bp_
   replace Hbp := Lib.hid (Hbp.out.up hb9)
   clear bs_
   replace Hbs := Lib.hid (Hbs.out.up hb9)
   clear bx_
   replace Hbx := Lib.hid (Hbx.out.up hb9)
   clear t_
   replace Ht := Lib.hid (Ht.out.up hb9)
   replace BS := hbu BS hb9
   replace BQ := hbu BQ hb9
   replace HK1 := Lib.hid (Kept.up HK1.out hb9)
   replace HB := hbu HB hb9
   replace HZS := sz HZS hb9.size
   have HMR := Lib.hid hm9
   clear hm9
   have HRR := Lib.hid hr9
   clear hr9
   have HZR := Lib.hid hz9
   clear hz9 hb9
   have bp_ := Hbp.out.c2
   have bs_ := Hbs.out.c2
   have bx_ := Hbx.out.c4
   have t_ := Ht.out.c1
   have HRO := Lib.hid (show ro.length = rs.length by have h9 := congrArg List.length HMR.out; rw [List.length_map, eachA_len] at h9; exact h9)
   rw [← HMR.out, List.length_map]
   go_wp2_with fail
   refine (HF3.out tb (SC (BT k) (rs.map ClaimR.k)) ro (HZ2.out _ _ (HZ1.out k)) (by rw [HRO.out, HRL.out]; exact hl64) (eachA_small OK.out.size_le (lens_small fun c hc => by obtain ⟨r, hr, rfl⟩ := List.mem_map.1 hc; exact (HSHP.out r hr).1) HMR.out) (fun r hr => (HZR.out.1 r hr).2) a9 c9 w6 Ht.out HRR.out (fun x hx e => by have h1 := HZR.out.2.1 x hx; have h2 := HTL.out; omega) (fun r hr x hx e => by have h1 := HZR.out.2.2 r hr x hx; have h2 := HTL.out; omega)).mono ?_
   rintro e wc ⟨rfl, ht, hk⟩
   have HK2 := Lib.hid hk
   have Ht1 := Lib.hid (show Bx wc tb 192 [.string (SF (SC (BT k) (rs.map ClaimR.k)) (ro.map RowA.l))] from ht)
   clear ht hk
   have hg9 := HK2.out
   clear bp_ bs_ bx_ t_ Ht
   replace Hbp := Lib.hid (Hbp.out.keptP hg9 (show ¬ (_ = tb) by have g0 := HZS.out; omega))
   replace Hbs := Lib.hid (Hbs.out.keptP hg9 (show ¬ (_ = tb) by have g0 := HZS.out; omega))
   replace Hbx := Lib.hid (Hbx.out.keptP hg9 (show ¬ (_ = tb) by have g0 := HZS.out; omega))
   replace BS := Lib.hid (Below.keptP BS.out hg9 (by have g0 := HZS.out; omega) (fun q9 h9 => (show w2.heap.size ≤ _ by subst h9; have g0 := HZS.out; omega)))
   replace BQ := Lib.hid (Below.keptP BQ.out hg9 (by have g0 := HZS.out; omega) (fun q9 h9 => (show w5.heap.size ≤ _ by subst h9; have g0 := HZS.out; omega)))
   replace HB := Lib.hid (Below.keptP HB.out hg9 (by have g0 := HZS.out; omega) (fun q9 h9 => (show w.heap.size ≤ _ by subst h9; have g0 := HZS.out; omega)))
   replace HZS := sz HZS (show w6.heap.size ≤ wc.heap.size from hg9.size)
   clear hg9
   have bp_ := Hbp.out.c2
   have bs_ := Hbs.out.c2
   have bx_ := Hbx.out.c4
   have Ht := Ht1
   clear Ht1
   have t_ := Ht.out.c1
   have HTS := Lib.hid (HZ3.out (ro.map RowA.l) _ (HZ2.out (rs.map ClaimR.k) _ (HZ1.out k)))
   have HVV := HV.out
   rw [show verR k l ch xs = ro.map RowA.l by rw [HMR.out, HRK.out, HRL.out]; rfl, ← HRK.out] at HVV
   generalize SF (SC (BT k) (rs.map ClaimR.k)) (ro.map RowA.l) = TT at *
   obtain ⟨be, hbe⟩ : ∃ b, decide (mont (grp k.toNat).q.m (CN TT challengeB) = mont (grp k.toNat).q.m (numOf ch)) = b := ⟨_, rfl⟩
   rw [hbe] at HVV
   have HEQ := Lib.hid fun W => binScal (w := W) (eqScal (mont (grp k.toNat).q.m (CN TT challengeB)) (mont (grp k.toNat).q.m (numOf ch)) (OK.out.q.mont _) (OK.out.q.mont _) W be hbe.symm)
   obtain rfl : V = be := by rw [HVV]; simp
   clear HVV hbe
   have HG9 := Lib.hid (HG.out.up BS.out)
   go_wp2_with fail
   have HT := Lib.hid (show Below wc.heap.size wc wc.drew from (Below.refl _ _).drew)
   have hl_bp := Hbp.out.lt
   have hl_bs := Hbs.out.lt
   have hl_bx := Hbx.out.lt
   refine wp_region_tree (fun wq9 => ∃ E : But wc (some (tb)), wq9 = E.w) ((.qs [0, 1, 2, 4] (.a 3 (.qs [5, 6] .done)))) (by kernel_rfl) (by kernel_rfl) (fun _ _ d _ _ h => by cases d <;> exact h) ⟨⟨_, ((below_grown HT.out).but _)⟩, rfl⟩ ?_
   have hov_bp := fun (E : But wc (some (tb))) o => E.cell (b := w.heap.size) o hl_bp (by intro e9; have a0 := Option.some.inj e9; have g0 := HZS.out; omega)
   have hov_bs := fun (E : But wc (some (tb))) o => E.cell (b := w2.heap.size) o hl_bs (by intro e9; have a0 := Option.some.inj e9; have g0 := HZS.out; omega)
   have hov_bx := fun (E : But wc (some (tb))) o => E.cell (b := w4.heap.size) o hl_bx (by intro e9; have a0 := Option.some.inj e9; have g0 := HZS.out; omega)
   simp only [Tree.qs]
   repeat (refine tree_q rfl rfl ?_; go_big_quiet_step (fail); refine wpQuiet_nil ?_)
   refine tree_a rfl (fun K hK => ?_)
   go_simp
   refine (HF4.out OK.out gb tb TT (by have := HTS.out; omega) _ (HG9.out.up HT.out) (Bx.up Ht.out HT.out) (show ¬ gb = tb by have h1 := HGL.out; have h2 := HGE.out; omega)).mono ?_
   rintro e wz ⟨rfl, ht, hk⟩
   have HBZ := Lib.hid (Below.keptP (below_up HB.out HT.out) hk (below_up HB.out HT.out).size (fun q hq => hq ▸ (show w.heap.size ≤ tb by have h1 := HZW.out; have h2 := HGE.out; omega)))
   refine hK _ _ ⟨⟨⟨wz, ((below_grown HT.out).but _).trans (kept_grown hk)⟩, rfl⟩, ?_⟩
   clear hK K ht hk
   refine tree_q rfl rfl ?_
   unfold scV limbV
   refine wpQuiet_bin rfl .eql _ _ 72 _ rfl _ _ (.bool V) rfl rfl (fun _ => guardScal _ _ _ _ _ _) (fun _ => HEQ.out _) ?_
   simp only [Act.put, List.setIfInBounds_toArray, List.set_cons_succ, List.set_cons_zero]
   refine wpQuiet_nil ?_
   refine tree_q rfl rfl ?_
   go_big_quiet_step (fail)
   refine wpQuiet_nil ?_
   refine tree_end ?_
   go_wp2_with fail
   go_ret
   exact ⟨rfl, HBZ.out⟩
 ·obtain rfl : V = false := by rw [HV.out, decide_eq_false h0]; rfl
  have hd : ((z : Int) != 0) = true := by simp; omega
  clear h0 hz
  go_enter Tryz.func10, Tryz.ntmps10
  go_wp2_with fail
  obtain ⟨w1, hq1, hb9, hz9, Hbp⟩ := new1 w 25 [.string ch, .slice ax xs.length cx]
  rw [hq1]
  clear hq1
  have HB := Lib.hid hb9
  have HZS := hz9
  clear hb9 hz9
  have bp_ := Hbp.out.c2
  go_wp2_with fail
  refine (HO.out _ HB.out).mono ?_
  rintro e w2 ⟨hb9, pp, qa, qn, qc, v, rfl, _⟩
  clear bp_
  replace Hbp := Lib.hid (Hbp.out.up hb9)
  replace HB := hbu HB hb9
  replace HZS := sz HZS hb9.size
  clear hb9
  have bp_ := Hbp.out.c2
  have o3_bp_ := bp_; clear bp_
  obtain ⟨w3, hq3, hb9, hz9, Hbs⟩ := new1 w2 64 [.pointer pp, .slice qa qn qc]
  replace Hbp := Lib.hid (Hbp.out.up hb9)
  replace HB := hbu HB hb9
  replace HZS := sz HZS hz9.out
  clear hb9 hz9
  have bp_ := Hbp.out.c2
  have bs_ := Hbs.out.c2
  go_wp2_with fail
  clear hq3 o3_bp_
  go_ret
  exact ⟨rfl, HB.out⟩
end Go.Proofs.YtdlnnkbigeiilaaGreat
namespace Go.Proofs.YtdlnnkbigeiilaaGreat
open Go.RowKit
def askT (s : ByteArray) : Nat → ByteArray
 | 0 => s
 | j + 1 => chT (askT s j) nonceB
theorem askT_size {s : ByteArray} (h : s.size = 32) : ∀ j, (askT s j).size = 32
 | 0 => h
 | _ + 1 => chT_size _ _
def nonceS (G : GP) (s : ByteArray) (j : Nat) : ByteArray := textS (chN (askT s j) nonceB % G.q.m) G.size
def nonceL (G : GP) (s : ByteArray) (n : Nat) : List ByteArray := (List.range n).map (nonceS G s)
theorem nonceL_len (G : GP) (s : ByteArray) (n : Nat) : (nonceL G s n).length = n := by simp [nonceL]
theorem nonceL_succ (G : GP) (s : ByteArray) (n : Nat) : nonceL G s (n + 1) = nonceL G s n ++ [nonceS G s n] := by simp [nonceL, List.range_succ]
theorem numOf_mod {G : GP} (ok : G.Ok) (N : Nat) : numOf (textS (N % G.q.m) G.size) = N % G.q.m := by
 rw [numOf_textS, Nat.mod_eq_of_lt (Nat.lt_of_lt_of_le (Nat.mod_lt _ ok.q.pos) ok.fits)]
theorem limC_text {G : GP} (ok : G.Ok) (N : Nat) : limC G.q.m (textS (N % G.q.m) G.size) = [.int .u64 (dig (mont G.q.m N) 0 : Int), .int .u64 (dig (mont G.q.m N) 1 : Int), .int .u64 (dig (mont G.q.m N) 2 : Int), .int .u64 (dig (mont G.q.m N) 3 : Int)] := by
 unfold limC
 rw [numOf_mod ok, mont_mod]
def ansF (G : GP) (N : Nat) (w x : ByteArray) : ByteArray := textS ((numOf w + N * numOf x) % G.q.m) G.size
def ansL (G : GP) (N : Nat) (ws xs : List ByteArray) : List ByteArray := List.zipWith (ansF G N) ws xs
end Go.Proofs.YtdlnnkbigeiilaaGreat
namespace Go.Proofs.YtdlnnkbigeiilaaGreat
open Go.RowKit
theorem RowO.room {N n m c size : Nat} {a : Option Addr} {w : World} {e : TypeId} {xs : List Value} (h : RowO N w e size (.slice a m c) n xs) : m ≤ c := by
 rcases h.2 with ⟨h1, _⟩ | ⟨g, cap, cur, hv, _, _, h1, _⟩
 ·cases h1; exact Nat.le_refl _
 ·cases hv; exact h1
theorem RowO.none0 {N n m c size : Nat} {a : Option Addr} {w : World} {e : TypeId} {xs : List Value} (h : RowO N w e size (.slice a m c) n xs) : a = none → c = 0 := by
 intro e
 rcases h.2 with ⟨h1, _⟩ | ⟨g, cap, cur, hv, _⟩
 ·cases h1; rfl
 ·cases hv; cases e
theorem kept_gw {b : Nat} {W w : World} (h : Kept (fun q => q = b) W w) : W.grownBy w (some b) :=
 ⟨h.os, h.tape, h.output, h.size, fun q hq hne => h.block q hq (fun e => hne (by rw [e]))⟩
theorem seeded_any (tb : Nat) (s seed : ByteArray) (hs : s.size = 32) (hd : seed.size < 140737488355328) (w : World) (hT : TalkAt w tb s) :
  Calls Tryz.prog 66 #[.pointer (some ⟨tb, 0, none⟩), .string seed] w fun e w' => ∃ fb, e = .returned (.pointer (some ⟨fb, 0, none⟩)) ∧ w.heap.size ≤ fb ∧ TalkAt w' fb (say1 s seedB seed) ∧ Below w.heap.size w w' := by
 have H1 := Lib.hid (fun w h => Fork_any tb s w h)
 have H2 := Lib.hid (fun fb w h => Say_any fb s seedB seed (by omega) (by decide) hd w h)
 unfold say1
 generalize tagS sayB [s, seedB, seed] = t at *
 have HT := Lib.hid hT
 clear hT hs hd
 go_enter Tryz.func66, Tryz.ntmps66
 go_wp2_with fail
 refine (H1.out w HT.out).mono ?_
 rintro e wa ⟨fb, rfl, hge, ht, hb⟩
 have HGE := Lib.hid hge
 have HT1 := Lib.hid ht
 have HB := Lib.hid hb
 clear hge ht hb
 go_wp2_with fail
 refine (H2.out fb wa HT1.out).mono ?_
 rintro e wb ⟨rfl, ht, hk⟩
 have HB2 := Lib.hid (Below.keptP HB.out hk HB.out.size (fun q hq => hq ▸ HGE.out))
 have HT2 := Lib.hid ht
 clear ht hk
 go_wp2_with fail
 go_ret
 exact ⟨fb, rfl, HGE.out, HT2.out, HB2.out⟩
theorem asked_any (G : GP) (ok : G.Ok) (gb tb : Nat) (a : Option Addr) (n c : Nat) (hn : n ≤ 64) (s : ByteArray) (hs : s.size = 32) (w : World) (hG : GroupAt w gb G) (hT : TalkAt w tb s) (hne : ¬ gb = tb) :
  Calls Tryz.prog 65 #[.agg #[.pointer (some ⟨gb, 0, none⟩), .slice a n c], .pointer (some ⟨tb, 0, none⟩)] w fun e w' => ∃ a' c', e = .returned (.slice a' n c') ∧ Sl w' w'.heap.size a' ((nonceL G s n).flatMap (limC G.q.m)) ∧ (∀ x, a' = some x → w.heap.size ≤ x.block) ∧ TalkAt w' tb (askT s n) ∧ Kept (fun q => q = tb) w w' := by
 have HCH := Lib.hid (fun t (ht : t.size = 32) w h1 h2 => gChallenge_any G ok gb tb t nonceB (by omega) (by decide) w h1 h2 hne)
 have HSC := Lib.hid (fun j => limC_text ok (chN (askT s j) nonceB))
 have HSU := Lib.hid (show ∀ j, (nonceL G s (j + 1)).flatMap (limC G.q.m) = (nonceL G s j).flatMap (limC G.q.m) ++ limC G.q.m (nonceS G s j) from fun j => by rw [nonceL_succ, List.flatMap_append]; simp)
 unfold nonceS at HSU
 have HAZ := Lib.hid (fun j => askT_size hs j)
 have HAS := Lib.hid (show ∀ j, askT s (j + 1) = chT (askT s j) nonceB from fun _ => rfl)
 have H0 := Lib.hid (show askT s 0 = s ∧ (nonceL G s 0).flatMap (limC G.q.m) = [] from ⟨rfl, rfl⟩)
 generalize askT s = AT at *
 generalize nonceL G s = NL at *
 generalize chN = CN at *
 generalize chT = CT at *
 have HG := Lib.hid hG
 have HGL := Lib.hid hG.lt
 have HTL := Lib.hid hT.lt
 have HT := Lib.hid (show TalkAt w tb (AT 0) from H0.out.1 ▸ hT)
 clear hG hT hs
 go_enter Tryz.func65, Tryz.ntmps65
 go_wp2_with fail
 obtain ⟨w1, hq1, hb9, hz9, Hbs⟩ := new1 w 64 [.pointer (some ⟨gb, 0, none⟩), .slice a n c]
 rw [hq1]
 clear hq1
 have HB := Lib.hid hb9
 have HZS := hz9
 clear hb9 hz9
 have bs_ := Hbs.out.c2
 have HK1 := Lib.hid ((Kept.refl (fun q => q = tb) w).up HB.out)
 have HT1 := Lib.hid (Bx.up HT.out HB.out)
 have HBS := Lib.hid Hbs.out.lt
 go_wp2_with fail
 go_loopw [9, 5] (fun i v wr => ∃ (j : Nat) (g : Option Addr) (c9 : Nat), j ≤ n ∧ i = .int .i64 (j : Int) ∧ v = .slice g j c9 ∧ Hid (TalkAt wr tb (AT j)) ∧ Hid (Bx wr w.heap.size 64 [.pointer (some ⟨gb, 0, none⟩), .slice a n c]) ∧ Hid (Kept (fun q => q = tb) w wr) ∧ Hid (RowO w1.heap.size wr 72 4 (.slice g j c9) j ((NL j).flatMap (limC G.q.m)))) (fun i _ _ => n - (intOf i).toNat)
 case atStart => exact ⟨0, none, 0, Nat.zero_le _, rfl, rfl, HT1, Hbs, HK1, by rw [H0.out.2]; exact RowO.nil⟩
 case round =>
  clear HT HT1 HK1 HB Hbs bs_
  obtain ⟨j, g, c9, hj, rfl, rfl, HT, Hbs, HK, Hr⟩ := hrel
  have HZ1 := Lib.hid HK.out.size
  have HZ2 := Lib.hid Hbs.out.lt
  by_cases hjn : j < n
  ·have bs_ := Hbs.out.c2
   go_wp2_with fail
   refine (HCH.out (AT j) (HAZ.out j) wr ((HG.out.keptP HK.out hne)) HT.out).mono ?_
   rintro e wz ⟨rfl, ht, hk⟩
   have Hbs9 := Lib.hid (Hbs.out.keptP hk (show ¬ w.heap.size = tb by have := HTL.out; omega))
   have HK9 := Lib.hid (HK.out.trans hk)
   have Hr9 := Lib.hid (Hr.out.grown (kept_gw hk) (fun q9 e8 e9 => by have a1 := (Hr.out.lt _ e8).1; have a0 := Option.some.inj e9; have := HTL.out; have := HBS.out; omega))
   have Ht := Lib.hid (show Bx wz tb 192 [.string (AT (j + 1))] from HAS.out j ▸ ht)
   have HZ3 := Lib.hid HK9.out.size
   have HZ4 := Lib.hid Ht.out.lt
   have HZ5 := Lib.hid Hbs9.out.lt
   clear ht hk Hbs HK Hr HT bs_
   have Hbs := Hbs9
   have HK := HK9
   have Hr := Hr9
   clear Hbs9 HK9 Hr9
   unfold scV limbV
   replace HZS := sz HZS HZ3.out
   replace HZS := sz HZS HZ4.out
   replace HZS := sz HZS HZ5.out
   replace HZS := sz HZS HTL.out
   replace HZS := sz HZS HBS.out
   replace HZS := sz HZS HGL.out
   have bs_ := Hbs.out.c2
   have t_ := Ht.out.c1
   obtain ⟨i9, hi9, hz90, hz91, hz92⟩ := info_parts infoScalar
   go_wp2_with (at_builtin; refine wpList_pushR (w1.heap.size) wz (by have g0 := HZS.out; omega) rfl _ _ 65 rfl 72 i9 _ 4 32 Tryz.underlying65 hi9 hz90 hz91 hz92 rfl (by omega) ((.slice g j c9)) (j) (((NL j).flatMap (limC G.q.m))) rfl Hr.out _ _ _ rfl rfl rfl (by simp [Value.oneCell']) (by omega) (by unfold maxLen; omega) ?_)
   intro g2 c2 w2 hown9 hg9
   clear bs_ t_
   replace Hbs := Lib.hid (Hbs.out.grown hg9 (fun e9 => by have a1 := Hr.out.lt _ e9; have g0 := HZS.out; omega))
   replace Ht := Lib.hid (Ht.out.grown hg9 (fun e9 => by have a1 := Hr.out.lt _ e9; have g0 := HZS.out; omega))
   replace HK := Lib.hid (Kept.grown HK.out hg9 (fun q hq => Or.inl (Nat.le_trans (show w.heap.size ≤ w1.heap.size by have g0 := HZS.out; omega) (Hr.out.lt q hq).1)))
   replace HZS := sz HZS hg9.size
   clear Hr
   have Hr := Lib.hid hown9
   clear hown9 hg9 hi9 hz90 hz91 hz92
   have bs_ := Hbs.out.c2
   have t_ := Ht.out.c1
   go_wp2_with fail
   go_roundw
   case rel => exact ⟨j + 1, _, _, hjn, by go_num, rfl, Ht, Hbs, HK, Hr.out.eq (by rw [HSU.out, HSC.out]) rfl⟩
   case measure => simp [intOf]; omega
  ·have hj' : j = n := by omega
   subst hj'
   have bs_ := Hbs.out.c2
   go_wp2_with fail
   go_ret
   exact ⟨g, c9, rfl, Hr.out.sl, fun x hx => by have := Hr.out.lt x.block (by rw [hx]; rfl); have := HBS.out; omega, HT.out, HK.out⟩
theorem ans_snoc (G : GP) (N : Nat) {ws xs : List ByteArray} {j : Nat} (h1 : j < ws.length) (h2 : j < xs.length) : ((ansL G N ws xs).take (j + 1)).map Value.string = ((ansL G N ws xs).take j).map Value.string ++ [.string (textS ((numOf ws[j] + N * numOf xs[j]) % G.q.m) G.size)] := by
 unfold ansL
 have hl : j < (List.zipWith (ansF G N) ws xs).length := by rw [List.length_zipWith]; omega
 rw [List.take_succ_eq_append_getElem hl, List.map_append, List.map_cons, List.map_nil, List.getElem_zipWith]
 rfl
theorem ansL_len (G : GP) (N : Nat) {ws xs : List ByteArray} {n : Nat} (h1 : ws.length = n) (h2 : xs.length = n) : (ansL G N ws xs).length = n := by unfold ansL; rw [List.length_zipWith, h1, h2, Nat.min_self]
theorem answers_any (G : GP) (ok : G.Ok) (gb N : Nat) (a : Option Addr) (m c : Nat) (ws xs : List ByteArray) (n : Nat) (hw : ws.length = n) (hx : xs.length = n) (hn : n ≤ 64) (aw ax : Option Addr) (cw cx : Nat) (w : World) (hG : GroupAt w gb G) (hW : Sl w w.heap.size aw (ws.flatMap (limC G.q.m))) (hX : Sl w w.heap.size ax (xs.flatMap (limC G.q.m))) :
  Calls Tryz.prog 69 #[.agg #[.pointer (some ⟨gb, 0, none⟩), .slice a m c], .slice aw n cw, scV G N, .slice ax n cx] w fun e w' => ∃ a' c', e = .returned (.slice a' n c') ∧ Sl w' w'.heap.size a' ((ansL G N ws xs).map Value.string) ∧ (∀ x, a' = some x → w.heap.size ≤ x.block) ∧ n ≤ c' ∧ (a' = none → c' = 0) ∧ Below w.heap.size w w' := by
 have OK := Lib.hid ok
 have HSN := Lib.hid (fun j h1 h2 => ans_snoc G N (ws := ws) (xs := xs) (j := j) h1 h2)
 have HAL := Lib.hid (ansL_len G N hw hx)
 generalize ansL G N ws xs = AL at *
 have HG := Lib.hid hG
 have HW := Lib.hid hW
 have HX := Lib.hid hX
 have HWN := Lib.hid hw
 have HXN := Lib.hid hx
 clear ok hG hW hX hw hx
 unfold scV limbV
 go_enter Tryz.func69, Tryz.ntmps69
 go_wp2_with fail
 obtain ⟨w1, hq1, hb9, hz9, Hbs, Hbc⟩ := new2 w 64 [.pointer (some ⟨gb, 0, none⟩), .slice a m c] 72 [.int .u64 (dig (mont G.q.m N) 0 : Int), .int .u64 (dig (mont G.q.m N) 1 : Int), .int .u64 (dig (mont G.q.m N) 2 : Int), .int .u64 (dig (mont G.q.m N) 3 : Int)]
 rw [hq1]
 clear hq1
 have HB := Lib.hid hb9
 have HZS := hz9
 clear hb9 hz9
 have bs_ := Hbs.out.c2
 have bc_ := Hbc.out.c4
 have HWZ := Lib.hid HB.out.size
 have BL := Lib.hid (Below.refl w1.heap.size w1)
 go_wp2_with fail
 go_loopw [14, 9] (fun i v wr => ∃ (j : Nat) (g : Option Addr) (c9 : Nat), j ≤ n ∧ i = .int .i64 (j : Int) ∧ v = .slice g j c9 ∧ Hid (Below w1.heap.size w1 wr) ∧ Hid (RowO w1.heap.size wr 9 1 (.slice g j c9) j ((AL.take j).map Value.string))) (fun i _ _ => n - (intOf i).toNat)
 case atStart => exact ⟨0, none, 0, Nat.zero_le _, rfl, rfl, BL, RowO.nil⟩
 case round =>
  obtain ⟨j, g, c9, hj, rfl, rfl, HL9, Hr⟩ := hrel
  have hb9 := HL9.out
  clear HL9 bs_
  replace Hbs := Lib.hid (Hbs.out.up hb9)
  clear bc_
  replace Hbc := Lib.hid (Hbc.out.up hb9)
  replace BL := hbu BL hb9
  replace HB := hbu HB hb9
  replace HZS := sz HZS hb9.size
  clear hb9
  have bs_ := Hbs.out.c2
  have bc_ := Hbc.out.c4
  by_cases hjn : j < n
  ·have hjw : j < ws.length := by rw [HWN.out]; exact hjn
   have hjx : j < xs.length := by rw [HXN.out]; exact hjn
   obtain ⟨bw, ow, rfl, hbw, hcw⟩ := HW.out.elem (limC_len _) (by omega) j hjw
   obtain ⟨bx, ox, rfl, hbx, hcx⟩ := HX.out.elem (limC_len _) (by omega) j hjx
   have hcw_0 := hcw 0 _ rfl
   rw [Nat.add_zero] at hcw_0
   have hcw_1 := hcw 1 _ rfl
   have hcw_2 := hcw 2 _ rfl
   have hcw_3 := hcw 3 _ rfl
   clear hcw
   have hcx_0 := hcx 0 _ rfl
   rw [Nat.add_zero] at hcx_0
   have hcx_1 := hcx 1 _ rfl
   have hcx_2 := hcx 2 _ rfl
   have hcx_3 := hcx 3 _ rfl
   clear hcx
   replace hcw_0 := cell_up HB.out hbw hcw_0
   replace hcw_1 := cell_up HB.out hbw hcw_1
   replace hcw_2 := cell_up HB.out hbw hcw_2
   replace hcw_3 := cell_up HB.out hbw hcw_3
   have hlw := HWZ.out
   have HNP := Lib.hid (fun q e => (Hr.out.lt q e).2)
   have HSJ := Lib.hid (HSN.out j hjw hjx)
   generalize ws[j] = x at *
   generalize xs[j] = y at *
   have o2_bs_ := bs_; clear bs_
   have o2_bc_ := bc_; clear bc_
   obtain ⟨w2, hq2, hb9, hz9, Hbn⟩ := new1 wr 72 [.int .u64 (dig (mont G.q.m (numOf x)) 0 : Int), .int .u64 (dig (mont G.q.m (numOf x)) 1 : Int), .int .u64 (dig (mont G.q.m (numOf x)) 2 : Int), .int .u64 (dig (mont G.q.m (numOf x)) 3 : Int)]
   replace Hbs := Lib.hid (Hbs.out.up hb9)
   replace Hbc := Lib.hid (Hbc.out.up hb9)
   replace Hr := Lib.hid (Hr.out.up hb9)
   replace BL := hbu BL hb9
   replace HB := hbu HB hb9
   replace HZS := sz HZS hz9.out
   clear hb9 hz9
   have bs_ := Hbs.out.c2
   have bc_ := Hbc.out.c4
   have bn_ := Hbn.out.c4
   go_wp2_with fail
   clear hq2 o2_bc_ o2_bs_
   replace hcx_0 := cell_up HB.out hbx hcx_0
   replace hcx_1 := cell_up HB.out hbx hcx_1
   replace hcx_2 := cell_up HB.out hbx hcx_2
   replace hcx_3 := cell_up HB.out hbx hcx_3
   have hbx2 := Nat.lt_of_lt_of_le hbx HB.out.size
   have HT := Lib.hid (show Below w2.heap.size w2 w2.drew from (Below.refl _ _).drew)
   have hl_bs := Hbs.out.lt
   have hl_bc := Hbc.out.lt
   have hl_bn := Hbn.out.lt
   refine wp_region_tree (fun wq9 => ∃ E : But w2 (Value.ownBlock (.slice g j c9)), wq9 = E.w) ((.qs [0, 1, 2, 3, 4, 5, 6, 7, 8, 9, 10, 11, 12] (.a 13 (.a 14 (.a 15 (.a 16 (.a 17 (.qs [18] .done)))))))) (by kernel_rfl) (by kernel_rfl) (fun _ _ d _ _ h => by cases d <;> exact h) ⟨⟨_, ((below_grown HT.out).but _)⟩, rfl⟩ ?_
   have hov_bs := fun (E : But w2 (Value.ownBlock (.slice g j c9))) o => E.cell (b := w.heap.size) o hl_bs (by intro e9; have a2 := HNP.out _ e9; have a1 := Hr.out.lt _ e9; have g0 := HZS.out; omega)
   have hov_bc := fun (E : But w2 (Value.ownBlock (.slice g j c9))) o => E.cell (b := w.heap.size + 1) o hl_bc (by intro e9; have a2 := HNP.out _ e9; have a1 := Hr.out.lt _ e9; have g0 := HZS.out; omega)
   have hov_bn := fun (E : But w2 (Value.ownBlock (.slice g j c9))) o => E.cell (b := wr.heap.size) o hl_bn (by intro e9; have a2 := HNP.out _ e9; have a1 := Hr.out.lt _ e9; have g0 := HZS.out; omega)
   have hov_bx := fun (E : But w2 (Value.ownBlock (.slice g j c9))) o => E.cell (b := bx) o hbx2 (by intro e9; have a2 := HNP.out _ e9; have a1 := Hr.out.lt _ e9; have g0 := HZS.out; omega)
   simp only [Tree.qs]
   repeat (refine tree_q rfl rfl ?_; go_big_quiet_step (fail); refine wpQuiet_nil ?_)
   refine tree_a rfl (fun K hK => ?_)
   go_simp
   refine (gMul_any G OK.out gb N (numOf y) _ (HG.out.up (below_up HB.out HT.out))).mono ?_
   rintro e w3 ⟨rfl, hb9⟩
   replace HT := Lib.hid (below_up HT.out hb9)
   replace HZS := sz HZS (show w2.heap.size ≤ w3.heap.size from HT.out.size)
   clear hb9
   refine hK _ _ ⟨⟨⟨w3, ((below_grown HT.out).but _)⟩, rfl⟩, ?_⟩
   clear hK K
   repeat (refine tree_q rfl rfl ?_; go_big_quiet_step (fail); refine wpQuiet_nil ?_)
   refine tree_a rfl (fun K hK => ?_)
   go_simp
   refine (gAdd_any G OK.out gb (numOf x) (N * numOf y) _ (HG.out.up (below_up HB.out HT.out))).mono ?_
   rintro e w4 ⟨rfl, hb9⟩
   replace HT := Lib.hid (below_up HT.out hb9)
   replace HZS := sz HZS (show w2.heap.size ≤ w4.heap.size from HT.out.size)
   clear hb9
   refine hK _ _ ⟨⟨⟨w4, ((below_grown HT.out).but _)⟩, rfl⟩, ?_⟩
   clear hK K
   repeat (refine tree_q rfl rfl ?_; go_big_quiet_step (fail); refine wpQuiet_nil ?_)
   refine tree_a rfl (fun K hK => ?_)
   go_simp
   refine (gPut_any G OK.out gb (numOf x + N * numOf y) _ (HG.out.up (below_up HB.out HT.out))).mono ?_
   rintro e w5 ⟨rfl, hb9⟩
   replace HT := Lib.hid (below_up HT.out hb9)
   replace HZS := sz HZS (show w2.heap.size ≤ w5.heap.size from HT.out.size)
   clear hb9
   refine hK _ _ ⟨⟨⟨w5, ((below_grown HT.out).but _)⟩, rfl⟩, ?_⟩
   clear hK K
   repeat (refine tree_q rfl rfl ?_; go_big_quiet_step (fail); refine wpQuiet_nil ?_)
   clear hov_bs hl_bs hov_bc hl_bc hov_bn hl_bn hov_bx
   refine tree_a rfl (fun K hK => ?_)
   go_simp
   refine hK _ _ ⟨⟨⟨_, (below_grown (HT.out.alloc HT.out.size _)).but _⟩, rfl⟩, ?_⟩
   clear hK K
   obtain ⟨i9, hi9, hz90, hz91, hz92⟩ := info_parts infoStr
   have HG1 := Lib.hid ((below_grown HT.out).but (Value.ownBlock (.slice g j c9)))
   clear bs_
   replace Hbs := Lib.hid (Hbs.out.up HT.out)
   clear bc_
   replace Hbc := Lib.hid (Hbc.out.up HT.out)
   clear bn_
   replace Hbn := Lib.hid (Hbn.out.up HT.out)
   replace Hr := Lib.hid (Hr.out.up HT.out)
   replace BL := hbu BL HT.out
   replace HB := hbu HB HT.out
   replace HZS := sz HZS HT.out.size
   refine tree_a rfl (fun K hK => ?_)
   refine step_pushR (w1.heap.size) w5 (by have g0 := HZS.out; omega) rfl _ _ 23 rfl 9 i9 _ 1 16 Tryz.underlying23 hi9 hz90 hz91 hz92 rfl (by omega) ((.slice g j c9)) (j) (((AL.take j).map Value.string)) rfl Hr.out _ _ _ rfl rfl rfl (by simp [Value.oneCell']) (by omega) (by unfold maxLen; omega) ?_
   intro g6 c6 w6 hown9 hg9
   have HGR := Lib.hid (HG1.out.trans hg9)
   have hb9 := Below.grown HB.out hg9 (by have g0 := HZS.out; omega) (fun q hq => Nat.le_trans (show w.heap.size ≤ w1.heap.size by have g0 := HZS.out; omega) (Hr.out.lt q hq).1)
   replace Hbs := Lib.hid (Hbs.out.grown hg9 (fun e9 => by have a2 := HNP.out _ e9; have a1 := Hr.out.lt _ e9; have g0 := HZS.out; omega))
   replace Hbc := Lib.hid (Hbc.out.grown hg9 (fun e9 => by have a2 := HNP.out _ e9; have a1 := Hr.out.lt _ e9; have g0 := HZS.out; omega))
   replace Hbn := Lib.hid (Hbn.out.grown hg9 (fun e9 => by have a2 := HNP.out _ e9; have a1 := Hr.out.lt _ e9; have g0 := HZS.out; omega))
   replace BL := Lib.hid (Below.grown BL.out hg9 (by have g0 := HZS.out; omega) (fun q hq => Nat.le_trans (show w1.heap.size ≤ w1.heap.size by have g0 := HZS.out; omega) (Hr.out.lt q hq).1))
   replace HZS := sz HZS hg9.size
   clear Hr HB HT HG1
   have Hr := Lib.hid hown9
   have HB := Lib.hid hb9
   clear hb9 hown9 hg9 hi9 hz90 hz91 hz92
   refine hK _ _ ⟨⟨⟨w6, HGR.out⟩, rfl⟩, ?_⟩
   clear hK K HGR
   have bs_ := Hbs.out.c2
   have bc_ := Hbc.out.c4
   have bn_ := Hbn.out.c4
   try simp only [Act.put, List.setIfInBounds_toArray, List.set_cons_succ, List.set_cons_zero]
   repeat (refine tree_q rfl rfl ?_; go_big_quiet_step (fail); refine wpQuiet_nil ?_)
   refine tree_end ?_
   go_wp2_with fail
   go_roundw
   case rel => exact ⟨j + 1, _, _, hjn, by go_num, rfl, BL, Hr.out.eq HSJ.out.symm rfl⟩
   case measure => simp [intOf]; omega
  ·have hj' : j = n := by omega
   subst hj'
   rw [List.take_of_length_le (by rw [HAL.out]; exact Nat.le_refl _)] at Hr
   go_wp2_with fail
   go_ret
   exact ⟨g, c9, rfl, Hr.out.sl, fun x hx => by have h1 := Hr.out.lt x.block (by rw [hx]; rfl); have h2 := HWZ.out; omega, RowO.room Hr.out, RowO.none0 Hr.out, HB.out⟩
end Go.Proofs.YtdlnnkbigeiilaaGreat
namespace Go.Proofs.YtdlnnkbigeiilaaGreat
open Go.RowKit
def prvT (k : Int) (label : ByteArray) (l : List ClaimA) : ByteArray := sayCl (beginT claimsB label k) l
def prvL (k : Int) (label : ByteArray) (l : List ClaimA) (seed : ByteArray) : List ByteArray := nonceL (grp k.toNat) (say1 (prvT k label l) seedB seed) l.length
def prvF (k : Int) (label : ByteArray) (l : List ClaimA) (seed : ByteArray) : List (List ByteArray) := eachA (grp k.toNat) (valF (grp k.toNat) l (prvL k label l seed)) (lens l) l.length
def prvN (k : Int) (label : ByteArray) (l : List ClaimA) (seed : ByteArray) : Nat := chN (sayFi (prvT k label l) (prvF k label l seed)) challengeB
def prvC (k : Int) (label : ByteArray) (l : List ClaimA) (seed : ByteArray) : ByteArray := textS (prvN k label l seed % (grp k.toNat).q.m) (grp k.toNat).size
def prvA (k : Int) (label : ByteArray) (l : List ClaimA) (xs : List ByteArray) (seed : ByteArray) : List ByteArray := ansL (grp k.toNat) (prvN k label l seed) (prvL k label l seed) xs
def prvE (k : Int) (l : List ClaimA) (xs : List ByteArray) : Nat := if openK k l xs = 0 then (if holdP (grp k.toNat) l xs = true then 0 else 8) else openK k l xs
def ProveR (er : Int) (C : ByteArray) (A : List ByteArray) (w : World) (e : Ending) (w' : World) : Prop :=
 Below w.heap.size w w' ∧ ∃ a c, e = .returned (.tuple #[.agg #[.string C, .slice a A.length c], .int .i64 er]) ∧ Sl w' w'.heap.size a (A.map Value.string) ∧ (a = none → c = 0) ∧ A.length ≤ c ∧ ∀ y, a = some y → w.heap.size ≤ y.block
theorem proveR_none (er : Int) {w w' : World} (h : Below w.heap.size w w') : ProveR er ⟨#[]⟩ [] w (.returned (.tuple #[.agg #[.string ⟨#[]⟩, .slice none 0 0], .int .i64 er])) w' := ⟨h, none, 0, rfl, Or.inl rfl, fun _ => rfl, Nat.le_refl _, fun _ h => nomatch h⟩
end Go.Proofs.YtdlnnkbigeiilaaGreat
namespace Go.Proofs.YtdlnnkbigeiilaaGreat
open Go.RowKit
theorem Sl.setO {W : World} {b : Nat} {a : Option Addr} {xs : List Value} (h : Sl W W.heap.size a xs) (hne : ∀ x, a = some x → x.block ≠ b) (i : Nat) (v : Value) : Sl (W.setCell ⟨b, i, none⟩ v) (W.setCell ⟨b, i, none⟩ v).heap.size a xs := by
 rcases h with h | ⟨q, o, rfl, hq, hc⟩
 ·exact Or.inl h
 ·refine Or.inr ⟨q, o, rfl, by simpa [World.setCell] using hq, fun j u hu => ?_⟩
  rw [World.cell?_setCell_other _ _ _ _ (by intro e; exact hne _ rfl (congrArg Addr.block e).symm)]
  exact hc j u hu
theorem sProve_any (k : Int) (label : ByteArray) (hlb : label.size < 140737488355328) (l : List ClaimA) (al : Option Addr) (cl : Nat) (xs : List ByteArray) (ax : Option Addr) (cx : Nat) (hn : xs.length ≤ 8796093022207) (seed : ByteArray) (hsd : seed.size < 140737488355328) (hcap : ∀ c ∈ l, CapOk c) (w : World) (hC : ClaimsAt w al l) (hS : Sl w w.heap.size ax (xs.map Value.string)) :
  Calls Tryz.prog 14 #[.int .i64 k, .string label, .slice al l.length cl, .slice ax xs.length cx, .string seed] w (ProveR (prvE k l xs : Int) (if prvE k l xs = 0 then prvC k label l seed else ⟨#[]⟩) (if prvE k l xs = 0 then prvA k label l xs seed else []) w) := by
 have HCAP := Lib.hid hcap
 have HO := Lib.hid (fun w1 (hb : Below w.heap.size w w1) => open_any k l al cl xs ax cx hn w1 (hC.up hb) (hS.up hb))
 obtain ⟨z, hz⟩ : ∃ z, openK k l xs = z := ⟨_, rfl⟩
 have HE := Lib.hid (show prvE k l xs = if z = 0 then (if holdP (grp k.toNat) l xs = true then 0 else 8) else z by rw [← hz]; rfl)
 rw [hz] at HO
 clear hC hS hcap
 by_cases h0 : z = 0
 ·subst h0
  obtain ⟨b, hb0⟩ : ∃ b, holdP (grp k.toNat) l xs = b := ⟨_, rfl⟩
  have HHB := Lib.hid hb0
  obtain ⟨hk9, hsh9, hr99⟩ := openK_ok hz
  clear hr99
  have hl64' := (shape_ok hsh9).2.1
  have OK0 := Lib.hid (grp_ok k.toNat (by omega) (by omega))
  have hs1 : (prvT k label l).size = 32 := sayCl_size _ _ (say1_size _ _ _)
  have hs2 : (say1 (prvT k label l) seedB seed).size = 32 := say1_size _ _ _
  have hs3 : (sayFi (prvT k label l) (prvF k label l seed)).size = 32 := sayFi_size _ _ hs1
  have HF1 := Lib.hid (fun gb w hG => sbegin_any (grp k.toNat) gb claimsB label (by decide) hlb (by rw [grp_kind k.toNat (by omega) (by omega)]; omega) w hG)
  have HF2 := Lib.hid (fun gv tb (rs : List ClaimR) (hrs : rs.map ClaimR.k = l) sh al cl w0 w hb htb hT hS hC => (show Calls Tryz.prog 39 #[.agg #[gv, .slice al l.length cl], .pointer (some ⟨tb, 0, none⟩)] w fun e w' => e = .returned (.tuple #[]) ∧ TalkAt w' tb (prvT k label l) ∧ Kept (fun q => q = tb) w w' from by
   have h := say_any (grp k.toNat) gv tb (beginT claimsB label k) rs rs.length rfl (by rw [← hrs, List.length_map] at hl64'; exact hl64') (say1_size _ _ _) sh al cl w0 w hb htb hT hS hC
   rw [hrs, show rs.length = l.length by rw [← hrs, List.length_map]] at h
   exact h))
  have HF3 := Lib.hid (fun tb w hT => seeded_any tb (prvT k label l) seed hs1 hsd w hT)
  have HF4 := Lib.hid (fun gb fb a c w hG hT hne => asked_any (grp k.toNat) OK0.out gb fb a l.length c hl64' (say1 (prvT k label l) seedB seed) hs2 w hG hT hne)
  have HF5 := Lib.hid (fun tb (ro : List RowA) (hro : ro.map RowA.l = prvF k label l seed) sh hok al cl w hT hC ha hr => (show Calls Tryz.prog 40 #[.pointer (some ⟨tb, 0, none⟩), .slice al ro.length cl] w fun e w' => e = .returned (.tuple #[]) ∧ TalkAt w' tb (sayFi (prvT k label l) (prvF k label l seed)) ∧ Kept (fun q => q = tb) w w' from by
   have h := said_any tb (prvT k label l) ro ro.length rfl (by rw [show ro.length = l.length by have h9 := congrArg List.length hro; rw [List.length_map] at h9; rw [h9]; unfold prvF; rw [eachA_len]]; exact hl64') hs1 sh hok al cl w hT hC ha hr
   rw [hro] at h
   exact h))
  have HF6 := Lib.hid (fun gb tb w hG hT hne => gChallenge_any (grp k.toNat) OK0.out gb tb (sayFi (prvT k label l) (prvF k label l seed)) challengeB (by rw [hs3]; decide) (by decide) w hG hT hne)
  have HNL := Lib.hid (show (prvL k label l seed).length = l.length from nonceL_len _ _ _)
  have HFF := Lib.hid (show prvF k label l seed = eachA (grp k.toNat) (valF (grp k.toNat) l (prvL k label l seed)) (lens l) l.length from rfl)
  have HRC := Lib.hid (show prvC k label l seed = textS (prvN k label l seed % (grp k.toNat).q.m) (grp k.toNat).size from rfl)
  have HRA := Lib.hid (show prvA k label l xs seed = ansL (grp k.toNat) (prvN k label l seed) (prvL k label l seed) xs from rfl)
  have HRN := Lib.hid (show prvN k label l seed = chN (sayFi (prvT k label l) (prvF k label l seed)) challengeB from rfl)
  generalize prvC k label l seed = PC at *
  generalize prvA k label l xs seed = PA at *
  generalize hqn : prvN k label l seed = PN at *
  generalize prvF k label l seed = PF at *
  generalize sayFi (prvT k label l) PF = t3 at *
  rw [← HRN.out] at HF6
  generalize chT t3 challengeB = t4 at *
  have hLL : nonceL (grp k.toNat) (say1 (prvT k label l) seedB seed) l.length = prvL k label l seed := rfl
  rw [hLL] at HF4
  generalize prvL k label l seed = NL at *
  generalize askT (say1 (prvT k label l) seedB seed) l.length = t5 at *
  generalize say1 (prvT k label l) seedB seed = t2 at *
  generalize prvT k label l = t1 at *
  generalize beginT claimsB label = BT at *
  clear hs1 hs2 hs3 hqn hLL hb0 hsd hlb hl64' hsh9 hk9
  cases b
  ·have HE2 := Lib.hid (show prvE k l xs = 8 by rw [HE.out, if_pos rfl, if_neg (by rw [HHB.out]; simp)])
   rw [HE2.out, if_neg (by decide), if_neg (by decide)]
   clear HE HE2
   go_enter Tryz.func14, Tryz.ntmps14
   go_wp2_with fail
   obtain ⟨w1, hq1, hb9, hz9, Hout⟩ := new1 w 25 [.string ⟨#[]⟩, .slice none 0 0]
   rw [hq1]
   clear hq1
   have HB := Lib.hid hb9
   have HZS := hz9
   clear hb9 hz9
   have out_ := Hout.out.c2
   go_wp2_with fail
   refine (HO.out _ HB.out).mono ?_
   rintro e w2 ⟨hb9, pp, qa, qn, qc, v, rfl, hok⟩
   clear out_
   replace Hout := Lib.hid (Hout.out.up hb9)
   replace HB := hbu HB hb9
   replace HZS := sz HZS hb9.size
   have HOK := Lib.hid hok
   clear hok hb9
   have out_ := Hout.out.c2
   obtain ⟨gb, rs, a, c, a', c', e1, e2, rfl, hrk, hg9, hs9, hp9, hx9⟩ := HOK.out rfl
   obtain rfl := Value.pointer.inj e1
   obtain ⟨rfl, rfl, rfl⟩ := Value.slice.inj e2
   obtain ⟨hk9, hsh, hel, hxl, hxa⟩ := openK_ok hz
   have HRK := Lib.hid hrk
   have HRL := Lib.hid (show rs.length = l.length by rw [← hrk, List.length_map])
   have HG := Lib.hid hg9
   have HST := Lib.hid hs9
   have HXX := Lib.hid hx9
   have HSP := Lib.hid hp9
   have HXL := Lib.hid hxl
   have HK9 := Lib.hid hk9
   have hl64 := (shape_ok hsh).2.1
   have HSHP := Lib.hid (show ∀ r ∈ rs, r.k.bases.length ≤ 8 ∧ r.k.images.length = r.k.bases.length from fun r hr => by
    have h9 := (shape_ok hsh).2.2 r.k (by rw [← hrk]; exact List.mem_map.2 ⟨r, hr, rfl⟩)
    exact ⟨h9.2.1, h9.2.2⟩)
   have OK := Lib.hid (grp_ok k.toNat (by omega) (by omega))
   have HSY := Lib.hid (show ∀ r ∈ rs, SayOk r.k ∧ CapOk r.k from fun r hr => by
    have hm : r.k ∈ l := by rw [← hrk]; exact List.mem_map.2 ⟨r, hr, rfl⟩
    have h9 := (shape_ok hsh).2.2 r.k hm
    have h8 := List.all_eq_true.1 hel r.k hm
    unfold cElems at h8
    rw [Bool.and_eq_true] at h8
    have hs := OK.out.size_le
    have hsm : ∀ s, isEl (grp k.toNat).q.m (grp k.toNat).size s = true → s.size ≤ 32 := fun s h => by
     unfold isEl at h
     simp only [Bool.and_eq_true, decide_eq_true_eq, beq_iff_eq] at h
     omega
    exact ⟨⟨h9.2.1, by omega, fun x hx => hsm x (List.all_eq_true.1 h8.1 x hx), fun x hx => hsm x (List.all_eq_true.1 h8.2 x hx)⟩, HCAP.out _ hm⟩)
   rw [show xs.length = rs.length by rw [HXL.out, HRL.out]]
   clear hrk hg9 hs9 hp9 hx9 hsh hel hxl hxa hk9 HOK
   rw [HRL.out]
   have BS := Lib.hid (Below.refl w2.heap.size w2)
   have o3_out_ := out_; clear out_
   obtain ⟨w3, hq3, hb9, hz9, Hbs⟩ := new1 w2 64 [.pointer (some ⟨gb, 0, none⟩), .slice qa l.length qc]
   replace Hout := Lib.hid (Hout.out.up hb9)
   replace BS := hbu BS hb9
   replace HB := hbu HB hb9
   replace HZS := sz HZS hz9.out
   clear hb9 hz9
   have out_ := Hout.out.c2
   have bs_ := Hbs.out.c2
   go_wp2_with fail
   clear hq3 o3_out_
   refine (holds_any (grp k.toNat) OK.out gb rs l.length HRL.out qa qc xs HXL.out a' c' hl64 HSHP.out false (by rw [HRK.out, ← HHB.out]) w3 (HG.out.up BS.out) (HST.out.up BS.out) (HXX.out.up BS.out)).mono ?_
   rintro e w4 ⟨rfl, hb9⟩
   clear out_
   replace Hout := Lib.hid (Hout.out.up hb9)
   clear bs_
   replace Hbs := Lib.hid (Hbs.out.up hb9)
   replace BS := hbu BS hb9
   replace HB := hbu HB hb9
   replace HZS := sz HZS hb9.size
   clear hb9
   have out_ := Hout.out.c2
   have bs_ := Hbs.out.c2
   clear BS
   have f5_out := Hout.out.frozen
   have o5_out_ := out_; clear out_
   have o5_bs_ := bs_; clear bs_
   obtain ⟨w5, hq5, hg9, hz9, hx9⟩ := put2 Hout 0 (.string ⟨#[]⟩) 1 (.slice none 0 0) [.string ⟨#[]⟩, .slice none 0 0] rfl
   replace Hbs := Lib.hid (Hbs.out.grown hg9.out (sne (by have g0 := HZS.out; omega)))
   replace HB := hbg HB hg9 (by have g0 := HZS.out; omega)
   replace HZS := sz HZS hz9.out
   replace Hout := hx9
   clear hx9 hg9 hz9
   have out_ := Hout.out.c2
   have bs_ := Hbs.out.c2
   go_wp2_with fail
   clear hq5 o5_bs_ o5_out_ f5_out
   simp [bodyPost, results, Tryz.results14, go_sem, out_]
   exact proveR_none _ HB.out
  ·have HE2 := Lib.hid (show prvE k l xs = 0 by rw [HE.out, if_pos rfl, if_pos HHB.out])
   rw [HE2.out, if_pos rfl, if_pos rfl]
   clear HE HE2
   go_enter Tryz.func14, Tryz.ntmps14
   go_wp2_with fail
   obtain ⟨w1, hq1, hb9, hz9, Hout⟩ := new1 w 25 [.string ⟨#[]⟩, .slice none 0 0]
   rw [hq1]
   clear hq1
   have HB := Lib.hid hb9
   have HZS := hz9
   clear hb9 hz9
   have out_ := Hout.out.c2
   go_wp2_with fail
   refine (HO.out _ HB.out).mono ?_
   rintro e w2 ⟨hb9, pp, qa, qn, qc, v, rfl, hok⟩
   clear out_
   replace Hout := Lib.hid (Hout.out.up hb9)
   replace HB := hbu HB hb9
   replace HZS := sz HZS hb9.size
   have HOK := Lib.hid hok
   clear hok hb9
   have out_ := Hout.out.c2
   obtain ⟨gb, rs, a, c, a', c', e1, e2, rfl, hrk, hg9, hs9, hp9, hx9⟩ := HOK.out rfl
   obtain rfl := Value.pointer.inj e1
   obtain ⟨rfl, rfl, rfl⟩ := Value.slice.inj e2
   obtain ⟨hk9, hsh, hel, hxl, hxa⟩ := openK_ok hz
   have HRK := Lib.hid hrk
   have HRL := Lib.hid (show rs.length = l.length by rw [← hrk, List.length_map])
   have HG := Lib.hid hg9
   have HST := Lib.hid hs9
   have HXX := Lib.hid hx9
   have HSP := Lib.hid hp9
   have HXL := Lib.hid hxl
   have HK9 := Lib.hid hk9
   have hl64 := (shape_ok hsh).2.1
   have HSHP := Lib.hid (show ∀ r ∈ rs, r.k.bases.length ≤ 8 ∧ r.k.images.length = r.k.bases.length from fun r hr => by
    have h9 := (shape_ok hsh).2.2 r.k (by rw [← hrk]; exact List.mem_map.2 ⟨r, hr, rfl⟩)
    exact ⟨h9.2.1, h9.2.2⟩)
   have OK := Lib.hid (grp_ok k.toNat (by omega) (by omega))
   have HSY := Lib.hid (show ∀ r ∈ rs, SayOk r.k ∧ CapOk r.k from fun r hr => by
    have hm : r.k ∈ l := by rw [← hrk]; exact List.mem_map.2 ⟨r, hr, rfl⟩
    have h9 := (shape_ok hsh).2.2 r.k hm
    have h8 := List.all_eq_true.1 hel r.k hm
    unfold cElems at h8
    rw [Bool.and_eq_true] at h8
    have hs := OK.out.size_le
    have hsm : ∀ s, isEl (grp k.toNat).q.m (grp k.toNat).size s = true → s.size ≤ 32 := fun s h => by
     unfold isEl at h
     simp only [Bool.and_eq_true, decide_eq_true_eq, beq_iff_eq] at h
     omega
    exact ⟨⟨h9.2.1, by omega, fun x hx => hsm x (List.all_eq_true.1 h8.1 x hx), fun x hx => hsm x (List.all_eq_true.1 h8.2 x hx)⟩, HCAP.out _ hm⟩)
   rw [show xs.length = rs.length by rw [HXL.out, HRL.out]]
   clear hrk hg9 hs9 hp9 hx9 hsh hel hxl hxa hk9 HOK
   rw [HRL.out]
   have BS := Lib.hid (Below.refl w2.heap.size w2)
   have o3_out_ := out_; clear out_
   obtain ⟨w3, hq3, hb9, hz9, Hbs⟩ := new1 w2 64 [.pointer (some ⟨gb, 0, none⟩), .slice qa l.length qc]
   replace Hout := Lib.hid (Hout.out.up hb9)
   replace BS := hbu BS hb9
   replace HB := hbu HB hb9
   replace HZS := sz HZS hz9.out
   clear hb9 hz9
   have out_ := Hout.out.c2
   have bs_ := Hbs.out.c2
   go_wp2_with fail
   clear hq3 o3_out_
   refine (holds_any (grp k.toNat) OK.out gb rs l.length HRL.out qa qc xs HXL.out a' c' hl64 HSHP.out true (by rw [HRK.out, ← HHB.out]) w3 (HG.out.up BS.out) (HST.out.up BS.out) (HXX.out.up BS.out)).mono ?_
   rintro e w4 ⟨rfl, hb9⟩
   clear out_
   replace Hout := Lib.hid (Hout.out.up hb9)
   clear bs_
   replace Hbs := Lib.hid (Hbs.out.up hb9)
   replace BS := hbu BS hb9
   replace HB := hbu HB hb9
   replace HZS := sz HZS hb9.size
   clear hb9
   have out_ := Hout.out.c2
   have bs_ := Hbs.out.c2
   go_wp2_with fail
   have HST5 := Lib.hid (HST.out.up BS.out)
   have HSP5 := Lib.hid (fun r hr => (HSP.out r hr).up BS.out)
   have HGL := Lib.hid (Nat.lt_of_lt_of_le HG.out.lt BS.out.size)
   have HZW := Lib.hid HB.out.size
   have HZB := Lib.hid BS.out.size
   have HKK := Lib.hid (show ((grp k.toNat).kind : Int) = k by rw [grp_kind k.toNat (by have := HK9.out; omega) (by have := HK9.out; omega)]; have := HK9.out; omega)
   have BQ := Lib.hid (Below.refl w4.heap.size w4)
   refine (HF1.out gb w4 (HG.out.up BS.out)).mono ?_
   rintro e wa ⟨tb, rfl, hge, ht, hb9⟩
   rw [HKK.out] at ht
   have HGE := Lib.hid (show w4.heap.size ≤ tb from hge)
   have Ht := Lib.hid (show Bx wa tb 192 [.string (BT k)] from ht)
   clear hge ht out_
   replace Hout := Lib.hid (Hout.out.up hb9)
   clear bs_
   replace Hbs := Lib.hid (Hbs.out.up hb9)
   replace BS := hbu BS hb9
   replace BQ := hbu BQ hb9
   replace HB := hbu HB hb9
   replace HZS := sz HZS hb9.size
   clear hb9
   have out_ := Hout.out.c2
   have bs_ := Hbs.out.c2
   replace HZS := sz HZS HGE.out
   replace HZS := sz HZS HZW.out
   replace HZS := sz HZS HZB.out
   have t_ := Ht.out.c1
   go_wp2_with fail
   refine (HF2.out _ tb rs HRK.out HSY.out qa qc w4 wa BQ.out HGE.out Ht.out HST5.out HSP5.out).mono ?_
   rintro e wb ⟨rfl, ht, hk⟩
   have HK1 := Lib.hid hk
   have Ht1 := Lib.hid (show Bx wb tb 192 [.string t1] from ht)
   clear ht hk
   have hg9 := HK1.out
   clear out_ bs_ t_ Ht
   replace Hout := Lib.hid (Hout.out.keptP hg9 (show ¬ (_ = tb) by have g0 := HZS.out; omega))
   replace Hbs := Lib.hid (Hbs.out.keptP hg9 (show ¬ (_ = tb) by have g0 := HZS.out; omega))
   replace BS := Lib.hid (Below.keptP BS.out hg9 (by have g0 := HZS.out; omega) (fun q9 h9 => (show w2.heap.size ≤ _ by subst h9; have g0 := HZS.out; omega)))
   replace BQ := Lib.hid (Below.keptP BQ.out hg9 (by have g0 := HZS.out; omega) (fun q9 h9 => (show w4.heap.size ≤ _ by subst h9; have g0 := HZS.out; omega)))
   replace HB := Lib.hid (Below.keptP HB.out hg9 (by have g0 := HZS.out; omega) (fun q9 h9 => (show w.heap.size ≤ _ by subst h9; have g0 := HZS.out; omega)))
   replace HZS := sz HZS (show wa.heap.size ≤ wb.heap.size from hg9.size)
   clear hg9
   have out_ := Hout.out.c2
   have bs_ := Hbs.out.c2
   have Ht := Ht1
   clear Ht1
   have t_ := Ht.out.c1
   have HTL := Lib.hid Ht.out.lt
   replace HZS := sz HZS HTL.out
   have BP := Lib.hid (Below.refl wb.heap.size wb)
   go_wp2_with fail
   have HT := Lib.hid (show Below wb.heap.size wb wb.drew from (Below.refl _ _).drew)
   have hl_out := Hout.out.lt
   have hl_bs := Hbs.out.lt
   have hl_t := Ht.out.lt
   refine wp_region_tree (fun wq9 => ∃ E : Over wb, wq9 = E.w) ((.qs [0, 1, 2] (.a 3 (.a 4 (.qs [5] .done))))) (by kernel_rfl) (by kernel_rfl) (fun _ _ d _ _ h => by cases d <;> exact h) ⟨⟨_, HT.out⟩, rfl⟩ ?_
   have hov_out := fun (E : Over wb) o => E.cell (b := w.heap.size) o hl_out
   have hov_bs := fun (E : Over wb) o => E.cell (b := w2.heap.size) o hl_bs
   have hov_t := fun (E : Over wb) o => E.cell (b := tb) o hl_t
   simp only [Tree.qs]
   repeat (refine tree_q rfl rfl ?_; go_big_quiet_step (fail); refine wpQuiet_nil ?_)
   refine tree_a rfl (fun K hK => ?_)
   go_simp
   refine (HF3.out tb _ (Bx.up Ht.out HT.out)).mono ?_
   rintro e wc ⟨fb, rfl, hfg, hft, hfb⟩
   replace HT := Lib.hid (below_up HT.out hfb)
   have HFG := Lib.hid (show wb.heap.size ≤ fb from hfg)
   have HFT := Lib.hid hft
   refine hK _ _ ⟨⟨⟨wc, HT.out⟩, rfl⟩, ?_⟩
   have HWC := Lib.hid (show wb.heap.size ≤ wc.heap.size from hfb.size)
   clear hK K hfg hft hfb
   repeat (refine tree_q rfl rfl ?_; go_big_quiet_step (fail); refine wpQuiet_nil ?_)
   refine tree_a rfl (fun K hK => ?_)
   go_simp
   refine (HF4.out gb fb qa qc _ ((HG.out.up BS.out).up HT.out) HFT.out (show ¬ gb = fb by have h1 := HGL.out; have h2 := HFG.out; have h3 := HZS.out; omega)).mono ?_
   rintro e wd ⟨a2, c2, rfl, hs2, hf2, ht2, hk2⟩
   have HS2 := Lib.hid hs2
   have HFR := Lib.hid hf2
   replace HT := Lib.hid (Below.keptP HT.out hk2 HT.out.size (fun q hq => hq ▸ HFG.out))
   refine hK _ _ ⟨⟨⟨wd, HT.out⟩, rfl⟩, ?_⟩
   clear hK K hs2 hf2 ht2 hk2 HFT
   repeat (refine tree_q rfl rfl ?_; go_big_quiet_step (fail); refine wpQuiet_nil ?_)
   refine tree_end ?_
   clear hov_out hl_out hov_bs hl_bs hov_t hl_t out_
   replace Hout := Lib.hid (Hout.out.up HT.out)
   clear bs_
   replace Hbs := Lib.hid (Hbs.out.up HT.out)
   clear t_
   replace Ht := Lib.hid (Ht.out.up HT.out)
   replace BS := hbu BS HT.out
   replace BQ := hbu BQ HT.out
   replace BP := hbu BP HT.out
   replace HK1 := Lib.hid (Kept.up HK1.out HT.out)
   replace HB := hbu HB HT.out
   replace HZS := sz HZS HT.out.size
   clear HT
   have out_ := Hout.out.c2
   have bs_ := Hbs.out.c2
   have t_ := Ht.out.c1
   have BD := Lib.hid (Below.refl wd.heap.size wd)
   go_wp2_with fail
   have HFE := Lib.hid (show eachA (grp k.toNat) (valF (grp k.toNat) (rs.map ClaimR.k) NL) (lens (rs.map ClaimR.k)) l.length = PF by rw [HRK.out]; exact HFF.out.symm)
   refine (firsts_any (grp k.toNat) OK.out gb rs l.length HRL.out hl64 (fun r hr => (HSHP.out r hr).1) qa qc NL HNL.out a2 c2 wd (HG.out.up BS.out) (HST.out.up BS.out) HS2.out).mono ?_
   rintro e w5 ⟨hb9, a9, c9, ro, rfl, hm9, hr9, hz9⟩
   clear out_
   replace Hout := Lib.hid (Hout.out.up hb9)
   clear bs_
   replace Hbs := Lib.hid (Hbs.out.up hb9)
   clear t_
   replace Ht := Lib.hid (Ht.out.up hb9)
   replace BS := hbu BS hb9
   replace BQ := hbu BQ hb9
   replace BP := hbu BP hb9
   replace BD := hbu BD hb9
   replace HK1 := Lib.hid (Kept.up HK1.out hb9)
   replace HB := hbu HB hb9
   replace HZS := sz HZS hb9.size
   have HMR := Lib.hid hm9
   clear hm9
   have HRR := Lib.hid hr9
   clear hr9
   have HZR := Lib.hid hz9
   clear hz9 hb9
   have out_ := Hout.out.c2
   have bs_ := Hbs.out.c2
   have t_ := Ht.out.c1
   rw [HFE.out] at HMR
   rw [HFE.out, ← HMR.out, List.length_map]
   go_wp2_with fail
   refine (HF5.out tb ro HMR.out (eachA_small OK.out.size_le (lens_small fun c hc => by obtain ⟨r, hr, rfl⟩ := List.mem_map.1 hc; exact (HSHP.out r hr).1) (HMR.out.trans HFE.out.symm)) (fun r hr => (HZR.out.1 r hr).2) a9 c9 w5 Ht.out HRR.out (fun x hx e => by have h1 := HZR.out.2.1 x hx; have h2 := HTL.out; have h3 := HZS.out; omega) (fun r hr x hx e => by have h1 := HZR.out.2.2 r hr x hx; have h2 := HTL.out; have h3 := HZS.out; omega)).mono ?_
   rintro e we ⟨rfl, ht, hk⟩
   have HK2 := Lib.hid hk
   have Ht1 := Lib.hid (show Bx we tb 192 [.string t3] from ht)
   have HS9 := Lib.hid (Sl.kept (HS2.out.up BD.out) hk (fun x hx e => by have h1 := HFR.out x hx; have h2 := HTL.out; have h3 := HWC.out; omega))
   clear ht hk BP BD
   have hg9 := HK2.out
   clear out_ bs_ t_ Ht
   replace Hout := Lib.hid (Hout.out.keptP hg9 (show ¬ (_ = tb) by have g0 := HZS.out; omega))
   replace Hbs := Lib.hid (Hbs.out.keptP hg9 (show ¬ (_ = tb) by have g0 := HZS.out; omega))
   replace BS := Lib.hid (Below.keptP BS.out hg9 (by have g0 := HZS.out; omega) (fun q9 h9 => (show w2.heap.size ≤ _ by subst h9; have g0 := HZS.out; omega)))
   replace BQ := Lib.hid (Below.keptP BQ.out hg9 (by have g0 := HZS.out; omega) (fun q9 h9 => (show w4.heap.size ≤ _ by subst h9; have g0 := HZS.out; omega)))
   replace HB := Lib.hid (Below.keptP HB.out hg9 (by have g0 := HZS.out; omega) (fun q9 h9 => (show w.heap.size ≤ _ by subst h9; have g0 := HZS.out; omega)))
   replace HZS := sz HZS (show w5.heap.size ≤ we.heap.size from hg9.size)
   clear hg9
   have out_ := Hout.out.c2
   have bs_ := Hbs.out.c2
   have Ht := Ht1
   clear Ht1
   have t_ := Ht.out.c1
   go_wp2_with fail
   refine (HF6.out gb tb we (HG.out.up BS.out) Ht.out (show ¬ gb = tb by have h1 := HGL.out; have h2 := HGE.out; omega)).mono ?_
   rintro e wf ⟨rfl, ht, hk⟩
   have HK3 := Lib.hid hk
   have HS8 := Lib.hid (Sl.kept HS9.out hk (fun x hx e => by have h1 := HFR.out x hx; have h2 := HTL.out; have h3 := HWC.out; omega))
   clear ht hk HS9
   have hg9 := HK3.out
   clear out_ bs_ t_ Ht
   replace Hout := Lib.hid (Hout.out.keptP hg9 (show ¬ (_ = tb) by have g0 := HZS.out; omega))
   replace Hbs := Lib.hid (Hbs.out.keptP hg9 (show ¬ (_ = tb) by have g0 := HZS.out; omega))
   replace BS := Lib.hid (Below.keptP BS.out hg9 (by have g0 := HZS.out; omega) (fun q9 h9 => (show w2.heap.size ≤ _ by subst h9; have g0 := HZS.out; omega)))
   replace BQ := Lib.hid (Below.keptP BQ.out hg9 (by have g0 := HZS.out; omega) (fun q9 h9 => (show w4.heap.size ≤ _ by subst h9; have g0 := HZS.out; omega)))
   replace HB := Lib.hid (Below.keptP HB.out hg9 (by have g0 := HZS.out; omega) (fun q9 h9 => (show w.heap.size ≤ _ by subst h9; have g0 := HZS.out; omega)))
   replace HZS := sz HZS (show we.heap.size ≤ wf.heap.size from hg9.size)
   clear hg9
   have out_ := Hout.out.c2
   have bs_ := Hbs.out.c2
   have BF := Lib.hid (Below.refl wf.heap.size wf)
   unfold scV limbV
   have o6_out_ := out_; clear out_
   have o6_bs_ := bs_; clear bs_
   obtain ⟨w6, hq6, hb9, hz9, Hbc⟩ := new1 wf 72 [.int .u64 (dig (mont (grp k.toNat).q.m PN) 0 : Int), .int .u64 (dig (mont (grp k.toNat).q.m PN) 1 : Int), .int .u64 (dig (mont (grp k.toNat).q.m PN) 2 : Int), .int .u64 (dig (mont (grp k.toNat).q.m PN) 3 : Int)]
   replace Hout := Lib.hid (Hout.out.up hb9)
   replace Hbs := Lib.hid (Hbs.out.up hb9)
   replace BS := hbu BS hb9
   replace BQ := hbu BQ hb9
   replace BF := hbu BF hb9
   replace HK3 := Lib.hid (Kept.up HK3.out hb9)
   replace HB := hbu HB hb9
   replace HZS := sz HZS hz9.out
   clear hb9 hz9
   have out_ := Hout.out.c2
   have bs_ := Hbs.out.c2
   have bc_ := Hbc.out.c4
   go_wp2_with fail
   clear hq6 o6_bs_ o6_out_
   have HGW := Lib.hid (HG.out.up BS.out)
   have HSW := Lib.hid (HS8.out.up BF.out)
   have HXW := Lib.hid (HXX.out.up BS.out)
   clear BS BQ BF HK3
   have HT := Lib.hid (show Below w6.heap.size w6 w6.drew from (Below.refl _ _).drew)
   have hl_bs := Hbs.out.lt
   have hl_bc := Hbc.out.lt
   refine wp_region_tree (fun wq9 => ∃ E : But w6 (some (w.heap.size)), wq9 = E.w) ((.qs [0, 1, 2, 4, 5, 6, 7] (.a 3 (.a 8 (.qs [9] (.a 10 (.qs [11] .done))))))) (by kernel_rfl) (by kernel_rfl) (fun _ _ d _ _ h => by cases d <;> exact h) ⟨⟨_, ((below_grown HT.out).but _)⟩, rfl⟩ ?_
   have hov_bs := fun (E : But w6 (some (w.heap.size))) o => E.cell (b := w2.heap.size) o hl_bs (by intro e9; have a0 := Option.some.inj e9; have g0 := HZS.out; omega)
   have hov_bc := fun (E : But w6 (some (w.heap.size))) o => E.cell (b := wf.heap.size) o hl_bc (by intro e9; have a0 := Option.some.inj e9; have g0 := HZS.out; omega)
   simp only [Tree.qs]
   repeat (refine tree_q rfl rfl ?_; go_big_quiet_step (fail); refine wpQuiet_nil ?_)
   refine tree_a rfl (fun K hK => ?_)
   go_simp
   refine (gPut_any (grp k.toNat) OK.out gb PN _ (HGW.out.up HT.out)).mono ?_
   rintro e w7 ⟨rfl, hb9⟩
   replace HT := Lib.hid (below_up HT.out hb9)
   replace HZS := sz HZS (show w6.heap.size ≤ w7.heap.size from HT.out.size)
   clear hb9
   refine hK _ _ ⟨⟨⟨w7, ((below_grown HT.out).but _)⟩, rfl⟩, ?_⟩
   clear hK K
   repeat (refine tree_q rfl rfl ?_; go_big_quiet_step (fail); refine wpQuiet_nil ?_)
   refine tree_a rfl (fun K hK => ?_)
   go_simp
   refine (answers_any (grp k.toNat) OK.out gb PN qa l.length qc NL xs l.length HNL.out HXL.out hl64 a2 a' c2 c' _ (HGW.out.up HT.out) (HSW.out.up HT.out) (HXW.out.up HT.out)).mono ?_
   rintro e w8 ⟨a5, c5, rfl, hs5, hf5, hc5, hc6, hb9⟩
   replace HT := Lib.hid (below_up HT.out hb9)
   replace HZS := sz HZS (show w6.heap.size ≤ w8.heap.size from HT.out.size)
   clear hb9
   have HS5 := Lib.hid hs5
   clear hs5
   have HF5 := Lib.hid hf5
   clear hf5
   have HC5 := Lib.hid hc5
   clear hc5
   have HC6 := Lib.hid hc6
   clear hc6
   refine hK _ _ ⟨⟨⟨w8, ((below_grown HT.out).but _)⟩, rfl⟩, ?_⟩
   clear hK K
   repeat (refine tree_q rfl rfl ?_; go_big_quiet_step (fail); refine wpQuiet_nil ?_)
   have HN5 := Lib.hid (show ∀ x, a5 = some x → x.block ≠ w.heap.size from fun x hx e => by have h1 := HF5.out x hx; have h2 := HZS.out; omega)
   clear hov_bs hl_bs hov_bc hl_bc
   refine tree_a rfl (fun K hK => ?_)
   clear out_
   replace Hout := Lib.hid (Hout.out.up HT.out)
   clear bs_
   replace Hbs := Lib.hid (Hbs.out.up HT.out)
   clear bc_
   replace Hbc := Lib.hid (Hbc.out.up HT.out)
   replace HB := hbu HB HT.out
   replace HZS := sz HZS HT.out.size
   have out_ := Hout.out.c2
   have bs_ := Hbs.out.c2
   have bc_ := Hbc.out.c4
   replace HS5 := Lib.hid (Sl.setO HS5.out HN5.out 0 (.string (textS (PN % (grp k.toNat).q.m) (grp k.toNat).size)))
   replace HS5 := Lib.hid (Sl.setO HS5.out HN5.out 1 (.slice a5 l.length c5))
   have f9_out := Hout.out.frozen
   have o9_out_ := out_; clear out_
   have o9_bs_ := bs_; clear bs_
   have o9_bc_ := bc_; clear bc_
   obtain ⟨w9, hq9, hg9, hz9, hx9⟩ := put2 Hout 0 (.string (textS (PN % (grp k.toNat).q.m) (grp k.toNat).size)) 1 (.slice a5 l.length c5) [.string (textS (PN % (grp k.toNat).q.m) (grp k.toNat).size), .slice a5 l.length c5] rfl
   replace Hbs := Lib.hid (Hbs.out.grown hg9.out (sne (by have g0 := HZS.out; omega)))
   replace Hbc := Lib.hid (Hbc.out.grown hg9.out (sne (by have g0 := HZS.out; omega)))
   replace HB := hbg HB hg9 (by have g0 := HZS.out; omega)
   replace HZS := sz HZS hz9.out
   replace Hout := hx9
   have HGR := Lib.hid (((below_grown HT.out).but _).trans hg9.out)
   clear hx9 hg9 hz9
   have out_ := Hout.out.c2
   have bs_ := Hbs.out.c2
   have bc_ := Hbc.out.c4
   rw [hq9] at HS5
   clear HT
   go_simp
   try rw [hq9]
   refine hK _ _ ⟨⟨⟨w9, HGR.out⟩, rfl⟩, ?_⟩
   clear hK K HGR hq9 o9_bc_ o9_bs_ o9_out_ f9_out
   repeat (refine tree_q rfl rfl ?_; go_big_quiet_step (fail); refine wpQuiet_nil ?_)
   refine tree_end ?_
   go_wp2_with fail
   have HPL := Lib.hid (show PA.length = l.length by rw [HRA.out]; exact ansL_len _ _ HNL.out HXL.out)
   have HFP := Lib.hid (show ∀ x, a5 = some x → w.heap.size ≤ x.block from fun x hx => by have h1 := HF5.out x hx; have h2 := HZS.out; omega)
   have HRP := Lib.hid (show ∀ W, Below w.heap.size w W → Sl W W.heap.size a5 ((ansL (grp k.toNat) PN NL xs).map Value.string) → ProveR 0 PC PA w (.returned (.tuple #[.agg #[.string (textS (PN % (grp k.toNat).q.m) (grp k.toNat).size), .slice a5 l.length c5], .int .i64 0])) W from fun W h1 h2 => ⟨h1, a5, c5, by rw [HRC.out, HPL.out], by rw [HRA.out]; exact h2, fun e => HC6.out e, by rw [HPL.out]; exact HC5.out, HFP.out⟩)
   simp [bodyPost, results, Tryz.results14, go_sem, out_]
   exact HRP.out _ HB.out HS5.out
 ·have HE2 := Lib.hid (show prvE k l xs = z by rw [HE.out, if_neg h0])
  rw [HE2.out, if_neg h0, if_neg h0]
  have hd : ((z : Int) != 0) = true := by simp; omega
  clear h0 hz HE HE2
  go_enter Tryz.func14, Tryz.ntmps14
  go_wp2_with fail
  obtain ⟨w1, hq1, hb9, hz9, Hout⟩ := new1 w 25 [.string ⟨#[]⟩, .slice none 0 0]
  rw [hq1]
  clear hq1
  have HB := Lib.hid hb9
  have HZS := hz9
  clear hb9 hz9
  have out_ := Hout.out.c2
  go_wp2_with fail
  refine (HO.out _ HB.out).mono ?_
  rintro e w2 ⟨hb9, pp, qa, qn, qc, v, rfl, _⟩
  clear out_
  replace Hout := Lib.hid (Hout.out.up hb9)
  replace HB := hbu HB hb9
  replace HZS := sz HZS hb9.size
  clear hb9
  have out_ := Hout.out.c2
  have o3_out_ := out_; clear out_
  obtain ⟨w3, hq3, hb9, hz9, Hbs⟩ := new1 w2 64 [.pointer pp, .slice qa qn qc]
  replace Hout := Lib.hid (Hout.out.up hb9)
  replace HB := hbu HB hb9
  replace HZS := sz HZS hz9.out
  clear hb9 hz9
  have out_ := Hout.out.c2
  have bs_ := Hbs.out.c2
  have f4_out := Hout.out.frozen
  have o4_out_ := out_; clear out_
  have o4_bs_ := bs_; clear bs_
  obtain ⟨w4, hq4, hg9, hz9, hx9⟩ := put2 Hout 0 (.string ⟨#[]⟩) 1 (.slice none 0 0) [.string ⟨#[]⟩, .slice none 0 0] rfl
  replace Hbs := Lib.hid (Hbs.out.grown hg9.out (sne (by have g0 := HZS.out; omega)))
  replace HB := hbg HB hg9 (by have g0 := HZS.out; omega)
  replace HZS := sz HZS hz9.out
  replace Hout := hx9
  clear hx9 hg9 hz9
  have out_ := Hout.out.c2
  have bs_ := Hbs.out.c2
  go_wp2_with fail
  clear hq4 o4_bs_ o4_out_ f4_out hq3 o3_out_
  simp [bodyPost, results, Tryz.results14, go_sem, out_]
  exact proveR_none _ HB.out
end Go.Proofs.YtdlnnkbigeiilaaGreat
namespace Go.Proofs.YtdlnnkbigeiilaaGreat
open Go.RowKit
def ownA (ab ai : Option Addr) (cb ci : Nat) (B p : ByteArray) : ClaimA := ⟨ab, cb, [B], ai, ci, [p]⟩
def ownC (B p : ByteArray) : ClaimA := ownA none none 0 0 B p
theorem own_prvE (k : Int) (ab ai : Option Addr) (cb ci : Nat) (B p : ByteArray) (xs : List ByteArray) : prvE k [ownA ab ai cb ci B p] xs = prvE k [ownC B p] xs := by
 have h1 : openK k [ownA ab ai cb ci B p] xs = openK k [ownC B p] xs := rfl
 have h2 : holdP (grp k.toNat) [ownA ab ai cb ci B p] xs = holdP (grp k.toNat) [ownC B p] xs := by cases xs <;> rfl
 unfold prvE
 rw [h1, h2]
theorem own_prvC (k : Int) (label seed : ByteArray) (ab ai : Option Addr) (cb ci : Nat) (B p : ByteArray) : prvC k label [ownA ab ai cb ci B p] seed = prvC k label [ownC B p] seed := rfl
theorem own_prvA (k : Int) (label seed : ByteArray) (ab ai : Option Addr) (cb ci : Nat) (B p : ByteArray) (xs : List ByteArray) : prvA k label [ownA ab ai cb ci B p] xs seed = prvA k label [ownC B p] xs seed := rfl
theorem own_verK (k : Int) (label : ByteArray) (ab ai : Option Addr) (cb ci : Nat) (B p ch : ByteArray) (xs : List ByteArray) : verK k label [ownA ab ai cb ci B p] ch xs = verK k label [ownC B p] ch xs := rfl
theorem own_any (G : GP) (ok : G.Ok) (gb : Nat) (p : ByteArray) (w : World) (hG : GroupAt w gb G) :
  Calls Tryz.prog 82 #[.pointer (some ⟨gb, 0, none⟩), .string p] w fun e w' => ∃ ab ai a : Option Addr, e = .returned (.slice a 1 1) ∧ ClaimsAt w' a [ownA ab ai 1 1 (textS (lowN G 2) G.size) p] ∧ Below w.heap.size w w' := by
 have OK := Lib.hid ok
 have HG := Lib.hid hG
 clear hG ok
 go_enter Tryz.func82, Tryz.ntmps82
 go_wp2_with fail
 refine (gBase_any G OK.out gb w HG.out).mono ?_
 rintro e w1 ⟨rfl, hb9⟩
 have HB := Lib.hid hb9
 have HZS := Lib.hid hb9.size
 clear hb9
 go_wp2_with fail
 refine (gText_any G OK.out gb 2 w1 (HG.out.up HB.out)).mono ?_
 rintro e w2 ⟨rfl, hb9⟩
 replace HB := hbu HB hb9
 replace HZS := sz HZS hb9.size
 clear hb9
 obtain ⟨w3, hq3, hb9, hz9, Hrb, Hri, Hrc⟩ := new3 w2 9 [.string (textS (lowN G 2) G.size)] 9 [.string p] 50 [.slice (some ⟨w2.heap.size, 0, none⟩) 1 1, .slice (some ⟨w2.heap.size + 1, 0, none⟩) 1 1]
 replace HB := hbu HB hb9
 replace HZS := sz HZS hz9.out
 clear hb9 hz9
 have rb_ := Hrb.out.c1
 have ri_ := Hri.out.c1
 have rc_ := Hrc.out.c2
 go_wp2_with fail
 clear hq3
 go_ret
 exact ⟨_, _, _, rfl, ⟨Sl.ofB Hrc.out, fun c hc => by rw [List.mem_singleton.1 hc]; exact ⟨Sl.ofB Hrb.out, Sl.ofB Hri.out⟩⟩, HB.out⟩
end Go.Proofs.YtdlnnkbigeiilaaGreat
