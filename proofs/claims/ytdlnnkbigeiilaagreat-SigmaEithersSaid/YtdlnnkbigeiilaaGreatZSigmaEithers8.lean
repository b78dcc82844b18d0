/- Texts of this seat, one behind the other: what SigmaEithers leans on. No condition beyond those that each names. -/
import Derived.Test.YtdlnnkbigeiilaaGreatZSigmaEithers7
import Derived.Outline

set_option maxRecDepth 100000
set_option maxHeartbeats 4000000
set_option linter.unusedVariables false
set_option linter.unusedSimpArgs false
namespace Go.Proofs.YtdlnnkbigeiilaaGreat
open Go.RowKit
theorem openK_we {k : Nat} (h1 : 1 ≤ k) (h3 : k ≤ 3) {l : List ClaimA} {xs : List ByteArray} (hw : wrongE (grp k) l = 0) (hs : scE (grp k) l.length xs = 0) : openK (k : Int) l xs = 0 := by
 unfold openK openE
 rw [if_pos (by omega), Int.toNat_natCast, if_neg (by simpa using hw), hs]
theorem rback_eq {k : Nat} (h1 : 1 ≤ k) (h3 : k ≤ 3) {l : List ClaimA} {xs : List ByteArray} (ch : ByteArray) (hw : wrongE (grp k) l = 0) (hs : scE (grp k) l.length xs = 0) :
  eachA (grp k) (rvalB (grp k) (subQ (grp k) 0 (numOf ch)) l xs) (lens l) l.length = eachA (grp k) (valB (grp k) ((grp k).q.m - numOf ch) l xs) (lens l) l.length := by
 obtain ⟨_, ha⟩ := allOk (openK_we h1 h3 hw hs)
 rw [Int.toNat_natCast] at ha
 exact eachA_congr fun i t hi ht => valB_low (grp_ok k h1 h3) ha _ _ (by unfold subQ; rw [Nat.zero_add]) i t hi ht
section
variable {G : GP} {aq ap : Option Addr} {cq cp : Nat}
theorem rWrongSets (ok : G.Ok) (ss : List SetA) (n : Nat) (hn : ss.length = n) (al : Option Addr) (cl : Nat) (w : World) (hG : RG w G aq ap) (hC : SetsAt w al ss) :
  Calls Tryz.prog 55 #[.agg #[.int .i64 (G.size : Int), .slice aq (dl G.q.m) cq, .slice ap (dl G.p.m) cp], .slice al n cl] w (Gives (.int .i64 (setsE G ss : Int)) w) := by
 have HW := Lib.hid (fun (l : List ClaimA) a c w hG hC => rWrong (aq := aq) (ap := ap) (cq := cq) (cp := cp) ok l l.length rfl (wrongE G l) rfl a c w hG hC)
 have HG := Lib.hid hG
 have HC := Lib.hid hC
 have HN := Lib.hid hn
 unfold Gives at HW ⊢
 by_cases h1 : 16 < n
 ·have hd : decide ((n : Int) > 16) = true := by simp; omega
  have e : setsE G ss = 3 := by unfold setsE; rw [if_pos (by omega)]
  rw [e]
  clear hG hC hn h1 e
  go_enter Tryz.func55, Tryz.ntmps55
  go_wp2_with fail
  obtain ⟨w1, hq1, hb9, hz9, Hg⟩ := new1 w 86 [.int .i64 (G.size : Int), .slice aq (dl G.q.m) cq, .slice ap (dl G.p.m) cp]
  rw [hq1]
  clear hq1
  have HB := Lib.hid hb9
  have HZS := hz9
  clear hb9 hz9
  have g_ := Hg.out.c3
  go_wp2_with fail
  go_ret
  exact ⟨rfl, HB.out⟩
 have hd : decide ((n : Int) > 16) = false := by simp; omega
 by_cases h2 : n = 0
 ·have e : setsE G ss = 2 := by unfold setsE; rw [if_neg (by omega), if_pos (by omega)]
  rw [e]
  subst h2
  clear hG hC hn h1 e
  go_enter Tryz.func55, Tryz.ntmps55
  go_wp2_with fail
  obtain ⟨w1, hq1, hb9, hz9, Hg⟩ := new1 w 86 [.int .i64 (G.size : Int), .slice aq (dl G.q.m) cq, .slice ap (dl G.p.m) cp]
  rw [hq1]
  clear hq1
  have HB := Lib.hid hb9
  have HZS := hz9
  clear hb9 hz9
  have g_ := Hg.out.c3
  go_wp2_with fail
  go_ret
  exact ⟨rfl, HB.out⟩
 have hd2 : ((n : Int) == 0) = false := by simp; omega
 have HSE := Lib.hid (show setsE G ss = wrongsE G ss by unfold setsE; rw [if_neg (by omega), if_neg (by omega)])
 clear hG hC hn h2
 go_enter Tryz.func55, Tryz.ntmps55
 go_wp2_with fail
 obtain ⟨w1, hq1, hb9, hz9, Hg⟩ := new1 w 86 [.int .i64 (G.size : Int), .slice aq (dl G.q.m) cq, .slice ap (dl G.p.m) cp]
 rw [hq1]
 clear hq1
 have HB := Lib.hid hb9
 have HZS := hz9
 clear hb9 hz9
 have g_ := Hg.out.c3
 go_wp2_with fail
 have HGZ := Lib.hid Hg.out.lt
 go_loopw [16] (fun i wr => ∃ j : Nat, j ≤ n ∧ i = .int .i64 (j : Int) ∧ Hid (wrongsE G (ss.take j) = 0) ∧ Hid (Bx wr w.heap.size 86 [.int .i64 (G.size : Int), .slice aq (dl G.q.m) cq, .slice ap (dl G.p.m) cp]) ∧ Hid (Below w.heap.size w wr)) (fun i _ => n - (intOf i).toNat)
 case atStart => exact ⟨0, Nat.zero_le _, rfl, rfl, Hg, HB⟩
 case round =>
  clear Hg HB g_
  obtain ⟨j, hj, rfl, HWR, Hg, HB⟩ := hrel
  by_cases hjn : j < n
  ·have hjl : j < ss.length := by rw [HN.out]; exact hjn
   obtain ⟨bl, ol, rfl, hbl0, hc⟩ := (HC.out.s.up HB.out).elem SetA.cells_len (by omega) j hjl
   have hc_0 := hc 0 _ rfl
   rw [Nat.add_zero] at hc_0
   clear hc
   rw [Nat.mul_one] at hc_0
   have HAT := Lib.hid (HC.out.one j hjl)
   have HWN := Lib.hid (wrongsE_not (G := G) hjl HWR.out)
   have HWS := Lib.hid (wrongsE_snoc (G := G) hjl HWR.out)
   have HGL := Lib.hid Hg.out.lt
   generalize ss[j] = s at *
   have HWJ := Lib.hid (fun w hG hC => HW.out s.l s.a s.c w hG hC)
   obtain ⟨z, hz⟩ : ∃ z, wrongE G s.l = z := ⟨_, rfl⟩
   rw [hz] at HWJ HWN HWS
   clear hz HWR HW
   replace HZS := sz HZS HGL.out
   have g_ := Hg.out.c3
   by_cases hz : z = 0
   ·subst hz
    have HWS2 := Lib.hid (HWS.out rfl)
    clear HWN HWS
    go_wp2_with fail
    refine (HWJ.out wr (HG.out.up HB.out) (HAT.out.up HB.out)).mono ?_
    rintro e w2 ⟨rfl, hb9⟩
    clear g_
    replace Hg := Lib.hid (Hg.out.up hb9)
    replace HB := hbu HB hb9
    replace HZS := sz HZS hb9.size
    clear hb9
    have g_ := Hg.out.c3
    go_wp2_with fail
    go_roundw
    case rel => exact ⟨j + 1, by omega, by go_num, HWS2, Hg, HB⟩
    case measure => simp [intOf]; omega
   ·have HWN2 := Lib.hid (HSE.out.trans (HWN.out hz))
    have hd3 : ((z : Int) != 0) = true := by simp; omega
    clear HWN HWS hz
    go_wp2_with fail
    refine (HWJ.out wr (HG.out.up HB.out) (HAT.out.up HB.out)).mono ?_
    rintro e w2 ⟨rfl, hb9⟩
    clear g_
    replace Hg := Lib.hid (Hg.out.up hb9)
    replace HB := hbu HB hb9
    replace HZS := sz HZS hb9.size
    clear hb9
    have g_ := Hg.out.c3
    go_wp2_with fail
    go_ret
    exact ⟨by rw [HWN2.out]; rfl, HB.out⟩
  ·have hjn' : j = n := by omega
   subst hjn'
   have HW2 := Lib.hid (show setsE G ss = 0 by have h9 := HWR.out; rw [List.take_of_length_le (by rw [HN.out]; exact Nat.le_refl _)] at h9; rw [HSE.out, h9])
   go_wp2_with fail
   go_ret
   exact ⟨by rw [HW2.out]; rfl, HB.out⟩
theorem rsaySets_any (s : ByteArray) (hz : s.size = 32) (ss : List SetA) (n : Nat) (hn : ss.length = n) (h16 : n ≤ 16) (sh : ∀ t ∈ ss, t.l.length ≤ 64 ∧ ∀ c ∈ t.l, SayOk c) (al : Option Addr) (cl : Nat) (w : World) (hC : SetsAt w al ss) :
  Calls Tryz.prog 56 #[.agg #[.string s], .slice al n cl] w fun e w' => e = .returned (.agg #[.string (saySs s (ss.map SetA.l))]) ∧ Below w.heap.size w w' := by
 have HTK := Lib.hid (fun j (h : j < ss.length) => by
  have h1 := saySs_take s (ss.map SetA.l) j (by rw [List.length_map]; exact h)
  rw [List.getElem_map, ← List.map_take, ← List.map_take] at h1
  exact h1)
 unfold sayS at HTK
 have HF := Lib.hid (fun s lb x hs hl hx w => (show Calls Tryz.prog 73 #[.agg #[.string s], .string lb, .string x] w fun e w' => e = .returned (.agg #[.string (say1 s lb x)]) ∧ Below w.heap.size w w' from rSay_any s lb x hs hl hx w))
 have HF2 := Lib.hid (fun s l h64 hz sh al cl w hC => rsayCl_any s l l.length rfl h64 hz sh al cl w hC)
 have HS1 := Lib.hid say1_size
 have HZ2 := Lib.hid sayCl_size
 have HT0 := Lib.hid (show saySs s ([].map SetA.l) = s from rfl)
 generalize saySs s = SS at *
 generalize sayCl = SC at *
 generalize say1 = S1 at *
 have HC := Lib.hid hC
 have HN := Lib.hid hn
 have HZ := Lib.hid hz
 have HSH := Lib.hid sh
 clear hC hn hz sh
 go_enter Tryz.func56, Tryz.ntmps56
 go_wp2_with fail
 obtain ⟨w1, hq1, hb9, hz9, Ht, Ho⟩ := new2 w 89 [.string s] 89 [.string ⟨#[]⟩]
 rw [hq1]
 clear hq1
 have HB := Lib.hid hb9
 have HZS := hz9
 clear hb9 hz9
 have t_ := Ht.out.c1
 have o_ := Ho.out.c1
 go_wp2_with fail
 go_loopw [9] (fun i wr => ∃ (j : Nat) (y : ByteArray), j ≤ n ∧ i = .int .i64 (j : Int) ∧ Hid (y.size = 32) ∧ Hid (y = SS ((ss.take j).map SetA.l)) ∧ Hid (Bx wr w.heap.size 89 [.string y]) ∧ Hid (Bx wr (w.heap.size + 1) 89 [.string ⟨#[]⟩]) ∧ Hid (Below w.heap.size w wr)) (fun i _ => n - (intOf i).toNat)
 case atStart => exact ⟨0, s, Nat.zero_le _, rfl, HZ, HT0.out.symm, Ht, Ho, HB⟩
 case round =>
  clear Ht Ho HB t_ o_
  obtain ⟨j, y, hj, rfl, HY, HYS, Ht, Ho, HB⟩ := hrel
  have HO9 := Lib.hid Ho.out.lt
  by_cases hjn : j < n
  ·have hjl : j < ss.length := by rw [HN.out]; exact hjn
   obtain ⟨bl, ol, rfl, hbl0, hc⟩ := (HC.out.s.up HB.out).elem SetA.cells_len (by omega) j hjl
   have hc_0 := hc 0 _ rfl
   rw [Nat.add_zero] at hc_0
   clear hc
   rw [Nat.mul_one] at hc_0
   have HAT := Lib.hid (HC.out.one j hjl)
   have HSJ := Lib.hid (HSH.out _ (List.getElem_mem hjl))
   have HTJ := Lib.hid (HTK.out j hjl)
   generalize ss[j] = s9 at *
   generalize s9.a = sa at *
   generalize s9.c = sc at *
   generalize s9.l = l at *
   rw [← HYS.out] at HTJ
   obtain ⟨m, hm⟩ : ∃ m, l.length = m := ⟨_, rfl⟩
   have HF3 := Lib.hid (fun s hz w hC => HF2.out s l HSJ.out.1 hz HSJ.out.2 sa sc w hC)
   rw [hm] at hc_0 HTJ HF3
   have hm0 : (0 : Int) ≤ (m : Int) := by omega
   have hm1 : (m : Int) < 256 := by have h9 := HSJ.out.1; omega
   unfold kindS at HTJ
   rw [Int.toNat_natCast] at HTJ
   clear hm HYS HSJ HF2
   replace HZS := sz HZS HO9.out
   have t_ := Ht.out.c1
   have o_ := Ho.out.c1
   have o2_t_ := t_; clear t_
   have o2_o_ := o_; clear o_
   obtain ⟨w2, hq2, hb9, hz9, Hr⟩ := new1 wr 5 [.int .u8 (m : Int)]
   replace Ht := Lib.hid (Ht.out.up hb9)
   replace Ho := Lib.hid (Ho.out.up hb9)
   replace HB := hbu HB hb9
   replace HZS := sz HZS hz9.out
   clear hb9 hz9
   have t_ := Ht.out.c1
   have o_ := Ho.out.c1
   have r_ := Hr.out.c1
   have hcv := run_convert_bytes_arg (P := Tryz.prog) w2 150 5 Tryz.underlying150 Tryz.underlying5 wr.heap.size 0 1 1 [(m : Int)] rfl (fun i hi => by
    obtain rfl : i = 0 := by omega
    exact Hr.out.cell (i := 0) rfl) 9 Tryz.underlying9
   go_wp2_with fail
   clear hq2 o2_o_ o2_t_
   refine (HF.out y setB ⟨#[UInt8.ofNat m]⟩ (by have := HY.out; omega) (by decide) (show (1 : Nat) < 140737488355328 by decide) w2).mono ?_
   rintro e w3 ⟨rfl, hb9⟩
   clear t_
   replace Ht := Lib.hid (Ht.out.up hb9)
   clear o_
   replace Ho := Lib.hid (Ho.out.up hb9)
   clear r_
   replace Hr := Lib.hid (Hr.out.up hb9)
   replace HB := hbu HB hb9
   replace HZS := sz HZS hb9.size
   clear hb9
   have t_ := Ht.out.c1
   have o_ := Ho.out.c1
   have r_ := Hr.out.c1
   clear hcv r_ Hr
   go_wp2_with fail
   refine (HF3.out (S1 y setB ⟨#[UInt8.ofNat m]⟩) (HS1.out _ _ _) w3 (HAT.out.up HB.out)).mono ?_
   rintro e w4 ⟨rfl, hb9⟩
   clear t_
   replace Ht := Lib.hid (Ht.out.up hb9)
   clear o_
   replace Ho := Lib.hid (Ho.out.up hb9)
   replace HB := hbu HB hb9
   replace HZS := sz HZS hb9.size
   clear hb9
   have t_ := Ht.out.c1
   have o_ := Ho.out.c1
   have f5_t := Ht.out.frozen
   have o5_t_ := t_; clear t_
   have o5_o_ := o_; clear o_
   obtain ⟨w5, hq5, hg9, hz9, hx9⟩ := put1 Ht 0 (.string (SC (S1 y setB ⟨#[UInt8.ofNat m]⟩) l)) [.string (SC (S1 y setB ⟨#[UInt8.ofNat m]⟩) l)] rfl
   replace Ho := Lib.hid (Ho.out.grown hg9.out (sne (by have g0 := HZS.out; omega)))
   replace HB := hbg HB hg9 (by have g0 := HZS.out; omega)
   replace HZS := sz HZS hz9.out
   replace Ht := hx9
   clear hx9 hg9 hz9
   have t_ := Ht.out.c1
   have o_ := Ho.out.c1
   go_wp2_with fail
   go_roundw
   case rel => exact ⟨j + 1, _, by omega, by go_num, Lib.hid (HZ2.out _ _ (HS1.out _ _ _)), Lib.hid HTJ.out.symm, Ht, Ho, HB⟩
   case measure => simp [intOf]; omega
  ·have hj' : j = n := by omega
   subst hj'
   rw [List.take_of_length_le (by rw [HN.out]; exact Nat.le_refl _)] at HYS
   replace HZS := sz HZS HO9.out
   have t_ := Ht.out.c1
   have o_ := Ho.out.c1
   have f2_o := Ho.out.frozen
   have o2_t_ := t_; clear t_
   have o2_o_ := o_; clear o_
   obtain ⟨w2, hq2, hg9, hz9, hx9⟩ := put1 Ho 0 (.string y) [.string y] rfl
   replace Ht := Lib.hid (Ht.out.grown hg9.out (sne (by have g0 := HZS.out; omega)))
   replace HB := hbg HB hg9 (by have g0 := HZS.out; omega)
   replace HZS := sz HZS hz9.out
   replace Ho := hx9
   clear hx9 hg9 hz9
   have t_ := Ht.out.c1
   have o_ := Ho.out.c1
   go_wp2_with fail
   clear hq2 o2_o_ o2_t_ f2_o
   rw [← HYS.out]
   simp [bodyPost, results, Tryz.results56, go_sem, o_]
   exact HB.out
end
end Go.Proofs.YtdlnnkbigeiilaaGreat
namespace Go.Proofs.YtdlnnkbigeiilaaGreat
open Go.RowKit
end Go.Proofs.YtdlnnkbigeiilaaGreat
namespace Go.Proofs.YtdlnnkbigeiilaaGreat
open Go.RowKit
theorem RowO.down {N M n size : Nat} {w : World} {e : TypeId} {v : Value} {xs : List Value} (h : RowO N w e size v n xs) (hM : M ≤ N) : RowO M w e size v n xs := by
 refine ⟨h.1, ?_⟩
 rcases h.2 with h1 | ⟨g, cap, cur, h1, h2, h3⟩
 ·exact Or.inl h1
 ·exact Or.inr ⟨g, cap, cur, h1, Nat.le_trans hM h2, h3⟩
theorem RowO.neB {N n size b : Nat} {w : World} {e t : TypeId} {v : Value} {xs cs : List Value} (h : RowO N w e size v n xs) (hb : Bx w b t cs) (hte : t ≠ e) : v.ownBlock ≠ some b := by
 intro e9
 rcases h.2 with ⟨rfl, _⟩ | ⟨g, cap, cur, rfl, _, hg, _⟩
 ·cases e9
 ·have e8 : g = b := Option.some.inj (show some g = some b from e9)
  rw [e8, show w.heap[b]? = _ from hb] at hg
  simp only [Option.some.injEq, Obj.cells.injEq] at hg
  exact hte hg.2.1
theorem nonce_snoc (G : GP) (s : ByteArray) (j : Nat) : (nonceL G s (j + 1)).map Value.string = (nonceL G s j).map Value.string ++ [.string (textS (chN (askT s j) nonceB % G.q.m) G.size)] := by
 rw [nonceL_succ, List.map_append]; rfl
theorem rNonces_own {G : GP} {aq ap : Option Addr} {cq cp : Nat} (ok : G.Ok) (n : Nat) (hn : n ≤ 64) (s : ByteArray) (hs : s.size = 32) (w : World) (hG : RG w G aq ap) :
  Calls Tryz.prog 72 #[.agg #[.int .i64 (G.size : Int), .slice aq (dl G.q.m) cq, .slice ap (dl G.p.m) cp], .agg #[.string s], .int .i64 (n : Int)] w fun e w' => ∃ a c, e = .returned (.tuple #[.slice a n c, .agg #[.string (askT s n)]]) ∧ RowO w.heap.size w' 9 1 (.slice a n c) n ((nonceL G s n).map Value.string) ∧ Below w.heap.size w w' := by
 have OK := Lib.hid ok
 have HCH := Lib.hid (fun t (ht : t.size = 32) w hq => rChallenge_any G.size G.q.m (.slice ap (dl G.p.m) cp) ok.q.pos aq cq t nonceB (by omega) (by decide) w hq)
 have HTX := Lib.hid (fun j a c w h => rText (G := G) ok (n := chN (askT s j) nonceB % G.q.m) (an := a) (cn := c) (Nat.lt_of_lt_of_le (Nat.mod_lt _ ok.q.pos) (Nat.le_of_lt ok.q.lt4)) w h)
 have HSU := Lib.hid (nonce_snoc G s)
 have HAZ := Lib.hid (fun j => askT_size hs j)
 have HAS := Lib.hid (show ∀ j, askT s (j + 1) = chT (askT s j) nonceB from fun _ => rfl)
 have H0 := Lib.hid (show askT s 0 = s ∧ (nonceL G s 0).map Value.string = [] from ⟨rfl, rfl⟩)
 generalize askT s = AT at *
 generalize nonceL G s = NL at *
 generalize chN = CN at *
 generalize chT = CT at *
 have HG := Lib.hid hG
 clear hG hs ok
 obtain rfl : s = AT 0 := H0.out.1.symm
 go_enter Tryz.func72, Tryz.ntmps72
 go_wp2_with fail
 obtain ⟨w1, hq1, hb9, hz9, Hbg, Hbt, Hro⟩ := new3 w 86 [.int .i64 (G.size : Int), .slice aq (dl G.q.m) cq, .slice ap (dl G.p.m) cp] 89 [.string (AT 0)] 89 [.string ⟨#[]⟩]
 rw [hq1]
 clear hq1
 have HB := Lib.hid hb9
 have HZS := hz9
 clear hb9 hz9
 have bg_ := Hbg.out.c3
 have bt_ := Hbt.out.c1
 have ro_ := Hro.out.c1
 have BL := Lib.hid (Below.refl w1.heap.size w1)
 have HWZ := Lib.hid HB.out.size
 have HWL := Lib.hid Hro.out.lt
 go_wp2_with fail
 go_loopw [9, 8] (fun i v wr => ∃ (j : Nat) (g : Option Addr) (c9 : Nat), j ≤ n ∧ i = .int .i64 (j : Int) ∧ v = .slice g j c9 ∧ Hid (Bx wr w.heap.size 86 [.int .i64 (G.size : Int), .slice aq (dl G.q.m) cq, .slice ap (dl G.p.m) cp]) ∧ Hid (Bx wr (w.heap.size + 1) 89 [.string (AT j)]) ∧ Hid (Bx wr (w.heap.size + 2) 89 [.string ⟨#[]⟩]) ∧ Hid (Below w.heap.size w wr) ∧ Hid (RowO w1.heap.size wr 9 1 (.slice g j c9) j ((NL j).map Value.string))) (fun i _ _ => n - (intOf i).toNat)
 case atStart => exact ⟨0, none, 0, Nat.zero_le _, rfl, rfl, Hbg, Hbt, Hro, HB, by rw [H0.out.2]; exact RowO.nil⟩
 case round =>
  clear Hbg Hbt Hro HB BL bg_ bt_ ro_
  obtain ⟨j, g, c9, hj, rfl, rfl, Hbg, Hbt, Hro, HB, Hr⟩ := hrel
  have HRL := Lib.hid Hro.out.lt
  replace HZS := sz HZS HWZ.out
  replace HZS := sz HZS HWL.out
  replace HZS := sz HZS HRL.out
  have bg_ := Hbg.out.c3
  have bt_ := Hbt.out.c1
  have ro_ := Hro.out.c1
  by_cases hjn : j < n
  ·have HNP := Lib.hid (fun q e => (Hr.out.lt q e).2)
   go_wp2_with fail
   refine (HCH.out (AT j) (HAZ.out j) wr ((HG.out.up HB.out)).q).mono ?_
   rintro e w2 ⟨a5, c5, rfl, hn9, hb9⟩
   clear bg_
   replace Hbg := Lib.hid (Hbg.out.up hb9)
   clear bt_
   replace Hbt := Lib.hid (Hbt.out.up hb9)
   clear ro_
   replace Hro := Lib.hid (Hro.out.up hb9)
   replace Hr := Lib.hid (Hr.out.up hb9)
   replace HB := hbu HB hb9
   replace HZS := sz HZS hb9.size
   have HN5 := Lib.hid hn9
   clear hn9 hb9
   have bg_ := Hbg.out.c3
   have bt_ := Hbt.out.c1
   have ro_ := Hro.out.c1
   rw [← HAS.out]
   have o3_bg_ := bg_; clear bg_
   have o3_bt_ := bt_; clear bt_
   have o3_ro_ := ro_; clear ro_
   obtain ⟨w3, hq3, hb9, hz9, Hbu⟩ := new1 w2 89 [.string (AT (j + 1))]
   replace Hbg := Lib.hid (Hbg.out.up hb9)
   replace Hbt := Lib.hid (Hbt.out.up hb9)
   replace Hro := Lib.hid (Hro.out.up hb9)
   replace Hr := Lib.hid (Hr.out.up hb9)
   replace HN5 := Lib.hid (HN5.out.up hb9)
   replace HB := hbu HB hb9
   replace HZS := sz HZS hz9.out
   clear hb9 hz9
   have bg_ := Hbg.out.c3
   have bt_ := Hbt.out.c1
   have ro_ := Hro.out.c1
   have bu_ := Hbu.out.c1
   go_wp2_with fail
   clear hq3 o3_ro_ o3_bt_ o3_bg_
   refine (HTX.out j a5 c5 w3 HN5.out).mono ?_
   rintro e w4 ⟨rfl, hb9⟩
   clear bg_
   replace Hbg := Lib.hid (Hbg.out.up hb9)
   clear bt_
   replace Hbt := Lib.hid (Hbt.out.up hb9)
   clear ro_
   replace Hro := Lib.hid (Hro.out.up hb9)
   clear bu_
   replace Hbu := Lib.hid (Hbu.out.up hb9)
   replace Hr := Lib.hid (Hr.out.up hb9)
   replace HN5 := Lib.hid (HN5.out.up hb9)
   replace HB := hbu HB hb9
   replace HZS := sz HZS hb9.size
   clear hb9
   have bg_ := Hbg.out.c3
   have bt_ := Hbt.out.c1
   have ro_ := Hro.out.c1
   have bu_ := Hbu.out.c1
   obtain ⟨i9, hi9, hz90, hz91, hz92⟩ := info_parts infoStr
   go_wp2_with (at_builtin; refine wpList_pushR (w1.heap.size) w4 (by have g0 := HZS.out; omega) rfl _ _ 23 rfl 9 i9 _ 1 16 Tryz.underlying23 hi9 hz90 hz91 hz92 rfl (by omega) ((.slice g j c9)) (j) (((NL j).map Value.string)) rfl Hr.out _ _ _ rfl rfl rfl (by simp [Value.oneCell']) (by omega) (by unfold maxLen; omega) ?_)
   intro g5 c5 w5 hown9 hg9
   clear bg_ bt_ ro_ bu_
   have hb9 := Below.grown HB.out hg9 (by have g0 := HZS.out; omega) (fun q hq => Nat.le_trans (show w.heap.size ≤ w1.heap.size by have g0 := HZS.out; omega) (Hr.out.lt q hq).1)
   replace Hbg := Lib.hid (Hbg.out.grown hg9 (fun e9 => by have a2 := HNP.out _ e9; have a1 := Hr.out.lt _ e9; have g0 := HZS.out; omega))
   replace Hbt := Lib.hid (Hbt.out.grown hg9 (fun e9 => by have a2 := HNP.out _ e9; have a1 := Hr.out.lt _ e9; have g0 := HZS.out; omega))
   replace Hro := Lib.hid (Hro.out.grown hg9 (fun e9 => by have a2 := HNP.out _ e9; have a1 := Hr.out.lt _ e9; have g0 := HZS.out; omega))
   replace Hbu := Lib.hid (Hbu.out.grown hg9 (fun e9 => by have a2 := HNP.out _ e9; have a1 := Hr.out.lt _ e9; have g0 := HZS.out; omega))
   clear HN5
   replace HZS := sz HZS hg9.size
   clear Hr HB
   have Hr := Lib.hid hown9
   have HB := Lib.hid hb9
   clear hb9 hown9 hg9 hi9 hz90 hz91 hz92
   have bg_ := Hbg.out.c3
   have bt_ := Hbt.out.c1
   have ro_ := Hro.out.c1
   have bu_ := Hbu.out.c1
   have f6_bt := Hbt.out.frozen
   have o6_bg_ := bg_; clear bg_
   have o6_bt_ := bt_; clear bt_
   have o6_ro_ := ro_; clear ro_
   have o6_bu_ := bu_; clear bu_
   obtain ⟨w6, hq6, hg9, hz9, hx9⟩ := put1 Hbt 0 (.string (AT (j + 1))) [.string (AT (j + 1))] rfl
   replace Hbg := Lib.hid (Hbg.out.grown hg9.out (sne (by have g0 := HZS.out; omega)))
   replace Hro := Lib.hid (Hro.out.grown hg9.out (sne (by have g0 := HZS.out; omega)))
   replace Hbu := Lib.hid (Hbu.out.grown hg9.out (sne (by have g0 := HZS.out; omega)))
   replace Hr := Lib.hid (RowO.grown Hr.out hg9.out (fun q9 e8 e9 => by have a1 := Hr.out.lt _ e8; have a0 := Option.some.inj e9; have g0 := HZS.out; omega))
   replace HB := hbg HB hg9 (by have g0 := HZS.out; omega)
   replace HZS := sz HZS hz9.out
   replace Hbt := hx9
   clear hx9 hg9 hz9
   have bg_ := Hbg.out.c3
   have bt_ := Hbt.out.c1
   have ro_ := Hro.out.c1
   have bu_ := Hbu.out.c1
   go_wp2_with fail
   clear hq6 o6_bu_ o6_ro_ o6_bt_ o6_bg_ f6_bt
   go_roundw
   case rel => exact ⟨j + 1, _, _, hjn, by go_num, rfl, Hbg, Hbt, Hro, HB, Hr.out.eq (HSU.out j).symm rfl⟩
   case measure => simp [intOf]; omega
  ·have hj' : j = n := by omega
   subst hj'
   go_wp2_with fail
   have HT := Lib.hid (show Below wr.heap.size wr wr.drew from (Below.refl _ _).drew)
   have hl_bg := Hbg.out.lt
   have hl_bt := Hbt.out.lt
   have hl_ro := Hro.out.lt
   refine wp_region_treek (fun wq9 => ∃ E : Over wr, wq9 = E.w) 3 ((.qs [0] (.e 1 [] (.qs [2] (.a 3 .done))))) (by kernel_rfl) (by kernel_rfl) (fun _ _ d _ _ h => by cases d <;> exact h) ⟨⟨_, HT.out⟩, rfl⟩ ?_
   have hov_bg := fun (E : Over wr) o => E.cell (b := w.heap.size) o hl_bg
   have hov_bt := fun (E : Over wr) o => E.cell (b := (w.heap.size + 1)) o hl_bt
   have hov_ro := fun (E : Over wr) o => E.cell (b := (w.heap.size + 2)) o hl_ro
   simp only [TreeK.qs]
   repeat (first | (refine treek_q rfl rfl ?_; go_big_quiet_step (fail); refine wpQuiet_nil ?_) | (refine treek_e rfl rfl ?_; go_big_quiet_step (fail); refine wpQuiet_nil ?_))
   clear hov_bg hl_bg hov_bt hl_bt hov_ro hl_ro
   refine treek_a rfl (fun K hK => ?_)
   clear bg_
   replace Hbg := Lib.hid (Hbg.out.up HT.out)
   clear bt_
   replace Hbt := Lib.hid (Hbt.out.up HT.out)
   clear ro_
   replace Hro := Lib.hid (Hro.out.up HT.out)
   replace Hr := Lib.hid (Hr.out.up HT.out)
   replace HB := hbu HB HT.out
   replace HZS := sz HZS HT.out.size
   clear HT
   have bg_ := Hbg.out.c3
   have bt_ := Hbt.out.c1
   have ro_ := Hro.out.c1
   have f2_ro := Hro.out.frozen
   have o2_bg_ := bg_; clear bg_
   have o2_bt_ := bt_; clear bt_
   have o2_ro_ := ro_; clear ro_
   obtain ⟨w2, hq2, hg9, hz9, hx9⟩ := put1 Hro 0 (.string (AT j)) [.string (AT j)] rfl
   replace Hbg := Lib.hid (Hbg.out.grown hg9.out (sne (by have g0 := HZS.out; omega)))
   replace Hbt := Lib.hid (Hbt.out.grown hg9.out (sne (by have g0 := HZS.out; omega)))
   replace Hr := Lib.hid (RowO.grown Hr.out hg9.out (fun q9 e8 e9 => by have a1 := Hr.out.lt _ e8; have a0 := Option.some.inj e9; have g0 := HZS.out; omega))
   replace HB := hbg HB hg9 (by have g0 := HZS.out; omega)
   replace HZS := sz HZS hz9.out
   replace Hro := hx9
   clear hx9 hg9 hz9
   have bg_ := Hbg.out.c3
   have bt_ := Hbt.out.c1
   have ro_ := Hro.out.c1
   go_simp
   try rw [hq2]
   refine hK _ _ ⟨fun h9 => absurd rfl h9, ?_⟩
   clear hK K hq2 o2_ro_ o2_bt_ o2_bg_ f2_ro
   repeat (first | (refine treek_q rfl rfl ?_; go_big_quiet_step (fail); refine wpQuiet_nil ?_) | (refine treek_e rfl rfl ?_; go_big_quiet_step (fail); refine wpQuiet_nil ?_))
   refine treek_end ?_
   go_wp2_with fail
   simp [bodyPost, results, Tryz.results72, go_sem, ro_]
   exact ⟨g, c9, ⟨rfl, rfl⟩, RowO.down Hr.out HWZ.out, HB.out⟩
theorem rans_mod {G : GP} {N M : Nat} (hM : M = N % G.q.m) (a b : Nat) : addQ G a (mulQ G M b) = (a + N * b) % G.q.m := by
 subst hM
 unfold addQ mulQ
 rw [Nat.add_mod a, Nat.mod_mod, ← Nat.add_mod, Nat.add_mod a, Nat.mul_mod, Nat.mod_mod, ← Nat.mul_mod, ← Nat.add_mod]
theorem rAnswers_any {G : GP} {aq ap : Option Addr} {cq cp : Nat} (ok : G.Ok) (N M : Nat) (hM : M = N % G.q.m) (ws xs : List ByteArray) (n : Nat) (hw : ws.length = n) (hx : xs.length = n) (hn : n ≤ 64) (hws : ∀ x ∈ ws, x.size ≤ 32) (hxs : ∀ x ∈ xs, x.size ≤ 32) (an aw ax : Option Addr) (cn cw cx : Nat) (w : World) (hG : RG w G aq ap) (hN : NumAt w an M) (hW : Sl w w.heap.size aw (ws.map Value.string)) (hX : Sl w w.heap.size ax (xs.map Value.string)) :
  Calls Tryz.prog 75 #[.agg #[.int .i64 (G.size : Int), .slice aq (dl G.q.m) cq, .slice ap (dl G.p.m) cp], .slice aw n cw, .slice an (dl M) cn, .slice ax n cx] w fun e w' => ∃ a' c', e = .returned (.slice a' n c') ∧ Sl w' w'.heap.size a' ((ansL G N ws xs).map Value.string) ∧ (a' = none → c' = 0) ∧ n ≤ c' ∧ (∀ x, a' = some x → w.heap.size ≤ x.block) ∧ Below w.heap.size w w' := by
 have OK := Lib.hid ok
 have HSN := Lib.hid (fun j h1 h2 => ans_snoc G N (ws := ws) (xs := xs) (j := j) h1 h2)
 have HAL := Lib.hid (ansL_len G N hw hx)
 have HRM := Lib.hid (rans_mod hM)
 have HML := Lib.hid (show M < G.q.m from hM ▸ Nat.mod_lt _ ok.q.pos)
 generalize ansL G N ws xs = AL at *
 have HG := Lib.hid hG
 have HN := Lib.hid hN
 have HW := Lib.hid hW
 have HX := Lib.hid hX
 have HWN := Lib.hid hw
 have HXN := Lib.hid hx
 have HWZ := Lib.hid hws
 have HXZ := Lib.hid hxs
 clear hM ok hG hN hW hX hw hx hws hxs
 go_enter Tryz.func75, Tryz.ntmps75
 go_wp2_with fail
 obtain ⟨w1, hq1, hb9, hz9, Hbg⟩ := new1 w 86 [.int .i64 (G.size : Int), .slice aq (dl G.q.m) cq, .slice ap (dl G.p.m) cp]
 rw [hq1]
 clear hq1
 have HB := Lib.hid hb9
 have HZS := hz9
 clear hb9 hz9
 have bg_ := Hbg.out.c3
 have HWW := Lib.hid HB.out.size
 have BL := Lib.hid (Below.refl w1.heap.size w1)
 go_wp2_with fail
 go_loopw [14, 9] (fun i v wr => ∃ (j : Nat) (g : Option Addr) (c9 : Nat), j ≤ n ∧ i = .int .i64 (j : Int) ∧ v = .slice g j c9 ∧ Hid (Below w1.heap.size w1 wr) ∧ Hid (RowO w1.heap.size wr 9 1 (.slice g j c9) j ((AL.take j).map Value.string))) (fun i _ _ => n - (intOf i).toNat)
 case atStart => exact ⟨0, none, 0, Nat.zero_le _, rfl, rfl, BL, RowO.nil⟩
 case round =>
  obtain ⟨j, g, c9, hj, rfl, rfl, HL9, Hr⟩ := hrel
  have hb9 := HL9.out
  clear HL9 bg_
  replace Hbg := Lib.hid (Hbg.out.up hb9)
  replace BL := hbu BL hb9
  replace HB := hbu HB hb9
  replace HZS := sz HZS hb9.size
  clear hb9
  have bg_ := Hbg.out.c3
  by_cases hjn : j < n
  ·have hjw : j < ws.length := by rw [HWN.out]; exact hjn
   have hjx : j < xs.length := by rw [HXN.out]; exact hjn
   obtain ⟨bw, ow, rfl, hbw, hcw⟩ := HW.out.at j (by rw [List.length_map]; exact hjw)
   obtain ⟨bx, ox, rfl, hbx, hcx⟩ := HX.out.at j (by rw [List.length_map]; exact hjx)
   rw [List.getElem_map] at hcw hcx
   replace hcw := cell_up HB.out hbw hcw
   have hlw := HWW.out
   have HNP := Lib.hid (fun q e => (Hr.out.lt q e).2)
   have HSJ := Lib.hid (HSN.out j hjw hjx)
   have HWJ := Lib.hid (HWZ.out _ (List.getElem_mem hjw))
   have HXJ := Lib.hid (HXZ.out _ (List.getElem_mem hjx))
   generalize ws[j] = x at *
   generalize xs[j] = y at *
   go_wp2_with fail
   replace hcx := cell_up HB.out hbx hcx
   have hbx2 := Nat.lt_of_lt_of_le hbx HB.out.size
   have HT := Lib.hid (show Below wr.heap.size wr wr.drew from (Below.refl _ _).drew)
   have hl_bg := Hbg.out.lt
   refine wp_region_tree (fun wq9 => ∃ E : But wr (Value.ownBlock (.slice g j c9)), wq9 = E.w) ((.qs [0, 1, 2, 4, 5, 6, 7, 8, 9, 13, 14] (.a 3 (.a 10 (.a 11 (.a 12 (.a 15 (.a 16 (.a 17 (.qs [18] .done)))))))))) (by kernel_rfl) (by kernel_rfl) (fun _ _ d _ _ h => by cases d <;> exact h) ⟨⟨_, ((below_grown HT.out).but _)⟩, rfl⟩ ?_
   have hov_bg := fun (E : But wr (Value.ownBlock (.slice g j c9))) o => E.cell (b := w.heap.size) o hl_bg (by intro e9; have a2 := HNP.out _ e9; have a1 := Hr.out.lt _ e9; have g0 := HZS.out; omega)
   have hov_bx := fun (E : But wr (Value.ownBlock (.slice g j c9))) o => E.cell (b := bx) o hbx2 (by intro e9; have a2 := HNP.out _ e9; have a1 := Hr.out.lt _ e9; have g0 := HZS.out; omega)
   simp only [Tree.qs]
   repeat (refine tree_q rfl rfl ?_; go_big_quiet_step (fail); refine wpQuiet_nil ?_)
   refine tree_a rfl (fun K hK => ?_)
   go_simp
   refine (refRead_any x (by have := HWJ.out; omega) _).mono ?_
   rintro e w2 ⟨a1, c1, rfl, hn9, hb9⟩
   replace HT := Lib.hid (below_up HT.out hb9)
   replace HZS := sz HZS (show wr.heap.size ≤ w2.heap.size from HT.out.size)
   clear hb9
   have HN1 := Lib.hid hn9
   clear hn9
   refine hK _ _ ⟨⟨⟨w2, ((below_grown HT.out).but _)⟩, rfl⟩, ?_⟩
   clear hK K
   repeat (refine tree_q rfl rfl ?_; go_big_quiet_step (fail); refine wpQuiet_nil ?_)
   refine tree_a rfl (fun K hK => ?_)
   go_simp
   refine (refRead_any y (by have := HXJ.out; omega) _).mono ?_
   rintro e w3 ⟨a2, c2, rfl, hn9, hb9⟩
   replace HN1 := Lib.hid (HN1.out.up hb9)
   replace HT := Lib.hid (below_up HT.out hb9)
   replace HZS := sz HZS (show wr.heap.size ≤ w3.heap.size from HT.out.size)
   clear hb9
   have HN2 := Lib.hid hn9
   clear hn9
   refine hK _ _ ⟨⟨⟨w3, ((below_grown HT.out).but _)⟩, rfl⟩, ?_⟩
   clear hK K
   repeat (refine tree_q rfl rfl ?_; go_big_quiet_step (fail); refine wpQuiet_nil ?_)
   refine tree_a rfl (fun K hK => ?_)
   go_simp
   refine (rMulQ OK.out (q_16 OK.out HML.out) (numOf_16 _ HXJ.out) _ (HG.out.up (below_up HB.out HT.out)) (HN.out.up (below_up HB.out HT.out)) HN2.out).mono ?_
   rintro e w4 ⟨a3, c3, rfl, hn9, hb9⟩
   replace HN1 := Lib.hid (HN1.out.up hb9)
   replace HN2 := Lib.hid (HN2.out.up hb9)
   replace HT := Lib.hid (below_up HT.out hb9)
   replace HZS := sz HZS (show wr.heap.size ≤ w4.heap.size from HT.out.size)
   clear hb9
   have HN3 := Lib.hid hn9
   clear hn9
   refine hK _ _ ⟨⟨⟨w4, ((below_grown HT.out).but _)⟩, rfl⟩, ?_⟩
   clear hK K
   repeat (refine tree_q rfl rfl ?_; go_big_quiet_step (fail); refine wpQuiet_nil ?_)
   refine tree_a rfl (fun K hK => ?_)
   go_simp
   refine (rAddQ OK.out (numOf_16 _ HWJ.out) (q_16 OK.out (mulQ_lt OK.out _ _)) _ (HG.out.up (below_up HB.out HT.out)) HN1.out HN3.out).mono ?_
   rintro e w5 ⟨a4, c4, rfl, hn9, hb9⟩
   replace HN1 := Lib.hid (HN1.out.up hb9)
   replace HN2 := Lib.hid (HN2.out.up hb9)
   replace HN3 := Lib.hid (HN3.out.up hb9)
   replace HT := Lib.hid (below_up HT.out hb9)
   replace HZS := sz HZS (show wr.heap.size ≤ w5.heap.size from HT.out.size)
   clear hb9
   have HN4 := Lib.hid hn9
   clear hn9
   refine hK _ _ ⟨⟨⟨w5, ((below_grown HT.out).but _)⟩, rfl⟩, ?_⟩
   clear hK K
   repeat (refine tree_q rfl rfl ?_; go_big_quiet_step (fail); refine wpQuiet_nil ?_)
   refine tree_a rfl (fun K hK => ?_)
   go_simp
   refine (rTextQ OK.out (addQ_lt OK.out _ _) _ HN4.out).mono ?_
   rintro e w6 ⟨rfl, hb9⟩
   replace HN1 := Lib.hid (HN1.out.up hb9)
   replace HN2 := Lib.hid (HN2.out.up hb9)
   replace HN3 := Lib.hid (HN3.out.up hb9)
   replace HN4 := Lib.hid (HN4.out.up hb9)
   replace HT := Lib.hid (below_up HT.out hb9)
   replace HZS := sz HZS (show wr.heap.size ≤ w6.heap.size from HT.out.size)
   clear hb9
   rw [HRM.out]
   refine hK _ _ ⟨⟨⟨w6, ((below_grown HT.out).but _)⟩, rfl⟩, ?_⟩
   clear hK K
   repeat (refine tree_q rfl rfl ?_; go_big_quiet_step (fail); refine wpQuiet_nil ?_)
   clear hov_bg hl_bg hov_bx
   refine tree_a rfl (fun K hK => ?_)
   go_simp
   refine hK _ _ ⟨⟨⟨_, (below_grown (HT.out.alloc HT.out.size _)).but _⟩, rfl⟩, ?_⟩
   clear hK K
   obtain ⟨i9, hi9, hz90, hz91, hz92⟩ := info_parts infoStr
   have HG1 := Lib.hid ((below_grown HT.out).but (Value.ownBlock (.slice g j c9)))
   clear bg_
   replace Hbg := Lib.hid (Hbg.out.up HT.out)
   replace Hr := Lib.hid (Hr.out.up HT.out)
   replace BL := hbu BL HT.out
   replace HB := hbu HB HT.out
   replace HZS := sz HZS HT.out.size
   refine tree_a rfl (fun K hK => ?_)
   refine step_pushR (w1.heap.size) w6 (by have g0 := HZS.out; omega) rfl _ _ 23 rfl 9 i9 _ 1 16 Tryz.underlying23 hi9 hz90 hz91 hz92 rfl (by omega) ((.slice g j c9)) (j) (((AL.take j).map Value.string)) rfl Hr.out _ _ _ rfl rfl rfl (by simp [Value.oneCell']) (by omega) (by unfold maxLen; omega) ?_
   intro g7 c7 w7 hown9 hg9
   have HGR := Lib.hid (HG1.out.trans hg9)
   have hb9 := Below.grown HB.out hg9 (by have g0 := HZS.out; omega) (fun q hq => Nat.le_trans (show w.heap.size ≤ w1.heap.size by have g0 := HZS.out; omega) (Hr.out.lt q hq).1)
   replace Hbg := Lib.hid (Hbg.out.grown hg9 (fun e9 => by have a2 := HNP.out _ e9; have a1 := Hr.out.lt _ e9; have g0 := HZS.out; omega))
   clear HN1 HN2 HN3 HN4
   replace BL := Lib.hid (Below.grown BL.out hg9 (by have g0 := HZS.out; omega) (fun q hq => Nat.le_trans (show w1.heap.size ≤ w1.heap.size by have g0 := HZS.out; omega) (Hr.out.lt q hq).1))
   replace HZS := sz HZS hg9.size
   clear Hr HB HT HG1
   have Hr := Lib.hid hown9
   have HB := Lib.hid hb9
   clear hb9 hown9 hg9 hi9 hz90 hz91 hz92
   refine hK _ _ ⟨⟨⟨w7, HGR.out⟩, rfl⟩, ?_⟩
   clear hK K HGR
   have bg_ := Hbg.out.c3
   try simp only [Act.put, List.setIfInBounds_toArray, List.set_cons_succ, List.set_cons_zero]
   repeat (refine tree_q rfl rfl ?_; go_big_quiet_step (fail); refine wpQuiet_nil ?_)
   refine tree_end ?_
   go_wp2_with fail
   go_roundw
   case rel => exact ⟨j + 1, _, _, hjn, by go_num, rfl, BL, Hr.out.eq HSJ.out.symm rfl⟩
   case measure => simp [intOf]; omega
  ·have hj' : j = n := by omega
   subst hj'
   rw [List.take_of_length_le (by rw [HAL.out]; exact Nat.le_refl _)] at Hr
   go_wp2_with fail
   go_ret
   exact ⟨g, c9, rfl, Hr.out.sl, RowO.none0 Hr.out, RowO.room Hr.out, fun x hx => by have h1 := Hr.out.lt x.block (by rw [hx]; rfl); have h2 := HWW.out; omega, HB.out⟩
end Go.Proofs.YtdlnnkbigeiilaaGreat
namespace Go.Proofs.YtdlnnkbigeiilaaGreat
open Go.RowKit
end Go.Proofs.YtdlnnkbigeiilaaGreat
namespace Go.Proofs.YtdlnnkbigeiilaaGreat
open Go.RowKit
end Go.Proofs.YtdlnnkbigeiilaaGreat
namespace Go.Proofs.YtdlnnkbigeiilaaGreat
open Go.RowKit
theorem RowO.bx {N n size : Nat} {w : World} {e : TypeId} {a : Option Addr} {c k : Nat} {xs : List Value} (h : RowO N w e size (.slice a k c) n xs) (hn : 0 < n) : ∃ g rest, a = some ⟨g, 0, none⟩ ∧ N ≤ g ∧ n ≤ c ∧ Bx w g e (xs ++ rest) := by
 rcases h.2 with ⟨_, h0⟩ | ⟨g, cap, cur, hv, hb, hg, h1, h2, h3, h4⟩
 ·omega
 ·simp only [Value.slice.injEq] at hv
  obtain ⟨rfl, rfl, rfl⟩ := hv
  refine ⟨g, cur.toList.drop (k * size), rfl, hb, h1, ?_⟩
  rw [← h4, List.take_append_drop]
  exact hg
theorem RowO.keptP {P : Nat → Prop} {N n size : Nat} {w w1 : World} {e : TypeId} {v : Value} {xs : List Value} (h : RowO N w e size v n xs) (hk : Kept P w w1) (hne : ∀ q, v.ownBlock = some q → ¬ P q) : RowO N w1 e size v n xs := by
 refine ⟨h.1, ?_⟩
 rcases h.2 with h1 | ⟨g, cap, cur, rfl, h2, h3, h4⟩
 ·exact Or.inl h1
 ·exact Or.inr ⟨g, cap, cur, rfl, h2, (hk.block g (Array.getElem?_eq_some_iff.1 h3).1 (hne g rfl)).trans h3, h4⟩
theorem RowO.keptN {N n size : Nat} {w w1 : World} {e : TypeId} {v : Value} {xs : List Value} (h : RowO N w e size v n xs) (hk : Kept (fun q => q < N) w w1) : RowO N w1 e size v n xs :=
 h.keptP hk (fun q hq e => by have h1 := (h.lt q hq).1; have e : q < N := e; omega)
theorem RowO.apart {N n size M m z : Nat} {w : World} {e f : TypeId} {v u : Value} {xs ys : List Value} (h : RowO N w e size v n xs) (h' : RowO M w f z u m ys) (hne : e ≠ f) (q : Nat) (hq : v.ownBlock = some q) : u.ownBlock ≠ some q := by
 rcases h.2 with ⟨rfl, _⟩ | ⟨g, cap, cur, rfl, h2, h3, h4⟩
 ·cases hq
 ·obtain rfl : g = q := Option.some.inj hq
  exact h'.neB (show Bx w g e cur.toList from h3) hne
theorem RowsOff.sub {v : Value} {N : Nat} {w : World} {L L' : List RowA} (h : RowsOff v N w L) (hs : ∀ r ∈ L', r ∈ L) : RowsOff v N w L' := fun r hr => h r (hs r hr)
theorem RowsOff.app {v : Value} {N : Nat} {w : World} {L L' : List RowA} (h : RowsOff v N w L) (h' : RowsOff v N w L') : RowsOff v N w (L ++ L') := fun r hr => by
 rcases List.mem_append.1 hr with h9 | h9
 ·exact h r h9
 ·exact h' r h9
theorem RowsOff.grow {v : Value} {N g n c : Nat} {w w1 : World} {L : List RowA} (h : RowsOff v N w L) (hk : Kept (fun q => Value.ownBlock v = some q) w w1) (hf : Value.ownBlock v = some g ∨ w.heap.size ≤ g) : RowsOff (.slice (some ⟨g, 0, none⟩) n c) N w1 L := fun s hs => by
 obtain ⟨h1, h2, h3⟩ := h s hs
 refine ⟨Sl.kept h1 hk (fun x hx e => (h2 x hx).2.2 e), fun x hx => ⟨(h2 x hx).1, Nat.lt_of_lt_of_le (h2 x hx).2.1 hk.size, ?_⟩, h3⟩
 intro e
 have e9 : g = x.block := Option.some.inj e
 rcases hf with hf | hf
 ·exact (h2 x hx).2.2 (by rw [hf, e9])
 ·have := (h2 x hx).2.1
  omega
theorem RowsOff.keptO {P : Nat → Prop} {v : Value} {N : Nat} {w w1 : World} {L : List RowA} (h : RowsOff v N w L) (hk : Kept P w w1) (hf : ∀ r ∈ L, ∀ x, r.a = some x → ¬ P x.block) : RowsOff v N w1 L := fun s hs => by
 obtain ⟨h1, h2, h3⟩ := h s hs
 exact ⟨Sl.kept h1 hk (fun x hx e => hf s hs x hx e), fun x hx => ⟨(h2 x hx).1, Nat.lt_of_lt_of_le (h2 x hx).2.1 hk.size, (h2 x hx).2.2⟩, h3⟩
theorem RowsOff.fresh {v : Value} {N M : Nat} {w1 : World} {r : RowA} (h : RowA.At w1 r) (ho : r.Ok) (hf : ∀ x, r.a = some x → M ≤ x.block) (hN : N ≤ M) (hv : ∀ q, v.ownBlock = some q → q < M) (hb : ∀ x, r.a = some x → x.block < w1.heap.size) : RowsOff v N w1 [r] := fun s hs => by
 obtain rfl := List.mem_singleton.1 hs
 exact ⟨h, fun x hx => ⟨Nat.le_trans hN (hf x hx), hb x hx, fun e => by have h1 := hv _ e; have h2 := hf x hx; omega⟩, ho⟩
theorem RowsOff.none (v : Value) (N : Nat) (w : World) : RowsOff v N w [⟨Option.none, 0, []⟩] := fun s hs => by
 obtain rfl := List.mem_singleton.1 hs
 exact ⟨Or.inl rfl, (fun x hx => by cases hx), ⟨fun _ => rfl, Nat.le_refl _⟩⟩
def NumOff (v : Value) (N : Nat) (w : World) (a : Option Addr) (n : Nat) : Prop := NumAt w a n ∧ (n = 0 ∨ ∀ q o, a = some ⟨q, o, none⟩ → N ≤ q ∧ q < w.heap.size ∧ v.ownBlock ≠ some q)
theorem NumAt.keptF {P : Nat → Prop} {w w1 : World} {a : Option Addr} {n : Nat} (h : NumAt w a n) (hk : Kept P w w1) (hf : n = 0 ∨ ∀ q o, a = some ⟨q, o, none⟩ → ¬ P q) : NumAt w1 a n := by
 rcases hf with rfl | hf
 ·exact NumAt.zero w1 a
 ·rcases h with h | ⟨q, off, rfl, hq, hc⟩
  ·exact Or.inl h
  ·exact Sl.kept (Or.inr ⟨q, off, rfl, hq, hc⟩) hk (fun x hx e => hf q off rfl (by cases hx; exact e))
theorem NumOff.keptO {P : Nat → Prop} {v : Value} {N : Nat} {w w1 : World} {a : Option Addr} {n : Nat} (h : NumOff v N w a n) (hk : Kept P w w1) (hf : n = 0 ∨ ∀ q o, a = some ⟨q, o, none⟩ → ¬ P q) : NumOff v N w1 a n := by
 refine ⟨h.1.keptF hk hf, ?_⟩
 rcases h.2 with h0 | h2
 ·exact Or.inl h0
 ·exact Or.inr fun q o e => ⟨(h2 q o e).1, Nat.lt_of_lt_of_le (h2 q o e).2.1 hk.size, (h2 q o e).2.2⟩
theorem NumOff.grow {v : Value} {N g k c : Nat} {w w1 : World} {a : Option Addr} {n : Nat} (h : NumOff v N w a n) (hk : Kept (fun q => Value.ownBlock v = some q) w w1) (hf : Value.ownBlock v = some g ∨ w.heap.size ≤ g) : NumOff (.slice (some ⟨g, 0, none⟩) k c) N w1 a n := by
 rcases h.2 with h0 | h2
 ·exact ⟨h.1.keptF hk (Or.inl h0), Or.inl h0⟩
 ·refine ⟨h.1.keptF hk (Or.inr fun q o e e9 => (h2 q o e).2.2 e9), Or.inr fun q o e => ⟨(h2 q o e).1, Nat.lt_of_lt_of_le (h2 q o e).2.1 hk.size, fun e8 => ?_⟩⟩
  have e9 : g = q := Option.some.inj e8
  rcases hf with hf | hf
  ·exact (h2 q o e).2.2 (by rw [hf, e9])
  ·have := (h2 q o e).2.1
   omega
theorem digs_zero {n : Nat} (h : (digs n).map dV = []) : n = 0 := by
 have h1 : (digs n).length = 0 := by
  have h2 := congrArg List.length h
  rw [List.length_map] at h2
  exact h2
 rw [digs_length] at h1
 by_cases h0 : n = 0
 ·exact h0
 ·have := dl_pos n h0
  omega
theorem NumOff.fresh {v : Value} {N M : Nat} {w1 : World} {a : Option Addr} {n : Nat} (h : NumAt w1 a n) (hf : ∀ q o, a = some ⟨q, o, none⟩ → M ≤ q) (hN : N ≤ M) (hv : ∀ q, v.ownBlock = some q → q < M) : NumOff v N w1 a n := by
 refine ⟨h, ?_⟩
 rcases h with h | ⟨b, off, rfl, hb, hc⟩
 ·exact Or.inl (digs_zero h)
 ·exact Or.inr fun q o e => by
   have h1 := hf q o e
   cases e
   exact ⟨Nat.le_trans hN h1, hb, fun e => by have := hv _ e; omega⟩
structure EiO (N : Nat) (w : World) (v1 v2 : Value) (a : Option Addr) (n : Nat) (L : List RowA) : Prop where
 r1 : RowsOff v1 N w L
 r2 : RowsOff v2 N w L
 n1 : NumOff v1 N w a n
 n2 : NumOff v2 N w a n
section
variable {N n g k c : Nat} {w w1 : World} {v1 v2 : Value} {a : Option Addr} {L L' : List RowA}
theorem EiO.grow1 (h : EiO N w v1 v2 a n L) (hk : Kept (fun q => Value.ownBlock v1 = some q) w w1) (hf : Value.ownBlock v1 = some g ∨ w.heap.size ≤ g) : EiO N w1 (.slice (some ⟨g, 0, none⟩) k c) v2 a n L :=
 ⟨h.r1.grow hk hf, h.r2.keptO hk (fun r hr x hx e => ((h.r1 r hr).2.1 x hx).2.2 e), h.n1.grow hk hf, h.n2.keptO hk (by
  rcases h.n1.2 with h0 | h2
  ·exact Or.inl h0
  ·exact Or.inr fun q o e e9 => (h2 q o e).2.2 e9)⟩
theorem EiO.swap (h : EiO N w v1 v2 a n L) : EiO N w v2 v1 a n L := ⟨h.r2, h.r1, h.n2, h.n1⟩
theorem EiO.grow2 (h : EiO N w v1 v2 a n L) (hk : Kept (fun q => Value.ownBlock v2 = some q) w w1) (hf : Value.ownBlock v2 = some g ∨ w.heap.size ≤ g) : EiO N w1 v1 (.slice (some ⟨g, 0, none⟩) k c) a n L := (h.swap.grow1 hk hf).swap
theorem EiO.keptN (h : EiO N w v1 v2 a n L) (hk : Kept (fun q => q < N) w w1) : EiO N w1 v1 v2 a n L := by
 have hr : ∀ r ∈ L, ∀ x, r.a = some x → ¬ (fun q => q < N) x.block := fun r hr x hx e => by have h1 := ((h.r1 r hr).2.1 x hx).1; have e : x.block < N := e; omega
 have hn : n = 0 ∨ ∀ q o, a = some ⟨q, o, none⟩ → ¬ (fun q => q < N) q := by
  rcases h.n1.2 with h0 | h2
  ·exact Or.inl h0
  ·exact Or.inr fun q o e e9 => by have h1 := (h2 q o e).1; have e9 : q < N := e9; omega
 exact ⟨h.r1.keptO hk hr, h.r2.keptO hk hr, h.n1.keptO hk hn, h.n2.keptO hk hn⟩
theorem EiO.up (h : EiO N w v1 v2 a n L) (hb : Below w.heap.size w w1) : EiO N w1 v1 v2 a n L := by
 have hk : Kept (fun _ => False) w w1 := (Kept.refl _ w).up hb
 exact ⟨h.r1.keptO hk (fun _ _ _ _ e => e), h.r2.keptO hk (fun _ _ _ _ e => e), h.n1.keptO hk (Or.inr fun _ _ _ e => e), h.n2.keptO hk (Or.inr fun _ _ _ e => e)⟩
theorem EiO.sub (h : EiO N w v1 v2 a n L) (hs : ∀ r ∈ L', r ∈ L) : EiO N w v1 v2 a n L' := ⟨h.r1.sub hs, h.r2.sub hs, h.n1, h.n2⟩
theorem EiO.row {r : RowA} (h : EiO N w v1 v2 a n L) (h1 : RowsOff v1 N w [r]) (h2 : RowsOff v2 N w [r]) : EiO N w v1 v2 a n (L ++ [r]) := ⟨h.r1.app h1, h.r2.app h2, h.n1, h.n2⟩
theorem EiO.num {m : Nat} {a' : Option Addr} (h : EiO N w v1 v2 a n L) (h1 : NumOff v1 N w a' m) (h2 : NumOff v2 N w a' m) : EiO N w v1 v2 a' m L := ⟨h.r1, h.r2, h1, h2⟩
end
theorem NumAt.setStr {W : World} {b i : Nat} {s : ByteArray} {a : Option Addr} {n : Nat} (h : NumAt W a n) (hc : W.cell? ⟨b, i, none⟩ = some (.string s)) (v : Value) : NumAt (W.setCell ⟨b, i, none⟩ v) a n := by
 rcases h with h | ⟨q, off, rfl, hq, h9⟩
 ·exact Or.inl h
 ·refine Or.inr ⟨q, off, rfl, by simpa [World.setCell] using hq, fun j u hu => ?_⟩
  rw [World.cell?_setCell_other _ _ _ _ (by
   intro e
   have h1 := h9 j u hu
   rw [← e, hc] at h1
   have h2 := Option.some.inj h1
   rw [← h2] at hu
   rw [List.getElem?_map] at hu
   obtain ⟨d, _, hd⟩ := Option.map_eq_some_iff.1 hu
   cases hd)]
  exact h9 j u hu
theorem rfirst_eq {k : Nat} (h1 : 1 ≤ k) (h3 : k ≤ 3) {l : List ClaimA} {xs : List ByteArray} (hw : wrongE (grp k) l = 0) (hs : scE (grp k) l.length xs = 0) :
  eachA (grp k) (rvalB (grp k) (subQ (grp k) 0 0) l xs) (lens l) l.length = eachA (grp k) (valF (grp k) l xs) (lens l) l.length := by
 have h9 := rfirstK_eq (k : Int) l xs
 have ho := openK_we h1 h3 hw hs
 unfold rfirstK firstK at h9
 rw [if_pos ho, if_pos ho, Int.toNat_natCast] at h9
 exact h9
def NonR (b : Prop) (n : Nat) (W : List ByteArray) (v : Value) (nr : List RowA) : Prop := b → ∃ a c, v = .slice a n c ∧ nr = [⟨a, c, W⟩]
theorem eithR_setO {er : Int} {w w' : World} {C : List ByteArray} {A : List (List ByteArray)} {n m i cb ab c5 c1 c2 : Nat} {ta tc : TypeId} {x : ByteArray} {AN : List ByteArray} {a5 : Option Addr} {ro : List RowA} {q1 q2 : List Value} (hb : Below w.heap.size w w') (hC : C.length = n) (hi : i < n) (hr : ro.length = n) (hm : ro.map RowA.l = A) (hn : AN.length = m) (h1 : Bx w' cb tc ((C.map Value.string ++ q1).set i (.string x))) (h2 : Bx w' ab ta ((ro.flatMap RowA.cells ++ q2).set i (.slice a5 m c5))) (hR : ∀ r ∈ ro, RowA.At w' r ∧ r.Ok) (hS : Sl w' w'.heap.size a5 (AN.map Value.string)) (h5 : m ≤ c5) (h6 : a5 = none → c5 = 0) :
  EithR er (C.set i x) (A.set i AN) w (.returned (.tuple #[.agg #[.slice (some ⟨cb, 0, none⟩) n c1, .slice (some ⟨ab, 0, none⟩) n c2], .int .i64 er])) w' := by
 subst hn
 have e1 : (C.map Value.string ++ q1).set i (.string x) = (C.set i x).map Value.string ++ q1 := by
  rw [List.set_append_left _ _ (by rw [List.length_map, hC]; exact hi), List.map_set]
 rw [e1] at h1
 have e2 : (ro.flatMap RowA.cells ++ q2).set i (.slice a5 AN.length c5) = (ro.set i ⟨a5, c5, AN⟩).flatMap RowA.cells ++ q2 := by
  rw [List.set_append_left _ _ (by rw [rows_len, hr]; exact hi), rows_set]
 rw [e2] at h2
 have s1 := Sl.app_left (Sl.of_block h1)
 have s2 := Sl.app_left (Sl.of_block h2)
 refine ⟨hb, some ⟨cb, 0, none⟩, c1, some ⟨ab, 0, none⟩, c2, ro.set i ⟨a5, c5, AN⟩, ?_, by simpa using s1, by rw [List.map_set, hm], ⟨by simpa using s2, fun r h => ?_⟩, fun r h => ?_⟩
 ·rw [List.length_set, List.length_set, hC, ← hm, List.length_map, hr]
 ·rcases List.mem_or_eq_of_mem_set h with h | rfl
  ·exact (hR r h).1
  ·exact hS
 ·rcases List.mem_or_eq_of_mem_set h with h | rfl
  ·exact (hR r h).2
  ·exact ⟨h6, h5⟩
end Go.Proofs.YtdlnnkbigeiilaaGreat
namespace Go.Proofs.YtdlnnkbigeiilaaGreat
open Go.RowKit
section
variable {G : GP}
theorem isSc_text (ok : G.Ok) (N : Nat) : isSc G.q.m G.size (textS (N % G.q.m) G.size) = true := by
 unfold isSc
 rw [textS_size, numOf_mod ok]
 simp [Nat.mod_lt _ ok.q.pos]
end
end Go.Proofs.YtdlnnkbigeiilaaGreat
namespace Go.Proofs.YtdlnnkbigeiilaaGreat
open Go.RowKit
theorem nonce_scE {G : GP} (ok : G.Ok) (s : ByteArray) (n : Nat) : scE G n (nonceL G s n) = 0 := by
 unfold scE
 rw [if_pos (nonceL_len _ _ _), if_pos]
 refine List.all_eq_true.2 fun x hx => ?_
 unfold nonceL at hx
 obtain ⟨j, _, rfl⟩ := List.mem_map.1 hx
 exact isSc_text ok _
section
variable {G : GP} (ls : List (List ClaimA)) (wh n : Nat) (s : PvS) (xs : List ByteArray)
end
end Go.Proofs.YtdlnnkbigeiilaaGreat
namespace Go.Proofs.YtdlnnkbigeiilaaGreat
open Go.RowKit
theorem rPany_none (k : Int) (hk : ¬ (1 ≤ k ∧ k ≤ 3)) (label seed : ByteArray) (v u : Value) (wh : Int) (w : World) :
  Calls Tryz.prog 18 #[.int .i64 k, .string label, v, .int .i64 wh, u, .string seed] w (EithR 1 [] [] w) := by
 have HKD := Lib.hid (fun w => refKind_none k hk w)
 clear hk
 go_enter Tryz.func18, Tryz.ntmps18
 obtain ⟨w1, hq1, hb9, hz9, Hout⟩ := new1 w 30 ([.slice none 0 0, .slice none 0 0])
 have HB := Lib.hid hb9
 have HZS := hz9
 clear hb9 hz9
 obtain ⟨w2, hq2, hb9, hz9, Hno⟩ := new1 w1 30 [.slice none 0 0, .slice none 0 0]
 replace Hout := Lib.hid (Hout.out.up hb9)
 replace HB := hbu HB hb9
 replace HZS := sz HZS hz9.out
 clear hb9 hz9
 have no_ := Hno.out.c2
 have f3_no := Hno.out.frozen
 have o3_no_ := no_; clear no_
 obtain ⟨w3, hq3, hg9, hz9, hx9⟩ := put2 Hno 0 (.slice none 0 0) 1 (.slice none 0 0) [.slice none 0 0, .slice none 0 0] rfl
 replace Hout := Lib.hid (Hout.out.grown hg9.out (sne (by have g0 := HZS.out; omega)))
 replace HB := hbg HB hg9 (by have g0 := HZS.out; omega)
 replace HZS := sz HZS hz9.out
 replace Hno := hx9
 clear hx9 hg9 hz9
 have no_ := Hno.out.c2
 go_wp2_with fail
 clear hq3 o3_no_ f3_no hq2 hq1
 have out_ := Hout.out.c2
 refine (HKD.out w3).mono ?_
 rintro e w4 ⟨rfl, hb9⟩
 clear out_
 replace Hout := Lib.hid (Hout.out.up hb9)
 clear no_
 replace Hno := Lib.hid (Hno.out.up hb9)
 replace HB := hbu HB hb9
 replace HZS := sz HZS hb9.size
 clear hb9
 have out_ := Hout.out.c2
 have no_ := Hno.out.c2
 have o5_out_ := out_; clear out_
 have o5_no_ := no_; clear no_
 obtain ⟨w5, hq5, hb9, hz9, Hbg⟩ := new1 w4 86 [.int .i64 0, .slice none 0 0, .slice none 0 0]
 replace Hout := Lib.hid (Hout.out.up hb9)
 replace Hno := Lib.hid (Hno.out.up hb9)
 replace HB := hbu HB hb9
 replace HZS := sz HZS hz9.out
 clear hb9 hz9
 have out_ := Hout.out.c2
 have no_ := Hno.out.c2
 have bg_ := Hbg.out.c3
 have f6_bg := Hbg.out.frozen
 have o6_out_ := out_; clear out_
 have o6_no_ := no_; clear no_
 have o6_bg_ := bg_; clear bg_
 obtain ⟨w6, hq6, hg9, hz9, hx9⟩ := put3 Hbg 0 (.int .i64 0) 1 (.slice none 0 0) 2 (.slice none 0 0) [.int .i64 0, .slice none 0 0, .slice none 0 0] rfl
 replace Hout := Lib.hid (Hout.out.grown hg9.out (sne (by have g0 := HZS.out; omega)))
 replace Hno := Lib.hid (Hno.out.grown hg9.out (sne (by have g0 := HZS.out; omega)))
 replace HB := hbg HB hg9 (by have g0 := HZS.out; omega)
 replace HZS := sz HZS hz9.out
 replace Hbg := hx9
 clear hx9 hg9 hz9
 have out_ := Hout.out.c2
 have no_ := Hno.out.c2
 have bg_ := Hbg.out.c3
 have f7_out := Hout.out.frozen
 have o7_out_ := out_; clear out_
 have o7_no_ := no_; clear no_
 have o7_bg_ := bg_; clear bg_
 obtain ⟨w7, hq7, hg9, hz9, hx9⟩ := put2 Hout 0 (.slice none 0 0) 1 (.slice none 0 0) [.slice none 0 0, .slice none 0 0] rfl
 replace Hno := Lib.hid (Hno.out.grown hg9.out (sne (by have g0 := HZS.out; omega)))
 replace Hbg := Lib.hid (Hbg.out.grown hg9.out (sne (by have g0 := HZS.out; omega)))
 replace HB := hbg HB hg9 (by have g0 := HZS.out; omega)
 replace HZS := sz HZS hz9.out
 replace Hout := hx9
 clear hx9 hg9 hz9
 have out_ := Hout.out.c2
 have no_ := Hno.out.c2
 have bg_ := Hbg.out.c3
 go_wp2_with fail
 clear hq7 o7_bg_ o7_no_ o7_out_ f7_out hq6 o6_bg_ o6_no_ o6_out_ f6_bg hq5 o5_no_ o5_out_
 simp [bodyPost, results, Tryz.results18, go_sem, out_]
 exact eithR_none _ HB.out
theorem rPany_bad (k : Nat) (h1 : 1 ≤ k) (h3 : k ≤ 3) (label seed : ByteArray) (ss : List SetA) (n : Nat) (hn : ss.length = n) (al : Option Addr) (cl : Nat) (hz : ¬ setsE (grp k) ss = 0) (u : Value) (wh : Int) (w : World) (hC : SetsAt w al ss) :
  Calls Tryz.prog 18 #[.int .i64 (k : Int), .string label, .slice al n cl, .int .i64 wh, u, .string seed] w (EithR (setsE (grp k) ss : Int) [] [] w) := by
 have HWS := Lib.hid (fun aq ap cq cp w hG hC => rWrongSets (aq := aq) (ap := ap) (cq := cq) (cp := cp) (grp_ok k h1 h3) ss n hn al cl w hG hC)
 have HC := Lib.hid hC
 have hs0 : (((grp k).size : Int) == 0) = false := by have h9 := of_decide_eq_true (size_gt0 k h1 h3); simp; omega
 obtain ⟨z, hz9⟩ : ∃ z, setsE (grp k) ss = z := ⟨_, rfl⟩
 rw [hz9] at HWS hz ⊢
 unfold Gives at HWS
 have hd3 : ((z : Int) != 0) = true := by simp; omega
 clear hC hn hz hz9
 go_enter Tryz.func18, Tryz.ntmps18
 obtain ⟨w1, hq1, hb9, hz9, Hout⟩ := new1 w 30 ([.slice none 0 0, .slice none 0 0])
 have HB := Lib.hid hb9
 have HZS := hz9
 clear hb9 hz9
 obtain ⟨w2, hq2, hb9, hz9, Hno⟩ := new1 w1 30 [.slice none 0 0, .slice none 0 0]
 replace Hout := Lib.hid (Hout.out.up hb9)
 replace HB := hbu HB hb9
 replace HZS := sz HZS hz9.out
 clear hb9 hz9
 have no_ := Hno.out.c2
 have f3_no := Hno.out.frozen
 have o3_no_ := no_; clear no_
 obtain ⟨w3, hq3, hg9, hz9, hx9⟩ := put2 Hno 0 (.slice none 0 0) 1 (.slice none 0 0) [.slice none 0 0, .slice none 0 0] rfl
 replace Hout := Lib.hid (Hout.out.grown hg9.out (sne (by have g0 := HZS.out; omega)))
 replace HB := hbg HB hg9 (by have g0 := HZS.out; omega)
 replace HZS := sz HZS hz9.out
 replace Hno := hx9
 clear hx9 hg9 hz9
 have no_ := Hno.out.c2
 go_wp2_with fail
 clear hq3 o3_no_ f3_no hq2 hq1
 have out_ := Hout.out.c2
 refine (refKind_some k h1 h3 w3).mono ?_
 rintro e w4 ⟨aq, cq, ap, cp, rfl, hq9, hp9, hb9⟩
 clear out_
 replace Hout := Lib.hid (Hout.out.up hb9)
 clear no_
 replace Hno := Lib.hid (Hno.out.up hb9)
 replace HB := hbu HB hb9
 replace HZS := sz HZS hb9.size
 have HRG := Lib.hid (RG.mk (G := grp k) hq9 hp9)
 clear hq9 hp9 hb9
 have out_ := Hout.out.c2
 have no_ := Hno.out.c2
 have HK := Lib.hid (Below.refl w4.heap.size w4)
 have o5_out_ := out_; clear out_
 have o5_no_ := no_; clear no_
 obtain ⟨w5, hq5, hb9, hz9, Hbg⟩ := new1 w4 86 [.int .i64 ((grp k).size : Int), .slice aq (dl (grp k).q.m) cq, .slice ap (dl (grp k).p.m) cp]
 replace Hout := Lib.hid (Hout.out.up hb9)
 replace Hno := Lib.hid (Hno.out.up hb9)
 replace HK := hbu HK hb9
 replace HB := hbu HB hb9
 replace HZS := sz HZS hz9.out
 clear hb9 hz9
 have out_ := Hout.out.c2
 have no_ := Hno.out.c2
 have bg_ := Hbg.out.c3
 go_wp2_with fail
 clear hq5 o5_no_ o5_out_
 refine (HWS.out aq ap cq cp w5 (HRG.out.up HK.out) (HC.out.up HB.out)).mono ?_
 rintro e w6 ⟨rfl, hb9⟩
 clear out_
 replace Hout := Lib.hid (Hout.out.up hb9)
 clear no_
 replace Hno := Lib.hid (Hno.out.up hb9)
 clear bg_
 replace Hbg := Lib.hid (Hbg.out.up hb9)
 replace HK := hbu HK hb9
 replace HB := hbu HB hb9
 replace HZS := sz HZS hb9.size
 clear hb9
 have out_ := Hout.out.c2
 have no_ := Hno.out.c2
 have bg_ := Hbg.out.c3
 clear HK
 have f7_out := Hout.out.frozen
 have o7_out_ := out_; clear out_
 have o7_no_ := no_; clear no_
 have o7_bg_ := bg_; clear bg_
 obtain ⟨w7, hq7, hg9, hz9, hx9⟩ := put2 Hout 0 (.slice none 0 0) 1 (.slice none 0 0) [.slice none 0 0, .slice none 0 0] rfl
 replace Hno := Lib.hid (Hno.out.grown hg9.out (sne (by have g0 := HZS.out; omega)))
 replace Hbg := Lib.hid (Hbg.out.grown hg9.out (sne (by have g0 := HZS.out; omega)))
 replace HB := hbg HB hg9 (by have g0 := HZS.out; omega)
 replace HZS := sz HZS hz9.out
 replace Hout := hx9
 clear hx9 hg9 hz9
 have out_ := Hout.out.c2
 have no_ := Hno.out.c2
 have bg_ := Hbg.out.c3
 go_wp2_with fail
 clear hq7 o7_bg_ o7_no_ o7_out_ f7_out
 simp [bodyPost, results, Tryz.results18, go_sem, out_]
 exact eithR_none _ HB.out
theorem rPany_range (k : Nat) (h1 : 1 ≤ k) (h3 : k ≤ 3) (label seed : ByteArray) (ss : List SetA) (n : Nat) (hn : ss.length = n) (al : Option Addr) (cl : Nat) (hz : setsE (grp k) ss = 0) (u : Value) (wh : Int) (hw : wh < 0 ∨ (n : Int) ≤ wh) (w : World) (hC : SetsAt w al ss) :
  Calls Tryz.prog 18 #[.int .i64 (k : Int), .string label, .slice al n cl, .int .i64 wh, u, .string seed] w (EithR 4 [] [] w) := by
 have HWS := Lib.hid (fun aq ap cq cp w hG hC => rWrongSets (aq := aq) (ap := ap) (cq := cq) (cp := cp) (grp_ok k h1 h3) ss n hn al cl w hG hC)
 have HC := Lib.hid hC
 have hs0 : (((grp k).size : Int) == 0) = false := by have h9 := of_decide_eq_true (size_gt0 k h1 h3); simp; omega
 rw [hz] at HWS
 unfold Gives at HWS
 clear hC hn hz
 by_cases hw0 : wh < 0
 ·have hd1 : decide (wh < 0) = true := decide_eq_true hw0
  clear hw hw0
  go_enter Tryz.func18, Tryz.ntmps18
  obtain ⟨w1, hq1, hb9, hz9, Hout⟩ := new1 w 30 ([.slice none 0 0, .slice none 0 0])
  have HB := Lib.hid hb9
  have HZS := hz9
  clear hb9 hz9
  obtain ⟨w2, hq2, hb9, hz9, Hno⟩ := new1 w1 30 [.slice none 0 0, .slice none 0 0]
  replace Hout := Lib.hid (Hout.out.up hb9)
  replace HB := hbu HB hb9
  replace HZS := sz HZS hz9.out
  clear hb9 hz9
  have no_ := Hno.out.c2
  have f3_no := Hno.out.frozen
  have o3_no_ := no_; clear no_
  obtain ⟨w3, hq3, hg9, hz9, hx9⟩ := put2 Hno 0 (.slice none 0 0) 1 (.slice none 0 0) [.slice none 0 0, .slice none 0 0] rfl
  replace Hout := Lib.hid (Hout.out.grown hg9.out (sne (by have g0 := HZS.out; omega)))
  replace HB := hbg HB hg9 (by have g0 := HZS.out; omega)
  replace HZS := sz HZS hz9.out
  replace Hno := hx9
  clear hx9 hg9 hz9
  have no_ := Hno.out.c2
  go_wp2_with fail
  clear hq3 o3_no_ f3_no hq2 hq1
  have out_ := Hout.out.c2
  refine (refKind_some k h1 h3 w3).mono ?_
  rintro e w4 ⟨aq, cq, ap, cp, rfl, hq9, hp9, hb9⟩
  clear out_
  replace Hout := Lib.hid (Hout.out.up hb9)
  clear no_
  replace Hno := Lib.hid (Hno.out.up hb9)
  replace HB := hbu HB hb9
  replace HZS := sz HZS hb9.size
  have HRG := Lib.hid (RG.mk (G := grp k) hq9 hp9)
  clear hq9 hp9 hb9
  have out_ := Hout.out.c2
  have no_ := Hno.out.c2
  have HK := Lib.hid (Below.refl w4.heap.size w4)
  have o5_out_ := out_; clear out_
  have o5_no_ := no_; clear no_
  obtain ⟨w5, hq5, hb9, hz9, Hbg⟩ := new1 w4 86 [.int .i64 ((grp k).size : Int), .slice aq (dl (grp k).q.m) cq, .slice ap (dl (grp k).p.m) cp]
  replace Hout := Lib.hid (Hout.out.up hb9)
  replace Hno := Lib.hid (Hno.out.up hb9)
  replace HK := hbu HK hb9
  replace HB := hbu HB hb9
  replace HZS := sz HZS hz9.out
  clear hb9 hz9
  have out_ := Hout.out.c2
  have no_ := Hno.out.c2
  have bg_ := Hbg.out.c3
  go_wp2_with fail
  clear hq5 o5_no_ o5_out_
  refine (HWS.out aq ap cq cp w5 (HRG.out.up HK.out) (HC.out.up HB.out)).mono ?_
  rintro e w6 ⟨rfl, hb9⟩
  clear out_
  replace Hout := Lib.hid (Hout.out.up hb9)
  clear no_
  replace Hno := Lib.hid (Hno.out.up hb9)
  clear bg_
  replace Hbg := Lib.hid (Hbg.out.up hb9)
  replace HK := hbu HK hb9
  replace HB := hbu HB hb9
  replace HZS := sz HZS hb9.size
  clear hb9
  have out_ := Hout.out.c2
  have no_ := Hno.out.c2
  have bg_ := Hbg.out.c3
  clear HK
  have f7_out := Hout.out.frozen
  have o7_out_ := out_; clear out_
  have o7_no_ := no_; clear no_
  have o7_bg_ := bg_; clear bg_
  obtain ⟨w7, hq7, hg9, hz9, hx9⟩ := put2 Hout 0 (.slice none 0 0) 1 (.slice none 0 0) [.slice none 0 0, .slice none 0 0] rfl
  replace Hno := Lib.hid (Hno.out.grown hg9.out (sne (by have g0 := HZS.out; omega)))
  replace Hbg := Lib.hid (Hbg.out.grown hg9.out (sne (by have g0 := HZS.out; omega)))
  replace HB := hbg HB hg9 (by have g0 := HZS.out; omega)
  replace HZS := sz HZS hz9.out
  replace Hout := hx9
  clear hx9 hg9 hz9
  have out_ := Hout.out.c2
  have no_ := Hno.out.c2
  have bg_ := Hbg.out.c3
  go_wp2_with fail
  clear hq7 o7_bg_ o7_no_ o7_out_ f7_out
  simp [bodyPost, results, Tryz.results18, go_sem, out_]
  exact eithR_none _ HB.out
 ·have hd1 : decide (wh < 0) = false := decide_eq_false hw0
  have hd2 : decide (wh ≥ (n : Int)) = true := decide_eq_true (by omega)
  clear hw hw0
  go_enter Tryz.func18, Tryz.ntmps18
  obtain ⟨w1, hq1, hb9, hz9, Hout⟩ := new1 w 30 ([.slice none 0 0, .slice none 0 0])
  have HB := Lib.hid hb9
  have HZS := hz9
  clear hb9 hz9
  obtain ⟨w2, hq2, hb9, hz9, Hno⟩ := new1 w1 30 [.slice none 0 0, .slice none 0 0]
  replace Hout := Lib.hid (Hout.out.up hb9)
  replace HB := hbu HB hb9
  replace HZS := sz HZS hz9.out
  clear hb9 hz9
  have no_ := Hno.out.c2
  have f3_no := Hno.out.frozen
  have o3_no_ := no_; clear no_
  obtain ⟨w3, hq3, hg9, hz9, hx9⟩ := put2 Hno 0 (.slice none 0 0) 1 (.slice none 0 0) [.slice none 0 0, .slice none 0 0] rfl
  replace Hout := Lib.hid (Hout.out.grown hg9.out (sne (by have g0 := HZS.out; omega)))
  replace HB := hbg HB hg9 (by have g0 := HZS.out; omega)
  replace HZS := sz HZS hz9.out
  replace Hno := hx9
  clear hx9 hg9 hz9
  have no_ := Hno.out.c2
  go_wp2_with fail
  clear hq3 o3_no_ f3_no hq2 hq1
  have out_ := Hout.out.c2
  refine (refKind_some k h1 h3 w3).mono ?_
  rintro e w4 ⟨aq, cq, ap, cp, rfl, hq9, hp9, hb9⟩
  clear out_
  replace Hout := Lib.hid (Hout.out.up hb9)
  clear no_
  replace Hno := Lib.hid (Hno.out.up hb9)
  replace HB := hbu HB hb9
  replace HZS := sz HZS hb9.size
  have HRG := Lib.hid (RG.mk (G := grp k) hq9 hp9)
  clear hq9 hp9 hb9
  have out_ := Hout.out.c2
  have no_ := Hno.out.c2
  have HK := Lib.hid (Below.refl w4.heap.size w4)
  have o5_out_ := out_; clear out_
  have o5_no_ := no_; clear no_
  obtain ⟨w5, hq5, hb9, hz9, Hbg⟩ := new1 w4 86 [.int .i64 ((grp k).size : Int), .slice aq (dl (grp k).q.m) cq, .slice ap (dl (grp k).p.m) cp]
  replace Hout := Lib.hid (Hout.out.up hb9)
  replace Hno := Lib.hid (Hno.out.up hb9)
  replace HK := hbu HK hb9
  replace HB := hbu HB hb9
  replace HZS := sz HZS hz9.out
  clear hb9 hz9
  have out_ := Hout.out.c2
  have no_ := Hno.out.c2
  have bg_ := Hbg.out.c3
  go_wp2_with fail
  clear hq5 o5_no_ o5_out_
  refine (HWS.out aq ap cq cp w5 (HRG.out.up HK.out) (HC.out.up HB.out)).mono ?_
  rintro e w6 ⟨rfl, hb9⟩
  clear out_
  replace Hout := Lib.hid (Hout.out.up hb9)
  clear no_
  replace Hno := Lib.hid (Hno.out.up hb9)
  clear bg_
  replace Hbg := Lib.hid (Hbg.out.up hb9)
  replace HK := hbu HK hb9
  replace HB := hbu HB hb9
  replace HZS := sz HZS hb9.size
  clear hb9
  have out_ := Hout.out.c2
  have no_ := Hno.out.c2
  have bg_ := Hbg.out.c3
  clear HK
  have f7_out := Hout.out.frozen
  have o7_out_ := out_; clear out_
  have o7_no_ := no_; clear no_
  have o7_bg_ := bg_; clear bg_
  obtain ⟨w7, hq7, hg9, hz9, hx9⟩ := put2 Hout 0 (.slice none 0 0) 1 (.slice none 0 0) [.slice none 0 0, .slice none 0 0] rfl
  replace Hno := Lib.hid (Hno.out.grown hg9.out (sne (by have g0 := HZS.out; omega)))
  replace Hbg := Lib.hid (Hbg.out.grown hg9.out (sne (by have g0 := HZS.out; omega)))
  replace HB := hbg HB hg9 (by have g0 := HZS.out; omega)
  replace HZS := sz HZS hz9.out
  replace Hout := hx9
  clear hx9 hg9 hz9
  have out_ := Hout.out.c2
  have no_ := Hno.out.c2
  have bg_ := Hbg.out.c3
  go_wp2_with fail
  clear hq7 o7_bg_ o7_no_ o7_out_ f7_out
  simp [bodyPost, results, Tryz.results18, go_sem, out_]
  exact eithR_none _ HB.out
theorem rPany_sc (k : Nat) (h1 : 1 ≤ k) (h3 : k ≤ 3) (label seed : ByteArray) (ss : List SetA) (n : Nat) (hn : ss.length = n) (al : Option Addr) (cl : Nat) (hz : setsE (grp k) ss = 0) (wh : Nat) (hwn : wh < n) (xs : List ByteArray) (ax : Option Addr) (cx : Nat) (hm : xs.length ≤ 8796093022207) (z : Nat) (hz2 : scE (grp k) (pvL (ss.map SetA.l) wh).length xs = z) (hz0 : ¬ z = 0) (w : World) (hC : SetsAt w al ss) (hS : Sl w w.heap.size ax (xs.map Value.string)) :
  Calls Tryz.prog 18 #[.int .i64 (k : Int), .string label, .slice al n cl, .int .i64 (wh : Int), .slice ax xs.length cx, .string seed] w (EithR (z : Int) [] [] w) := by
 have OK := Lib.hid (grp_ok k h1 h3)
 have HWS := Lib.hid (fun aq ap cq cp w hG hC => rWrongSets (aq := aq) (ap := ap) (cq := cq) (cp := cp) OK.out ss n hn al cl w hG hC)
 rw [hz] at HWS
 unfold Gives at HWS
 have hs0 : (((grp k).size : Int) == 0) = false := by have h9 := of_decide_eq_true (size_gt0 k h1 h3); simp; omega
 have hd1 : decide ((wh : Int) < 0) = false := decide_eq_false (by omega)
 have hd2 : decide ((wh : Int) ≥ (n : Int)) = false := decide_eq_false (by omega)
 have HZE := Lib.hid (setsE_ok hz)
 have h16 : n ≤ 16 := by have := HZE.out.2.1; omega
 have HSS := Lib.hid (fun s (hs : s ∈ ss) => wrongsE_all HZE.out.2.2 s hs)
 have hjs : wh < ss.length := by omega
 have HKW : pvL (ss.map SetA.l) wh = ss[wh].l := by unfold pvL; rw [List.getD_eq_getElem?_getD, List.getElem?_map, List.getElem?_eq_getElem hjs]; rfl
 have HWW := HSS.out _ (List.getElem_mem hjs)
 have HCW := Lib.hid (hC.one wh hjs)
 obtain ⟨bl, ol, rfl, hbl0, hc⟩ := hC.s.elem SetA.cells_len (by omega) wh hjs
 have hc_0 := hc 0 _ rfl
 rw [Nat.add_zero] at hc_0
 clear hc
 rw [Nat.mul_one] at hc_0
 rw [HKW] at hz2
 have HC := Lib.hid hC
 have HS := Lib.hid hS
 generalize ss[wh] = tw at *
 have HWC := Lib.hid (fun aq ap cq cp W hG hS => rWrongSc_e (aq := aq) (ap := ap) (cq := cq) (cp := cp) OK.out tw.l.length xs z hz2 ax cx hm W hG hS)
 unfold Gives at HWC
 have HCW0 := Lib.hid hc_0
 have HBL0 := Lib.hid hbl0
 have hd3 : ((z : Int) != 0) = true := by simp; omega
 clear hC hS hn hz hz2 hz0 hm hc_0 hbl0 HKW HWW hjs
 go_enter Tryz.func18, Tryz.ntmps18
 obtain ⟨w1, hq1, hb9, hz9, Hout⟩ := new1 w 30 ([.slice none 0 0, .slice none 0 0])
 have HB := Lib.hid hb9
 have HZS := hz9
 clear hb9 hz9
 obtain ⟨w2, hq2, hb9, hz9, Hno⟩ := new1 w1 30 [.slice none 0 0, .slice none 0 0]
 replace Hout := Lib.hid (Hout.out.up hb9)
 replace HB := hbu HB hb9
 replace HZS := sz HZS hz9.out
 clear hb9 hz9
 have no_ := Hno.out.c2
 have f3_no := Hno.out.frozen
 have o3_no_ := no_; clear no_
 obtain ⟨w3, hq3, hg9, hz9, hx9⟩ := put2 Hno 0 (.slice none 0 0) 1 (.slice none 0 0) [.slice none 0 0, .slice none 0 0] rfl
 replace Hout := Lib.hid (Hout.out.grown hg9.out (sne (by have g0 := HZS.out; omega)))
 replace HB := hbg HB hg9 (by have g0 := HZS.out; omega)
 replace HZS := sz HZS hz9.out
 replace Hno := hx9
 clear hx9 hg9 hz9
 have no_ := Hno.out.c2
 go_wp2_with fail
 clear hq3 o3_no_ f3_no hq2 hq1
 have out_ := Hout.out.c2
 refine (refKind_some k h1 h3 w3).mono ?_
 rintro e w4 ⟨aq, cq, ap, cp, rfl, hq9, hp9, hb9⟩
 clear out_
 replace Hout := Lib.hid (Hout.out.up hb9)
 clear no_
 replace Hno := Lib.hid (Hno.out.up hb9)
 replace HB := hbu HB hb9
 replace HZS := sz HZS hb9.size
 have HRG := Lib.hid (RG.mk (G := grp k) hq9 hp9)
 clear hq9 hp9 hb9
 have out_ := Hout.out.c2
 have no_ := Hno.out.c2
 have HK := Lib.hid (Below.refl w4.heap.size w4)
 have o5_out_ := out_; clear out_
 have o5_no_ := no_; clear no_
 obtain ⟨w5, hq5, hb9, hz9, Hbg⟩ := new1 w4 86 [.int .i64 ((grp k).size : Int), .slice aq (dl (grp k).q.m) cq, .slice ap (dl (grp k).p.m) cp]
 replace Hout := Lib.hid (Hout.out.up hb9)
 replace Hno := Lib.hid (Hno.out.up hb9)
 replace HK := hbu HK hb9
 replace HB := hbu HB hb9
 replace HZS := sz HZS hz9.out
 clear hb9 hz9
 have out_ := Hout.out.c2
 have no_ := Hno.out.c2
 have bg_ := Hbg.out.c3
 go_wp2_with fail
 clear hq5 o5_no_ o5_out_
 refine (HWS.out aq ap cq cp w5 (HRG.out.up HK.out) (HC.out.up HB.out)).mono ?_
 rintro e w6 ⟨rfl, hb9⟩
 clear out_
 replace Hout := Lib.hid (Hout.out.up hb9)
 clear no_
 replace Hno := Lib.hid (Hno.out.up hb9)
 clear bg_
 replace Hbg := Lib.hid (Hbg.out.up hb9)
 replace HK := hbu HK hb9
 replace HB := hbu HB hb9
 replace HZS := sz HZS hb9.size
 clear hb9
 have out_ := Hout.out.c2
 have no_ := Hno.out.c2
 have bg_ := Hbg.out.c3
 go_wp2_with fail
 have hc_0 := (HB.out.cell (p := ⟨bl, ol + wh, none⟩) HBL0.out).trans HCW0.out
 have hbl := Nat.lt_of_lt_of_le HBL0.out HB.out.size
 have hl_out := Hout.out.lt
 have hl_no := Hno.out.lt
 have hl_bg := Hbg.out.lt
 refine wp_region_over (by kernel_rfl) (by kernel_rfl) ?_
 have hov_out := fun (E : Over w6) o => E.cell (b := w.heap.size) o hl_out
 have hov_no := fun (E : Over w6) o => E.cell (b := w1.heap.size) o hl_no
 have hov_bg := fun (E : Over w6) o => E.cell (b := w4.heap.size) o hl_bg
 have hov_bl := fun (E : Over w6) o => E.cell (b := bl) o hbl
 repeat (go_big_quiet_step (first | (go_at_call 59; exact calls_over (HWC.out aq ap cq cp _ (HRG.out.up (below_up HK.out (Over.h _))) (HS.out.up (below_up HB.out (Over.h _)))))))
 all_goals (try unfold elV limbV)
 repeat (go_big_quiet_step (first | (go_at_call 59; exact calls_over (HWC.out aq ap cq cp _ (HRG.out.up (below_up HK.out (Over.h _))) (HS.out.up (below_up HB.out (Over.h _)))))))
 all_goals (try unfold elV limbV)
 repeat (go_big_quiet_step (first | (go_at_call 59; exact calls_over (HWC.out aq ap cq cp _ (HRG.out.up (below_up HK.out (Over.h _))) (HS.out.up (below_up HB.out (Over.h _)))))))
 all_goals (try unfold ciphV)
 refine wpQuiet_nil ?_
 rintro _ ⟨E, rfl⟩
 clear hov_out hl_out hov_no hl_no hov_bg hl_bg hov_bl out_
 replace Hout := Lib.hid (Hout.out.up E.h)
 clear no_
 replace Hno := Lib.hid (Hno.out.up E.h)
 clear bg_
 replace Hbg := Lib.hid (Hbg.out.up E.h)
 replace HK := hbu HK E.h
 replace HB := hbu HB E.h
 replace HZS := sz HZS E.h.size
 obtain ⟨w7, hq9⟩ : ∃ W9 : World, E.w = W9 := ⟨_, rfl⟩
 rw [hq9] at Hout Hno Hbg HK HB HZS ⊢
 clear hq9 E
 have out_ := Hout.out.c2
 have no_ := Hno.out.c2
 have bg_ := Hbg.out.c3
 clear hc_0 hbl HK
 have f8_out := Hout.out.frozen
 have o8_out_ := out_; clear out_
 have o8_no_ := no_; clear no_
 have o8_bg_ := bg_; clear bg_
 obtain ⟨w8, hq8, hg9, hz9, hx9⟩ := put2 Hout 0 (.slice none 0 0) 1 (.slice none 0 0) [.slice none 0 0, .slice none 0 0] rfl
 replace Hno := Lib.hid (Hno.out.grown hg9.out (sne (by have g0 := HZS.out; omega)))
 replace Hbg := Lib.hid (Hbg.out.grown hg9.out (sne (by have g0 := HZS.out; omega)))
 replace HB := hbg HB hg9 (by have g0 := HZS.out; omega)
 replace HZS := sz HZS hz9.out
 replace Hout := hx9
 clear hx9 hg9 hz9
 have out_ := Hout.out.c2
 have no_ := Hno.out.c2
 have bg_ := Hbg.out.c3
 go_wp2_with fail
 clear hq8 o8_bg_ o8_no_ o8_out_ f8_out
 simp [bodyPost, results, Tryz.results18, go_sem, out_]
 exact eithR_none _ HB.out
theorem rPany_hold (k : Nat) (h1 : 1 ≤ k) (h3 : k ≤ 3) (label seed : ByteArray) (ss : List SetA) (n : Nat) (hn : ss.length = n) (al : Option Addr) (cl : Nat) (hz : setsE (grp k) ss = 0) (wh : Nat) (hwn : wh < n) (xs : List ByteArray) (ax : Option Addr) (cx : Nat) (hm : xs.length ≤ 8796093022207) (hz2 : scE (grp k) (pvL (ss.map SetA.l) wh).length xs = 0) (hhp : holdP (grp k) (pvL (ss.map SetA.l) wh) xs = false) (w : World) (hC : SetsAt w al ss) (hS : Sl w w.heap.size ax (xs.map Value.string)) :
  Calls Tryz.prog 18 #[.int .i64 (k : Int), .string label, .slice al n cl, .int .i64 (wh : Int), .slice ax xs.length cx, .string seed] w (EithR 8 [] [] w) := by
 have OK := Lib.hid (grp_ok k h1 h3)
 have HWS := Lib.hid (fun aq ap cq cp w hG hC => rWrongSets (aq := aq) (ap := ap) (cq := cq) (cp := cp) OK.out ss n hn al cl w hG hC)
 rw [hz] at HWS
 unfold Gives at HWS
 have hs0 : (((grp k).size : Int) == 0) = false := by have h9 := of_decide_eq_true (size_gt0 k h1 h3); simp; omega
 have hd1 : decide ((wh : Int) < 0) = false := decide_eq_false (by omega)
 have hd2 : decide ((wh : Int) ≥ (n : Int)) = false := decide_eq_false (by omega)
 have HZE := Lib.hid (setsE_ok hz)
 have h16 : n ≤ 16 := by have := HZE.out.2.1; omega
 have HSS := Lib.hid (fun s (hs : s ∈ ss) => wrongsE_all HZE.out.2.2 s hs)
 have hjs : wh < ss.length := by omega
 have HKW : pvL (ss.map SetA.l) wh = ss[wh].l := by unfold pvL; rw [List.getD_eq_getElem?_getD, List.getElem?_map, List.getElem?_eq_getElem hjs]; rfl
 have HWW := HSS.out _ (List.getElem_mem hjs)
 have HCW := Lib.hid (hC.one wh hjs)
 obtain ⟨bl, ol, rfl, hbl0, hc⟩ := hC.s.elem SetA.cells_len (by omega) wh hjs
 have hc_0 := hc 0 _ rfl
 rw [Nat.add_zero] at hc_0
 clear hc
 rw [Nat.mul_one] at hc_0
 rw [HKW] at hz2 hhp
 have HSHX := rsh_of OK.out HWW hz2
 have hxl := sc_len9 hz2
 obtain ⟨_, hall⟩ := allOk (openK_we h1 h3 HWW hz2)
 rw [Int.toNat_natCast] at hall
 have HP := (holdP_eq h1 h3 hall).trans hhp
 clear hall hhp
 have HC := Lib.hid hC
 have HS := Lib.hid hS
 have HN := Lib.hid hn
 generalize ss[wh] = tw at *
 obtain ⟨ln, hln⟩ : ∃ ln, tw.l.length = ln := ⟨_, rfl⟩
 rw [hln] at hxl hc_0 hz2
 have HLN := Lib.hid hln
 have HXL := Lib.hid hxl
 rw [hxl]
 have HWC := Lib.hid (fun aq ap cq cp W hG hS => rWrongSc_n (aq := aq) (ap := ap) (cq := cq) (cp := cp) OK.out ln xs hxl 0 hz2 ax cx hm W hG hS)
 have HHO := Lib.hid (fun aq ap cq cp W hG hC hX => rHold (aq := aq) (ap := ap) (cq := cq) (cp := cp) OK.out tw.l xs HSHX ln hln false HP tw.a ax tw.c cx W hG hC hX)
 unfold Gives at HWC HHO
 have HSX := Lib.hid HSHX
 have HCW0 := Lib.hid hc_0
 have HBL0 := Lib.hid hbl0
 clear hC hS hn hz hz2 hm hc_0 hbl0 HKW HWW hjs hln hxl HSHX HP
 go_enter Tryz.func18, Tryz.ntmps18
 obtain ⟨w1, hq1, hb9, hz9, Hout⟩ := new1 w 30 ([.slice none 0 0, .slice none 0 0])
 have HB := Lib.hid hb9
 have HZS := hz9
 clear hb9 hz9
 obtain ⟨w2, hq2, hb9, hz9, Hno⟩ := new1 w1 30 [.slice none 0 0, .slice none 0 0]
 replace Hout := Lib.hid (Hout.out.up hb9)
 replace HB := hbu HB hb9
 replace HZS := sz HZS hz9.out
 clear hb9 hz9
 have no_ := Hno.out.c2
 have f3_no := Hno.out.frozen
 have o3_no_ := no_; clear no_
 obtain ⟨w3, hq3, hg9, hz9, hx9⟩ := put2 Hno 0 (.slice none 0 0) 1 (.slice none 0 0) [.slice none 0 0, .slice none 0 0] rfl
 replace Hout := Lib.hid (Hout.out.grown hg9.out (sne (by have g0 := HZS.out; omega)))
 replace HB := hbg HB hg9 (by have g0 := HZS.out; omega)
 replace HZS := sz HZS hz9.out
 replace Hno := hx9
 clear hx9 hg9 hz9
 have no_ := Hno.out.c2
 go_wp2_with fail
 clear hq3 o3_no_ f3_no hq2 hq1
 have out_ := Hout.out.c2
 refine (refKind_some k h1 h3 w3).mono ?_
 rintro e w4 ⟨aq, cq, ap, cp, rfl, hq9, hp9, hb9⟩
 clear out_
 replace Hout := Lib.hid (Hout.out.up hb9)
 clear no_
 replace Hno := Lib.hid (Hno.out.up hb9)
 replace HB := hbu HB hb9
 replace HZS := sz HZS hb9.size
 have HRG := Lib.hid (RG.mk (G := grp k) hq9 hp9)
 clear hq9 hp9 hb9
 have out_ := Hout.out.c2
 have no_ := Hno.out.c2
 have HK := Lib.hid (Below.refl w4.heap.size w4)
 have o5_out_ := out_; clear out_
 have o5_no_ := no_; clear no_
 obtain ⟨w5, hq5, hb9, hz9, Hbg⟩ := new1 w4 86 [.int .i64 ((grp k).size : Int), .slice aq (dl (grp k).q.m) cq, .slice ap (dl (grp k).p.m) cp]
 replace Hout := Lib.hid (Hout.out.up hb9)
 replace Hno := Lib.hid (Hno.out.up hb9)
 replace HK := hbu HK hb9
 replace HB := hbu HB hb9
 replace HZS := sz HZS hz9.out
 clear hb9 hz9
 have out_ := Hout.out.c2
 have no_ := Hno.out.c2
 have bg_ := Hbg.out.c3
 go_wp2_with fail
 clear hq5 o5_no_ o5_out_
 refine (HWS.out aq ap cq cp w5 (HRG.out.up HK.out) (HC.out.up HB.out)).mono ?_
 rintro e w6 ⟨rfl, hb9⟩
 clear out_
 replace Hout := Lib.hid (Hout.out.up hb9)
 clear no_
 replace Hno := Lib.hid (Hno.out.up hb9)
 clear bg_
 replace Hbg := Lib.hid (Hbg.out.up hb9)
 replace HK := hbu HK hb9
 replace HB := hbu HB hb9
 replace HZS := sz HZS hb9.size
 clear hb9
 have out_ := Hout.out.c2
 have no_ := Hno.out.c2
 have bg_ := Hbg.out.c3
 go_wp2_with fail
 have hc_0 := (HB.out.cell (p := ⟨bl, ol + wh, none⟩) HBL0.out).trans HCW0.out
 have hbl := Nat.lt_of_lt_of_le HBL0.out HB.out.size
 have hl_out := Hout.out.lt
 have hl_no := Hno.out.lt
 have hl_bg := Hbg.out.lt
 refine wp_region_over (by kernel_rfl) (by kernel_rfl) ?_
 have hov_out := fun (E : Over w6) o => E.cell (b := w.heap.size) o hl_out
 have hov_no := fun (E : Over w6) o => E.cell (b := w1.heap.size) o hl_no
 have hov_bg := fun (E : Over w6) o => E.cell (b := w4.heap.size) o hl_bg
 have hov_bl := fun (E : Over w6) o => E.cell (b := bl) o hbl
 repeat (go_big_quiet_step (first | (go_at_call 59; exact calls_over (HWC.out aq ap cq cp _ (HRG.out.up (below_up HK.out (Over.h _))) (HS.out.up (below_up HB.out (Over.h _)))))))
 all_goals (try unfold elV limbV)
 repeat (go_big_quiet_step (first | (go_at_call 59; exact calls_over (HWC.out aq ap cq cp _ (HRG.out.up (below_up HK.out (Over.h _))) (HS.out.up (below_up HB.out (Over.h _)))))))
 all_goals (try unfold elV limbV)
 repeat (go_big_quiet_step (first | (go_at_call 59; exact calls_over (HWC.out aq ap cq cp _ (HRG.out.up (below_up HK.out (Over.h _))) (HS.out.up (below_up HB.out (Over.h _)))))))
 all_goals (try unfold ciphV)
 refine wpQuiet_nil ?_
 rintro _ ⟨E, rfl⟩
 clear hov_out hl_out hov_no hl_no hov_bg hl_bg hov_bl out_
 replace Hout := Lib.hid (Hout.out.up E.h)
 clear no_
 replace Hno := Lib.hid (Hno.out.up E.h)
 clear bg_
 replace Hbg := Lib.hid (Hbg.out.up E.h)
 replace HK := hbu HK E.h
 replace HB := hbu HB E.h
 replace HZS := sz HZS E.h.size
 obtain ⟨w7, hq9⟩ : ∃ W9 : World, E.w = W9 := ⟨_, rfl⟩
 rw [hq9] at Hout Hno Hbg HK HB HZS ⊢
 clear hq9 E
 have out_ := Hout.out.c2
 have no_ := Hno.out.c2
 have bg_ := Hbg.out.c3
 clear hc_0 hbl
 go_wp2_with fail
 have hc_0 := (HB.out.cell (p := ⟨bl, ol + wh, none⟩) HBL0.out).trans HCW0.out
 have hbl := Nat.lt_of_lt_of_le HBL0.out HB.out.size
 have hl_out := Hout.out.lt
 have hl_no := Hno.out.lt
 have hl_bg := Hbg.out.lt
 refine wp_region_over (by kernel_rfl) (by kernel_rfl) ?_
 have hov_out := fun (E : Over w7) o => E.cell (b := w.heap.size) o hl_out
 have hov_no := fun (E : Over w7) o => E.cell (b := w1.heap.size) o hl_no
 have hov_bg := fun (E : Over w7) o => E.cell (b := w4.heap.size) o hl_bg
 have hov_bl := fun (E : Over w7) o => E.cell (b := bl) o hbl
 repeat (go_big_quiet_step (first | (go_at_call 71; exact calls_over (HHO.out aq ap cq cp _ (HRG.out.up (below_up HK.out (Over.h _))) (HCW.out.up (below_up HB.out (Over.h _))) (HS.out.up (below_up HB.out (Over.h _)))))))
 all_goals (try unfold elV limbV)
 repeat (go_big_quiet_step (first | (go_at_call 71; exact calls_over (HHO.out aq ap cq cp _ (HRG.out.up (below_up HK.out (Over.h _))) (HCW.out.up (below_up HB.out (Over.h _))) (HS.out.up (below_up HB.out (Over.h _)))))))
 all_goals (try unfold elV limbV)
 repeat (go_big_quiet_step (first | (go_at_call 71; exact calls_over (HHO.out aq ap cq cp _ (HRG.out.up (below_up HK.out (Over.h _))) (HCW.out.up (below_up HB.out (Over.h _))) (HS.out.up (below_up HB.out (Over.h _)))))))
 all_goals (try unfold ciphV)
 refine wpQuiet_nil ?_
 rintro _ ⟨E, rfl⟩
 clear hov_out hl_out hov_no hl_no hov_bg hl_bg hov_bl out_
 replace Hout := Lib.hid (Hout.out.up E.h)
 clear no_
 replace Hno := Lib.hid (Hno.out.up E.h)
 clear bg_
 replace Hbg := Lib.hid (Hbg.out.up E.h)
 replace HK := hbu HK E.h
 replace HB := hbu HB E.h
 replace HZS := sz HZS E.h.size
 obtain ⟨w8, hq9⟩ : ∃ W9 : World, E.w = W9 := ⟨_, rfl⟩
 rw [hq9] at Hout Hno Hbg HK HB HZS ⊢
 clear hq9 E
 have out_ := Hout.out.c2
 have no_ := Hno.out.c2
 have bg_ := Hbg.out.c3
 clear hc_0 hbl HK
 have f9_out := Hout.out.frozen
 have o9_out_ := out_; clear out_
 have o9_no_ := no_; clear no_
 have o9_bg_ := bg_; clear bg_
 obtain ⟨w9, hq9, hg9, hz9, hx9⟩ := put2 Hout 0 (.slice none 0 0) 1 (.slice none 0 0) [.slice none 0 0, .slice none 0 0] rfl
 replace Hno := Lib.hid (Hno.out.grown hg9.out (sne (by have g0 := HZS.out; omega)))
 replace Hbg := Lib.hid (Hbg.out.grown hg9.out (sne (by have g0 := HZS.out; omega)))
 replace HB := hbg HB hg9 (by have g0 := HZS.out; omega)
 replace HZS := sz HZS hz9.out
 replace Hout := hx9
 clear hx9 hg9 hz9
 have out_ := Hout.out.c2
 have no_ := Hno.out.c2
 have bg_ := Hbg.out.c3
 go_wp2_with fail
 clear hq9 o9_bg_ o9_no_ o9_out_ f9_out
 simp [bodyPost, results, Tryz.results18, go_sem, out_]
 exact eithR_none _ HB.out
theorem nonce_small {G : GP} (ok : G.Ok) (s : ByteArray) (n : Nat) : ∀ x ∈ nonceL G s n, x.size ≤ 32 := fun x hx => by
 unfold nonceL at hx
 obtain ⟨j, _, rfl⟩ := List.mem_map.1 hx
 unfold nonceS
 rw [textS_size]
 exact ok.size_le
theorem rFirst_ok {k : Nat} (h1 : 1 ≤ k) (h3 : k ≤ 3) (ok : (grp k).Ok) {l : List ClaimA} (hw : wrongE (grp k) l = 0) {NL : List ByteArray} {m : Nat} (hm : l.length = m) (hs : scE (grp k) m NL = 0) (aq ap : Option Addr) (cq cp : Nat) (al ax : Option Addr) (cl cx : Nat) (W : World) (hG : RG W (grp k) aq ap) (hC : ClaimsAt W al l) (hX : Sl W W.heap.size ax (NL.map Value.string)) :
  Calls Tryz.prog 74 #[.agg #[.int .i64 ((grp k).size : Int), .slice aq (dl (grp k).q.m) cq, .slice ap (dl (grp k).p.m) cp], .slice al m cl, .slice ax m cx] W (RowsR (eachA (grp k) (valF (grp k) l NL) (lens l) m) W) := by
 subst hm
 have h := rFirstOf (aq := aq) (ap := ap) (cq := cq) (cp := cp) ok _ rfl l NL (rsh_of ok hw hs) l.length rfl al ax cl cx W hG hC hX
 rw [rfirst_eq h1 h3 hw hs] at h
 exact h
theorem rBack_ok {k : Nat} (h1 : 1 ≤ k) (h3 : k ≤ 3) (ok : (grp k).Ok) {l : List ClaimA} (hw : wrongE (grp k) l = 0) {NL : List ByteArray} {m y : Nat} (hm : l.length = m) (hs : scE (grp k) m NL = 0) (hy : y < (grp k).q.m) (aq ap : Option Addr) (cq cp : Nat) (al ax : Option Addr) (cl cx : Nat) (W : World) (hG : RG W (grp k) aq ap) (hC : ClaimsAt W al l) (hX : Sl W W.heap.size ax (NL.map Value.string)) :
  Calls Tryz.prog 62 #[.agg #[.int .i64 ((grp k).size : Int), .slice aq (dl (grp k).q.m) cq, .slice ap (dl (grp k).p.m) cp], .slice al m cl, .string (textS y (grp k).size), .slice ax m cx] W (RowsR (eachA (grp k) (valB (grp k) ((grp k).q.m - y) l NL) (lens l) m) W) := by
 subst hm
 have hy' : numOf (textS y (grp k).size) = y := by
  have h9 := numOf_mod ok y
  rwa [Nat.mod_eq_of_lt hy] at h9
 have h := rBackOf (aq := aq) (ap := ap) (cq := cq) (cp := cp) ok (textS y (grp k).size) _ rfl (by rw [textS_size]; exact ok.size_le) (by rw [hy']; exact Nat.le_of_lt hy) l NL (rsh_of ok hw hs) l.length rfl al ax cl cx W hG hC hX
 rw [rback_eq h1 h3 _ hw hs, hy'] at h
 exact h
theorem rSayF_ok {k : Nat} (ok : (grp k).Ok) {l : List ClaimA} (hw : wrongE (grp k) l = 0) {m : Nat} (hm : l.length = m) (v : Nat → Nat → Nat) (st : ByteArray) (hst : st.size = 32) (ro : List RowA) (hr : ro.map RowA.l = eachA (grp k) v (lens l) m) (al : Option Addr) (cl : Nat) (W : World) (hC : RowsAt W al ro) :
  Calls Tryz.prog 46 #[.agg #[.string st], .slice al (eachA (grp k) v (lens l) m).length cl] W fun e w' => e = .returned (.agg #[.string (sayFi st (eachA (grp k) v (lens l) m))]) ∧ Below W.heap.size W w' := by
 subst hm
 have hlr : ro.length = (eachA (grp k) v (lens l) l.length).length := by rw [← hr, List.length_map]
 obtain ⟨hsh, hel⟩ := wrong_ok hw
 have hsz := shape_ok hsh
 have h := rsayFi_any st ro ro.length rfl (by rw [hlr, eachA_len]; exact hsz.2.1) hst (eachA_small ok.size_le (lens_small fun c hc => (hsz.2.2 c hc).2.1) hr) al cl W hC
 rw [hlr, hr] at h
 exact h
theorem rPany_body (k : Nat) (h1 : 1 ≤ k) (h3 : k ≤ 3) (label seed : ByteArray) (hlb : label.size < 140737488355328) (hsd : seed.size < 140737488355328) (ss : List SetA) (n : Nat) (hn : ss.length = n) (al : Option Addr) (cl : Nat) (hz : setsE (grp k) ss = 0) (wh : Nat) (hwn : wh < n) (xs : List ByteArray) (ax : Option Addr) (cx : Nat) (hm : xs.length ≤ 8796093022207) (hz2 : scE (grp k) (pvL (ss.map SetA.l) wh).length xs = 0) (hhp : holdP (grp k) (pvL (ss.map SetA.l) wh) xs = true) (w : World) (hC : SetsAt w al ss) (hS : Sl w w.heap.size ax (xs.map Value.string)) :
  Calls Tryz.prog 18 #[.int .i64 (k : Int), .string label, .slice al n cl, .int .i64 (wh : Int), .slice ax xs.length cx, .string seed] w (EithR 0 (pvCs (grp k) (ss.map SetA.l) wh (pvT0 k label (ss.map SetA.l) seed) n) (pvAs (grp k) (ss.map SetA.l) wh (pvT0 k label (ss.map SetA.l) seed) n xs) w) := by
 have HTZ := Lib.hid (show (saySs (beginT eitherB label k) (ss.map SetA.l)).size = 32 from saySs_size _ _ (say1_size _ _ _))
 have HS0 := Lib.hid (show (pvT0 k label (ss.map SetA.l) seed).t.size = 32 ∧ (pvT0 k label (ss.map SetA.l) seed).f.size = 32 from ⟨HTZ.out, say1_size _ _ _⟩)
 have HT00 := Lib.hid (show (pvAt (grp k) (ss.map SetA.l) wh (pvT0 k label (ss.map SetA.l) seed) 0) = ⟨saySs (beginT eitherB label k) (ss.map SetA.l), say1 (saySs (beginT eitherB label k) (ss.map SetA.l)) seedB seed, 0⟩ from rfl)
 have HAZ := Lib.hid (fun j => pvAt_size (grp k) (ss.map SetA.l) wh HS0.out j)
 have HAS := Lib.hid (fun j => (show pvAt (grp k) (ss.map SetA.l) wh (pvT0 k label (ss.map SetA.l) seed) (j + 1) = pvStep (grp k) (ss.map SetA.l) wh (pvAt (grp k) (ss.map SetA.l) wh (pvT0 k label (ss.map SetA.l) seed) j) j from rfl))
 have HCS := Lib.hid (fun j => pvCj_succ (grp k) (ss.map SetA.l) wh (pvT0 k label (ss.map SetA.l) seed) j)
 have HASS := Lib.hid (fun j => pvAj_succ (grp k) (ss.map SetA.l) wh (pvT0 k label (ss.map SetA.l) seed) j)
 have HC00 := Lib.hid (show pvCj (grp k) (ss.map SetA.l) wh (pvT0 k label (ss.map SetA.l) seed) 0 = [] from rfl)
 have HA00 := Lib.hid (show pvAj (grp k) (ss.map SetA.l) wh (pvT0 k label (ss.map SetA.l) seed) 0 = [] from rfl)
 have HCL := Lib.hid (fun j => (show (pvCj (grp k) (ss.map SetA.l) wh (pvT0 k label (ss.map SetA.l) seed) j).length = j from by unfold pvCj; simp))
 have HAL := Lib.hid (fun j => (show (pvAj (grp k) (ss.map SetA.l) wh (pvT0 k label (ss.map SetA.l) seed) j).length = j from by unfold pvAj; simp))
 rw [← pvCs_eq, ← pvAs_eq]
 unfold pvC at HCS
 unfold pvZ at HASS
 unfold pvN pvW
 clear HS0
 generalize pvAt (grp k) (ss.map SetA.l) wh (pvT0 k label (ss.map SetA.l) seed) = PV at *
 generalize pvCj (grp k) (ss.map SetA.l) wh (pvT0 k label (ss.map SetA.l) seed) = CJ at *
 generalize pvAj (grp k) (ss.map SetA.l) wh (pvT0 k label (ss.map SetA.l) seed) = AJ at *
 have HF1 := Lib.hid (fun w => rbegin_any (k : Int) (by omega) eitherB label (by decide) hlb w)
 have HF2 := Lib.hid (fun w hC => rsaySets_any (beginT eitherB label k) (say1_size _ _ _) ss n hn (by have := (setsE_ok hz).2.1; omega) (fun t ht => by
  obtain ⟨hsh, hel⟩ := wrong_ok (wrongsE_all (setsE_ok hz).2.2 t ht)
  have hsz := shape_ok hsh
  refine ⟨hsz.2.1, fun c hc => ?_⟩
  have h8 := List.all_eq_true.1 hel c hc
  unfold cElems at h8
  rw [Bool.and_eq_true] at h8
  have hs := (grp_ok k h1 h3).size_le
  have hsm : ∀ s, isEl (grp k).q.m (grp k).size s = true → s.size ≤ 32 := fun s h => by
   unfold isEl at h
   simp only [Bool.and_eq_true, decide_eq_true_eq] at h
   omega
  have h9 := hsz.2.2 c hc
  exact ⟨h9.2.1, by omega, fun x hx => hsm x (List.all_eq_true.1 h8.1 x hx), fun x hx => hsm x (List.all_eq_true.1 h8.2 x hx)⟩) al cl w hC)
 have HF3 := Lib.hid (fun w => (show Calls Tryz.prog 73 #[.agg #[.string (saySs (beginT eitherB label k) (ss.map SetA.l))], .string seedB, .string seed] w fun e w' => e = .returned (.agg #[.string (say1 (saySs (beginT eitherB label k) (ss.map SetA.l)) seedB seed)]) ∧ Below w.heap.size w w' from rSay_any _ seedB seed (by rw [HTZ.out]; decide) (by decide) hsd w))
 generalize say1 (saySs (beginT eitherB label k) (ss.map SetA.l)) seedB seed = F0 at *
 generalize saySs (beginT eitherB label k) (ss.map SetA.l) = T0 at *
 generalize beginT eitherB label k = BT at *
 clear hlb hsd
 have OK := Lib.hid (grp_ok k h1 h3)
 have HWS := Lib.hid (fun aq ap cq cp w hG hC => rWrongSets (aq := aq) (ap := ap) (cq := cq) (cp := cp) OK.out ss n hn al cl w hG hC)
 rw [hz] at HWS
 unfold Gives at HWS
 have hs0 : (((grp k).size : Int) == 0) = false := by have h9 := of_decide_eq_true (size_gt0 k h1 h3); simp; omega
 have hd1 : decide ((wh : Int) < 0) = false := decide_eq_false (by omega)
 have hd2 : decide ((wh : Int) ≥ (n : Int)) = false := decide_eq_false (by omega)
 have HZE := Lib.hid (setsE_ok hz)
 have h16 : n ≤ 16 := by have := HZE.out.2.1; omega
 have HSS := Lib.hid (fun s (hs : s ∈ ss) => wrongsE_all HZE.out.2.2 s hs)
 have hjs : wh < ss.length := by omega
 have HKW : pvL (ss.map SetA.l) wh = ss[wh].l := by unfold pvL; rw [List.getD_eq_getElem?_getD, List.getElem?_map, List.getElem?_eq_getElem hjs]; rfl
 have HWW := HSS.out _ (List.getElem_mem hjs)
 have HCW := Lib.hid (hC.one wh hjs)
 obtain ⟨bl, ol, rfl, hbl0, hc⟩ := hC.s.elem SetA.cells_len (by omega) wh hjs
 have hc_0 := hc 0 _ rfl
 rw [Nat.add_zero] at hc_0
 clear hc
 rw [Nat.mul_one] at hc_0
 rw [HKW] at hz2 hhp
 have HSHX := rsh_of OK.out HWW hz2
 have hxl := sc_len9 hz2
 obtain ⟨_, hall⟩ := allOk (openK_we h1 h3 HWW hz2)
 rw [Int.toNat_natCast] at hall
 have HP := (holdP_eq h1 h3 hall).trans hhp
 clear hall hhp
 have HC := Lib.hid hC
 have HS := Lib.hid hS
 have HN := Lib.hid hn
 have HSX9 := Lib.hid (show ∀ x ∈ xs, x.size ≤ 32 from HSHX.xs)
 generalize ss[wh] = tw at *
 have HLW := Lib.hid HKW
 have HRAN := Lib.hid (fun (M N a9 : Nat) (hM : M = N % (grp k).q.m) => hM)
 obtain ⟨ln, hln⟩ : ∃ ln, tw.l.length = ln := ⟨_, rfl⟩
 rw [hln] at hxl hc_0 hz2
 have HLN := Lib.hid hln
 have HXL := Lib.hid hxl
 rw [hxl]
 have HWC := Lib.hid (fun aq ap cq cp W hG hS => rWrongSc_n (aq := aq) (ap := ap) (cq := cq) (cp := cp) OK.out ln xs hxl 0 hz2 ax cx hm W hG hS)
 have HHO := Lib.hid (fun aq ap cq cp W hG hC hX => rHold (aq := aq) (ap := ap) (cq := cq) (cp := cp) OK.out tw.l xs HSHX ln hln true HP tw.a ax tw.c cx W hG hC hX)
 unfold Gives at HWC HHO
 have HSX := Lib.hid HSHX
 have HCW0 := Lib.hid hc_0
 have HBL0 := Lib.hid hbl0
 clear hC hS hn hz hz2 hm hc_0 hbl0 HKW HWW hjs hln hxl HSHX HP
 go_enter Tryz.func18, Tryz.ntmps18
 obtain ⟨w1, hq1, hb9, hz9, Hout⟩ := new1 w 30 ([.slice none 0 0, .slice none 0 0])
 have HB := Lib.hid hb9
 have HZS := hz9
 clear hb9 hz9
 obtain ⟨w2, hq2, hb9, hz9, Hno⟩ := new1 w1 30 [.slice none 0 0, .slice none 0 0]
 replace Hout := Lib.hid (Hout.out.up hb9)
 replace HB := hbu HB hb9
 replace HZS := sz HZS hz9.out
 clear hb9 hz9
 have no_ := Hno.out.c2
 have f3_no := Hno.out.frozen
 have o3_no_ := no_; clear no_
 obtain ⟨w3, hq3, hg9, hz9, hx9⟩ := put2 Hno 0 (.slice none 0 0) 1 (.slice none 0 0) [.slice none 0 0, .slice none 0 0] rfl
 replace Hout := Lib.hid (Hout.out.grown hg9.out (sne (by have g0 := HZS.out; omega)))
 replace HB := hbg HB hg9 (by have g0 := HZS.out; omega)
 replace HZS := sz HZS hz9.out
 replace Hno := hx9
 clear hx9 hg9 hz9
 have no_ := Hno.out.c2
 go_wp2_with fail
 clear hq3 o3_no_ f3_no hq2 hq1
 have out_ := Hout.out.c2
 refine (refKind_some k h1 h3 w3).mono ?_
 rintro e w4 ⟨aq, cq, ap, cp, rfl, hq9, hp9, hb9⟩
 clear out_
 replace Hout := Lib.hid (Hout.out.up hb9)
 clear no_
 replace Hno := Lib.hid (Hno.out.up hb9)
 replace HB := hbu HB hb9
 replace HZS := sz HZS hb9.size
 have HRG := Lib.hid (RG.mk (G := grp k) hq9 hp9)
 clear hq9 hp9 hb9
 have out_ := Hout.out.c2
 have no_ := Hno.out.c2
 have HK := Lib.hid (Below.refl w4.heap.size w4)
 have o5_out_ := out_; clear out_
 have o5_no_ := no_; clear no_
 obtain ⟨w5, hq5, hb9, hz9, Hbg⟩ := new1 w4 86 [.int .i64 ((grp k).size : Int), .slice aq (dl (grp k).q.m) cq, .slice ap (dl (grp k).p.m) cp]
 replace Hout := Lib.hid (Hout.out.up hb9)
 replace Hno := Lib.hid (Hno.out.up hb9)
 replace HK := hbu HK hb9
 replace HB := hbu HB hb9
 replace HZS := sz HZS hz9.out
 clear hb9 hz9
 have out_ := Hout.out.c2
 have no_ := Hno.out.c2
 have bg_ := Hbg.out.c3
 go_wp2_with fail
 clear hq5 o5_no_ o5_out_
 refine (HWS.out aq ap cq cp w5 (HRG.out.up HK.out) (HC.out.up HB.out)).mono ?_
 rintro e w6 ⟨rfl, hb9⟩
 clear out_
 replace Hout := Lib.hid (Hout.out.up hb9)
 clear no_
 replace Hno := Lib.hid (Hno.out.up hb9)
 clear bg_
 replace Hbg := Lib.hid (Hbg.out.up hb9)
 replace HK := hbu HK hb9
 replace HB := hbu HB hb9
 replace HZS := sz HZS hb9.size
 clear hb9
 have out_ := Hout.out.c2
 have no_ := Hno.out.c2
 have bg_ := Hbg.out.c3
 go_wp2_with fail
 have hc_0 := (HB.out.cell (p := ⟨bl, ol + wh, none⟩) HBL0.out).trans HCW0.out
 have hbl := Nat.lt_of_lt_of_le HBL0.out HB.out.size
 have hl_out := Hout.out.lt
 have hl_no := Hno.out.lt
 have hl_bg := Hbg.out.lt
 refine wp_region_over (by kernel_rfl) (by kernel_rfl) ?_
 have hov_out := fun (E : Over w6) o => E.cell (b := w.heap.size) o hl_out
 have hov_no := fun (E : Over w6) o => E.cell (b := w1.heap.size) o hl_no
 have hov_bg := fun (E : Over w6) o => E.cell (b := w4.heap.size) o hl_bg
 have hov_bl := fun (E : Over w6) o => E.cell (b := bl) o hbl
 repeat (go_big_quiet_step (first | (go_at_call 59; exact calls_over (HWC.out aq ap cq cp _ (HRG.out.up (below_up HK.out (Over.h _))) (HS.out.up (below_up HB.out (Over.h _)))))))
 all_goals (try unfold elV limbV)
 repeat (go_big_quiet_step (first | (go_at_call 59; exact calls_over (HWC.out aq ap cq cp _ (HRG.out.up (below_up HK.out (Over.h _))) (HS.out.up (below_up HB.out (Over.h _)))))))
 all_goals (try unfold elV limbV)
 repeat (go_big_quiet_step (first | (go_at_call 59; exact calls_over (HWC.out aq ap cq cp _ (HRG.out.up (below_up HK.out (Over.h _))) (HS.out.up (below_up HB.out (Over.h _)))))))
 all_goals (try unfold ciphV)
 refine wpQuiet_nil ?_
 rintro _ ⟨E, rfl⟩
 clear hov_out hl_out hov_no hl_no hov_bg hl_bg hov_bl out_
 replace Hout := Lib.hid (Hout.out.up E.h)
 clear no_
 replace Hno := Lib.hid (Hno.out.up E.h)
 clear bg_
 replace Hbg := Lib.hid (Hbg.out.up E.h)
 replace HK := hbu HK E.h
 replace HB := hbu HB E.h
 replace HZS := sz HZS E.h.size
 obtain ⟨w7, hq9⟩ : ∃ W9 : World, E.w = W9 := ⟨_, rfl⟩
 rw [hq9] at Hout Hno Hbg HK HB HZS ⊢
 clear hq9 E
 have out_ := Hout.out.c2
 have no_ := Hno.out.c2
 have bg_ := Hbg.out.c3
 clear hc_0 hbl
 go_wp2_with fail
 have hc_0 := (HB.out.cell (p := ⟨bl, ol + wh, none⟩) HBL0.out).trans HCW0.out
 have hbl := Nat.lt_of_lt_of_le HBL0.out HB.out.size
 have hl_out := Hout.out.lt
 have hl_no := Hno.out.lt
 have hl_bg := Hbg.out.lt
 refine wp_region_over (by kernel_rfl) (by kernel_rfl) ?_
 have hov_out := fun (E : Over w7) o => E.cell (b := w.heap.size) o hl_out
 have hov_no := fun (E : Over w7) o => E.cell (b := w1.heap.size) o hl_no
 have hov_bg := fun (E : Over w7) o => E.cell (b := w4.heap.size) o hl_bg
 have hov_bl := fun (E : Over w7) o => E.cell (b := bl) o hbl
 repeat (go_big_quiet_step (first | (go_at_call 71; exact calls_over (HHO.out aq ap cq cp _ (HRG.out.up (below_up HK.out (Over.h _))) (HCW.out.up (below_up HB.out (Over.h _))) (HS.out.up (below_up HB.out (Over.h _)))))))
 all_goals (try unfold elV limbV)
 repeat (go_big_quiet_step (first | (go_at_call 71; exact calls_over (HHO.out aq ap cq cp _ (HRG.out.up (below_up HK.out (Over.h _))) (HCW.out.up (below_up HB.out (Over.h _))) (HS.out.up (below_up HB.out (Over.h _)))))))
 all_goals (try unfold elV limbV)
 repeat (go_big_quiet_step (first | (go_at_call 71; exact calls_over (HHO.out aq ap cq cp _ (HRG.out.up (below_up HK.out (Over.h _))) (HCW.out.up (below_up HB.out (Over.h _))) (HS.out.up (below_up HB.out (Over.h _)))))))
 all_goals (try unfold ciphV)
 refine wpQuiet_nil ?_
 rintro _ ⟨E, rfl⟩
 clear hov_out hl_out hov_no hl_no hov_bg hl_bg hov_bl out_
 replace Hout := Lib.hid (Hout.out.up E.h)
 clear no_
 replace Hno := Lib.hid (Hno.out.up E.h)
 clear bg_
 replace Hbg := Lib.hid (Hbg.out.up E.h)
 replace HK := hbu HK E.h
 replace HB := hbu HB E.h
 replace HZS := sz HZS E.h.size
 obtain ⟨w8, hq9⟩ : ∃ W9 : World, E.w = W9 := ⟨_, rfl⟩
 rw [hq9] at Hout Hno Hbg HK HB HZS ⊢
 clear hq9 E
 have out_ := Hout.out.c2
 have no_ := Hno.out.c2
 have bg_ := Hbg.out.c3
 clear hc_0 hbl
 go_wp2_with fail
 have HRG6 := Lib.hid (HRG.out.up HK.out)
 clear HK HRG
 have BQ := Lib.hid (Below.refl w8.heap.size w8)
 have HB6 := HB
 have Hbg6 := Hbg
 have Hout6 := Hout
 have HGBL := Lib.hid Hbg.out.lt
 have HW6 := Lib.hid HB.out.size
 refine (HF1.out w8).mono ?_
 rintro e w9 ⟨rfl, hb9⟩
 clear out_
 replace Hout := Lib.hid (Hout.out.up hb9)
 clear no_
 replace Hno := Lib.hid (Hno.out.up hb9)
 clear bg_
 replace Hbg := Lib.hid (Hbg.out.up hb9)
 replace BQ := hbu BQ hb9
 replace HB := hbu HB hb9
 replace HZS := sz HZS hb9.size
 clear hb9
 have out_ := Hout.out.c2
 have no_ := Hno.out.c2
 have bg_ := Hbg.out.c3
 go_wp2_with fail
 refine (HF2.out w9 (HC.out.up HB.out)).mono ?_
 rintro e w10 ⟨rfl, hb9⟩
 clear out_
 replace Hout := Lib.hid (Hout.out.up hb9)
 clear no_
 replace Hno := Lib.hid (Hno.out.up hb9)
 clear bg_
 replace Hbg := Lib.hid (Hbg.out.up hb9)
 replace BQ := hbu BQ hb9
 replace HB := hbu HB hb9
 replace HZS := sz HZS hb9.size
 clear hb9
 have out_ := Hout.out.c2
 have no_ := Hno.out.c2
 have bg_ := Hbg.out.c3
 have o11_out_ := out_; clear out_
 have o11_no_ := no_; clear no_
 have o11_bg_ := bg_; clear bg_
 obtain ⟨w11, hq11, hb9, hz9, Ht⟩ := new1 w10 89 [.string T0]
 replace Hout := Lib.hid (Hout.out.up hb9)
 replace Hno := Lib.hid (Hno.out.up hb9)
 replace Hbg := Lib.hid (Hbg.out.up hb9)
 replace BQ := hbu BQ hb9
 replace HB := hbu HB hb9
 replace HZS := sz HZS hz9.out
 clear hb9 hz9
 have out_ := Hout.out.c2
 have no_ := Hno.out.c2
 have bg_ := Hbg.out.c3
 have t_ := Ht.out.c1
 go_wp2_with fail
 clear hq11 o11_bg_ o11_no_ o11_out_
 refine (HF3.out w11).mono ?_
 rintro e w12 ⟨rfl, hb9⟩
 clear out_
 replace Hout := Lib.hid (Hout.out.up hb9)
 clear no_
 replace Hno := Lib.hid (Hno.out.up hb9)
 clear bg_
 replace Hbg := Lib.hid (Hbg.out.up hb9)
 clear t_
 replace Ht := Lib.hid (Ht.out.up hb9)
 replace BQ := hbu BQ hb9
 replace HB := hbu HB hb9
 replace HZS := sz HZS hb9.size
 clear hb9
 have out_ := Hout.out.c2
 have no_ := Hno.out.c2
 have bg_ := Hbg.out.c3
 have t_ := Ht.out.c1
 have o13_out_ := out_; clear out_
 have o13_no_ := no_; clear no_
 have o13_bg_ := bg_; clear bg_
 have o13_t_ := t_; clear t_
 obtain ⟨w13, hq13, hb9, hz9, Hf⟩ := new1 w12 89 [.string F0]
 replace Hout := Lib.hid (Hout.out.up hb9)
 replace Hno := Lib.hid (Hno.out.up hb9)
 replace Hbg := Lib.hid (Hbg.out.up hb9)
 replace Ht := Lib.hid (Ht.out.up hb9)
 replace BQ := hbu BQ hb9
 replace HB := hbu HB hb9
 replace HZS := sz HZS hz9.out
 clear hb9 hz9
 have out_ := Hout.out.c2
 have no_ := Hno.out.c2
 have bg_ := Hbg.out.c3
 have t_ := Ht.out.c1
 have f_ := Hf.out.c1
 have o14_out_ := out_; clear out_
 have o14_no_ := no_; clear no_
 have o14_bg_ := bg_; clear bg_
 have o14_t_ := t_; clear t_
 have o14_f_ := f_; clear f_
 obtain ⟨w14, hq14, hb9, hz9, Hob⟩ := new1 w13 30 ([.slice none 0 0, .slice none 0 0])
 replace Hout := Lib.hid (Hout.out.up hb9)
 replace Hno := Lib.hid (Hno.out.up hb9)
 replace Hbg := Lib.hid (Hbg.out.up hb9)
 replace Ht := Lib.hid (Ht.out.up hb9)
 replace Hf := Lib.hid (Hf.out.up hb9)
 replace BQ := hbu BQ hb9
 replace HB := hbu HB hb9
 replace HZS := sz HZS hz9.out
 clear hb9 hz9
 have out_ := Hout.out.c2
 have no_ := Hno.out.c2
 have bg_ := Hbg.out.c3
 have t_ := Ht.out.c1
 have f_ := Hf.out.c1
 go_wp2_with fail
 clear hq14 o14_f_ o14_t_ o14_bg_ o14_no_ o14_out_ hq13 o13_t_ o13_bg_ o13_no_ o13_out_
 refine (refOf_any 0 (by decide) w14).mono ?_
 rintro e w15 ⟨a0, c0, rfl, hn9, hb9⟩
 clear out_
 replace Hout := Lib.hid (Hout.out.up hb9)
 clear no_
 replace Hno := Lib.hid (Hno.out.up hb9)
 clear bg_
 replace Hbg := Lib.hid (Hbg.out.up hb9)
 clear t_
 replace Ht := Lib.hid (Ht.out.up hb9)
 clear f_
 replace Hf := Lib.hid (Hf.out.up hb9)
 replace Hob := Lib.hid (Hob.out.up hb9)
 replace BQ := hbu BQ hb9
 replace HB := hbu HB hb9
 replace HZS := sz HZS hb9.size
 have HN0 := Lib.hid hn9
 clear hn9 hb9
 have out_ := Hout.out.c2
 have no_ := Hno.out.c2
 have bg_ := Hbg.out.c3
 have t_ := Ht.out.c1
 have f_ := Hf.out.c1
 have HALL := Lib.hid (show w.heap.size < w4.heap.size ∧ w4.heap.size < w8.heap.size ∧ w8.heap.size ≤ w10.heap.size ∧ w10.heap.size < w12.heap.size ∧ w12.heap.size < w13.heap.size ∧ w13.heap.size < w15.heap.size by have g0 := HZS.out; have g1 := HGBL.out; have g2 := Hob.out.lt; omega)
 clear HGBL
 have HVR0 := Lib.hid (show Value.slice a0 (dl 0) c0 = .slice a0 (dl (0 % (grp k).q.m)) c0 by rw [Nat.zero_mod])
 have HEI0 := Lib.hid (show EiO w15.heap.size w15 (.slice none 0 0) (.slice none 0 0) a0 (0 % (grp k).q.m) ([] ++ []) from by
  rw [Nat.zero_mod]
  exact ⟨(fun _ h => by cases h), (fun _ h => by cases h), ⟨HN0.out, Or.inl rfl⟩, ⟨HN0.out, Or.inl rfl⟩⟩)
 clear HN0
 go_wp2_with fail
 go_loopw [88, 21, 22] (fun i vn vr wr => ∃ (j : Nat) (s : PvS) (a9 : Option Addr) (c9 : Nat) (g1 g2 : Option Addr) (d1 d2 : Nat) (ro nr : List RowA), j ≤ n ∧ i = .int .i64 (j : Int) ∧ vr = .slice a9 (dl (s.o % (grp k).q.m)) c9 ∧ Hid (PV j = s) ∧ Hid (NonR (wh < j) ln (nonceL (grp k) (PV wh).f ln) vn nr) ∧ Hid (EiO w15.heap.size wr (.slice g1 j d1) (.slice g2 j d2) a9 (s.o % (grp k).q.m) (ro ++ nr)) ∧ Hid (Bx wr w10.heap.size 89 [.string s.t]) ∧ Hid (Bx wr w12.heap.size 89 [.string s.f]) ∧ Hid (Bx wr w13.heap.size 30 [.slice g1 j d1, .slice g2 j d2]) ∧ Hid (RowO w15.heap.size wr 9 1 (.slice g1 j d1) j ((CJ j).map Value.string)) ∧ Hid (RowO w15.heap.size wr 23 1 (.slice g2 j d2) j (ro.flatMap RowA.cells)) ∧ Hid (ro.map RowA.l = AJ j) ∧ Hid (w15.heap.size ≤ wr.heap.size) ∧ Hid (Below w8.heap.size w8 wr)) (fun i _ _ _ => n - (intOf i).toNat)
 case atStart => exact ⟨0, _, a0, c0, none, none, 0, 0, [], [], Nat.zero_le _, rfl, HVR0.out, HT00, (fun h => absurd h (Nat.not_lt_zero _)), HEI0, Ht, Hf, Hob, (by rw [HC00.out]; exact RowO.nil), RowO.nil, HA00.out.symm, Nat.le_refl _, BQ⟩
 case round =>
  clear Ht Hf Hob HB BQ HEI0 HVR0 Hbg Hout Hno bg_ out_ no_ t_ f_
  obtain ⟨j, ⟨st, sf, so⟩, a9, c9, g1, g2, d1, d2, ro, nr, hj, rfl, rfl, HPJ, HNN, HEI, Ht, Hf, Hob, Hrc0, Hra0, HRM, HWZ, BQ⟩ := hrel
  have HB := Lib.hid (below_up HB6.out BQ.out)
  have Hbg := Lib.hid (Bx.up Hbg6.out BQ.out)
  by_cases hjn : j < n
  ·have hjs : j < ss.length := by rw [HN.out]; exact hjn
   obtain ⟨bl2, ol2, hae, hbl2, hc⟩ := (HC.out.s.up HB.out).elem SetA.cells_len (by omega) j hjs
   cases hae
   have hc_0 := hc 0 _ rfl
   rw [Nat.add_zero] at hc_0
   clear hc
   rw [Nat.mul_one] at hc_0
   have HAT := Lib.hid (HC.out.one j hjs)
   have HWJ := Lib.hid (HSS.out _ (List.getElem_mem hjs))
   have HKJ := Lib.hid (show pvL (ss.map SetA.l) j = ss[j].l by unfold pvL; rw [List.getD_eq_getElem?_getD, List.getElem?_map, List.getElem?_eq_getElem hjs]; rfl)
   have HPZ := Lib.hid (show st.size = 32 ∧ sf.size = 32 by have h9 := HAZ.out j; rw [HPJ.out] at h9; exact h9)
   have HST1 := Lib.hid (fun (e : j = wh) => show PV (j + 1) = ⟨sayFi st (eachA (grp k) (valF (grp k) ss[j].l (nonceL (grp k) sf ss[j].l.length)) (lens ss[j].l) ss[j].l.length), askT sf ss[j].l.length, so⟩ by rw [HAS.out, HPJ.out]; unfold pvStep; rw [if_pos e, HKJ.out])
   have HST2 := Lib.hid (fun (e : ¬ j = wh) => show PV (j + 1) = ⟨sayFi st (eachA (grp k) (valB (grp k) ((grp k).q.m - chN sf otherB % (grp k).q.m) ss[j].l (nonceL (grp k) (chT sf otherB) ss[j].l.length)) (lens ss[j].l) ss[j].l.length), askT (chT sf otherB) ss[j].l.length, so + chN sf otherB % (grp k).q.m⟩ by rw [HAS.out, HPJ.out]; unfold pvStep; rw [if_neg e, HKJ.out])
   have HCSJ := Lib.hid (show CJ (j + 1) = CJ j ++ [if j = wh then ⟨#[]⟩ else textS (chN sf otherB % (grp k).q.m) (grp k).size] by rw [HCS.out, HPJ.out])
   have HASJ := Lib.hid (show AJ (j + 1) = AJ j ++ [if j = wh then [] else nonceL (grp k) (chT sf otherB) ss[j].l.length] by rw [HASS.out, HPJ.out, HKJ.out])
   have HLJW := Lib.hid (fun (e : j = wh) => show ss[j].l.length = ln by rw [← HKJ.out, e, HLW.out, HLN.out])
   have HL64 := Lib.hid (show ss[j].l.length ≤ 64 from (shape_ok (wrong_ok HWJ.out).1).2.1)
   clear HKJ
   generalize ss[j] = s9 at *
   generalize s9.a = sa at *
   generalize s9.c = sc at *
   generalize s9.l = l at *
   obtain ⟨m, hm9⟩ : ∃ m, l.length = m := ⟨_, rfl⟩
   rw [hm9] at hc_0 HST1 HST2 HASJ HLJW HL64
   have HM := Lib.hid hm9
   clear hm9 hjs
   by_cases hjw : j = wh
   ·replace HST1 := Lib.hid (HST1.out hjw)
    obtain rfl : ln = m := (HLJW.out hjw).symm
    subst hjw
    clear HST2 HLJW
    rw [if_pos rfl] at HCSJ HASJ
    have HPF := Lib.hid (show (PV j).f = sf by rw [HPJ.out])
    have HSC9 := Lib.hid (nonce_scE OK.out sf ln)
    have HNL := Lib.hid (nonceL_len (grp k) sf ln)
    have HNA := Lib.hid (fun W hG => rNonces_own (G := grp k) (aq := aq) (ap := ap) (cq := cq) (cp := cp) OK.out ln HL64.out sf HPZ.out.2 W hG)
    obtain ⟨NL, hNL⟩ : ∃ NL, nonceL (grp k) sf ln = NL := ⟨_, rfl⟩
    rw [hNL] at HST1 HSC9 HNL HNA
    have HNLE := Lib.hid hNL
    clear hNL
    generalize askT sf ln = s5 at *
    have HFO := Lib.hid (fun a6 c6 W hG hC hX => rFirst_ok h1 h3 OK.out HWJ.out HM.out HSC9.out aq ap cq cp sa a6 sc c6 W hG hC hX)
    have HSF := Lib.hid (fun rq hr a8 c8 W hC => rSayF_ok OK.out HWJ.out HM.out (valF (grp k) l NL) st HPZ.out.1 rq hr a8 c8 W hC)
    generalize eachA (grp k) (valF (grp k) l NL) (lens l) ln = LJ at *
    unfold RowsR at HFO
    replace HZS := sz HZS HALL.out
    replace HZS := sz HZS HWZ.out
    have bg_ := Hbg.out.c3
    have t_ := Ht.out.c1
    have f_ := Hf.out.c1
    have ob_ := Hob.out.c2
    have HKS := Lib.hid (Kept.refl (fun q9 => q9 < w15.heap.size) wr)
    go_wp2_with fail
    clear hc_0 hbl2
    refine (HNA.out wr (HRG6.out.up BQ.out)).mono ?_
    rintro e w16 ⟨a6, c6, rfl, hr6, hb9⟩
    clear bg_
    replace Hbg := Lib.hid (Hbg.out.up hb9)
    clear t_
    replace Ht := Lib.hid (Ht.out.up hb9)
    clear f_
    replace Hf := Lib.hid (Hf.out.up hb9)
    clear ob_
    replace Hob := Lib.hid (Hob.out.up hb9)
    replace BQ := hbu BQ hb9
    replace HKS := Lib.hid (Kept.up HKS.out hb9)
    replace HB := hbu HB hb9
    replace HZS := sz HZS hb9.size
    have HR6 := Lib.hid hr6
    clear hr6 hb9
    have bg_ := Hbg.out.c3
    have t_ := Ht.out.c1
    have f_ := Hf.out.c1
    have ob_ := Hob.out.c2
    have HWR := Lib.hid HKS.out.size
    have HKR := Lib.hid (Kept.refl (fun q9 => q9 < w15.heap.size) w16)
    have o17_bg_ := bg_; clear bg_
    have o17_t_ := t_; clear t_
    have o17_f_ := f_; clear f_
    have o17_ob_ := ob_; clear ob_
    obtain ⟨w17, hq17, hb9, hz9, Hbu⟩ := new1 w16 89 [.string s5]
    replace Hbg := Lib.hid (Hbg.out.up hb9)
    replace Ht := Lib.hid (Ht.out.up hb9)
    replace Hf := Lib.hid (Hf.out.up hb9)
    replace Hob := Lib.hid (Hob.out.up hb9)
    replace BQ := hbu BQ hb9
    replace HKS := Lib.hid (Kept.up HKS.out hb9)
    replace HKR := Lib.hid (Kept.up HKR.out hb9)
    replace HB := hbu HB hb9
    replace HZS := sz HZS hz9.out
    clear hb9 hz9
    have bg_ := Hbg.out.c3
    have t_ := Ht.out.c1
    have f_ := Hf.out.c1
    have ob_ := Hob.out.c2
    have bu_ := Hbu.out.c1
    have f18_f := Hf.out.frozen
    have o18_bg_ := bg_; clear bg_
    have o18_t_ := t_; clear t_
    have o18_f_ := f_; clear f_
    have o18_ob_ := ob_; clear ob_
    have o18_bu_ := bu_; clear bu_
    obtain ⟨w18, hq18, hg9, hz9, hx9⟩ := put1 Hf 0 (.string s5) [.string s5] rfl
    replace Hbg := Lib.hid (Hbg.out.grown hg9.out (sne (by have g0 := HZS.out; omega)))
    replace Ht := Lib.hid (Ht.out.grown hg9.out (sne (by have g0 := HZS.out; omega)))
    replace Hob := Lib.hid (Hob.out.grown hg9.out (sne (by have g0 := HZS.out; omega)))
    replace Hbu := Lib.hid (Hbu.out.grown hg9.out (sne (by have g0 := HZS.out; omega)))
    replace BQ := hbg BQ hg9 (by have g0 := HZS.out; omega)
    replace HKS := Lib.hid (Kept.grown HKS.out hg9.out (fun q9 e9 => by obtain rfl := Option.some.inj e9; exact (by first | exact Or.inr (show w12.heap.size < w15.heap.size by have g0 := HZS.out; omega) | exact Or.inl (show wr.heap.size ≤ w12.heap.size by have g0 := HZS.out; omega))))
    replace HKR := Lib.hid (Kept.grown HKR.out hg9.out (fun q9 e9 => by obtain rfl := Option.some.inj e9; exact (by first | exact Or.inr (show w12.heap.size < w15.heap.size by have g0 := HZS.out; omega) | exact Or.inl (show w16.heap.size ≤ w12.heap.size by have g0 := HZS.out; omega))))
    replace HB := hbg HB hg9 (by have g0 := HZS.out; omega)
    replace HZS := sz HZS hz9.out
    replace Hf := hx9
    clear hx9 hg9 hz9
    have bg_ := Hbg.out.c3
    have t_ := Ht.out.c1
    have f_ := Hf.out.c1
    have ob_ := Hob.out.c2
    have bu_ := Hbu.out.c1
    go_wp2_with fail
    clear hq18 o18_bu_ o18_ob_ o18_f_ o18_t_ o18_bg_ f18_f hq17 o17_ob_ o17_f_ o17_t_ o17_bg_ bu_ Hbu
    have HNS := Lib.hid (Sl.kept (RowO.sl HR6.out) HKR.out (fun x hx e => by have h1 := RowO.own_le HR6.out hx; have e : x.block < _ := e; have g0 := HZS.out; omega))
    have HT := Lib.hid (show Below w18.heap.size w18 w18.drew from (Below.refl _ _).drew)
    have hl_bg := Hbg.out.lt
    have hl_t := Ht.out.lt
    have hl_f := Hf.out.lt
    have hl_ob := Hob.out.lt
    refine wp_region_treek (fun wq9 => ∃ E : Over w18, wq9 = E.w) 6 ((.e 0 [] (.e 1 [] (.qs [2, 3] (.a 4 (.a 5 (.a 6 .done))))))) (by kernel_rfl) (by kernel_rfl) (fun _ _ d _ _ h => by cases d <;> exact h) ⟨⟨_, HT.out⟩, rfl⟩ ?_
    have hov_bg := fun (E : Over w18) o => E.cell (b := w4.heap.size) o hl_bg
    have hov_t := fun (E : Over w18) o => E.cell (b := w10.heap.size) o hl_t
    have hov_f := fun (E : Over w18) o => E.cell (b := w12.heap.size) o hl_f
    have hov_ob := fun (E : Over w18) o => E.cell (b := w13.heap.size) o hl_ob
    simp only [TreeK.qs]
    repeat (first | (refine treek_q rfl rfl ?_; go_big_quiet_step (fail); refine wpQuiet_nil ?_) | (refine treek_e rfl rfl ?_; go_big_quiet_step (fail); refine wpQuiet_nil ?_))
    refine treek_a rfl (fun K hK => ?_)
    go_simp
    refine (HFO.out a6 c6 _ (HRG6.out.up (below_up BQ.out HT.out)) (HAT.out.up (below_up HB.out HT.out)) (HNS.out.up HT.out)).mono ?_
    rintro e w19 ⟨hb9, a8, c8, rq, rfl, hm9, hr9, _⟩
    replace HT := Lib.hid (below_up HT.out hb9)
    replace HZS := sz HZS (show w18.heap.size ≤ w19.heap.size from HT.out.size)
    clear hb9
    have HMR := Lib.hid hm9
    clear hm9
    have HRR := Lib.hid hr9
    clear hr9
    refine hK _ _ ⟨fun _ => ⟨⟨w19, HT.out⟩, rfl⟩, ?_⟩
    clear hK K
    repeat (first | (refine treek_q rfl rfl ?_; go_big_quiet_step (fail); refine wpQuiet_nil ?_) | (refine treek_e rfl rfl ?_; go_big_quiet_step (fail); refine wpQuiet_nil ?_))
    refine treek_a rfl (fun K hK => ?_)
    go_simp
    refine (HSF.out rq HMR.out a8 c8 _ HRR.out).mono ?_
    rintro e w20 ⟨rfl, hb9⟩
    replace HRR := Lib.hid (HRR.out.up hb9)
    replace HT := Lib.hid (below_up HT.out hb9)
    replace HZS := sz HZS (show w18.heap.size ≤ w20.heap.size from HT.out.size)
    clear hb9
    refine hK _ _ ⟨fun _ => ⟨⟨w20, HT.out⟩, rfl⟩, ?_⟩
    clear hK K
    repeat (first | (refine treek_q rfl rfl ?_; go_big_quiet_step (fail); refine wpQuiet_nil ?_) | (refine treek_e rfl rfl ?_; go_big_quiet_step (fail); refine wpQuiet_nil ?_))
    clear hov_bg hl_bg hov_t hl_t hov_f hl_f hov_ob hl_ob
    refine treek_a rfl (fun K hK => ?_)
    clear bg_
    replace Hbg := Lib.hid (Hbg.out.up HT.out)
    clear t_
    replace Ht := Lib.hid (Ht.out.up HT.out)
    clear f_
    replace Hf := Lib.hid (Hf.out.up HT.out)
    clear ob_
    replace Hob := Lib.hid (Hob.out.up HT.out)
    replace BQ := hbu BQ HT.out
    replace HKS := Lib.hid (Kept.up HKS.out HT.out)
    replace HKR := Lib.hid (Kept.up HKR.out HT.out)
    replace HB := hbu HB HT.out
    replace HZS := sz HZS HT.out.size
    clear HT HRR
    have bg_ := Hbg.out.c3
    have t_ := Ht.out.c1
    have f_ := Hf.out.c1
    have ob_ := Hob.out.c2
    have f21_t := Ht.out.frozen
    have o21_bg_ := bg_; clear bg_
    have o21_t_ := t_; clear t_
    have o21_f_ := f_; clear f_
    have o21_ob_ := ob_; clear ob_
    obtain ⟨w21, hq21, hg9, hz9, hx9⟩ := put1 Ht 0 (.string (sayFi st LJ)) [.string (sayFi st LJ)] rfl
    replace Hbg := Lib.hid (Hbg.out.grown hg9.out (sne (by have g0 := HZS.out; omega)))
    replace Hf := Lib.hid (Hf.out.grown hg9.out (sne (by have g0 := HZS.out; omega)))
    replace Hob := Lib.hid (Hob.out.grown hg9.out (sne (by have g0 := HZS.out; omega)))
    replace BQ := hbg BQ hg9 (by have g0 := HZS.out; omega)
    replace HKS := Lib.hid (Kept.grown HKS.out hg9.out (fun q9 e9 => by obtain rfl := Option.some.inj e9; exact (by first | exact Or.inr (show w10.heap.size < w15.heap.size by have g0 := HZS.out; omega) | exact Or.inl (show wr.heap.size ≤ w10.heap.size by have g0 := HZS.out; omega))))
    replace HKR := Lib.hid (Kept.grown HKR.out hg9.out (fun q9 e9 => by obtain rfl := Option.some.inj e9; exact (by first | exact Or.inr (show w10.heap.size < w15.heap.size by have g0 := HZS.out; omega) | exact Or.inl (show w16.heap.size ≤ w10.heap.size by have g0 := HZS.out; omega))))
    replace HB := hbg HB hg9 (by have g0 := HZS.out; omega)
    replace HZS := sz HZS hz9.out
    replace Ht := hx9
    clear hx9 hg9 hz9
    have bg_ := Hbg.out.c3
    have t_ := Ht.out.c1
    have f_ := Hf.out.c1
    have ob_ := Hob.out.c2
    go_simp
    try rw [hq21]
    refine hK _ _ ⟨fun h9 => absurd rfl h9, ?_⟩
    clear hK K hq21 o21_ob_ o21_f_ o21_t_ o21_bg_ f21_t
    refine treek_end ?_
    have Hrc := Lib.hid (Hrc0.out.keptN HKS.out)
    have Hra1 := Lib.hid (Hra0.out.keptN HKS.out)
    have HRC1 := Hrc
    have HKA := Lib.hid (Kept.refl (fun q9 => Value.ownBlock (.slice g1 j d1) = some q9) w21)
    have HNS2 := Lib.hid (Sl.kept (RowO.sl HR6.out) HKR.out (fun x hx e => by have h1 := RowO.own_le HR6.out hx; have e : x.block < _ := e; have g0 := HZS.out; omega))
    have HR61 := Lib.hid (fun (x : Addr) (hx : a6 = some x) => RowO.own_le HR6.out hx)
    have HR62 := Lib.hid (show RowA.Ok ⟨a6, c6, NL⟩ from RowO.rowOk HR6.out)
    have HR63 := Lib.hid (fun (x : Addr) (hx : a6 = some x) => Nat.lt_of_lt_of_le (show x.block < _ from by obtain ⟨q9, o9, r9⟩ := x; subst hx; exact (HR6.out.lt q9 rfl).2) HKR.out.size)
    have HEI2 := Lib.hid (((HEI.out.keptN HKS.out).row (RowsOff.none _ _ _) (RowsOff.none _ _ _)).row (RowsOff.fresh (r := ⟨a6, c6, NL⟩) HNS2.out HR62.out HR61.out (by have g0 := HZS.out; omega) (fun q9 hq9 => (Hrc0.out.lt q9 hq9).2) HR63.out) (RowsOff.fresh (r := ⟨a6, c6, NL⟩) HNS2.out HR62.out HR61.out (by have g0 := HZS.out; omega) (fun q9 hq9 => (Hra0.out.lt q9 hq9).2) HR63.out))
    obtain ⟨i9, hi9, hz90, hz91, hz92⟩ := info_parts infoStr
    go_wp2_with (at_builtin; refine wpList_pushF (w15.heap.size) w21 (by have g0 := HZS.out; omega) rfl _ _ 23 rfl 9 i9 _ 1 16 Tryz.underlying23 hi9 hz90 hz91 hz92 rfl (by omega) ((.slice g1 j d1)) (j) (((CJ j).map Value.string)) rfl Hrc.out _ _ _ rfl rfl rfl (by simp [Value.oneCell']) (by omega) (by unfold maxLen; omega) ?_)
    intro g22 c22 w22 hown9 hg9 hf1
    clear bg_ t_ f_ ob_
    have hb9 := Below.grown HB.out hg9 (by have g0 := HZS.out; omega) (fun q hq => Nat.le_trans (show w.heap.size ≤ w15.heap.size by have g0 := HZS.out; omega) (Hrc.out.lt q hq).1)
    replace Hbg := Lib.hid (Hbg.out.grown hg9 (fun e9 => by have a1 := Hrc.out.lt _ e9; have g0 := HZS.out; omega))
    replace Ht := Lib.hid (Ht.out.grown hg9 (fun e9 => by have a1 := Hrc.out.lt _ e9; have g0 := HZS.out; omega))
    replace Hf := Lib.hid (Hf.out.grown hg9 (fun e9 => by have a1 := Hrc.out.lt _ e9; have g0 := HZS.out; omega))
    replace Hob := Lib.hid (Hob.out.grown hg9 (fun e9 => by have a1 := Hrc.out.lt _ e9; have g0 := HZS.out; omega))
    replace BQ := Lib.hid (Below.grown BQ.out hg9 (by have g0 := HZS.out; omega) (fun q hq => Nat.le_trans (show w8.heap.size ≤ w15.heap.size by have g0 := HZS.out; omega) (Hrc.out.lt q hq).1))
    replace HKA := Lib.hid (Kept.grown HKA.out hg9 (fun q hq => Or.inr hq))
    replace HZS := sz HZS hg9.size
    clear Hrc HB
    have Hrc := Lib.hid hown9
    have HB := Lib.hid hb9
    clear hb9 hown9 hg9 hi9 hz90 hz91 hz92
    have bg_ := Hbg.out.c3
    have t_ := Ht.out.c1
    have f_ := Hf.out.c1
    have ob_ := Hob.out.c2
    have HEI3 := Lib.hid (fun k9 c9 => HEI2.out.grow1 (k := k9) (c := c9) HKA.out hf1)
    have Hra2 := Lib.hid (Hra1.out.keptP HKA.out (fun q9 hq9 e9 => RowO.apart Hra1.out HRC1.out (by decide) q9 hq9 e9))
    have HKB := Lib.hid (Kept.refl (fun q9 => q9 < w15.heap.size) w22)
    clear hf1
    have f23_ob := Hob.out.frozen
    have o23_bg_ := bg_; clear bg_
    have o23_t_ := t_; clear t_
    have o23_f_ := f_; clear f_
    have o23_ob_ := ob_; clear ob_
    obtain ⟨w23, hq23, hg9, hz9, hx9⟩ := put1 Hob 0 (.slice (some ⟨g22, 0, none⟩) (j + 1) c22) [.slice (some ⟨g22, 0, none⟩) (j + 1) c22, .slice g2 j d2] rfl
    replace Hbg := Lib.hid (Hbg.out.grown hg9.out (sne (by have g0 := HZS.out; omega)))
    replace Ht := Lib.hid (Ht.out.grown hg9.out (sne (by have g0 := HZS.out; omega)))
    replace Hf := Lib.hid (Hf.out.grown hg9.out (sne (by have g0 := HZS.out; omega)))
    replace Hrc := Lib.hid (RowO.grown Hrc.out hg9.out (fun q9 e8 e9 => by have a1 := Hrc.out.lt _ e8; have a0 := Option.some.inj e9; have g0 := HZS.out; omega))
    replace BQ := hbg BQ hg9 (by have g0 := HZS.out; omega)
    replace HKB := Lib.hid (Kept.grown HKB.out hg9.out (fun q9 e9 => by obtain rfl := Option.some.inj e9; exact (by first | exact Or.inr (show w13.heap.size < w15.heap.size by have g0 := HZS.out; omega) | exact Or.inl (show w22.heap.size ≤ w13.heap.size by have g0 := HZS.out; omega))))
    replace HB := hbg HB hg9 (by have g0 := HZS.out; omega)
    replace HZS := sz HZS hz9.out
    replace Hob := hx9
    clear hx9 hg9 hz9
    have bg_ := Hbg.out.c3
    have t_ := Ht.out.c1
    have f_ := Hf.out.c1
    have ob_ := Hob.out.c2
    have HEI4 := Lib.hid (fun k9 c9 => (HEI3.out k9 c9).keptN HKB.out)
    have Hra := Lib.hid (Hra2.out.keptN HKB.out)
    have HRA1 := Hra
    have HRC2 := Hrc
    have HKC := Lib.hid (Kept.refl (fun q9 => Value.ownBlock (.slice g2 j d2) = some q9) w23)
    obtain ⟨i9, hi9, hz90, hz91, hz92⟩ := info_parts infoStrs
    go_wp2_with (at_builtin; refine wpList_pushF (w15.heap.size) w23 (by have g0 := HZS.out; omega) rfl _ _ 28 rfl 23 i9 _ 1 24 Tryz.underlying28 hi9 hz90 hz91 hz92 rfl (by omega) ((.slice g2 j d2)) (j) ((ro.flatMap RowA.cells)) rfl Hra.out _ _ _ rfl rfl rfl (by simp [Value.oneCell']) (by omega) (by unfold maxLen; omega) ?_)
    intro g24 c24 w24 hown9 hg9 hf2
    clear hq23 o23_ob_ o23_f_ o23_t_ o23_bg_ f23_ob bg_ t_ f_ ob_
    have hb9 := Below.grown HB.out hg9 (by have g0 := HZS.out; omega) (fun q hq => Nat.le_trans (show w.heap.size ≤ w15.heap.size by have g0 := HZS.out; omega) (Hra.out.lt q hq).1)
    replace Hbg := Lib.hid (Hbg.out.grown hg9 (fun e9 => by have a1 := Hra.out.lt _ e9; have g0 := HZS.out; omega))
    replace Ht := Lib.hid (Ht.out.grown hg9 (fun e9 => by have a1 := Hra.out.lt _ e9; have g0 := HZS.out; omega))
    replace Hf := Lib.hid (Hf.out.grown hg9 (fun e9 => by have a1 := Hra.out.lt _ e9; have g0 := HZS.out; omega))
    replace Hob := Lib.hid (Hob.out.grown hg9 (fun e9 => by have a1 := Hra.out.lt _ e9; have g0 := HZS.out; omega))
    replace BQ := Lib.hid (Below.grown BQ.out hg9 (by have g0 := HZS.out; omega) (fun q hq => Nat.le_trans (show w8.heap.size ≤ w15.heap.size by have g0 := HZS.out; omega) (Hra.out.lt q hq).1))
    replace HKC := Lib.hid (Kept.grown HKC.out hg9 (fun q hq => Or.inr hq))
    replace HZS := sz HZS hg9.size
    clear Hra HB
    have Hra := Lib.hid hown9
    have HB := Lib.hid hb9
    clear hb9 hown9 hg9 hi9 hz90 hz91 hz92
    have bg_ := Hbg.out.c3
    have t_ := Ht.out.c1
    have f_ := Hf.out.c1
    have ob_ := Hob.out.c2
    have HEI5 := Lib.hid (fun k9 c9 k8 c8 => (HEI4.out k9 c9).grow2 (k := k8) (c := c8) HKC.out hf2)
    have HRC3 := Lib.hid (HRC2.out.keptP HKC.out (fun q9 hq9 e9 => RowO.apart HRC2.out HRA1.out (by decide) q9 hq9 e9))
    clear hf2
    have HKD := Lib.hid (Kept.refl (fun q9 => q9 < w15.heap.size) w24)
    have f25_ob := Hob.out.frozen
    have o25_bg_ := bg_; clear bg_
    have o25_t_ := t_; clear t_
    have o25_f_ := f_; clear f_
    have o25_ob_ := ob_; clear ob_
    obtain ⟨w25, hq25, hg9, hz9, hx9⟩ := put1 Hob 1 (.slice (some ⟨g24, 0, none⟩) (j + 1) c24) [.slice (some ⟨g22, 0, none⟩) (j + 1) c22, .slice (some ⟨g24, 0, none⟩) (j + 1) c24] rfl
    replace Hbg := Lib.hid (Hbg.out.grown hg9.out (sne (by have g0 := HZS.out; omega)))
    replace Ht := Lib.hid (Ht.out.grown hg9.out (sne (by have g0 := HZS.out; omega)))
    replace Hf := Lib.hid (Hf.out.grown hg9.out (sne (by have g0 := HZS.out; omega)))
    replace Hra := Lib.hid (RowO.grown Hra.out hg9.out (fun q9 e8 e9 => by have a1 := Hra.out.lt _ e8; have a0 := Option.some.inj e9; have g0 := HZS.out; omega))
    replace BQ := hbg BQ hg9 (by have g0 := HZS.out; omega)
    replace HKD := Lib.hid (Kept.grown HKD.out hg9.out (fun q9 e9 => by obtain rfl := Option.some.inj e9; exact (by first | exact Or.inr (show w13.heap.size < w15.heap.size by have g0 := HZS.out; omega) | exact Or.inl (show w24.heap.size ≤ w13.heap.size by have g0 := HZS.out; omega))))
    replace HB := hbg HB hg9 (by have g0 := HZS.out; omega)
    replace HZS := sz HZS hz9.out
    replace Hob := hx9
    clear hx9 hg9 hz9
    have bg_ := Hbg.out.c3
    have t_ := Ht.out.c1
    have f_ := Hf.out.c1
    have ob_ := Hob.out.c2
    go_wp2_with fail
    clear hq25 o25_ob_ o25_f_ o25_t_ o25_bg_ f25_ob
    have HEI6 := Lib.hid (fun k9 c9 k8 c8 => (HEI5.out k9 c9 k8 c8).keptN HKD.out)
    have HRC4 := Lib.hid (HRC3.out.keptN HKD.out)
    go_roundw
    case rel => exact ⟨j + 1, _, _, _, _, _, _, _, ro ++ [⟨none, 0, []⟩], [⟨a6, c6, NL⟩], hjn, by go_num, rfl, Lib.hid HST1.out, (fun _ => ⟨a6, c6, rfl, by rw [HPF.out, HNLE.out]⟩), Lib.hid ((HEI6.out _ _ _ _).sub (fun r hr => by simp only [List.mem_append, List.mem_singleton] at hr ⊢; rcases hr with (h | h) | h <;> simp [h])), Ht, Hf, Hob, Lib.hid (HRC4.out.eq (by rw [HCSJ.out, List.map_append]; rfl) rfl), Lib.hid (Hra.out.eq (by rw [List.flatMap_append]; rfl) rfl), Lib.hid (by rw [List.map_append, HRM.out, HASJ.out]; rfl), Lib.hid (by have g0 := HZS.out; omega), BQ⟩
    case measure => simp [intOf]; omega
   ·replace HST2 := Lib.hid (HST2.out hjw)
    rw [if_neg hjw] at HCSJ HASJ
    clear HST1 HLJW
    have HNNU := Lib.hid (fun (h : wh < j + 1) => HNN.out (by omega))
    clear HNN
    have HCH := Lib.hid (fun W hQ => rChallenge_any (grp k).size (grp k).q.m (.slice ap (dl (grp k).p.m) cp) OK.out.q.pos aq cq sf otherB (by rw [HPZ.out.2]; decide) (by decide) W hQ)
    have HY := Lib.hid (show chN sf otherB % (grp k).q.m < (grp k).q.m from Nat.mod_lt _ OK.out.q.pos)
    have HSZ3 := Lib.hid (show (chT sf otherB).size = 32 from chT_size _ _)
    generalize chN sf otherB % (grp k).q.m = y at *
    generalize chT sf otherB = s2 at *
    have HSC9 := Lib.hid (nonce_scE OK.out s2 m)
    have HNL := Lib.hid (nonceL_len (grp k) s2 m)
    have HNA := Lib.hid (fun W hG => rNonces_own (G := grp k) (aq := aq) (ap := ap) (cq := cq) (cp := cp) OK.out m HL64.out s2 HSZ3.out W hG)
    generalize nonceL (grp k) s2 m = NL at *
    generalize askT s2 m = s5 at *
    have HBO := Lib.hid (fun a6 c6 W hG hC hX => rBack_ok h1 h3 OK.out HWJ.out HM.out HSC9.out HY.out aq ap cq cp sa a6 sc c6 W hG hC hX)
    have HSF := Lib.hid (fun rq hr a8 c8 W hC => rSayF_ok OK.out HWJ.out HM.out (valB (grp k) ((grp k).q.m - y) l NL) st HPZ.out.1 rq hr a8 c8 W hC)
    generalize eachA (grp k) (valB (grp k) ((grp k).q.m - y) l NL) (lens l) m = LJ at *
    unfold RowsR at HBO
    replace HZS := sz HZS HALL.out
    replace HZS := sz HZS HWZ.out
    have bg_ := Hbg.out.c3
    have t_ := Ht.out.c1
    have f_ := Hf.out.c1
    have ob_ := Hob.out.c2
    have HKS := Lib.hid (Kept.refl (fun q9 => q9 < w15.heap.size) wr)
    go_wp2_with fail
    clear hc_0 hbl2
    refine (HCH.out wr ((HRG6.out.up BQ.out)).q).mono ?_
    rintro e w16 ⟨a5, c5, rfl, hn9, hb9⟩
    clear bg_
    replace Hbg := Lib.hid (Hbg.out.up hb9)
    clear t_
    replace Ht := Lib.hid (Ht.out.up hb9)
    clear f_
    replace Hf := Lib.hid (Hf.out.up hb9)
    clear ob_
    replace Hob := Lib.hid (Hob.out.up hb9)
    replace BQ := hbu BQ hb9
    replace HKS := Lib.hid (Kept.up HKS.out hb9)
    replace HB := hbu HB hb9
    replace HZS := sz HZS hb9.size
    have HN5 := Lib.hid hn9
    clear hn9 hb9
    have bg_ := Hbg.out.c3
    have t_ := Ht.out.c1
    have f_ := Hf.out.c1
    have ob_ := Hob.out.c2
    have o17_bg_ := bg_; clear bg_
    have o17_t_ := t_; clear t_
    have o17_f_ := f_; clear f_
    have o17_ob_ := ob_; clear ob_
    obtain ⟨w17, hq17, hb9, hz9, Hbu⟩ := new1 w16 89 [.string s2]
    replace Hbg := Lib.hid (Hbg.out.up hb9)
    replace Ht := Lib.hid (Ht.out.up hb9)
    replace Hf := Lib.hid (Hf.out.up hb9)
    replace Hob := Lib.hid (Hob.out.up hb9)
    replace HN5 := Lib.hid (HN5.out.up hb9)
    replace BQ := hbu BQ hb9
    replace HKS := Lib.hid (Kept.up HKS.out hb9)
    replace HB := hbu HB hb9
    replace HZS := sz HZS hz9.out
    clear hb9 hz9
    have bg_ := Hbg.out.c3
    have t_ := Ht.out.c1
    have f_ := Hf.out.c1
    have ob_ := Hob.out.c2
    have bu_ := Hbu.out.c1
    go_wp2_with fail
    clear hq17 o17_ob_ o17_f_ o17_t_ o17_bg_
    have HWR := Lib.hid (show wr.heap.size ≤ w17.heap.size from HKS.out.size)
    refine (HNA.out w17 (HRG6.out.up BQ.out)).mono ?_
    rintro e w18 ⟨a6, c6, rfl, hr6, hb9⟩
    clear bg_
    replace Hbg := Lib.hid (Hbg.out.up hb9)
    clear t_
    replace Ht := Lib.hid (Ht.out.up hb9)
    clear f_
    replace Hf := Lib.hid (Hf.out.up hb9)
    clear ob_
    replace Hob := Lib.hid (Hob.out.up hb9)
    clear bu_
    replace Hbu := Lib.hid (Hbu.out.up hb9)
    replace HN5 := Lib.hid (HN5.out.up hb9)
    replace BQ := hbu BQ hb9
    replace HKS := Lib.hid (Kept.up HKS.out hb9)
    replace HB := hbu HB hb9
    replace HZS := sz HZS hb9.size
    have HR6 := Lib.hid hr6
    clear hr6 hb9
    have bg_ := Hbg.out.c3
    have t_ := Ht.out.c1
    have f_ := Hf.out.c1
    have ob_ := Hob.out.c2
    have bu_ := Hbu.out.c1
    have HKR := Lib.hid (Kept.refl (fun q9 => q9 < w15.heap.size) w18)
    have o19_bg_ := bg_; clear bg_
    have o19_t_ := t_; clear t_
    have o19_f_ := f_; clear f_
    have o19_ob_ := ob_; clear ob_
    have o19_bu_ := bu_; clear bu_
    obtain ⟨w19, hq19, hb9, hz9, Hbv⟩ := new1 w18 89 [.string s5]
    replace Hbg := Lib.hid (Hbg.out.up hb9)
    replace Ht := Lib.hid (Ht.out.up hb9)
    replace Hf := Lib.hid (Hf.out.up hb9)
    replace Hob := Lib.hid (Hob.out.up hb9)
    replace Hbu := Lib.hid (Hbu.out.up hb9)
    replace HN5 := Lib.hid (HN5.out.up hb9)
    replace BQ := hbu BQ hb9
    replace HKS := Lib.hid (Kept.up HKS.out hb9)
    replace HKR := Lib.hid (Kept.up HKR.out hb9)
    replace HB := hbu HB hb9
    replace HZS := sz HZS hz9.out
    clear hb9 hz9
    have bg_ := Hbg.out.c3
    have t_ := Ht.out.c1
    have f_ := Hf.out.c1
    have ob_ := Hob.out.c2
    have bu_ := Hbu.out.c1
    have bv_ := Hbv.out.c1
    replace HN5 := Lib.hid (numSet HN5.out Hf.out 0 (.string s5))
    have f20_f := Hf.out.frozen
    have o20_bg_ := bg_; clear bg_
    have o20_t_ := t_; clear t_
    have o20_f_ := f_; clear f_
    have o20_ob_ := ob_; clear ob_
    have o20_bu_ := bu_; clear bu_
    have o20_bv_ := bv_; clear bv_
    obtain ⟨w20, hq20, hg9, hz9, hx9⟩ := put1 Hf 0 (.string s5) [.string s5] rfl
    replace Hbg := Lib.hid (Hbg.out.grown hg9.out (sne (by have g0 := HZS.out; omega)))
    replace Ht := Lib.hid (Ht.out.grown hg9.out (sne (by have g0 := HZS.out; omega)))
    replace Hob := Lib.hid (Hob.out.grown hg9.out (sne (by have g0 := HZS.out; omega)))
    replace Hbu := Lib.hid (Hbu.out.grown hg9.out (sne (by have g0 := HZS.out; omega)))
    replace Hbv := Lib.hid (Hbv.out.grown hg9.out (sne (by have g0 := HZS.out; omega)))
    replace BQ := hbg BQ hg9 (by have g0 := HZS.out; omega)
    replace HKS := Lib.hid (Kept.grown HKS.out hg9.out (fun q9 e9 => by obtain rfl := Option.some.inj e9; exact (by first | exact Or.inr (show w12.heap.size < w15.heap.size by have g0 := HZS.out; omega) | exact Or.inl (show wr.heap.size ≤ w12.heap.size by have g0 := HZS.out; omega))))
    replace HKR := Lib.hid (Kept.grown HKR.out hg9.out (fun q9 e9 => by obtain rfl := Option.some.inj e9; exact (by first | exact Or.inr (show w12.heap.size < w15.heap.size by have g0 := HZS.out; omega) | exact Or.inl (show w18.heap.size ≤ w12.heap.size by have g0 := HZS.out; omega))))
    replace HB := hbg HB hg9 (by have g0 := HZS.out; omega)
    replace HZS := sz HZS hz9.out
    replace Hf := hx9
    clear hx9 hg9 hz9
    have bg_ := Hbg.out.c3
    have t_ := Ht.out.c1
    have f_ := Hf.out.c1
    have ob_ := Hob.out.c2
    have bu_ := Hbu.out.c1
    have bv_ := Hbv.out.c1
    rw [hq20] at HN5
    go_wp2_with fail
    clear hq20 o20_bv_ o20_bu_ o20_ob_ o20_f_ o20_t_ o20_bg_ f20_f hq19 o19_bu_ o19_ob_ o19_f_ o19_t_ o19_bg_ bu_ Hbu bv_ Hbv
    have HEIA := Lib.hid (HEI.out.keptN HKS.out)
    have HWA := Lib.hid (show wr.heap.size ≤ w20.heap.size from HKS.out.size)
    refine (rAdd_new OK.out (q_16 OK.out (Nat.mod_lt _ OK.out.q.pos)) (q_16 OK.out HY.out) w20 (HRG6.out.up BQ.out) HEIA.out.n1.1 HN5.out).mono ?_
    rintro e w21 ⟨a7, c7, rfl, hn9, hf7, hb9⟩
    clear bg_
    replace Hbg := Lib.hid (Hbg.out.up hb9)
    clear t_
    replace Ht := Lib.hid (Ht.out.up hb9)
    clear f_
    replace Hf := Lib.hid (Hf.out.up hb9)
    clear ob_
    replace Hob := Lib.hid (Hob.out.up hb9)
    replace HN5 := Lib.hid (HN5.out.up hb9)
    replace BQ := hbu BQ hb9
    replace HKS := Lib.hid (Kept.up HKS.out hb9)
    replace HKR := Lib.hid (Kept.up HKR.out hb9)
    replace HB := hbu HB hb9
    replace HZS := sz HZS hb9.size
    have HN7 := Lib.hid hn9
    clear hn9
    have HF7 := Lib.hid hf7
    clear hf7 hb9
    have bg_ := Hbg.out.c3
    have t_ := Ht.out.c1
    have f_ := Hf.out.c1
    have ob_ := Hob.out.c2
    rw [Nat.mod_add_mod] at HN7 ⊢
    clear HEIA
    go_wp2_with fail
    have HNS := Lib.hid (Sl.kept (RowO.sl HR6.out) HKR.out (fun x hx e => by have h1 := RowO.own_le HR6.out hx; have e : x.block < _ := e; have g0 := HZS.out; omega))
    have HT := Lib.hid (show Below w21.heap.size w21 w21.drew from (Below.refl _ _).drew)
    have hl_bg := Hbg.out.lt
    have hl_t := Ht.out.lt
    have hl_f := Hf.out.lt
    have hl_ob := Hob.out.lt
    refine wp_region_treek (fun wq9 => ∃ E : Over w21, wq9 = E.w) 10 ((.e 0 [] (.e 1 [] (.qs [2, 3, 4] (.e 5 [] (.qs [7] (.a 6 (.a 8 (.a 9 (.a 10 .done)))))))))) (by kernel_rfl) (by kernel_rfl) (fun _ _ d _ _ h => by cases d <;> exact h) ⟨⟨_, HT.out⟩, rfl⟩ ?_
    have hov_bg := fun (E : Over w21) o => E.cell (b := w4.heap.size) o hl_bg
    have hov_t := fun (E : Over w21) o => E.cell (b := w10.heap.size) o hl_t
    have hov_f := fun (E : Over w21) o => E.cell (b := w12.heap.size) o hl_f
    have hov_ob := fun (E : Over w21) o => E.cell (b := w13.heap.size) o hl_ob
    simp only [TreeK.qs]
    repeat (first | (refine treek_q rfl rfl ?_; go_big_quiet_step (fail); refine wpQuiet_nil ?_) | (refine treek_e rfl rfl ?_; go_big_quiet_step (fail); refine wpQuiet_nil ?_))
    refine treek_a rfl (fun K hK => ?_)
    go_simp
    refine (rText OK.out (q_16 OK.out HY.out) _ (HN5.out.up HT.out)).mono ?_
    rintro e w22 ⟨rfl, hb9⟩
    replace HT := Lib.hid (below_up HT.out hb9)
    replace HZS := sz HZS (show w21.heap.size ≤ w22.heap.size from HT.out.size)
    clear hb9
    refine hK _ _ ⟨fun _ => ⟨⟨w22, HT.out⟩, rfl⟩, ?_⟩
    clear hK K
    repeat (first | (refine treek_q rfl rfl ?_; go_big_quiet_step (fail); refine wpQuiet_nil ?_) | (refine treek_e rfl rfl ?_; go_big_quiet_step (fail); refine wpQuiet_nil ?_))
    refine treek_a rfl (fun K hK => ?_)
    go_simp
    refine (HBO.out a6 c6 _ (HRG6.out.up (below_up BQ.out HT.out)) (HAT.out.up (below_up HB.out HT.out)) (HNS.out.up HT.out)).mono ?_
    rintro e w23 ⟨hb9, a8, c8, rq, rfl, hm9, hr9, _⟩
    replace HT := Lib.hid (below_up HT.out hb9)
    replace HZS := sz HZS (show w21.heap.size ≤ w23.heap.size from HT.out.size)
    clear hb9
    have HMR := Lib.hid hm9
    clear hm9
    have HRR := Lib.hid hr9
    clear hr9
    refine hK _ _ ⟨fun _ => ⟨⟨w23, HT.out⟩, rfl⟩, ?_⟩
    clear hK K
    repeat (first | (refine treek_q rfl rfl ?_; go_big_quiet_step (fail); refine wpQuiet_nil ?_) | (refine treek_e rfl rfl ?_; go_big_quiet_step (fail); refine wpQuiet_nil ?_))
    refine treek_a rfl (fun K hK => ?_)
    go_simp
    refine (HSF.out rq HMR.out a8 c8 _ HRR.out).mono ?_
    rintro e w24 ⟨rfl, hb9⟩
    replace HRR := Lib.hid (HRR.out.up hb9)
    replace HT := Lib.hid (below_up HT.out hb9)
    replace HZS := sz HZS (show w21.heap.size ≤ w24.heap.size from HT.out.size)
    clear hb9
    refine hK _ _ ⟨fun _ => ⟨⟨w24, HT.out⟩, rfl⟩, ?_⟩
    clear hK K
    repeat (first | (refine treek_q rfl rfl ?_; go_big_quiet_step (fail); refine wpQuiet_nil ?_) | (refine treek_e rfl rfl ?_; go_big_quiet_step (fail); refine wpQuiet_nil ?_))
    clear hov_bg hl_bg hov_t hl_t hov_f hl_f hov_ob hl_ob
    refine treek_a rfl (fun K hK => ?_)
    clear bg_
    replace Hbg := Lib.hid (Hbg.out.up HT.out)
    clear t_
    replace Ht := Lib.hid (Ht.out.up HT.out)
    clear f_
    replace Hf := Lib.hid (Hf.out.up HT.out)
    clear ob_
    replace Hob := Lib.hid (Hob.out.up HT.out)
    replace HN5 := Lib.hid (HN5.out.up HT.out)
    replace HN7 := Lib.hid (HN7.out.up HT.out)
    replace BQ := hbu BQ HT.out
    replace HKS := Lib.hid (Kept.up HKS.out HT.out)
    replace HKR := Lib.hid (Kept.up HKR.out HT.out)
    replace HB := hbu HB HT.out
    replace HZS := sz HZS HT.out.size
    clear HT HRR
    have bg_ := Hbg.out.c3
    have t_ := Ht.out.c1
    have f_ := Hf.out.c1
    have ob_ := Hob.out.c2
    replace HN5 := Lib.hid (numSet HN5.out Ht.out 0 (.string (sayFi st LJ)))
    replace HN7 := Lib.hid (numSet HN7.out Ht.out 0 (.string (sayFi st LJ)))
    have f25_t := Ht.out.frozen
    have o25_bg_ := bg_; clear bg_
    have o25_t_ := t_; clear t_
    have o25_f_ := f_; clear f_
    have o25_ob_ := ob_; clear ob_
    obtain ⟨w25, hq25, hg9, hz9, hx9⟩ := put1 Ht 0 (.string (sayFi st LJ)) [.string (sayFi st LJ)] rfl
    replace Hbg := Lib.hid (Hbg.out.grown hg9.out (sne (by have g0 := HZS.out; omega)))
    replace Hf := Lib.hid (Hf.out.grown hg9.out (sne (by have g0 := HZS.out; omega)))
    replace Hob := Lib.hid (Hob.out.grown hg9.out (sne (by have g0 := HZS.out; omega)))
    replace BQ := hbg BQ hg9 (by have g0 := HZS.out; omega)
    replace HKS := Lib.hid (Kept.grown HKS.out hg9.out (fun q9 e9 => by obtain rfl := Option.some.inj e9; exact (by first | exact Or.inr (show w10.heap.size < w15.heap.size by have g0 := HZS.out; omega) | exact Or.inl (show wr.heap.size ≤ w10.heap.size by have g0 := HZS.out; omega))))
    replace HKR := Lib.hid (Kept.grown HKR.out hg9.out (fun q9 e9 => by obtain rfl := Option.some.inj e9; exact (by first | exact Or.inr (show w10.heap.size < w15.heap.size by have g0 := HZS.out; omega) | exact Or.inl (show w18.heap.size ≤ w10.heap.size by have g0 := HZS.out; omega))))
    replace HB := hbg HB hg9 (by have g0 := HZS.out; omega)
    replace HZS := sz HZS hz9.out
    replace Ht := hx9
    clear hx9 hg9 hz9
    have bg_ := Hbg.out.c3
    have t_ := Ht.out.c1
    have f_ := Hf.out.c1
    have ob_ := Hob.out.c2
    rw [hq25] at HN5
    rw [hq25] at HN7
    go_simp
    try rw [hq25]
    refine hK _ _ ⟨fun h9 => absurd rfl h9, ?_⟩
    clear hK K hq25 o25_ob_ o25_f_ o25_t_ o25_bg_ f25_t
    refine treek_end ?_
    clear HNS
    have Hrc := Lib.hid (Hrc0.out.keptN HKS.out)
    have Hra1 := Lib.hid (Hra0.out.keptN HKS.out)
    have HRC1 := Hrc
    have HKA := Lib.hid (Kept.refl (fun q9 => Value.ownBlock (.slice g1 j d1) = some q9) w25)
    have HNS2 := Lib.hid (Sl.kept (RowO.sl HR6.out) HKR.out (fun x hx e => by have h1 := RowO.own_le HR6.out hx; have e : x.block < _ := e; have g0 := HZS.out; omega))
    have HR61 := Lib.hid (fun (x : Addr) (hx : a6 = some x) => RowO.own_le HR6.out hx)
    have HR62 := Lib.hid (show RowA.Ok ⟨a6, c6, NL⟩ from RowO.rowOk HR6.out)
    have HR63 := Lib.hid (fun (x : Addr) (hx : a6 = some x) => Nat.lt_of_lt_of_le (show x.block < _ from by obtain ⟨q9, o9, r9⟩ := x; subst hx; exact (HR6.out.lt q9 rfl).2) HKR.out.size)
    have HV1 := Lib.hid (fun q9 hq9 => (Hrc0.out.lt q9 hq9).2)
    have HV2 := Lib.hid (fun q9 hq9 => (Hra0.out.lt q9 hq9).2)
    have HEI2 := Lib.hid (((HEI.out.keptN HKS.out).row (RowsOff.fresh (r := ⟨a6, c6, NL⟩) HNS2.out HR62.out HR61.out (by have g0 := HZS.out; omega) (fun q9 hq9 => Nat.lt_of_lt_of_le (HV1.out q9 hq9) HWR.out) HR63.out) (RowsOff.fresh (r := ⟨a6, c6, NL⟩) HNS2.out HR62.out HR61.out (by have g0 := HZS.out; omega) (fun q9 hq9 => Nat.lt_of_lt_of_le (HV2.out q9 hq9) HWR.out) HR63.out)).num (NumOff.fresh HN7.out HF7.out (by have g0 := HZS.out; omega) (fun q9 hq9 => Nat.lt_of_lt_of_le (HV1.out q9 hq9) HWA.out)) (NumOff.fresh HN7.out HF7.out (by have g0 := HZS.out; omega) (fun q9 hq9 => Nat.lt_of_lt_of_le (HV2.out q9 hq9) HWA.out)))
    go_wp2_with fail
    have HT := Lib.hid (show Below w25.heap.size w25 w25.drew from (Below.refl _ _).drew)
    have hl_bg := Hbg.out.lt
    have hl_t := Ht.out.lt
    have hl_f := Hf.out.lt
    have hl_ob := Hob.out.lt
    refine wp_region_treek (fun wq9 => ∃ E : But w25 (Value.ownBlock (.slice g1 j d1)), wq9 = E.w) 9 ((.qs [0] (.e 1 [] (.qs [2, 3] (.e 4 [] (.a 5 (.a 6 (.a 7 (.qs [8] (.a 9 .done)))))))))) (by kernel_rfl) (by kernel_rfl) (fun _ _ d _ _ h => by cases d <;> exact h) ⟨⟨_, ((below_grown HT.out).but _)⟩, rfl⟩ ?_
    have hov_bg := fun (E : But w25 (Value.ownBlock (.slice g1 j d1))) o => E.cell (b := w4.heap.size) o hl_bg (by intro e9; have a1 := Hrc.out.lt _ e9; have g0 := HZS.out; omega)
    have hov_t := fun (E : But w25 (Value.ownBlock (.slice g1 j d1))) o => E.cell (b := w10.heap.size) o hl_t (by intro e9; have a1 := Hrc.out.lt _ e9; have g0 := HZS.out; omega)
    have hov_f := fun (E : But w25 (Value.ownBlock (.slice g1 j d1))) o => E.cell (b := w12.heap.size) o hl_f (by intro e9; have a1 := Hrc.out.lt _ e9; have g0 := HZS.out; omega)
    have hov_ob := fun (E : But w25 (Value.ownBlock (.slice g1 j d1))) o => E.cell (b := w13.heap.size) o hl_ob (by intro e9; have a1 := Hrc.out.lt _ e9; have g0 := HZS.out; omega)
    simp only [TreeK.qs]
    repeat (first | (refine treek_q rfl rfl ?_; go_big_quiet_step (fail); refine wpQuiet_nil ?_) | (refine treek_e rfl rfl ?_; go_big_quiet_step (fail); refine wpQuiet_nil ?_))
    refine treek_a rfl (fun K hK => ?_)
    go_simp
    refine (rText OK.out (q_16 OK.out HY.out) _ (HN5.out.up HT.out)).mono ?_
    rintro e w26 ⟨rfl, hb9⟩
    replace HT := Lib.hid (below_up HT.out hb9)
    replace HZS := sz HZS (show w25.heap.size ≤ w26.heap.size from HT.out.size)
    clear hb9
    refine hK _ _ ⟨fun _ => ⟨⟨w26, ((below_grown HT.out).but _)⟩, rfl⟩, ?_⟩
    clear hK K
    repeat (first | (refine treek_q rfl rfl ?_; go_big_quiet_step (fail); refine wpQuiet_nil ?_) | (refine treek_e rfl rfl ?_; go_big_quiet_step (fail); refine wpQuiet_nil ?_))
    clear hov_bg hl_bg hov_t hl_t hov_f hl_f hov_ob hl_ob
    refine treek_a rfl (fun K hK => ?_)
    go_simp
    refine hK _ _ ⟨fun _ => ⟨⟨_, (below_grown (HT.out.alloc HT.out.size _)).but _⟩, rfl⟩, ?_⟩
    clear hK K
    obtain ⟨i9, hi9, hz90, hz91, hz92⟩ := info_parts infoStr
    have HG1 := Lib.hid ((below_grown HT.out).but (Value.ownBlock (.slice g1 j d1)))
    clear bg_
    replace Hbg := Lib.hid (Hbg.out.up HT.out)
    clear t_
    replace Ht := Lib.hid (Ht.out.up HT.out)
    clear f_
    replace Hf := Lib.hid (Hf.out.up HT.out)
    clear ob_
    replace Hob := Lib.hid (Hob.out.up HT.out)
    replace Hrc := Lib.hid (Hrc.out.up HT.out)
    replace HN5 := Lib.hid (HN5.out.up HT.out)
    replace HN7 := Lib.hid (HN7.out.up HT.out)
    replace BQ := hbu BQ HT.out
    replace HKA := Lib.hid (Kept.up HKA.out HT.out)
    replace HB := hbu HB HT.out
    replace HZS := sz HZS HT.out.size
    refine treek_a rfl (fun K hK => ?_)
    refine step_pushF (w15.heap.size) w26 (by have g0 := HZS.out; omega) rfl _ _ 23 rfl 9 i9 _ 1 16 Tryz.underlying23 hi9 hz90 hz91 hz92 rfl (by omega) ((.slice g1 j d1)) (j) (((CJ j).map Value.string)) rfl Hrc.out _ _ _ rfl rfl rfl (by simp [Value.oneCell']) (by omega) (by unfold maxLen; omega) ?_
    intro g27 c27 w27 hown9 hg9 hf1
    have HF1 := Lib.hid hf1
    clear hf1
    have HGR := Lib.hid (HG1.out.trans hg9)
    have hb9 := Below.grown HB.out hg9 (by have g0 := HZS.out; omega) (fun q hq => Nat.le_trans (show w.heap.size ≤ w15.heap.size by have g0 := HZS.out; omega) (Hrc.out.lt q hq).1)
    replace Hbg := Lib.hid (Hbg.out.grown hg9 (fun e9 => by have a1 := Hrc.out.lt _ e9; have g0 := HZS.out; omega))
    replace Ht := Lib.hid (Ht.out.grown hg9 (fun e9 => by have a1 := Hrc.out.lt _ e9; have g0 := HZS.out; omega))
    replace Hf := Lib.hid (Hf.out.grown hg9 (fun e9 => by have a1 := Hrc.out.lt _ e9; have g0 := HZS.out; omega))
    replace Hob := Lib.hid (Hob.out.grown hg9 (fun e9 => by have a1 := Hrc.out.lt _ e9; have g0 := HZS.out; omega))
    clear HN5 HN7
    replace BQ := Lib.hid (Below.grown BQ.out hg9 (by have g0 := HZS.out; omega) (fun q hq => Nat.le_trans (show w8.heap.size ≤ w15.heap.size by have g0 := HZS.out; omega) (Hrc.out.lt q hq).1))
    replace HKA := Lib.hid (Kept.grown HKA.out hg9 (fun q hq => Or.inr hq))
    replace HZS := sz HZS hg9.size
    clear Hrc HB HT HG1
    have Hrc := Lib.hid hown9
    have HB := Lib.hid hb9
    clear hb9 hown9 hg9 hi9 hz90 hz91 hz92
    refine hK _ _ ⟨fun _ => ⟨⟨w27, HGR.out⟩, rfl⟩, ?_⟩
    clear hK K HGR
    try simp only [Act.put, List.setIfInBounds_toArray, List.set_cons_succ, List.set_cons_zero]
    repeat (first | (refine treek_q rfl rfl ?_; go_big_quiet_step (fail); refine wpQuiet_nil ?_) | (refine treek_e rfl rfl ?_; go_big_quiet_step (fail); refine wpQuiet_nil ?_))
    replace HZS := sz HZS (Hrc.out.lt g27 rfl).1
    have HFW := Lib.hid (HF1.out.imp_right (fun h => Nat.le_trans (show w25.heap.size ≤ _ by have g0 := HZS.out; omega) h))
    have HEI3 := Lib.hid (fun k9 c9 => HEI2.out.grow1 (k := k9) (c := c9) HKA.out HFW.out)
    have Hra2 := Lib.hid (Hra1.out.keptP HKA.out (fun q9 hq9 e9 => RowO.apart Hra1.out HRC1.out (by decide) q9 hq9 e9))
    have HKB := Lib.hid (Kept.refl (fun q9 => q9 < w15.heap.size) w27)
    have bg_ := Hbg.out.c3
    have t_ := Ht.out.c1
    have f_ := Hf.out.c1
    have ob_ := Hob.out.c2
    have f28_ob := Hob.out.frozen
    have o28_bg_ := bg_; clear bg_
    have o28_t_ := t_; clear t_
    have o28_f_ := f_; clear f_
    have o28_ob_ := ob_; clear ob_
    obtain ⟨w28, hq28, hg9, hz9, hx9⟩ := put1 Hob 0 (.slice (some ⟨g27, 0, none⟩) (j + 1) c27) [.slice (some ⟨g27, 0, none⟩) (j + 1) c27, .slice g2 j d2] rfl
    replace Hbg := Lib.hid (Hbg.out.grown hg9.out (sne (by have g0 := HZS.out; omega)))
    replace Ht := Lib.hid (Ht.out.grown hg9.out (sne (by have g0 := HZS.out; omega)))
    replace Hf := Lib.hid (Hf.out.grown hg9.out (sne (by have g0 := HZS.out; omega)))
    replace Hrc := Lib.hid (RowO.grown Hrc.out hg9.out (fun q9 e8 e9 => by have a1 := Hrc.out.lt _ e8; have a0 := Option.some.inj e9; have g0 := HZS.out; omega))
    replace BQ := hbg BQ hg9 (by have g0 := HZS.out; omega)
    replace HKB := Lib.hid (Kept.grown HKB.out hg9.out (fun q9 e9 => by obtain rfl := Option.some.inj e9; exact (by first | exact Or.inr (show w13.heap.size < w15.heap.size by have g0 := HZS.out; omega) | exact Or.inl (show w27.heap.size ≤ w13.heap.size by have g0 := HZS.out; omega))))
    replace HB := hbg HB hg9 (by have g0 := HZS.out; omega)
    replace HZS := sz HZS hz9.out
    replace Hob := hx9
    clear hx9 hg9 hz9
    have bg_ := Hbg.out.c3
    have t_ := Ht.out.c1
    have f_ := Hf.out.c1
    have ob_ := Hob.out.c2
    refine treek_a rfl (fun K hK => ?_)
    go_simp
    try rw [hq28]
    refine hK _ _ ⟨fun h9 => absurd rfl h9, ?_⟩
    clear hK K hq28 o28_ob_ o28_f_ o28_t_ o28_bg_ f28_ob
    refine treek_end ?_
    have HEI4 := Lib.hid (fun k9 c9 => (HEI3.out k9 c9).keptN HKB.out)
    have Hra := Lib.hid (Hra2.out.keptN HKB.out)
    have HRA1 := Hra
    have HRC2 := Hrc
    have HKC := Lib.hid (Kept.refl (fun q9 => Value.ownBlock (.slice g2 j d2) = some q9) w28)
    obtain ⟨i9, hi9, hz90, hz91, hz92⟩ := info_parts infoStrs
    go_wp2_with (at_builtin; refine wpList_pushF (w15.heap.size) w28 (by have g0 := HZS.out; omega) rfl _ _ 28 rfl 23 i9 _ 1 24 Tryz.underlying28 hi9 hz90 hz91 hz92 rfl (by omega) ((.slice g2 j d2)) (j) ((ro.flatMap RowA.cells)) rfl Hra.out _ _ _ rfl rfl rfl (by simp [Value.oneCell']) (by omega) (by unfold maxLen; omega) ?_)
    intro g29 c29 w29 hown9 hg9 hf2
    clear bg_ t_ f_ ob_
    have hb9 := Below.grown HB.out hg9 (by have g0 := HZS.out; omega) (fun q hq => Nat.le_trans (show w.heap.size ≤ w15.heap.size by have g0 := HZS.out; omega) (Hra.out.lt q hq).1)
    replace Hbg := Lib.hid (Hbg.out.grown hg9 (fun e9 => by have a1 := Hra.out.lt _ e9; have g0 := HZS.out; omega))
    replace Ht := Lib.hid (Ht.out.grown hg9 (fun e9 => by have a1 := Hra.out.lt _ e9; have g0 := HZS.out; omega))
    replace Hf := Lib.hid (Hf.out.grown hg9 (fun e9 => by have a1 := Hra.out.lt _ e9; have g0 := HZS.out; omega))
    replace Hob := Lib.hid (Hob.out.grown hg9 (fun e9 => by have a1 := Hra.out.lt _ e9; have g0 := HZS.out; omega))
    replace BQ := Lib.hid (Below.grown BQ.out hg9 (by have g0 := HZS.out; omega) (fun q hq => Nat.le_trans (show w8.heap.size ≤ w15.heap.size by have g0 := HZS.out; omega) (Hra.out.lt q hq).1))
    replace HKC := Lib.hid (Kept.grown HKC.out hg9 (fun q hq => Or.inr hq))
    replace HZS := sz HZS hg9.size
    clear Hra HB
    have Hra := Lib.hid hown9
    have HB := Lib.hid hb9
    clear hb9 hown9 hg9 hi9 hz90 hz91 hz92
    have bg_ := Hbg.out.c3
    have t_ := Ht.out.c1
    have f_ := Hf.out.c1
    have ob_ := Hob.out.c2
    have HEI5 := Lib.hid (fun k9 c9 k8 c8 => (HEI4.out k9 c9).grow2 (k := k8) (c := c8) HKC.out hf2)
    have HRC3 := Lib.hid (HRC2.out.keptP HKC.out (fun q9 hq9 e9 => RowO.apart HRC2.out HRA1.out (by decide) q9 hq9 e9))
    clear hf2
    have HKD := Lib.hid (Kept.refl (fun q9 => q9 < w15.heap.size) w29)
    have f30_ob := Hob.out.frozen
    have o30_bg_ := bg_; clear bg_
    have o30_t_ := t_; clear t_
    have o30_f_ := f_; clear f_
    have o30_ob_ := ob_; clear ob_
    obtain ⟨w30, hq30, hg9, hz9, hx9⟩ := put1 Hob 1 (.slice (some ⟨g29, 0, none⟩) (j + 1) c29) [.slice (some ⟨g27, 0, none⟩) (j + 1) c27, .slice (some ⟨g29, 0, none⟩) (j + 1) c29] rfl
    replace Hbg := Lib.hid (Hbg.out.grown hg9.out (sne (by have g0 := HZS.out; omega)))
    replace Ht := Lib.hid (Ht.out.grown hg9.out (sne (by have g0 := HZS.out; omega)))
    replace Hf := Lib.hid (Hf.out.grown hg9.out (sne (by have g0 := HZS.out; omega)))
    replace Hra := Lib.hid (RowO.grown Hra.out hg9.out (fun q9 e8 e9 => by have a1 := Hra.out.lt _ e8; have a0 := Option.some.inj e9; have g0 := HZS.out; omega))
    replace BQ := hbg BQ hg9 (by have g0 := HZS.out; omega)
    replace HKD := Lib.hid (Kept.grown HKD.out hg9.out (fun q9 e9 => by obtain rfl := Option.some.inj e9; exact (by first | exact Or.inr (show w13.heap.size < w15.heap.size by have g0 := HZS.out; omega) | exact Or.inl (show w29.heap.size ≤ w13.heap.size by have g0 := HZS.out; omega))))
    replace HB := hbg HB hg9 (by have g0 := HZS.out; omega)
    replace HZS := sz HZS hz9.out
    replace Hob := hx9
    clear hx9 hg9 hz9
    have bg_ := Hbg.out.c3
    have t_ := Ht.out.c1
    have f_ := Hf.out.c1
    have ob_ := Hob.out.c2
    go_wp2_with fail
    clear hq30 o30_ob_ o30_f_ o30_t_ o30_bg_ f30_ob
    have HEI6 := Lib.hid (fun k9 c9 k8 c8 => (HEI5.out k9 c9 k8 c8).keptN HKD.out)
    have HRC4 := Lib.hid (HRC3.out.keptN HKD.out)
    go_roundw
    case rel => exact ⟨j + 1, _, _, _, _, _, _, _, ro ++ [⟨a6, c6, NL⟩], nr, hjn, by go_num, rfl, Lib.hid HST2.out, HNNU.out, Lib.hid ((HEI6.out _ _ _ _).sub (fun r hr => by simp only [List.mem_append, List.mem_singleton] at hr ⊢; rcases hr with (h | h) | h <;> simp [h])), Ht, Hf, Hob, Lib.hid (HRC4.out.eq (by rw [HCSJ.out, List.map_append]; rfl) rfl), Lib.hid (Hra.out.eq (by rw [List.flatMap_append, ← HNL.out]; rfl) rfl), Lib.hid (by rw [List.map_append, HRM.out, HASJ.out]; rfl), Lib.hid (by have g0 := HZS.out; omega), BQ⟩
    case measure => simp [intOf]; omega
  ·have hjn' : j = n := by omega
   subst hjn'
   obtain ⟨a6, c6, rfl, rfl⟩ := HNN.out hwn
   have HPZ := Lib.hid (show st.size = 32 ∧ sf.size = 32 by have h9 := HAZ.out j; rw [HPJ.out] at h9; exact h9)
   obtain ⟨cb, q1, rfl, hcN, hcc, hcb⟩ := Hrc0.out.bx (show 0 < j by omega)
   obtain ⟨ab, q2, rfl, haN, hac, hab⟩ := Hra0.out.bx (show 0 < j by omega)
   have HCBZ := Lib.hid (show w15.heap.size ≤ cb ∧ w15.heap.size ≤ ab ∧ cb ≠ ab ∧ cb < wr.heap.size ∧ ab < wr.heap.size from ⟨hcN, haN, fun e => RowO.apart Hrc0.out Hra0.out (by decide) cb rfl (by rw [e]; rfl), hcb.lt, hab.lt⟩)
   have Hcb := Lib.hid hcb
   have Hab := Lib.hid hab
   have HRL := Lib.hid (show ro.length = j by have h9 := congrArg List.length HRM.out; rw [List.length_map, HAL.out] at h9; exact h9)
   have HX0 : ∃ x0, ((CJ j).map Value.string ++ q1)[wh]? = some (.string x0) := ⟨(CJ j)[wh]'(by rw [HCL.out]; exact hwn), by rw [List.getElem?_append_left (by rw [List.length_map, HCL.out]; exact hwn), List.getElem?_map, List.getElem?_eq_getElem (by rw [HCL.out]; exact hwn)]; rfl⟩
   obtain ⟨x0, hx0⟩ := HX0
   have HX0 := Lib.hid hx0
   have HY0 := Lib.hid (show wh < (ro.flatMap RowA.cells ++ q2).length by rw [List.length_append, rows_len, HRL.out]; omega)
   obtain ⟨N, hN⟩ : ∃ N, chN st challengeB + ((grp k).q.m - so % (grp k).q.m) = N := ⟨_, rfl⟩
   have HCH := Lib.hid (fun W hQ => rChallenge_any (grp k).size (grp k).q.m (.slice ap (dl (grp k).p.m) cp) OK.out.q.pos aq cq st challengeB (by rw [HPZ.out.1]; decide) (by decide) W hQ)
   have HSB := Lib.hid (fun a1 a2 c1 c2 W hG hA hB => (show Calls Tryz.prog 77 #[.agg #[.int .i64 ((grp k).size : Int), .slice aq (dl (grp k).q.m) cq, .slice ap (dl (grp k).p.m) cp], .slice a1 (dl (chN st challengeB % (grp k).q.m)) c1, .slice a2 (dl (so % (grp k).q.m)) c2] W fun e w' => NumR W e w' (N % (grp k).q.m) from by
    have h := rSub (G := grp k) (aq := aq) (ap := ap) (cq := cq) (cp := cp) (aa := a1) (ab := a2) (ca := c1) (cb := c2) OK.out (q_16 OK.out (Nat.mod_lt (chN st challengeB) OK.out.q.pos)) (Nat.le_of_lt (Nat.mod_lt so OK.out.q.pos)) W hG hA hB
    rw [Nat.mod_add_mod, hN] at h
    exact h))
   have HNW := Lib.hid (nonceL_len (grp k) (PV wh).f ln)
   have HNS1 := Lib.hid (nonce_small OK.out (PV wh).f ln)
   obtain ⟨NW, hNW⟩ : ∃ L, nonceL (grp k) (PV wh).f ln = L := ⟨_, rfl⟩
   have HNWE := Lib.hid hNW
   rw [hNW] at HNW HNS1 HEI
   have hn64 : ln ≤ 64 := by have h9 := HSX.out.n64; have h8 := HLN.out; omega
   have HANR := Lib.hid (fun an cn W hG hN hW hX => rAnswers_any (G := grp k) (aq := aq) (ap := ap) (cq := cq) (cp := cp) OK.out N (N % (grp k).q.m) rfl NW xs ln HNW.out HXL.out hn64 HNS1.out HSX9.out an a6 ax cn c6 cx W hG hN hW hX)
   have HANS := Lib.hid (ansL_len (grp k) N HNW.out HXL.out)
   obtain ⟨AN, hAN⟩ : ∃ L, ansL (grp k) N NW xs = L := ⟨_, rfl⟩
   have HANE := Lib.hid hAN
   rw [hAN] at HANR HANS
   have HNE := Lib.hid hN
   have HQP := Lib.hid (Nat.mod_lt N OK.out.q.pos)
   have Hout := Lib.hid (Bx.up Hout6.out BQ.out)
   have HNS := Lib.hid HEI.out.n1.1
   clear hcN hcc hcb haN hac hab hx0 hN hNW hAN HNN Hrc0 Hra0
   obtain ⟨M, hM⟩ : ∃ M, N % (grp k).q.m = M := ⟨_, rfl⟩
   rw [hM] at HSB HANR HQP
   have HME := Lib.hid hM
   clear hM
   replace HZS := sz HZS HALL.out
   replace HZS := sz HZS HWZ.out
   replace HZS := sz HZS HCBZ.out
   have bg_ := Hbg.out.c3
   have t_ := Ht.out.c1
   have ob_ := Hob.out.c2
   have out_ := Hout.out.c2
   have BW := Lib.hid (Below.refl wr.heap.size wr)
   go_wp2_with fail
   refine (HCH.out wr ((HRG6.out.up BQ.out)).q).mono ?_
   rintro e w16 ⟨a5, c5, rfl, hn9, hb9⟩
   clear bg_
   replace Hbg := Lib.hid (Hbg.out.up hb9)
   clear t_
   replace Ht := Lib.hid (Ht.out.up hb9)
   clear ob_
   replace Hob := Lib.hid (Hob.out.up hb9)
   clear out_
   replace Hout := Lib.hid (Hout.out.up hb9)
   replace Hcb := Lib.hid (Hcb.out.up hb9)
   replace Hab := Lib.hid (Hab.out.up hb9)
   replace BQ := hbu BQ hb9
   replace BW := hbu BW hb9
   replace HB := hbu HB hb9
   replace HZS := sz HZS hb9.size
   have HN5 := Lib.hid hn9
   clear hn9 hb9
   have bg_ := Hbg.out.c3
   have t_ := Ht.out.c1
   have ob_ := Hob.out.c2
   have out_ := Hout.out.c2
   have BY := Lib.hid (Below.refl w16.heap.size w16)
   have o17_bg_ := bg_; clear bg_
   have o17_t_ := t_; clear t_
   have o17_ob_ := ob_; clear ob_
   have o17_out_ := out_; clear out_
   obtain ⟨w17, hq17, hb9, hz9, Hbw⟩ := new1 w16 89 [.string (chT st challengeB)]
   replace Hbg := Lib.hid (Hbg.out.up hb9)
   replace Ht := Lib.hid (Ht.out.up hb9)
   replace Hob := Lib.hid (Hob.out.up hb9)
   replace Hout := Lib.hid (Hout.out.up hb9)
   replace Hcb := Lib.hid (Hcb.out.up hb9)
   replace Hab := Lib.hid (Hab.out.up hb9)
   replace BQ := hbu BQ hb9
   replace BW := hbu BW hb9
   replace BY := hbu BY hb9
   replace HB := hbu HB hb9
   replace HZS := sz HZS hz9.out
   clear hb9 hz9
   have bg_ := Hbg.out.c3
   have t_ := Ht.out.c1
   have ob_ := Hob.out.c2
   have out_ := Hout.out.c2
   have bw_ := Hbw.out.c1
   go_wp2_with fail
   clear hq17 o17_out_ o17_ob_ o17_t_ o17_bg_
   refine (HSB.out _ _ _ _ w17 (HRG6.out.up BQ.out) (HN5.out.up BY.out) (HNS.out.up BW.out)).mono ?_
   rintro e w18 ⟨a7, c7, rfl, hn9, hb9⟩
   clear bg_
   replace Hbg := Lib.hid (Hbg.out.up hb9)
   clear t_
   replace Ht := Lib.hid (Ht.out.up hb9)
   clear ob_
   replace Hob := Lib.hid (Hob.out.up hb9)
   clear out_
   replace Hout := Lib.hid (Hout.out.up hb9)
   replace Hcb := Lib.hid (Hcb.out.up hb9)
   replace Hab := Lib.hid (Hab.out.up hb9)
   clear bw_
   replace Hbw := Lib.hid (Hbw.out.up hb9)
   replace BQ := hbu BQ hb9
   replace BW := hbu BW hb9
   replace BY := hbu BY hb9
   replace HB := hbu HB hb9
   replace HZS := sz HZS hb9.size
   have HN7 := Lib.hid hn9
   clear hn9 hb9
   have bg_ := Hbg.out.c3
   have t_ := Ht.out.c1
   have ob_ := Hob.out.c2
   have out_ := Hout.out.c2
   have bw_ := Hbw.out.c1
   clear BY HN5
   go_wp2_with fail
   have hob := Hcb.out.lt
   have hoc := Hcb.out.cell HX0.out
   have HT := Lib.hid (show Below w18.heap.size w18 w18.drew from (Below.refl _ _).drew)
   have hl_bg := Hbg.out.lt
   have hl_t := Ht.out.lt
   have hl_ob := Hob.out.lt
   have hl_out := Hout.out.lt
   have hl_bw := Hbw.out.lt
   refine wp_region_treek (fun wq9 => ∃ E : Over w18, wq9 = E.w) 8 ((.qs [0] (.e 1 [] (.qs [2, 3, 4] (.e 5 [] (.a 6 (.qs [7] (.a 8 .done)))))))) (by kernel_rfl) (by kernel_rfl) (fun _ _ d _ _ h => by cases d <;> exact h) ⟨⟨_, HT.out⟩, rfl⟩ ?_
   have hov_bg := fun (E : Over w18) o => E.cell (b := w4.heap.size) o hl_bg
   have hov_t := fun (E : Over w18) o => E.cell (b := w10.heap.size) o hl_t
   have hov_ob := fun (E : Over w18) o => E.cell (b := w13.heap.size) o hl_ob
   have hov_out := fun (E : Over w18) o => E.cell (b := w.heap.size) o hl_out
   have hov_bw := fun (E : Over w18) o => E.cell (b := w16.heap.size) o hl_bw
   have hov_cb := fun (E : Over w18) o => E.cell (b := cb) o hob
   simp only [TreeK.qs]
   repeat (first | (refine treek_q rfl rfl ?_; go_big_quiet_step (fail); refine wpQuiet_nil ?_) | (refine treek_e rfl rfl ?_; go_big_quiet_step (fail); refine wpQuiet_nil ?_))
   refine treek_a rfl (fun K hK => ?_)
   go_simp
   refine (rText OK.out (q_16 OK.out HQP.out) _ (HN7.out.up HT.out)).mono ?_
   rintro e w19 ⟨rfl, hb9⟩
   replace HT := Lib.hid (below_up HT.out hb9)
   replace HZS := sz HZS (show w18.heap.size ≤ w19.heap.size from HT.out.size)
   clear hb9
   refine hK _ _ ⟨fun _ => ⟨⟨w19, HT.out⟩, rfl⟩, ?_⟩
   clear hK K
   repeat (first | (refine treek_q rfl rfl ?_; go_big_quiet_step (fail); refine wpQuiet_nil ?_) | (refine treek_e rfl rfl ?_; go_big_quiet_step (fail); refine wpQuiet_nil ?_))
   clear hoc hob hov_bg hl_bg hov_t hl_t hov_ob hl_ob hov_out hl_out hov_bw hl_bw hov_cb bg_
   replace Hbg := Lib.hid (Hbg.out.up HT.out)
   clear t_
   replace Ht := Lib.hid (Ht.out.up HT.out)
   clear ob_
   replace Hob := Lib.hid (Hob.out.up HT.out)
   clear out_
   replace Hout := Lib.hid (Hout.out.up HT.out)
   replace Hcb := Lib.hid (Hcb.out.up HT.out)
   replace Hab := Lib.hid (Hab.out.up HT.out)
   clear bw_
   replace Hbw := Lib.hid (Hbw.out.up HT.out)
   replace HN7 := Lib.hid (HN7.out.up HT.out)
   replace BQ := hbu BQ HT.out
   replace BW := hbu BW HT.out
   replace HB := hbu HB HT.out
   replace HZS := sz HZS HT.out.size
   clear HT
   have HEI7 := Lib.hid (HEI.out.up BW.out)
   clear BW
   have hoc := Hcb.out.cell HX0.out
   have HN8 := Lib.hid (NumAt.setStr HN7.out hoc (.string (textS M (grp k).size)))
   have HKC := Lib.hid (Kept.refl (fun q9 => q9 = cb) w19)
   have bg_ := Hbg.out.c3
   have t_ := Ht.out.c1
   have ob_ := Hob.out.c2
   have out_ := Hout.out.c2
   have bw_ := Hbw.out.c1
   have f20_cb := Hcb.out.frozen
   have o20_bg_ := bg_; clear bg_
   have o20_t_ := t_; clear t_
   have o20_ob_ := ob_; clear ob_
   have o20_out_ := out_; clear out_
   have o20_bw_ := bw_; clear bw_
   obtain ⟨w20, hq20, hg9, hz9, hx9⟩ := put1 Hcb wh (.string (textS M (grp k).size)) _ rfl
   replace Hbg := Lib.hid (Hbg.out.grown hg9.out (sne (by have g0 := HZS.out; omega)))
   replace Ht := Lib.hid (Ht.out.grown hg9.out (sne (by have g0 := HZS.out; omega)))
   replace Hob := Lib.hid (Hob.out.grown hg9.out (sne (by have g0 := HZS.out; omega)))
   replace Hout := Lib.hid (Hout.out.grown hg9.out (sne (by have g0 := HZS.out; omega)))
   replace Hab := Lib.hid (Hab.out.grown hg9.out (sne (by have g0 := HZS.out; omega)))
   replace Hbw := Lib.hid (Hbw.out.grown hg9.out (sne (by have g0 := HZS.out; omega)))
   replace BQ := hbg BQ hg9 (by have g0 := HZS.out; omega)
   replace HKC := Lib.hid (Kept.grown HKC.out hg9.out (fun q9 e9 => by obtain rfl := Option.some.inj e9; exact Or.inr (rfl)))
   clear HN7
   replace HB := hbg HB hg9 (by have g0 := HZS.out; omega)
   replace HZS := sz HZS hz9.out
   replace Hcb := hx9
   clear hx9 hg9 hz9
   have bg_ := Hbg.out.c3
   have t_ := Ht.out.c1
   have ob_ := Hob.out.c2
   have out_ := Hout.out.c2
   have bw_ := Hbw.out.c1
   rw [hq20] at HN8
   refine treek_a rfl (fun K hK => ?_)
   go_simp
   try rw [hq20]
   refine hK _ _ ⟨fun h9 => absurd rfl h9, ?_⟩
   clear hK K hq20 o20_bw_ o20_out_ o20_ob_ o20_t_ o20_bg_ f20_cb hoc
   refine treek_end ?_
   have HRO := Lib.hid (HEI7.out.r2.keptO HKC.out (fun r hr x hx e => ((HEI7.out.r1 r hr).2.1 x hx).2.2 (by rw [show x.block = cb from e]; rfl)))
   clear HKC HEI7
   have BX := Lib.hid (Below.refl w20.heap.size w20)
   go_wp2_with fail
   have HNT := Lib.hid ((HRO.out ⟨a6, c6, NW⟩ (by simp)).1)
   have HRGW := Lib.hid (HRG6.out.up BQ.out)
   have HSW := Lib.hid (HS.out.up HB.out)
   have hob := Hab.out.lt
   have hoc := Hab.out.cell (List.getElem?_eq_getElem HY0.out)
   have HT := Lib.hid (show Below w20.heap.size w20 w20.drew from (Below.refl _ _).drew)
   have hl_bg := Hbg.out.lt
   have hl_t := Ht.out.lt
   have hl_ob := Hob.out.lt
   have hl_out := Hout.out.lt
   have hl_bw := Hbw.out.lt
   refine wp_region_treek (fun wq9 => ∃ E : Over w20, wq9 = E.w) 9 ((.qs [0] (.e 1 [] (.qs [2] (.e 3 [] (.qs [4, 5, 6] (.a 7 (.qs [8] (.a 9 .done))))))))) (by kernel_rfl) (by kernel_rfl) (fun _ _ d _ _ h => by cases d <;> exact h) ⟨⟨_, HT.out⟩, rfl⟩ ?_
   have hov_bg := fun (E : Over w20) o => E.cell (b := w4.heap.size) o hl_bg
   have hov_t := fun (E : Over w20) o => E.cell (b := w10.heap.size) o hl_t
   have hov_ob := fun (E : Over w20) o => E.cell (b := w13.heap.size) o hl_ob
   have hov_out := fun (E : Over w20) o => E.cell (b := w.heap.size) o hl_out
   have hov_bw := fun (E : Over w20) o => E.cell (b := w16.heap.size) o hl_bw
   have hov_ab := fun (E : Over w20) o => E.cell (b := ab) o hob
   simp only [TreeK.qs]
   repeat (first | (refine treek_q rfl rfl ?_; go_big_quiet_step (fail); refine wpQuiet_nil ?_) | (refine treek_e rfl rfl ?_; go_big_quiet_step (fail); refine wpQuiet_nil ?_))
   refine treek_a rfl (fun K hK => ?_)
   go_simp
   refine (HANR.out a7 c7 _ (HRGW.out.up HT.out) (HN8.out.up HT.out) (HNT.out.up HT.out) (HSW.out.up HT.out)).mono ?_
   rintro e w21 ⟨a4, c4, rfl, hs5, hc6, hc5, hf5, hb9⟩
   replace HT := Lib.hid (below_up HT.out hb9)
   replace HZS := sz HZS (show w20.heap.size ≤ w21.heap.size from HT.out.size)
   clear hb9
   have HS5 := Lib.hid hs5
   clear hs5
   have HC6 := Lib.hid hc6
   clear hc6
   have HC5 := Lib.hid hc5
   clear hc5
   have HF5 := Lib.hid hf5
   clear hf5
   refine hK _ _ ⟨fun _ => ⟨⟨w21, HT.out⟩, rfl⟩, ?_⟩
   clear hK K
   repeat (first | (refine treek_q rfl rfl ?_; go_big_quiet_step (fail); refine wpQuiet_nil ?_) | (refine treek_e rfl rfl ?_; go_big_quiet_step (fail); refine wpQuiet_nil ?_))
   clear hoc hob hov_bg hl_bg hov_t hl_t hov_ob hl_ob hov_out hl_out hov_bw hl_bw hov_ab bg_
   replace Hbg := Lib.hid (Hbg.out.up HT.out)
   clear t_
   replace Ht := Lib.hid (Ht.out.up HT.out)
   clear ob_
   replace Hob := Lib.hid (Hob.out.up HT.out)
   clear out_
   replace Hout := Lib.hid (Hout.out.up HT.out)
   replace Hcb := Lib.hid (Hcb.out.up HT.out)
   replace Hab := Lib.hid (Hab.out.up HT.out)
   clear bw_
   replace Hbw := Lib.hid (Hbw.out.up HT.out)
   replace BQ := hbu BQ HT.out
   replace BX := hbu BX HT.out
   replace HB := hbu HB HT.out
   replace HZS := sz HZS HT.out.size
   clear HT
   have HRO2 := Lib.hid (HRO.out.up BX.out)
   have HBX := Lib.hid BX.out.size
   clear BX
   have hoc := Hab.out.cell (List.getElem?_eq_getElem HY0.out)
   have HKE := Lib.hid (Kept.refl (fun q9 => q9 = ab) w21)
   have bg_ := Hbg.out.c3
   have t_ := Ht.out.c1
   have ob_ := Hob.out.c2
   have out_ := Hout.out.c2
   have bw_ := Hbw.out.c1
   have f22_ab := Hab.out.frozen
   have o22_bg_ := bg_; clear bg_
   have o22_t_ := t_; clear t_
   have o22_ob_ := ob_; clear ob_
   have o22_out_ := out_; clear out_
   have o22_bw_ := bw_; clear bw_
   obtain ⟨w22, hq22, hg9, hz9, hx9⟩ := put1 Hab wh (.slice a4 ln c4) _ rfl
   replace Hbg := Lib.hid (Hbg.out.grown hg9.out (sne (by have g0 := HZS.out; omega)))
   replace Ht := Lib.hid (Ht.out.grown hg9.out (sne (by have g0 := HZS.out; omega)))
   replace Hob := Lib.hid (Hob.out.grown hg9.out (sne (by have g0 := HZS.out; omega)))
   replace Hout := Lib.hid (Hout.out.grown hg9.out (sne (by have g0 := HZS.out; omega)))
   replace Hcb := Lib.hid (Hcb.out.grown hg9.out (sne (by have g0 := HZS.out; omega)))
   replace Hbw := Lib.hid (Hbw.out.grown hg9.out (sne (by have g0 := HZS.out; omega)))
   replace BQ := hbg BQ hg9 (by have g0 := HZS.out; omega)
   replace HKE := Lib.hid (Kept.grown HKE.out hg9.out (fun q9 e9 => by obtain rfl := Option.some.inj e9; exact Or.inr (rfl)))
   replace HB := hbg HB hg9 (by have g0 := HZS.out; omega)
   replace HZS := sz HZS hz9.out
   replace Hab := hx9
   clear hx9 hg9 hz9
   have bg_ := Hbg.out.c3
   have t_ := Ht.out.c1
   have ob_ := Hob.out.c2
   have out_ := Hout.out.c2
   have bw_ := Hbw.out.c1
   refine treek_a rfl (fun K hK => ?_)
   go_simp
   try rw [hq22]
   refine hK _ _ ⟨fun h9 => absurd rfl h9, ?_⟩
   clear hK K hq22 o22_bw_ o22_out_ o22_ob_ o22_t_ o22_bg_ f22_ab hoc
   refine treek_end ?_
   have HRO3 := Lib.hid (HRO2.out.keptO HKE.out (fun r hr x hx e => ((HRO2.out r hr).2.1 x hx).2.2 (by rw [show x.block = ab from e]; rfl)))
   have HS6 := Lib.hid (Sl.kept HS5.out HKE.out (fun x hx e => by have h1 : w20.heap.size ≤ x.block := HF5.out x hx; have e : x.block = ab := e; have g0 := HZS.out; omega))
   clear HKE HRO2 HRO HS5 BQ
   have HKO := Lib.hid (Kept.refl (fun q9 => q9 < w15.heap.size) w22)
   have f23_out := Hout.out.frozen
   have o23_bg_ := bg_; clear bg_
   have o23_t_ := t_; clear t_
   have o23_ob_ := ob_; clear ob_
   have o23_out_ := out_; clear out_
   have o23_bw_ := bw_; clear bw_
   obtain ⟨w23, hq23, hg9, hz9, hx9⟩ := put2 Hout 0 (.slice (some ⟨cb, 0, none⟩) j d1) 1 (.slice (some ⟨ab, 0, none⟩) j d2) [.slice (some ⟨cb, 0, none⟩) j d1, .slice (some ⟨ab, 0, none⟩) j d2] rfl
   replace Hbg := Lib.hid (Hbg.out.grown hg9.out (sne (by have g0 := HZS.out; omega)))
   replace Ht := Lib.hid (Ht.out.grown hg9.out (sne (by have g0 := HZS.out; omega)))
   replace Hob := Lib.hid (Hob.out.grown hg9.out (sne (by have g0 := HZS.out; omega)))
   replace Hcb := Lib.hid (Hcb.out.grown hg9.out (sne (by have g0 := HZS.out; omega)))
   replace Hab := Lib.hid (Hab.out.grown hg9.out (sne (by have g0 := HZS.out; omega)))
   replace Hbw := Lib.hid (Hbw.out.grown hg9.out (sne (by have g0 := HZS.out; omega)))
   replace HKO := Lib.hid (Kept.grown HKO.out hg9.out (fun q9 e9 => by obtain rfl := Option.some.inj e9; exact (by first | exact Or.inr (show w.heap.size < w15.heap.size by have g0 := HZS.out; omega) | exact Or.inl (show w22.heap.size ≤ w.heap.size by have g0 := HZS.out; omega))))
   replace HB := hbg HB hg9 (by have g0 := HZS.out; omega)
   replace HZS := sz HZS hz9.out
   replace Hout := hx9
   clear hx9 hg9 hz9
   have bg_ := Hbg.out.c3
   have t_ := Ht.out.c1
   have ob_ := Hob.out.c2
   have out_ := Hout.out.c2
   have bw_ := Hbw.out.c1
   go_wp2_with fail
   clear hq23 o23_bw_ o23_out_ o23_ob_ o23_t_ o23_bg_ f23_out
   have HRO4 := Lib.hid (HRO3.out.keptO HKO.out (fun r hr x hx e => by have h1 := ((HRO3.out r hr).2.1 x hx).1; have e : x.block < _ := e; omega))
   have HS7 := Lib.hid (Sl.kept HS6.out HKO.out (fun x hx e => by have h1 : w20.heap.size ≤ x.block := HF5.out x hx; have e : x.block < w15.heap.size := e; have g0 := HZS.out; omega))
   simp [bodyPost, results, Tryz.results18, go_sem, out_]
   exact (by rw [HPJ.out]; dsimp only; rw [HLW.out, HLN.out, HNE.out, HNWE.out, HANE.out, HME.out]; exact eithR_setO HB.out (HCL.out j) hwn HRL.out HRM.out HANS.out Hcb.out Hab.out (fun r hr => ⟨(HRO4.out r (by simp [hr])).1, (HRO4.out r (by simp [hr])).2.2⟩) HS7.out HC5.out HC6.out)
end Go.Proofs.YtdlnnkbigeiilaaGreat
namespace Go.Proofs.YtdlnnkbigeiilaaGreat
open Go.RowKit
theorem rProveAny_any (k : Int) (label seed : ByteArray) (hlb : label.size < 140737488355328) (hsd : seed.size < 140737488355328) (ss : List SetA) (al : Option Addr) (cl : Nat) (wh : Int) (xs : List ByteArray) (ax : Option Addr) (cx : Nat) (hm : xs.length ≤ 8796093022207) (w : World) (hC : SetsAt w al ss) (hS : Sl w w.heap.size ax (xs.map Value.string)) :
  Calls Tryz.prog 18 #[.int .i64 k, .string label, .slice al ss.length cl, .int .i64 wh, .slice ax xs.length cx, .string seed] w (EithR (pvE k ss wh xs : Int) (pvCK k label seed ss wh xs) (pvAK k label seed ss wh xs) w) := by
 unfold pvCK pvAK
 by_cases h : pvE k ss wh xs = 0
 ·rw [if_pos h, if_pos h, h]
  obtain ⟨j, v, rfl, h1, h3, rfl, hv, hz, hs, hh⟩ := pvE_ok h
  rw [Int.toNat_natCast, Int.toNat_natCast]
  exact rPany_body j h1 h3 label seed hlb hsd ss ss.length rfl al cl hz v hv xs ax cx hm hs hh w hC hS
 ·rw [if_neg h, if_neg h]
  unfold pvE at h ⊢
  by_cases hk : 1 ≤ k ∧ k ≤ 3
  case neg => rw [if_neg hk]; exact rPany_none k hk label seed _ _ wh w
  rw [if_pos hk] at h ⊢
  obtain ⟨j, rfl⟩ : ∃ j : Nat, k = j := ⟨k.toNat, by omega⟩
  rw [Int.toNat_natCast] at h ⊢
  by_cases hz : setsE (grp j) ss = 0
  case neg => rw [if_pos hz]; exact rPany_bad j (by omega) (by omega) label seed ss ss.length rfl al cl hz _ wh w hC
  rw [if_neg (fun e => e hz)] at h ⊢
  by_cases hw : wh < 0 ∨ (ss.length : Int) ≤ wh
  case pos => rw [if_pos hw]; exact rPany_range j (by omega) (by omega) label seed ss ss.length rfl al cl hz _ wh hw w hC
  rw [if_neg hw] at h ⊢
  obtain ⟨v, rfl⟩ : ∃ v : Nat, wh = v := ⟨wh.toNat, by omega⟩
  rw [Int.toNat_natCast] at h ⊢
  by_cases hs : scE (grp j) (pvL (ss.map SetA.l) v).length xs = 0
  case neg => rw [if_pos hs]; exact rPany_sc j (by omega) (by omega) label seed ss ss.length rfl al cl hz v (by omega) xs ax cx hm _ rfl hs w hC hS
  rw [if_neg (fun e => e hs)] at h ⊢
  by_cases hh : holdP (grp j) (pvL (ss.map SetA.l) v) xs = true
  case pos => rw [if_pos hh] at h; exact absurd rfl h
  rw [if_neg hh]
  exact rPany_hold j (by omega) (by omega) label seed ss ss.length rfl al cl hz v (by omega) xs ax cx hm hs (Bool.eq_false_iff.2 hh) w hC hS
end Go.Proofs.YtdlnnkbigeiilaaGreat
namespace Go.Proofs.YtdlnnkbigeiilaaGreat
open Go.RowKit
theorem take_eq_snoc {l m : List ByteArray} {j : Nat} (hl : j < l.length) (hm : j < m.length) (h : l.take j = m.take j) (h1 : l[j] = m[j]) : l.take (j + 1) = m.take (j + 1) := by
 rw [List.take_succ_eq_append_getElem hl, List.take_succ_eq_append_getElem hm, h, h1]
theorem same5_any (l m : List ByteArray) (al am : Option Addr) (cl cm : Nat) (hl : l.length ≤ 8796093022207) (b : Bool) (hb : decide (l = m) = b) (w : World) (hL : Sl w w.heap.size al (l.map Value.string)) (hM : Sl w w.heap.size am (m.map Value.string)) :
  Calls Tryz.prog 16 #[.slice al l.length cl, .slice am m.length cm] w (Gives (.bool b) w) := by
 have HL := Lib.hid hL
 have HM := Lib.hid hM
 have HBB := Lib.hid hb
 clear hL hM hb
 unfold Gives
 by_cases h1 : l.length = m.length
 ·have hd : ((l.length : Int) != (m.length : Int)) = false := by rw [bne_eq_false_iff_eq]; omega
  obtain ⟨n, hn⟩ : ∃ n, l.length = n := ⟨_, rfl⟩
  have hm : m.length = n := by omega
  have HNL := Lib.hid hn
  have HNM := Lib.hid hm
  rw [hn] at hd hl ⊢
  rw [hm] at hd ⊢
  clear h1 hn hm
  go_enter Tryz.func16, Tryz.ntmps16
  go_wp2_with fail
  go_loopw [13] (fun i wr => ∃ j : Nat, j ≤ n ∧ i = .int .i64 j ∧ Hid (Below w.heap.size w wr) ∧ Hid (l.take j = m.take j)) (fun i _ => n - (intOf i).toNat)
  case atStart => exact ⟨0, Nat.zero_le _, rfl, Below.refl _ _, rfl⟩
  case round =>
   obtain ⟨j, hj, rfl, HB, HT⟩ := hrel
   by_cases hjn : j < n
   ·skip
    have hjl : j < l.length := by rw [HNL.out]; exact hjn
    have hjm : j < m.length := by rw [HNM.out]; exact hjn
    obtain ⟨b1, o1, rfl, hb10, hb1, hc1⟩ := HL.out.atUp HB.out j (by simpa using hjl)
    obtain ⟨b2, o2, rfl, hb20, hb2, hc2⟩ := HM.out.atUp HB.out j (by simpa using hjm)
    rw [List.getElem_map] at hc1 hc2
    have HTS := Lib.hid (take_eq_snoc hjl hjm HT.out)
    have HNE := Lib.hid (fun (h : ¬ l[j] = m[j]) => (show ¬ l = m from fun e => h (by subst e; rfl)))
    generalize l[j] = x at *
    generalize m[j] = y at *
    by_cases hxy : x = y
    ·have HF := Lib.hid (HTS.out hxy)
     subst hxy
     go_wp2_with fail
     refine wp_region_over (by kernel_rfl) (by kernel_rfl) ?_
     have hov_b1 := fun (E : Over wr) o => E.cell (b := b1) o hb1
     have hov_b2 := fun (E : Over wr) o => E.cell (b := b2) o hb2
     repeat (go_big_quiet_step (first | fail))
     all_goals (try unfold elV limbV)
     repeat (go_big_quiet_step (first | fail))
     all_goals (try unfold elV limbV)
     repeat (go_big_quiet_step (first | fail))
     all_goals (try unfold ciphV)
     refine wpQuiet_nil ?_
     rintro _ ⟨E, rfl⟩
     clear hov_b1 hov_b2
     replace HB := hbu HB E.h
     have HZS := Lib.hid E.h.size
     obtain ⟨w1, hq9⟩ : ∃ W9 : World, E.w = W9 := ⟨_, rfl⟩
     rw [hq9] at HB HZS ⊢
     clear hq9 E
     go_wp2_with fail
     go_roundw
     case rel => exact ⟨j + 1, by omega, by go_num, HB, HF⟩
     case measure => simp [intOf]; omega
    ·obtain rfl : b = false := by rw [← HBB.out]; exact decide_eq_false (HNE.out hxy)
     have hcd := toList_bne hxy
     clear hxy
     go_wp2_with fail
     refine wp_region_over (by kernel_rfl) (by kernel_rfl) ?_
     have hov_b1 := fun (E : Over wr) o => E.cell (b := b1) o hb1
     have hov_b2 := fun (E : Over wr) o => E.cell (b := b2) o hb2
     repeat (go_big_quiet_step (first | fail))
     all_goals (try unfold elV limbV)
     repeat (go_big_quiet_step (first | fail))
     all_goals (try unfold elV limbV)
     repeat (go_big_quiet_step (first | fail))
     all_goals (try unfold ciphV)
     refine wpQuiet_nil ?_
     rintro _ ⟨E, rfl⟩
     clear hov_b1 hov_b2
     replace HB := hbu HB E.h
     have HZS := Lib.hid E.h.size
     obtain ⟨w1, hq9⟩ : ∃ W9 : World, E.w = W9 := ⟨_, rfl⟩
     rw [hq9] at HB HZS ⊢
     clear hq9 E
     go_wp2_with fail
     go_ret
     exact ⟨rfl, HB.out⟩
   ·have hjn' : j = n := by omega
    subst hjn'
    obtain rfl : b = true := by
     rw [← HBB.out]
     refine decide_eq_true ?_
     have h9 := HT.out
     rwa [List.take_of_length_le (by rw [HNL.out]; exact Nat.le_refl _), List.take_of_length_le (by rw [HNM.out]; exact Nat.le_refl _)] at h9
    go_wp2_with fail
    go_ret
    exact ⟨rfl, HB.out⟩
 ·have hd : ((l.length : Int) != (m.length : Int)) = true := by rw [bne_iff_ne]; omega
  obtain rfl : b = false := by rw [← HBB.out]; exact decide_eq_false (fun e => h1 (by rw [e]))
  clear h1
  go_enter Tryz.func16, Tryz.ntmps16
  go_wp2_with fail
  go_ret
  exact ⟨rfl, Below.refl _ _⟩
end Go.Proofs.YtdlnnkbigeiilaaGreat
namespace Go.Proofs.YtdlnnkbigeiilaaGreat
open Go.RowKit
theorem take_rows {L M : List (List ByteArray)} {j : Nat} (hl : j < L.length) (hm : j < M.length) (h : L.take j = M.take j) (h1 : L[j] = M[j]) : L.take (j + 1) = M.take (j + 1) := by
 rw [List.take_succ_eq_append_getElem hl, List.take_succ_eq_append_getElem hm, h, h1]
theorem sameLists5_any (L M : List (List ByteArray)) (n m : Nat) (hL : L.length = n) (hM : M.length = m) (hn : n ≤ 8796093022206) (hr : ∀ r ∈ L, r.length ≤ 8796093022206) (ro so : List RowA) (h1 : ro.map RowA.l = L) (h2 : so.map RowA.l = M) (b : Bool) (hb : decide (L = M) = b) (a1 a2 : Option Addr) (c1 c2 : Nat) (w : World) (hR : RowsAt w a1 ro) (hS : RowsAt w a2 so) :
  Calls Tryz.prog 19 #[.slice a1 n c1, .slice a2 m c2] w (Gives (.bool b) w) := by
 have hn1 : ro.length = n := by rw [← hL, ← h1, List.length_map]
 have hn2 : so.length = m := by rw [← hM, ← h2, List.length_map]
 have HN1 := Lib.hid hn1
 have HN2 := Lib.hid hn2
 have HLL := Lib.hid hL
 have HLM := Lib.hid hM
 have HBB := Lib.hid hb
 have HE := Lib.hid (fun i (g1 : i < ro.length) (g2 : i < L.length) => (show L[i] = ro[i].l by subst h1; simp))
 have HF := Lib.hid (fun i (g1 : i < so.length) (g2 : i < M.length) => (show M[i] = so[i].l by subst h2; simp))
 have HLE := Lib.hid (fun i (g1 : i < ro.length) => (show ro[i].l.length ≤ 8796093022207 by
  have := hr ro[i].l (by rw [← h1]; exact List.mem_map.2 ⟨_, List.getElem_mem g1, rfl⟩)
  omega))
 have HR := Lib.hid hR
 have HS := Lib.hid hS
 clear hn1 hn2 h1 h2 hr hR hS hL hM hb
 unfold Gives
 by_cases hnm : n = m
 ·subst hnm
  have hd : ((n : Int) != (n : Int)) = false := by simp
  go_enter Tryz.func19, Tryz.ntmps19
  go_wp2_with fail
  go_loopw [13] (fun i wr => ∃ j : Nat, j ≤ n ∧ i = .int .i64 j ∧ Hid (Below w.heap.size w wr) ∧ Hid (L.take j = M.take j)) (fun i _ => n - (intOf i).toNat)
  case atStart => exact ⟨0, Nat.zero_le _, rfl, Below.refl _ _, rfl⟩
  case round =>
   obtain ⟨j, hj, rfl, HB, HT⟩ := hrel
   by_cases hjn : j < n
   ·skip
    have g1 : j < ro.length := by rw [HN1.out]; exact hjn
    have g2 : j < so.length := by rw [HN2.out]; exact hjn
    have g3 : j < L.length := by rw [HLL.out]; exact hjn
    have g4 : j < M.length := by rw [HLM.out]; exact hjn
    obtain ⟨b1, o1, rfl, hb10, hb1, hc1⟩ := HR.out.cell HB.out j g1
    obtain ⟨b2, o2, rfl, hb20, hb2, hc2⟩ := HS.out.cell HB.out j g2
    have HP := Lib.hid (show Sl wr wr.heap.size ro[j].a (ro[j].l.map Value.string) from (HR.out.up HB.out).one j g1)
    have HQ := Lib.hid (show Sl wr wr.heap.size so[j].a (so[j].l.map Value.string) from (HS.out.up HB.out).one j g2)
    have HYE := Lib.hid (fun (e : ro[j].l = so[j].l) => take_rows g3 g4 HT.out ((HE.out j g1 g3).trans (e.trans (HF.out j g2 g4).symm)))
    have HNE := Lib.hid (fun (e : ¬ ro[j].l = so[j].l) => (show ¬ L = M from fun e' => e ((HE.out j g1 g3).symm.trans (Eq.trans (by subst e'; rfl) (HF.out j g2 g4)))))
    have HLJ := Lib.hid (HLE.out j g1)
    generalize ro[j] = r at *
    generalize so[j] = s at *
    obtain ⟨bj, hbj⟩ : ∃ x, decide (r.l = s.l) = x := ⟨_, rfl⟩
    have HBJ := Lib.hid hbj
    cases bj
    ·obtain rfl : b = false := by rw [← HBB.out]; exact decide_eq_false (HNE.out (of_decide_eq_false hbj))
     clear hbj
     go_wp2_with fail
     refine wp_region_over (by kernel_rfl) (by kernel_rfl) ?_
     have hov_b1 := fun (E : Over wr) o => E.cell (b := b1) o hb1
     have hov_b2 := fun (E : Over wr) o => E.cell (b := b2) o hb2
     repeat (go_big_quiet_step (first | (go_at_call 16; exact calls_over (same5_any r.l s.l r.a s.a r.c s.c HLJ.out false HBJ.out _ (HP.out.up (Over.h _)) (HQ.out.up (Over.h _))))))
     all_goals (try unfold elV limbV)
     repeat (go_big_quiet_step (first | (go_at_call 16; exact calls_over (same5_any r.l s.l r.a s.a r.c s.c HLJ.out false HBJ.out _ (HP.out.up (Over.h _)) (HQ.out.up (Over.h _))))))
     all_goals (try unfold elV limbV)
     repeat (go_big_quiet_step (first | (go_at_call 16; exact calls_over (same5_any r.l s.l r.a s.a r.c s.c HLJ.out false HBJ.out _ (HP.out.up (Over.h _)) (HQ.out.up (Over.h _))))))
     all_goals (try unfold ciphV)
     refine wpQuiet_nil ?_
     rintro _ ⟨E, rfl⟩
     clear hov_b1 hov_b2
     replace HB := hbu HB E.h
     have HZS := Lib.hid E.h.size
     obtain ⟨w1, hq9⟩ : ∃ W9 : World, E.w = W9 := ⟨_, rfl⟩
     rw [hq9] at HB HZS ⊢
     clear hq9 E
     go_wp2_with fail
     go_ret
     exact ⟨rfl, HB.out⟩
    ·have HTS := Lib.hid (HYE.out (of_decide_eq_true hbj))
     clear hbj
     go_wp2_with fail
     refine wp_region_over (by kernel_rfl) (by kernel_rfl) ?_
     have hov_b1 := fun (E : Over wr) o => E.cell (b := b1) o hb1
     have hov_b2 := fun (E : Over wr) o => E.cell (b := b2) o hb2
     repeat (go_big_quiet_step (first | (go_at_call 16; exact calls_over (same5_any r.l s.l r.a s.a r.c s.c HLJ.out true HBJ.out _ (HP.out.up (Over.h _)) (HQ.out.up (Over.h _))))))
     all_goals (try unfold elV limbV)
     repeat (go_big_quiet_step (first | (go_at_call 16; exact calls_over (same5_any r.l s.l r.a s.a r.c s.c HLJ.out true HBJ.out _ (HP.out.up (Over.h _)) (HQ.out.up (Over.h _))))))
     all_goals (try unfold elV limbV)
     repeat (go_big_quiet_step (first | (go_at_call 16; exact calls_over (same5_any r.l s.l r.a s.a r.c s.c HLJ.out true HBJ.out _ (HP.out.up (Over.h _)) (HQ.out.up (Over.h _))))))
     all_goals (try unfold ciphV)
     refine wpQuiet_nil ?_
     rintro _ ⟨E, rfl⟩
     clear hov_b1 hov_b2
     replace HB := hbu HB E.h
     have HZS := Lib.hid E.h.size
     obtain ⟨w1, hq9⟩ : ∃ W9 : World, E.w = W9 := ⟨_, rfl⟩
     rw [hq9] at HB HZS ⊢
     clear hq9 E
     go_wp2_with fail
     go_roundw
     case rel => exact ⟨j + 1, by omega, by go_num, HB, HTS⟩
     case measure => simp [intOf]; omega
   ·have hjn' : j = n := by omega
    subst hjn'
    obtain rfl : b = true := by
     rw [← HBB.out]
     refine decide_eq_true ?_
     have h9 := HT.out
     rwa [List.take_of_length_le (by rw [HLL.out]; exact Nat.le_refl _), List.take_of_length_le (by rw [HLM.out]; exact Nat.le_refl _)] at h9
    go_wp2_with fail
    go_ret
    exact ⟨rfl, HB.out⟩
 ·have hd : ((n : Int) != (m : Int)) = true := by rw [bne_iff_ne]; omega
  obtain rfl : b = false := by rw [← HBB.out]; exact decide_eq_false (fun e => hnm (by rw [← HLL.out, ← HLM.out, e]))
  clear hnm
  go_enter Tryz.func19, Tryz.ntmps19
  go_wp2_with fail
  go_ret
  exact ⟨rfl, Below.refl _ _⟩
theorem sameLists5_true (L : List (List ByteArray)) (n : Nat) (hL : L.length = n) (hn : n ≤ 8796093022206) (hr : ∀ r ∈ L, r.length ≤ 8796093022206) (ro so : List RowA) (h1 : ro.map RowA.l = L) (h2 : so.map RowA.l = L) (a1 a2 : Option Addr) (c1 c2 : Nat) (w : World) (hR : RowsAt w a1 ro) (hS : RowsAt w a2 so) :
  Calls Tryz.prog 19 #[.slice a1 n c1, .slice a2 n c2] w (Gives (.bool true) w) :=
 sameLists5_any L L n n hL hL hn hr ro so h1 h2 true (decide_eq_true rfl) a1 a2 c1 c2 w hR hS
end Go.Proofs.YtdlnnkbigeiilaaGreat
namespace Go.Proofs.YtdlnnkbigeiilaaGreat
open Go.ChangeShapes Go.WideShapes Go.ChangeAt Go.RowKit
theorem flat_range (g : Nat → Value) (k len : Nat) : ((List.range len).map fun i => (List.range k).map fun j => g (i * k + j)).flatten = (List.range (len * k)).map g := by
 induction len with
 | zero => simp
 | succ m ih =>
  rw [List.range_succ, List.map_append, List.flatten_append, ih, Nat.succ_mul, List.range_add, List.map_append]
  simp [List.map_map, Function.comp_def]
section
variable {H : Type} {enc : TypeId × Value → H} {P : Program} {w : World}
theorem list_shapes {α : Type} (f : α → List Value) (R : α → Prop) : ∀ css : List (List Value), (∀ l ∈ css, ∃ x, l = f x ∧ R x) → ∃ xs : List α, xs.length = css.length ∧ css.flatten = xs.flatMap f ∧ ∀ x ∈ xs, R x
 | [], _ => ⟨[], rfl, rfl, by simp⟩
 | l :: css, h => by
  obtain ⟨x, rfl, hR⟩ := h l (by simp)
  obtain ⟨xs, h1, h2, h3⟩ := list_shapes f R css (fun c hc => h c (by simp [hc]))
  refine ⟨x :: xs, by simp [h1], by simp [h2], ?_⟩
  intro y hy
  rcases List.mem_cons.1 hy with rfl | hy
  ·exact hR
  ·exact h3 y hy
theorem list2 {cs : List Value} (h : cs.length = 2) : ∃ a b, cs = [a, b] := by
 match cs, h with
 | [a, b], _ => exact ⟨a, b, rfl⟩
theorem open_str {sp : Nat → Bool} {held : Bool} {t : TypeId} {fuel : Nat} {c : Value} {y : DataW H × List MemPlace} (ht : P.underlying t = some .string) (h : DataW.trod enc P w 0 sp held fuel t [c] = some y) : ∃ s : ByteArray, c = .string s := by
 obtain ⟨s, hs, _⟩ := DataW.trod_string ht h
 simp only [List.cons.injEq, and_true] at hs
 exact ⟨s, hs⟩
end
end Go.Proofs.YtdlnnkbigeiilaaGreat
