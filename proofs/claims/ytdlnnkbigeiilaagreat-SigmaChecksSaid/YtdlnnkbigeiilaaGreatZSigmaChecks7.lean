/- SigmaChecks: VerifyAny of anything answers what the document says. No condition. -/
import Derived.Test.YtdlnnkbigeiilaaGreatZSigmaChecks6
import Derived.Outline

set_option maxRecDepth 100000
set_option maxHeartbeats 4000000
set_option linter.unusedVariables false
set_option linter.unusedSimpArgs false
namespace Go.Proofs.YtdlnnkbigeiilaaGreat
open Go.RowKit
theorem sRAll_ok (G : GP) (ok : G.Ok) (gb : Nat) (ss : List SetA) (al : Option Addr) (cl : Nat) (w : World) (hG : GroupAt w gb G) (hC : SetsAt w al ss) (hz : setsE G ss = 0) :
  Calls Tryz.prog 51 #[.pointer (some ⟨gb, 0, none⟩), .slice al ss.length cl] w fun e w' => Below w.heap.size w w' ∧ ∃ (ts : List SetR) (a : Option Addr) (c : Nat), e = .returned (.tuple #[.slice a ts.length c, .int .i64 0]) ∧ ts.map SetR.s = ss ∧ Sl w' w'.heap.size a (ts.flatMap (SetR.cells gb)) ∧ (∀ t ∈ ts, SetAt G w' t.a t.rs ∧ SetNew w.heap.size t.a t.rs) ∧ (∀ t ∈ ts, t.Of G) ∧ (∀ x, a = some x → w.heap.size ≤ x.block) :=
 (sRAll_any G ok gb ss al cl w hG hC).mono fun _ _ h => ⟨h.1, by have h2 := h.2; rwa [if_pos hz] at h2⟩
theorem sRAll_bad (G : GP) (ok : G.Ok) (gb : Nat) (ss : List SetA) (al : Option Addr) (cl : Nat) (w : World) (hG : GroupAt w gb G) (hC : SetsAt w al ss) (hz : ¬ setsE G ss = 0) :
  Calls Tryz.prog 51 #[.pointer (some ⟨gb, 0, none⟩), .slice al ss.length cl] w fun e w' => e = .returned (.tuple #[.slice none 0 0, .int .i64 (setsE G ss : Int)]) ∧ Below w.heap.size w w' :=
 (sRAll_any G ok gb ss al cl w hG hC).mono fun _ _ h => ⟨by have h2 := h.2; rwa [if_neg hz] at h2, h.1⟩
theorem read_sizes {G : GP} (ok : G.Ok) {l : List ClaimA} (hw : wrongE G l = 0) (hcap : ∀ c ∈ l, CapOk c) {rs : List ClaimR} (hk : rs.map ClaimR.k = l) :
  rs.length = l.length ∧ l.length ≤ 64 ∧ (∀ r ∈ rs, SayOk r.k ∧ CapOk r.k) ∧ (∀ r ∈ rs, r.k.bases.length ≤ 8 ∧ r.k.images.length = r.k.bases.length) ∧ ∀ c ∈ l, c.bases.length ≤ 8 := by
 obtain ⟨hsh, hel⟩ := wrong_ok hw
 have hsz := shape_ok hsh
 have hmem : ∀ r ∈ rs, r.k ∈ l := fun r hr => by rw [← hk]; exact List.mem_map.2 ⟨r, hr, rfl⟩
 refine ⟨by rw [← hk, List.length_map], hsz.2.1, fun r hr => ?_, fun r hr => ⟨(hsz.2.2 r.k (hmem r hr)).2.1, (hsz.2.2 r.k (hmem r hr)).2.2⟩, fun c hc => (hsz.2.2 c hc).2.1⟩
 have h9 := hsz.2.2 r.k (hmem r hr)
 have h8 := List.all_eq_true.1 hel r.k (hmem r hr)
 unfold cElems at h8
 rw [Bool.and_eq_true] at h8
 have hs := ok.size_le
 have hsm : ∀ s, isEl G.q.m G.size s = true → s.size ≤ 32 := fun s h => by
  unfold isEl at h
  simp only [Bool.and_eq_true, decide_eq_true_eq] at h
  omega
 exact ⟨⟨h9.2.1, by omega, fun x hx => hsm x (List.all_eq_true.1 h8.1 x hx), fun x hx => hsm x (List.all_eq_true.1 h8.2 x hx)⟩, hcap _ (hmem r hr)⟩
theorem sc_len9 {G : GP} {n : Nat} {l : List ByteArray} (h : scE G n l = 0) : l.length = n := by
 unfold scE at h
 by_cases g : l.length = n
 ·exact g
 ·rw [if_neg g] at h; cases h
theorem mont_zero9 (m : Nat) : mont m 0 = 0 := by unfold mont; simp
theorem dig_zero9 (i : Nat) : dig 0 i = 0 := by unfold dig; simp
theorem sVany_none (k : Int) (hk : ¬ (1 ≤ k ∧ k ≤ 3)) (label : ByteArray) (v p q : Value) (w : World) :
  Calls Tryz.prog 12 #[.int .i64 k, .string label, v, .agg #[p, q]] w fun e w' => e = .returned (.bool false) ∧ Below w.heap.size w w' := by
 go_enter Tryz.func12, Tryz.ntmps12
 go_wp2_with fail
 obtain ⟨w1, hq1, hb9, hz9, Hbp⟩ := new1 w 30 [p, q]
 rw [hq1]
 clear hq1
 have HB := Lib.hid hb9
 have HZS := hz9
 clear hb9 hz9
 have bp_ := Hbp.out.c2
 go_wp2_with fail
 refine (of_none k hk _).mono ?_
 rintro e w2 ⟨rfl, rfl⟩
 go_wp2_with fail
 go_ret
 exact ⟨rfl, HB.out⟩
theorem sVany_bad (k : Nat) (h1 : 1 ≤ k) (h3 : k ≤ 3) (label : ByteArray) (ss : List SetA) (n : Nat) (hn : ss.length = n) (al : Option Addr) (cl : Nat) (hz : ¬ setsE (grp k) ss = 0) (ac ar : Option Addr) (m m2 cc cr : Nat) (w : World) (hC : SetsAt w al ss) :
  Calls Tryz.prog 12 #[.int .i64 (k : Int), .string label, .slice al n cl, .agg #[.slice ac m cc, .slice ar m2 cr]] w fun e w' => e = .returned (.bool false) ∧ Below w.heap.size w w' := by
 have HBAD := Lib.hid (fun gb w hG hC => sRAll_bad (grp k) (grp_ok k h1 h3) gb ss al cl w hG hC hz)
 rw [hn] at HBAD
 have HC := Lib.hid hC
 obtain ⟨z, hz9⟩ : ∃ z, setsE (grp k) ss = z := ⟨_, rfl⟩
 rw [hz9] at HBAD hz
 have hd3 : ((z : Int) != 0) = true := by simp; omega
 clear hC hn hz hz9
 go_enter Tryz.func12, Tryz.ntmps12
 go_wp2_with fail
 obtain ⟨w1, hq1, hb9, hz9, Hbp⟩ := new1 w 30 [.slice ac m cc, .slice ar m2 cr]
 rw [hq1]
 clear hq1
 have HB := Lib.hid hb9
 have HZS := hz9
 clear hb9 hz9
 have bp_ := Hbp.out.c2
 go_wp2_with fail
 refine (of_some k h1 h3 w1).mono ?_
 rintro e w2 ⟨rfl, hg9, hb9⟩
 clear bp_
 replace Hbp := Lib.hid (Hbp.out.up hb9)
 replace HB := hbu HB hb9
 replace HZS := sz HZS hb9.size
 have HG := Lib.hid hg9
 clear hg9 hb9
 have bp_ := Hbp.out.c2
 go_wp2_with fail
 refine (HBAD.out _ w2 HG.out (HC.out.up HB.out)).mono ?_
 rintro e w3 ⟨rfl, hb9⟩
 clear bp_
 replace Hbp := Lib.hid (Hbp.out.up hb9)
 replace HG := Lib.hid (HG.out.up hb9)
 replace HB := hbu HB hb9
 replace HZS := sz HZS hb9.size
 clear hb9
 have bp_ := Hbp.out.c2
 go_wp2_with fail
 go_ret
 exact ⟨rfl, HB.out⟩
theorem sVany_len (k : Nat) (h1 : 1 ≤ k) (h3 : k ≤ 3) (label : ByteArray) (ss : List SetA) (n : Nat) (hn : ss.length = n) (al : Option Addr) (cl : Nat) (hz : setsE (grp k) ss = 0) (ac ar : Option Addr) (m m2 cc cr : Nat) (hm : ¬ (m = n ∧ m2 = n)) (w : World) (hC : SetsAt w al ss) :
  Calls Tryz.prog 12 #[.int .i64 (k : Int), .string label, .slice al n cl, .agg #[.slice ac m cc, .slice ar m2 cr]] w fun e w' => e = .returned (.bool false) ∧ Below w.heap.size w w' := by
 have HRD := Lib.hid (fun gb w hG hC => sRAll_ok (grp k) (grp_ok k h1 h3) gb ss al cl w hG hC hz)
 rw [hn] at HRD
 have HC := Lib.hid hC
 have HN := Lib.hid hn
 clear hC hn hz
 by_cases hmn : m = n
 ·have hd1 : ((m : Int) != (n : Int)) = false := by simp; omega
  have hd2 : ((m2 : Int) != (n : Int)) = true := by simp; omega
  clear hm hmn
  go_enter Tryz.func12, Tryz.ntmps12
  go_wp2_with fail
  obtain ⟨w1, hq1, hb9, hz9, Hbp⟩ := new1 w 30 [.slice ac m cc, .slice ar m2 cr]
  rw [hq1]
  clear hq1
  have HB := Lib.hid hb9
  have HZS := hz9
  clear hb9 hz9
  have bp_ := Hbp.out.c2
  go_wp2_with fail
  refine (of_some k h1 h3 w1).mono ?_
  rintro e w2 ⟨rfl, hg9, hb9⟩
  clear bp_
  replace Hbp := Lib.hid (Hbp.out.up hb9)
  replace HB := hbu HB hb9
  replace HZS := sz HZS hb9.size
  have HG := Lib.hid hg9
  clear hg9 hb9
  have bp_ := Hbp.out.c2
  go_wp2_with fail
  refine (HRD.out _ w2 HG.out (HC.out.up HB.out)).mono ?_
  rintro e w3 ⟨hb9, ts, a9, c9, rfl, hts, _⟩
  clear bp_
  replace Hbp := Lib.hid (Hbp.out.up hb9)
  replace HG := Lib.hid (HG.out.up hb9)
  replace HB := hbu HB hb9
  replace HZS := sz HZS hb9.size
  have HTS := Lib.hid hts
  clear hts hb9
  have bp_ := Hbp.out.c2
  rw [show ts.length = n by rw [← HN.out, ← HTS.out, List.length_map]]
  go_wp2_with fail
  go_ret
  exact ⟨rfl, HB.out⟩
 ·have hd1 : ((m : Int) != (n : Int)) = true := by simp; omega
  clear hm hmn
  go_enter Tryz.func12, Tryz.ntmps12
  go_wp2_with fail
  obtain ⟨w1, hq1, hb9, hz9, Hbp⟩ := new1 w 30 [.slice ac m cc, .slice ar m2 cr]
  rw [hq1]
  clear hq1
  have HB := Lib.hid hb9
  have HZS := hz9
  clear hb9 hz9
  have bp_ := Hbp.out.c2
  go_wp2_with fail
  refine (of_some k h1 h3 w1).mono ?_
  rintro e w2 ⟨rfl, hg9, hb9⟩
  clear bp_
  replace Hbp := Lib.hid (Hbp.out.up hb9)
  replace HB := hbu HB hb9
  replace HZS := sz HZS hb9.size
  have HG := Lib.hid hg9
  clear hg9 hb9
  have bp_ := Hbp.out.c2
  go_wp2_with fail
  refine (HRD.out _ w2 HG.out (HC.out.up HB.out)).mono ?_
  rintro e w3 ⟨hb9, ts, a9, c9, rfl, hts, _⟩
  clear bp_
  replace Hbp := Lib.hid (Hbp.out.up hb9)
  replace HG := Lib.hid (HG.out.up hb9)
  replace HB := hbu HB hb9
  replace HZS := sz HZS hb9.size
  have HTS := Lib.hid hts
  clear hts hb9
  have bp_ := Hbp.out.c2
  rw [show ts.length = n by rw [← HN.out, ← HTS.out, List.length_map]]
  go_wp2_with fail
  go_ret
  exact ⟨rfl, HB.out⟩
theorem sVany_body (k : Nat) (h1 : 1 ≤ k) (h3 : k ≤ 3) (label : ByteArray) (hlb : label.size < 140737488355328) (ss : List SetA) (n : Nat) (hn : ss.length = n) (al : Option Addr) (cl : Nat) (hz : setsE (grp k) ss = 0) (cs : List ByteArray) (hcs : cs.length = n) (rs : List RowA) (hrs : rs.length = n) (hrl : ∀ r ∈ rs, r.l.length ≤ 8796093022207) (hcap : ∀ s ∈ ss, ∀ c ∈ s.l, CapOk c) (ac ar : Option Addr) (cc cr : Nat) (V : Bool) (hV : (vanOk (grp k) (ss.map SetA.l) cs (rs.map RowA.l) n && decide (mont (grp k).q.m (chN (vanT (grp k) (ss.map SetA.l) cs (rs.map RowA.l) (vanB k label (ss.map SetA.l)) n) challengeB) = mont (grp k).q.m (vanS cs n))) = V) (w : World) (hC : SetsAt w al ss) (hS : Sl w w.heap.size ac (cs.map Value.string)) (hR : RowsAt w ar rs) :
  Calls Tryz.prog 12 #[.int .i64 (k : Int), .string label, .slice al n cl, .agg #[.slice ac n cc, .slice ar n cr]] w fun e w' => e = .returned (.bool V) ∧ Below w.heap.size w w' := by
 have OK := Lib.hid (grp_ok k h1 h3)
 have HRD := Lib.hid (fun gb w hG hC => sRAll_ok (grp k) OK.out gb ss al cl w hG hC hz)
 rw [hn] at HRD
 have HC := Lib.hid hC
 have HS := Lib.hid hS
 have HR := Lib.hid hR
 have HN := Lib.hid hn
 have HCS := Lib.hid hcs
 have HRS := Lib.hid hrs
 have HRL := Lib.hid hrl
 have HZE := Lib.hid (setsE_ok hz)
 have h16 : n ≤ 16 := by have := HZE.out.2.1; omega
 have HSS := Lib.hid (fun s hs => (show (∀ c ∈ s.l, CapOk c) ∧ wrongE (grp k) s.l = 0 from ⟨hcap s hs, wrongsE_all HZE.out.2.2 s hs⟩))
 unfold vanB at hV
 have HBS := Lib.hid (show (saySs (beginT eitherB label k) (ss.map SetA.l)).size = 32 from saySs_size _ _ (say1_size _ _ _))
 have HF1 := Lib.hid (fun gb ts h16 sh a9 c9 w hG hS hT hC => stalk_any (grp k) gb label hlb (by rw [grp_kind k h1 h3]; omega) ts ts.length rfl h16 sh a9 c9 w hG hS hT hC)
 rw [grp_kind k h1 h3] at HF1
 have HF3 := Lib.hid (fun tb s ro hz' h64 sh hok al cl w hT hC ha hr => said_any tb s ro ro.length rfl h64 hz' sh hok al cl w hT hC ha hr)
 have HF4 := Lib.hid (fun ok gb tb s hs w hG hT hne => gChallenge_any (grp k) ok gb tb s challengeB hs (by decide) w hG hT hne)
 have HZ3 := Lib.hid sayFi_size
 have HVT := Lib.hid (fun j => (show vanT (grp k) (ss.map SetA.l) cs (rs.map RowA.l) (saySs (beginT eitherB label k) (ss.map SetA.l)) (j + 1) = sayFi (vanT (grp k) (ss.map SetA.l) cs (rs.map RowA.l) (saySs (beginT eitherB label k) (ss.map SetA.l)) j) (vanR (grp k) (ss.map SetA.l) cs (rs.map RowA.l) j) from rfl))
 have HVZ := Lib.hid (fun j => vanT_size (grp k) (ss.map SetA.l) cs (rs.map RowA.l) (saySs (beginT eitherB label k) (ss.map SetA.l)) HBS.out j)
 have HV0 := Lib.hid (show vanT (grp k) (ss.map SetA.l) cs (rs.map RowA.l) (saySs (beginT eitherB label k) (ss.map SetA.l)) 0 = saySs (beginT eitherB label k) (ss.map SetA.l) from rfl)
 generalize vanT (grp k) (ss.map SetA.l) cs (rs.map RowA.l) (saySs (beginT eitherB label k) (ss.map SetA.l)) = VT at *
 generalize saySs (beginT eitherB label k) = SB at *
 generalize sayFi = SF at *
 generalize chN = CN at *
 generalize chT = CT at *
 have HV := Lib.hid hV.symm
 have HVS := Lib.hid (fun j => (show vanS cs (j + 1) = vanS cs j + numOf (cs.getD j ⟨#[]⟩) from rfl))
 have HVS0 := Lib.hid (show mont (grp k).q.m (vanS cs 0) = 0 from mont_zero9 _)
 generalize vanS cs = VS at *
 have hd1 : ((n : Int) != (n : Int)) = false := by simp
 clear hC hS hR hn hcs hrs hrl hcap hlb hV hz
 go_enter Tryz.func12, Tryz.ntmps12
 go_wp2_with fail
 obtain ⟨w1, hq1, hb9, hz9, Hbp⟩ := new1 w 30 [.slice ac n cc, .slice ar n cr]
 rw [hq1]
 clear hq1
 have HB := Lib.hid hb9
 have HZS := hz9
 clear hb9 hz9
 have bp_ := Hbp.out.c2
 go_wp2_with fail
 refine (of_some k h1 h3 w1).mono ?_
 rintro e w2 ⟨rfl, hg9, hb9⟩
 clear bp_
 replace Hbp := Lib.hid (Hbp.out.up hb9)
 replace HB := hbu HB hb9
 replace HZS := sz HZS hb9.size
 have HG := Lib.hid hg9
 clear hg9 hb9
 have bp_ := Hbp.out.c2
 go_wp2_with fail
 refine (HRD.out _ w2 HG.out (HC.out.up HB.out)).mono ?_
 rintro e w3 ⟨hb9, ts, a9, c9, rfl, hts, hsl, hat, hof, hfr⟩
 clear bp_
 replace Hbp := Lib.hid (Hbp.out.up hb9)
 replace HG := Lib.hid (HG.out.up hb9)
 replace HB := hbu HB hb9
 replace HZS := sz HZS hb9.size
 have HTS := Lib.hid hts
 clear hts
 have HSL := Lib.hid hsl
 clear hsl
 have HAT := Lib.hid hat
 clear hat
 have HOF := Lib.hid hof
 clear hof hb9
 have bp_ := Hbp.out.c2
 have HTL := Lib.hid (show ts.length = n by rw [← HN.out, ← HTS.out, List.length_map])
 have HTM := Lib.hid (show ts.map (fun t => t.rs.map ClaimR.k) = ss.map SetA.l by rw [← HTS.out, List.map_map]; exact List.map_congr_left fun t ht => (HOF.out t ht).k)
 have HF1 := Lib.hid (HF1.out w1.heap.size ts (by rw [HTL.out]; exact h16) (fun t ht => by
  have hm : t.s ∈ ss := by rw [← HTS.out]; exact List.mem_map.2 ⟨t, ht, rfl⟩
  obtain ⟨q1, q2, q3, _⟩ := read_sizes OK.out (HOF.out t ht).w (HSS.out _ hm).1 (HOF.out t ht).k
  exact ⟨by omega, q3⟩))
 rw [HTL.out, HTM.out] at HF1
 rw [HTL.out]
 clear HRD hfr
 have BQ := Lib.hid (Below.refl w3.heap.size w3)
 have HBP5 := Hbp
 have HG5 := HG
 have HB5 := HB
 have HGL := Lib.hid (show w1.heap.size < w3.heap.size from HG.out.lt)
 have HSRC := Lib.hid (fun t (ht : t ∈ ts) => by
  have hm : t.s ∈ ss := by rw [← HTS.out]; exact List.mem_map.2 ⟨t, ht, rfl⟩
  obtain ⟨bl, ol, e1, e2⟩ := (HOF.out t ht).p
  have h9 := ((HC.out.up HB.out)).e _ hm
  rw [e1] at h9
  exact (show ∀ r ∈ t.rs, r.Src w3 from src_all (HOF.out t ht).k e2 h9))
 have HZW := Lib.hid HB.out.size
 go_wp2_with fail
 refine (HF1.out a9 c9 w3 HG.out HSL.out (fun t ht => (HAT.out t ht).1) HSRC.out).mono ?_
 rintro e wa ⟨tb, rfl, hge, ht, hb9⟩
 have HGE := Lib.hid (show w3.heap.size ≤ tb from hge)
 have Ht := Lib.hid (show Bx wa tb 192 [.string (SB (ss.map SetA.l))] from ht)
 clear hge ht HF1 bp_
 replace Hbp := Lib.hid (Hbp.out.up hb9)
 replace HG := Lib.hid (HG.out.up hb9)
 replace BQ := hbu BQ hb9
 replace HB := hbu HB hb9
 replace HZS := sz HZS hb9.size
 clear hb9
 have bp_ := Hbp.out.c2
 replace HZS := sz HZS HGE.out
 replace HZS := sz HZS HZW.out
 have t_ := Ht.out.c1
 have HTT := Lib.hid Ht.out.lt
 replace HZS := sz HZS HTT.out
 have o4_bp_ := bp_; clear bp_
 have o4_t_ := t_; clear t_
 obtain ⟨w4, hq4, hb9, hz9, Hsu⟩ := new1 wa 72 ([.int .u64 0, .int .u64 0, .int .u64 0, .int .u64 0])
 replace Hbp := Lib.hid (Hbp.out.up hb9)
 replace Ht := Lib.hid (Ht.out.up hb9)
 replace HG := Lib.hid (HG.out.up hb9)
 replace BQ := hbu BQ hb9
 replace HB := hbu HB hb9
 replace HZS := sz HZS hz9.out
 clear hb9 hz9
 have bp_ := Hbp.out.c2
 have t_ := Ht.out.c1
 have HSU0 := Lib.hid (show Bx w4 wa.heap.size 72 [.int .u64 (dig (mont (grp k).q.m (VS 0)) 0 : Int), .int .u64 (dig (mont (grp k).q.m (VS 0)) 1 : Int), .int .u64 (dig (mont (grp k).q.m (VS 0)) 2 : Int), .int .u64 (dig (mont (grp k).q.m (VS 0)) 3 : Int)] by rw [HVS0.out]; simp only [dig_zero9]; exact Hsu.out)
 go_wp2_with fail
 clear hq4 o4_t_ o4_bp_
 go_loopw [54] (fun i wr => ∃ (j : Nat) (y : ByteArray), j ≤ n ∧ i = .int .i64 (j : Int) ∧ Hid (y = VT j) ∧ Hid (vanOk (grp k) (ss.map SetA.l) cs (rs.map RowA.l) j = true) ∧ Hid (Bx wr tb 192 [.string y]) ∧ Hid (Bx wr wa.heap.size 72 [.int .u64 (dig (mont (grp k).q.m (VS j)) 0 : Int), .int .u64 (dig (mont (grp k).q.m (VS j)) 1 : Int), .int .u64 (dig (mont (grp k).q.m (VS j)) 2 : Int), .int .u64 (dig (mont (grp k).q.m (VS j)) 3 : Int)]) ∧ Hid (Below w3.heap.size w3 wr)) (fun i _ => n - (intOf i).toNat)
 case atStart => exact ⟨0, _, Nat.zero_le _, rfl, Lib.hid HV0.out.symm, rfl, Ht, HSU0, BQ⟩
 case round =>
  clear Ht Hsu HB t_ bp_ Hbp HG BQ HSU0
  obtain ⟨j, y, hj, rfl, HYE, HOKJ, Ht, Hsu, BQ⟩ := hrel
  have HB := Lib.hid (below_up HB5.out BQ.out)
  have Hbp := Lib.hid (HBP5.out.up BQ.out)
  have HSL9 := Lib.hid Hsu.out.lt
  by_cases hjn : j < n
  ·have hjt : j < ts.length := by rw [HTL.out]; exact hjn
   have hjs : j < ss.length := by rw [HN.out]; exact hjn
   have hjc : j < cs.length := by rw [HCS.out]; exact hjn
   have hjr : j < rs.length := by rw [HRS.out]; exact hjn
   obtain ⟨bl, ol, rfl, hbl0, hc⟩ := (HSL.out.up BQ.out).elem (SetR.cells_len w1.heap.size) (by omega) j hjt
   have hc_0 := hc 0 _ rfl
   rw [Nat.add_zero] at hc_0
   have hc_1 := hc 1 _ rfl
   clear hc
   obtain ⟨bc, oc, rfl, hbc, hcc⟩ := (HS.out.up HB.out).at j (by simpa using hjc)
   rw [List.getElem_map] at hcc
   obtain ⟨br, or9, rfl, hbr, hrr⟩ := (HR.out.s.up HB.out).elem RowA.cells_len (by omega) j hjr
   have hrr_0 := hrr 0 _ rfl
   rw [Nat.add_zero] at hrr_0
   clear hrr
   rw [Nat.mul_one] at hrr_0
   have HAR := Lib.hid (HR.out.one j hjr)
   have HRLJ := Lib.hid (HRL.out _ (List.getElem_mem hjr))
   have HSJ := Lib.hid (show ts[j].s = ss[j] by
    have h8 : (ts.map SetR.s)[j]? = ss[j]? := by rw [HTS.out]
    rw [List.getElem?_map, List.getElem?_eq_getElem hjt, List.getElem?_eq_getElem hjs] at h8
    exact Option.some.inj h8)
   have HST := Lib.hid (HAT.out _ (List.getElem_mem hjt)).1
   have HOJ := HOF.out _ (List.getElem_mem hjt)
   have HSZ := Lib.hid (read_sizes OK.out HOJ.w (HSS.out _ (by rw [HSJ.out]; exact List.getElem_mem hjs)).1 HOJ.k)
   have HKJ := Lib.hid (show (ss.map SetA.l).getD j [] = ts[j].rs.map ClaimR.k by rw [HOJ.k, HSJ.out, List.getD_eq_getElem?_getD, List.getElem?_map, List.getElem?_eq_getElem hjs]; rfl)
   have HCJ := Lib.hid (show cs.getD j ⟨#[]⟩ = cs[j] by rw [List.getD_eq_getElem?_getD, List.getElem?_eq_getElem hjc]; rfl)
   have HRJ := Lib.hid (show (rs.map RowA.l).getD j [] = rs[j].l by rw [List.getD_eq_getElem?_getD, List.getElem?_map, List.getElem?_eq_getElem hjr]; rfl)
   have HVRJ := Lib.hid (show vanR (grp k) (ss.map SetA.l) cs (rs.map RowA.l) j = eachA (grp k) (valB (grp k) ((grp k).q.m - numOf cs[j]) (ts[j].rs.map ClaimR.k) rs[j].l) (lens (ts[j].rs.map ClaimR.k)) ts[j].rs.length by unfold vanR; rw [HCJ.out, HKJ.out, HRJ.out, List.length_map])
   have HO1 := Lib.hid (show vanOk1 (grp k) (ss.map SetA.l) cs (rs.map RowA.l) j = (isSc (grp k).q.m (grp k).size cs[j] && decide (scE (grp k) ts[j].rs.length rs[j].l = 0)) by unfold vanOk1; rw [HCJ.out, HKJ.out, HRJ.out, List.length_map])
   have HVSJ := Lib.hid (show VS (j + 1) = VS j + numOf cs[j] by rw [HVS.out, HCJ.out])
   have HVTJ := Lib.hid (show VT (j + 1) = SF y (vanR (grp k) (ss.map SetA.l) cs (rs.map RowA.l) j) by rw [HVT.out, HYE.out])
   have HYZ := Lib.hid (show y.size = 32 by rw [HYE.out]; exact HVZ.out j)
   rw [HVRJ.out] at HVTJ
   have HOK2 := Lib.hid (fun h => vanOk_snoc HOKJ.out h)
   have HNOT := Lib.hid (fun h => vanOk_not (G := grp k) (ls := ss.map SetA.l) (cs := cs) (rs := rs.map RowA.l) hjn h)
   have HL64 := Lib.hid (show ts[j].rs.length ≤ 64 by have h9 := HSZ.out; omega)
   have HSZ2 := Lib.hid HSZ.out.2.2.2.1
   clear HVRJ HKJ HRJ HCJ HOJ HYE HOKJ HSJ HSZ
   generalize ts[j] = t9 at *
   generalize cs[j] = ch at *
   generalize rs[j] = r9 at *
   obtain ⟨b, hb⟩ : ∃ b, isSc (grp k).q.m (grp k).size ch = b := ⟨_, rfl⟩
   obtain ⟨z, hz⟩ : ∃ z, scE (grp k) t9.rs.length r9.l = z := ⟨_, rfl⟩
   have HSC := Lib.hid (fun W hG hS => scalars_any (grp k) OK.out w1.heap.size t9.rs.length t9.a t9.c r9.l r9.a r9.c HRLJ.out W hG hS)
   unfold ScalR ScalQ at HSC
   rw [hz] at HSC HO1
   rw [hb] at HO1
   have HBC := Lib.hid hb
   have HZZ := Lib.hid hz
   clear hb hz hjt hjs hjc hjr HAT HOF HSRC HSS
   replace HZS := sz HZS HGE.out
   replace HZS := sz HZS HZW.out
   replace HZS := sz HZS HTT.out
   replace HZS := sz HZS HSL9.out
   have t_ := Ht.out.c1
   have su_ := Hsu.out.c4
   have bp_ := Hbp.out.c2
   have HCC := Lib.hid hcc
   have HRR0 := Lib.hid hrr_0
   have HBC0 := Lib.hid hbc
   have HBR0 := Lib.hid hbr
   clear hcc hrr_0 hbc hbr
   have BR := Lib.hid (Below.refl wr.heap.size wr)
   have o5_t_ := t_; clear t_
   have o5_su_ := su_; clear su_
   have o5_bp_ := bp_; clear bp_
   obtain ⟨w5, hq5, hb9, hz9, Hbs⟩ := new1 wr 64 [.pointer (some ⟨w1.heap.size, 0, none⟩), .slice t9.a t9.rs.length t9.c]
   replace Ht := Lib.hid (Ht.out.up hb9)
   replace Hsu := Lib.hid (Hsu.out.up hb9)
   replace Hbp := Lib.hid (Hbp.out.up hb9)
   replace BQ := hbu BQ hb9
   replace BR := hbu BR hb9
   replace HB := hbu HB hb9
   replace HZS := sz HZS hz9.out
   clear hb9 hz9
   have t_ := Ht.out.c1
   have su_ := Hsu.out.c4
   have bp_ := Hbp.out.c2
   have bs_ := Hbs.out.c2
   have hcc := (BR.out.cell (p := ⟨bc, oc + j, none⟩) HBC0.out).trans HCC.out
   go_wp2_with fail
   clear hq5 o5_bp_ o5_su_ o5_t_ hcc
   refine (gScalar_m (grp k) OK.out w1.heap.size ch b HBC.out w5 (HG5.out.up BQ.out)).mono ?_
   rintro e w6 ⟨x, rfl, hb9, hx9⟩
   clear t_
   replace Ht := Lib.hid (Ht.out.up hb9)
   clear su_
   replace Hsu := Lib.hid (Hsu.out.up hb9)
   clear bp_
   replace Hbp := Lib.hid (Hbp.out.up hb9)
   clear bs_
   replace Hbs := Lib.hid (Hbs.out.up hb9)
   replace BQ := hbu BQ hb9
   replace BR := hbu BR hb9
   replace HB := hbu HB hb9
   replace HZS := sz HZS hb9.size
   have HX := Lib.hid hx9
   clear hx9 hb9
   have t_ := Ht.out.c1
   have su_ := Hsu.out.c4
   have bp_ := Hbp.out.c2
   have bs_ := Hbs.out.c2
   unfold limbV
   have o7_t_ := t_; clear t_
   have o7_su_ := su_; clear su_
   have o7_bp_ := bp_; clear bp_
   have o7_bs_ := bs_; clear bs_
   obtain ⟨w7, hq7, hb9, hz9, Hbx⟩ := new1 w6 72 [.int .u64 (dig (x) 0 : Int), .int .u64 (dig (x) 1 : Int), .int .u64 (dig (x) 2 : Int), .int .u64 (dig (x) 3 : Int)]
   replace Ht := Lib.hid (Ht.out.up hb9)
   replace Hsu := Lib.hid (Hsu.out.up hb9)
   replace Hbp := Lib.hid (Hbp.out.up hb9)
   replace Hbs := Lib.hid (Hbs.out.up hb9)
   replace BQ := hbu BQ hb9
   replace BR := hbu BR hb9
   replace HB := hbu HB hb9
   replace HZS := sz HZS hz9.out
   clear hb9 hz9
   have t_ := Ht.out.c1
   have su_ := Hsu.out.c4
   have bp_ := Hbp.out.c2
   have bs_ := Hbs.out.c2
   have bx_ := Hbx.out.c4
   have hrr := (BR.out.cell (p := ⟨br, or9 + j, none⟩) HBR0.out).trans HRR0.out
   have hbr2 := Nat.lt_of_lt_of_le HBR0.out BR.out.size
   clear BR
   go_wp2_with fail
   clear hq7 o7_bs_ o7_bp_ o7_su_ o7_t_ su_ t_
   have HWT := Lib.hid (show wa.heap.size < w7.drew.heap.size by have h3 := (show Below w7.heap.size w7 w7.drew from (Below.refl _ _).drew).size; have g0 := HZS.out; omega)
   have HT := Lib.hid (show Below w7.heap.size w7 w7.drew from (Below.refl _ _).drew)
   have hl_bp := Hbp.out.lt
   have hl_bs := Hbs.out.lt
   have hl_bx := Hbx.out.lt
   refine wp_region_tree (fun wq9 => ∃ E : Over w7, wq9 = E.w) ((.qs [0, 1, 2, 3, 4, 5] (.a 6 (.qs [7, 8, 9, 10, 11] .done)))) (by kernel_rfl) (by kernel_rfl) (fun _ _ d _ _ h => by cases d <;> exact h) ⟨⟨_, HT.out⟩, rfl⟩ ?_
   have hov_bp := fun (E : Over w7) o => E.cell (b := w.heap.size) o hl_bp
   have hov_bs := fun (E : Over w7) o => E.cell (b := wr.heap.size) o hl_bs
   have hov_bx := fun (E : Over w7) o => E.cell (b := w6.heap.size) o hl_bx
   have hov_br := fun (E : Over w7) o => E.cell (b := br) o hbr2
   simp only [Tree.qs]
   repeat (refine tree_q rfl rfl ?_; go_big_quiet_step (fail); refine wpQuiet_nil ?_)
   refine tree_a rfl (fun K hK => ?_)
   go_simp
   refine (HSC.out _ (HG5.out.up (below_up BQ.out HT.out)) (HAR.out.up (below_up HB.out HT.out))).mono ?_
   rintro e w8 ⟨hb9, v, rfl, hv9⟩
   replace HT := Lib.hid (below_up HT.out hb9)
   replace HZS := sz HZS (show w7.heap.size ≤ w8.heap.size from HT.out.size)
   clear hb9
   have HVV := Lib.hid hv9
   clear hv9
   refine hK _ _ ⟨⟨⟨w8, HT.out⟩, rfl⟩, ?_⟩
   clear hK K
   repeat (refine tree_q rfl rfl ?_; go_big_quiet_step (fail); refine wpQuiet_nil ?_)
   refine tree_end ?_
   clear hov_bp hl_bp hov_bs hl_bs hov_bx hl_bx hov_br
   replace Ht := Lib.hid (Ht.out.up HT.out)
   replace Hsu := Lib.hid (Hsu.out.up HT.out)
   clear bp_
   replace Hbp := Lib.hid (Hbp.out.up HT.out)
   clear bs_
   replace Hbs := Lib.hid (Hbs.out.up HT.out)
   clear bx_
   replace Hbx := Lib.hid (Hbx.out.up HT.out)
   replace BQ := hbu BQ HT.out
   replace HB := hbu HB HT.out
   replace HZS := sz HZS HT.out.size
   clear HT
   have bp_ := Hbp.out.c2
   have bs_ := Hbs.out.c2
   have bx_ := Hbx.out.c4
   clear hrr hbr2
   have su_ := Hsu.out.c4
   have t_ := Ht.out.c1
   cases b
   case false =>
    obtain rfl : V = false := by rw [HV.out, HNOT.out (by rw [HO1.out]; rfl)]; rfl
    go_wp2_with fail
    go_ret
    exact ⟨rfl, HB.out⟩
   by_cases hz0 : z = 0
   case neg =>
    have hd3 : ((z : Int) != 0) = true := by simp; omega
    obtain rfl : V = false := by rw [HV.out, HNOT.out (by rw [HO1.out, decide_eq_false hz0]; rfl)]; rfl
    clear hz0
    go_wp2_with fail
    go_ret
    exact ⟨rfl, HB.out⟩
   subst hz0
   obtain ⟨a7, c7, hv7, hsv, hfv⟩ := HVV.out rfl
   rw [sc_len9 HZZ.out] at hv7
   subst hv7
   obtain rfl : x = mont (grp k).q.m (numOf ch) := HX.out rfl
   have HSV := Lib.hid hsv
   have HFV := Lib.hid hfv
   have HOK3 := Lib.hid (HOK2.out (by rw [HO1.out]; rfl))
   clear hsv hfv HVV HX HNOT HO1 HOK2
   have HK := Lib.hid (Kept.refl (fun q9 => q9 = wa.heap.size) w8)
   have HWS := Lib.hid (show wa.heap.size < w8.heap.size by have g0 := HZS.out; omega)
   go_wp2_with fail
   refine (gAdd_any (grp k) OK.out w1.heap.size (VS j) (numOf ch) w8 (HG5.out.up BQ.out)).mono ?_
   rintro e w9 ⟨rfl, hb9⟩
   clear t_
   replace Ht := Lib.hid (Ht.out.up hb9)
   clear su_
   replace Hsu := Lib.hid (Hsu.out.up hb9)
   clear bp_
   replace Hbp := Lib.hid (Hbp.out.up hb9)
   clear bs_
   replace Hbs := Lib.hid (Hbs.out.up hb9)
   clear bx_
   replace Hbx := Lib.hid (Hbx.out.up hb9)
   replace BQ := hbu BQ hb9
   replace HK := Lib.hid (Kept.up HK.out hb9)
   replace HB := hbu HB hb9
   replace HZS := sz HZS hb9.size
   clear hb9
   have t_ := Ht.out.c1
   have su_ := Hsu.out.c4
   have bp_ := Hbp.out.c2
   have bs_ := Hbs.out.c2
   have bx_ := Hbx.out.c4
   unfold scV limbV
   have f10_su := Hsu.out.frozen
   have o10_t_ := t_; clear t_
   have o10_su_ := su_; clear su_
   have o10_bp_ := bp_; clear bp_
   have o10_bs_ := bs_; clear bs_
   have o10_bx_ := bx_; clear bx_
   obtain ⟨w10, hq10, hg9, hz9, hx9⟩ := put4 Hsu 0 (.int .u64 (dig (mont (grp k).q.m (VS j + numOf ch)) 0 : Int)) 1 (.int .u64 (dig (mont (grp k).q.m (VS j + numOf ch)) 1 : Int)) 2 (.int .u64 (dig (mont (grp k).q.m (VS j + numOf ch)) 2 : Int)) 3 (.int .u64 (dig (mont (grp k).q.m (VS j + numOf ch)) 3 : Int)) [.int .u64 (dig (mont (grp k).q.m (VS j + numOf ch)) 0 : Int), .int .u64 (dig (mont (grp k).q.m (VS j + numOf ch)) 1 : Int), .int .u64 (dig (mont (grp k).q.m (VS j + numOf ch)) 2 : Int), .int .u64 (dig (mont (grp k).q.m (VS j + numOf ch)) 3 : Int)] rfl
   replace Ht := Lib.hid (Ht.out.grown hg9.out (sne (by have g0 := HZS.out; omega)))
   replace Hbp := Lib.hid (Hbp.out.grown hg9.out (sne (by have g0 := HZS.out; omega)))
   replace Hbs := Lib.hid (Hbs.out.grown hg9.out (sne (by have g0 := HZS.out; omega)))
   replace Hbx := Lib.hid (Hbx.out.grown hg9.out (sne (by have g0 := HZS.out; omega)))
   replace BQ := hbg BQ hg9 (by have g0 := HZS.out; omega)
   replace HK := Lib.hid (Kept.grown HK.out hg9.out (fun q9 e9 => by obtain rfl := Option.some.inj e9; exact Or.inr (rfl)))
   replace HB := hbg HB hg9 (by have g0 := HZS.out; omega)
   replace HZS := sz HZS hz9.out
   replace Hsu := hx9
   clear hx9 hg9 hz9
   have t_ := Ht.out.c1
   have su_ := Hsu.out.c4
   have bp_ := Hbp.out.c2
   have bs_ := Hbs.out.c2
   have bx_ := Hbx.out.c4
   go_wp2_with fail
   clear hq10 o10_bx_ o10_bs_ o10_bp_ o10_su_ o10_t_ f10_su
   refine (back_any (grp k) OK.out w1.heap.size (numOf ch) (isSc_le HBC.out) t9.rs t9.rs.length rfl HL64.out HSZ2.out t9.a t9.c r9.l (sc_len9 HZZ.out) a7 c7 w10 (HG5.out.up BQ.out) (HST.out.up BQ.out) (HSV.out.kept HK.out (fun x hx => by have h1 := HFV.out x hx; have h2 := HWT.out; omega))).mono ?_
   rintro e w11 ⟨hb9, a8, c8, ro, rfl, hm9, hr9, hz9⟩
   clear t_
   replace Ht := Lib.hid (Ht.out.up hb9)
   clear su_
   replace Hsu := Lib.hid (Hsu.out.up hb9)
   clear bp_
   replace Hbp := Lib.hid (Hbp.out.up hb9)
   clear bs_
   replace Hbs := Lib.hid (Hbs.out.up hb9)
   clear bx_
   replace Hbx := Lib.hid (Hbx.out.up hb9)
   replace BQ := hbu BQ hb9
   replace HK := Lib.hid (Kept.up HK.out hb9)
   replace HB := hbu HB hb9
   replace HZS := sz HZS hb9.size
   have HMR := Lib.hid hm9
   clear hm9
   have HRR := Lib.hid hr9
   clear hr9
   have HZR := Lib.hid hz9
   clear hz9 hb9
   have t_ := Ht.out.c1
   have su_ := Hsu.out.c4
   have bp_ := Hbp.out.c2
   have bs_ := Hbs.out.c2
   have bx_ := Hbx.out.c4
   have HRO := Lib.hid (show ro.length = t9.rs.length by have h9 := congrArg List.length HMR.out; rw [List.length_map, eachA_len] at h9; exact h9)
   rw [← HMR.out, List.length_map]
   go_wp2_with fail
   refine (HF3.out tb y ro HYZ.out (by rw [HRO.out]; exact HL64.out) (eachA_small OK.out.size_le (lens_small fun c hc => by obtain ⟨r, hr, rfl⟩ := List.mem_map.1 hc; exact (HSZ2.out r hr).1) HMR.out) (fun r hr => (HZR.out.1 r hr).2) a8 c8 w11 Ht.out HRR.out (fun x hx e => by have h1 := HZR.out.2.1 x hx; have g0 := HZS.out; omega) (fun r hr x hx e => by have h1 := HZR.out.2.2 r hr x hx; have g0 := HZS.out; omega)).mono ?_
   rintro e wc ⟨rfl, ht, hk⟩
   have HK2 := Lib.hid hk
   have Ht1 := Lib.hid (show Bx wc tb 192 [.string (SF y (ro.map RowA.l))] from ht)
   clear ht hk
   have hg9 := HK2.out
   clear t_ su_ bp_ bs_ bx_ Ht
   replace Hsu := Lib.hid (Hsu.out.keptP hg9 (show ¬ (_ = tb) by have g0 := HZS.out; omega))
   replace Hbp := Lib.hid (Hbp.out.keptP hg9 (show ¬ (_ = tb) by have g0 := HZS.out; omega))
   replace Hbs := Lib.hid (Hbs.out.keptP hg9 (show ¬ (_ = tb) by have g0 := HZS.out; omega))
   replace Hbx := Lib.hid (Hbx.out.keptP hg9 (show ¬ (_ = tb) by have g0 := HZS.out; omega))
   replace BQ := Lib.hid (Below.keptP BQ.out hg9 (by have g0 := HZS.out; omega) (fun q9 h9 => (show w3.heap.size ≤ _ by subst h9; have g0 := HZS.out; omega)))
   replace HB := Lib.hid (Below.keptP HB.out hg9 (by have g0 := HZS.out; omega) (fun q9 h9 => (show w.heap.size ≤ _ by subst h9; have g0 := HZS.out; omega)))
   replace HZS := sz HZS (show w11.heap.size ≤ wc.heap.size from hg9.size)
   clear hg9
   have su_ := Hsu.out.c4
   have bp_ := Hbp.out.c2
   have bs_ := Hbs.out.c2
   have bx_ := Hbx.out.c4
   go_wp2_with fail
   go_roundw
   case rel => exact ⟨j + 1, _, by omega, by go_num, Lib.hid (by rw [HVTJ.out, HMR.out]), HOK3, Ht1, Lib.hid (by rw [HVSJ.out]; exact Hsu.out), BQ⟩
   case measure => simp [intOf]; omega
  ·have hjn' : j = n := by omega
   subst hjn'
   have HVV := HV.out
   rw [HOKJ.out, Bool.true_and, ← HYE.out] at HVV
   obtain ⟨be, hbe⟩ : ∃ b, decide (mont (grp k).q.m (CN y challengeB) = mont (grp k).q.m (VS j)) = b := ⟨_, rfl⟩
   rw [hbe] at HVV
   have HEQ := Lib.hid fun W => binScal (w := W) (eqScal (mont (grp k).q.m (CN y challengeB)) (mont (grp k).q.m (VS j)) (OK.out.q.mont _) (OK.out.q.mont _) W be hbe.symm)
   have HYZ := Lib.hid (show y.size = 32 by rw [HYE.out]; exact HVZ.out j)
   obtain rfl : V = be := HVV
   clear hbe HYE HOKJ HV
   replace HZS := sz HZS HGE.out
   replace HZS := sz HZS HZW.out
   replace HZS := sz HZS HTT.out
   replace HZS := sz HZS HSL9.out
   have t_ := Ht.out.c1
   have su_ := Hsu.out.c4
   go_wp2_with fail
   have HG9 := Lib.hid (HG5.out.up BQ.out)
   have HT := Lib.hid (show Below wr.heap.size wr wr.drew from (Below.refl _ _).drew)
   have hl_su := Hsu.out.lt
   refine wp_region_tree (fun wq9 => ∃ E : But wr (some (tb)), wq9 = E.w) ((.qs [0, 1, 3] (.a 2 (.qs [4, 5] .done)))) (by kernel_rfl) (by kernel_rfl) (fun _ _ d _ _ h => by cases d <;> exact h) ⟨⟨_, ((below_grown HT.out).but _)⟩, rfl⟩ ?_
   have hov_su := fun (E : But wr (some (tb))) o => E.cell (b := wa.heap.size) o hl_su (by intro e9; have a0 := Option.some.inj e9; have g0 := HZS.out; omega)
   simp only [Tree.qs]
   repeat (refine tree_q rfl rfl ?_; go_big_quiet_step (fail); refine wpQuiet_nil ?_)
   refine tree_a rfl (fun K hK => ?_)
   go_simp
   refine (HF4.out OK.out w1.heap.size tb y (by have := HYZ.out; omega) _ (HG9.out.up HT.out) (Bx.up Ht.out HT.out) (show ¬ w1.heap.size = tb by have g0 := HZS.out; have h1 := HGL.out; omega)).mono ?_
   rintro e wz ⟨rfl, ht, hk⟩
   have HBZ := Lib.hid (Below.keptP (below_up HB.out HT.out) hk (below_up HB.out HT.out).size (fun q hq => hq ▸ (show w.heap.size ≤ tb by have g0 := HZS.out; omega)))
   refine hK _ _ ⟨⟨⟨wz, ((below_grown HT.out).but _).trans (kept_grown hk)⟩, rfl⟩, ?_⟩
   clear hK K ht hk
   refine tree_q rfl rfl ?_
   unfold scV limbV
   refine wpQuiet_bin rfl .eql _ _ 72 _ rfl _ _ (.bool V) rfl rfl (fun _ => guardScal _ _ _ _ _ _) (fun _ => HEQ.out _) ?_
   simp only [Act.put, List.setIfInBounds_toArray, List.set_cons_succ, List.set_cons_zero]
   refine wpQuiet_nil ?_
   refine tree_q rfl rfl ?_
   go_big_quiet_step (fail)
   refine wpQuiet_nil ?_
   refine tree_end ?_
   go_wp2_with fail
   go_ret
   exact ⟨rfl, HBZ.out⟩
theorem sVerifyAny_any (k : Int) (label : ByteArray) (hlb : label.size < 140737488355328) (ss : List SetA) (al : Option Addr) (cl : Nat) (cs : List ByteArray) (rs : List RowA) (hrl : ∀ r ∈ rs, r.l.length ≤ 8796093022207) (hcap : ∀ s ∈ ss, ∀ c ∈ s.l, CapOk c) (ac ar : Option Addr) (cc cr : Nat) (w : World) (hC : SetsAt w al ss) (hS : Sl w w.heap.size ac (cs.map Value.string)) (hR : RowsAt w ar rs) :
  Calls Tryz.prog 12 #[.int .i64 k, .string label, .slice al ss.length cl, .agg #[.slice ac cs.length cc, .slice ar rs.length cr]] w fun e w' => e = .returned (.bool (vanK k label ss cs (rs.map RowA.l))) ∧ Below w.heap.size w w' := by
 unfold vanK
 rw [List.length_map]
 by_cases hk : 1 ≤ k ∧ k ≤ 3
 ·obtain ⟨j, rfl⟩ : ∃ j : Nat, k = j := ⟨k.toNat, by omega⟩
  rw [decide_eq_true hk, Bool.true_and, Int.toNat_natCast]
  by_cases hz : setsE (grp j) ss = 0
  ·rw [decide_eq_true hz, Bool.true_and]
   by_cases hm : cs.length = ss.length ∧ rs.length = ss.length
   ·rw [decide_eq_true hm.1, decide_eq_true hm.2, Bool.true_and, Bool.true_and, hm.1, hm.2]
    exact sVany_body j (by omega) (by omega) label hlb ss _ rfl al cl hz cs hm.1 rs hm.2 hrl hcap ac ar cc cr _ rfl w hC hS hR
   ·have e : (decide (cs.length = ss.length) && (decide (rs.length = ss.length) && (vanOk (grp j) (ss.map SetA.l) cs (rs.map RowA.l) ss.length && decide (mont (grp j).q.m (chN (vanT (grp j) (ss.map SetA.l) cs (rs.map RowA.l) (vanB j label (ss.map SetA.l)) ss.length) challengeB) = mont (grp j).q.m (vanS cs ss.length))))) = false := by
     by_cases g : cs.length = ss.length
     ·rw [decide_eq_false (fun h => hm ⟨g, h⟩), Bool.false_and, Bool.and_false]
     ·rw [decide_eq_false g, Bool.false_and]
    rw [e]
    exact sVany_len j (by omega) (by omega) label ss _ rfl al cl hz ac ar _ _ cc cr hm w hC
  ·rw [decide_eq_false hz, Bool.false_and]
   exact sVany_bad j (by omega) (by omega) label ss _ rfl al cl hz ac ar _ _ cc cr w hC
 ·rw [decide_eq_false hk, Bool.false_and]
  exact sVany_none k hk label _ _ _ w
end Go.Proofs.YtdlnnkbigeiilaaGreat
namespace Go.Proofs.YtdlnnkbigeiilaaGreat
open Go.RowKit
theorem mont_iff9 {G : GP} (ok : G.Ok) (x y : Nat) : mont G.q.m x = mont G.q.m y ↔ x % G.q.m = y % G.q.m := by
 constructor
 ·intro h
  rw [← mont_mod G.q.m x, ← mont_mod G.q.m y] at h
  exact mont_inj ok.q.low (Nat.mod_lt _ ok.q.pos) (Nat.mod_lt _ ok.q.pos) h
 ·intro h
  rw [← mont_mod G.q.m x, ← mont_mod G.q.m y, h]
theorem cmp_zero (a b : Nat) : (cmpI a b == 0) = decide (a = b) := by
 unfold cmpI
 by_cases h1 : a < b
 ·rw [if_pos h1, decide_eq_false (by omega)]; rfl
 ·rw [if_neg h1]
  by_cases h2 : b < a
  ·rw [if_pos h2, decide_eq_false (by omega)]; rfl
  ·rw [if_neg h2, decide_eq_true (by omega)]; rfl
theorem rVany_none (k : Int) (hk : ¬ (1 ≤ k ∧ k ≤ 3)) (label : ByteArray) (v p q : Value) (w : World) :
  Calls Tryz.prog 13 #[.int .i64 k, .string label, v, .agg #[p, q]] w fun e w' => e = .returned (.bool false) ∧ Below w.heap.size w w' := by
 have HKD := Lib.hid (fun w => refKind_none k hk w)
 clear hk
 go_enter Tryz.func13, Tryz.ntmps13
 go_wp2_with fail
 obtain ⟨w1, hq1, hb9, hz9, Hbp⟩ := new1 w 30 [p, q]
 rw [hq1]
 clear hq1
 have HB := Lib.hid hb9
 have HZS := hz9
 clear hb9 hz9
 have bp_ := Hbp.out.c2
 go_wp2_with fail
 refine (HKD.out w1).mono ?_
 rintro e w2 ⟨rfl, hb9⟩
 clear bp_
 replace Hbp := Lib.hid (Hbp.out.up hb9)
 replace HB := hbu HB hb9
 replace HZS := sz HZS hb9.size
 clear hb9
 have bp_ := Hbp.out.c2
 have o3_bp_ := bp_; clear bp_
 obtain ⟨w3, hq3, hb9, hz9, Hg⟩ := new1 w2 86 [.int .i64 0, .slice none 0 0, .slice none 0 0]
 replace Hbp := Lib.hid (Hbp.out.up hb9)
 replace HB := hbu HB hb9
 replace HZS := sz HZS hz9.out
 clear hb9 hz9
 have bp_ := Hbp.out.c2
 have g_ := Hg.out.c3
 have f4_g := Hg.out.frozen
 have o4_bp_ := bp_; clear bp_
 have o4_g_ := g_; clear g_
 obtain ⟨w4, hq4, hg9, hz9, hx9⟩ := put3 Hg 0 (.int .i64 0) 1 (.slice none 0 0) 2 (.slice none 0 0) [.int .i64 0, .slice none 0 0, .slice none 0 0] rfl
 replace Hbp := Lib.hid (Hbp.out.grown hg9.out (sne (by have g0 := HZS.out; omega)))
 replace HB := hbg HB hg9 (by have g0 := HZS.out; omega)
 replace HZS := sz HZS hz9.out
 replace Hg := hx9
 clear hx9 hg9 hz9
 have bp_ := Hbp.out.c2
 have g_ := Hg.out.c3
 go_wp2_with fail
 clear hq4 o4_g_ o4_bp_ f4_g hq3 o3_bp_
 go_ret
 exact ⟨rfl, HB.out⟩
theorem rVany_bad (k : Nat) (h1 : 1 ≤ k) (h3 : k ≤ 3) (label : ByteArray) (ss : List SetA) (n : Nat) (hn : ss.length = n) (al : Option Addr) (cl : Nat) (hz : ¬ setsE (grp k) ss = 0) (ac ar : Option Addr) (m m2 cc cr : Nat) (w : World) (hC : SetsAt w al ss) :
  Calls Tryz.prog 13 #[.int .i64 (k : Int), .string label, .slice al n cl, .agg #[.slice ac m cc, .slice ar m2 cr]] w fun e w' => e = .returned (.bool false) ∧ Below w.heap.size w w' := by
 have HWS := Lib.hid (fun aq ap cq cp w hG hC => rWrongSets (aq := aq) (ap := ap) (cq := cq) (cp := cp) (grp_ok k h1 h3) ss n hn al cl w hG hC)
 have HC := Lib.hid hC
 have hs0 : (((grp k).size : Int) == 0) = false := by have h9 := of_decide_eq_true (size_gt0 k h1 h3); simp; omega
 obtain ⟨z, hz9⟩ : ∃ z, setsE (grp k) ss = z := ⟨_, rfl⟩
 rw [hz9] at HWS hz
 unfold Gives at HWS
 have hd3 : ((z : Int) != 0) = true := by simp; omega
 clear hC hn hz hz9
 go_enter Tryz.func13, Tryz.ntmps13
 go_wp2_with fail
 obtain ⟨w1, hq1, hb9, hz9, Hbp⟩ := new1 w 30 [.slice ac m cc, .slice ar m2 cr]
 rw [hq1]
 clear hq1
 have HB := Lib.hid hb9
 have HZS := hz9
 clear hb9 hz9
 have bp_ := Hbp.out.c2
 go_wp2_with fail
 refine (refKind_some k h1 h3 w1).mono ?_
 rintro e w2 ⟨aq, cq, ap, cp, rfl, hq9, hp9, hb9⟩
 clear bp_
 replace Hbp := Lib.hid (Hbp.out.up hb9)
 replace HB := hbu HB hb9
 replace HZS := sz HZS hb9.size
 clear hb9
 have bp_ := Hbp.out.c2
 have HRG := Lib.hid (RG.mk (G := grp k) hq9 hp9)
 clear hq9 hp9
 have BQ := Lib.hid (Below.refl w2.heap.size w2)
 have HBPK := Hbp
 have HBK := HB
 have o3_bp_ := bp_; clear bp_
 obtain ⟨w3, hq3, hb9, hz9, Hg⟩ := new1 w2 86 [.int .i64 ((grp k).size : Int), .slice aq (dl (grp k).q.m) cq, .slice ap (dl (grp k).p.m) cp]
 replace Hbp := Lib.hid (Hbp.out.up hb9)
 replace BQ := hbu BQ hb9
 replace HB := hbu HB hb9
 replace HZS := sz HZS hz9.out
 clear hb9 hz9
 have bp_ := Hbp.out.c2
 have g_ := Hg.out.c3
 go_wp2_with fail
 clear hq3 o3_bp_
 refine (HWS.out aq ap cq cp w3 (HRG.out.up BQ.out) (HC.out.up HB.out)).mono ?_
 rintro e w4 ⟨rfl, hb9⟩
 clear bp_
 replace Hbp := Lib.hid (Hbp.out.up hb9)
 clear g_
 replace Hg := Lib.hid (Hg.out.up hb9)
 replace BQ := hbu BQ hb9
 replace HB := hbu HB hb9
 replace HZS := sz HZS hb9.size
 clear hb9
 have bp_ := Hbp.out.c2
 have g_ := Hg.out.c3
 go_wp2_with fail
 go_ret
 exact ⟨rfl, HB.out⟩
theorem rVany_len (k : Nat) (h1 : 1 ≤ k) (h3 : k ≤ 3) (label : ByteArray) (ss : List SetA) (n : Nat) (hn : ss.length = n) (al : Option Addr) (cl : Nat) (hz : setsE (grp k) ss = 0) (ac ar : Option Addr) (m m2 cc cr : Nat) (hm : ¬ (m = n ∧ m2 = n)) (w : World) (hC : SetsAt w al ss) :
  Calls Tryz.prog 13 #[.int .i64 (k : Int), .string label, .slice al n cl, .agg #[.slice ac m cc, .slice ar m2 cr]] w fun e w' => e = .returned (.bool false) ∧ Below w.heap.size w w' := by
 have HWS := Lib.hid (fun aq ap cq cp w hG hC => rWrongSets (aq := aq) (ap := ap) (cq := cq) (cp := cp) (grp_ok k h1 h3) ss n hn al cl w hG hC)
 have HC := Lib.hid hC
 have hs0 : (((grp k).size : Int) == 0) = false := by have h9 := of_decide_eq_true (size_gt0 k h1 h3); simp; omega
 rw [hz] at HWS
 unfold Gives at HWS
 clear hC hn hz
 by_cases hmn : m = n
 ·have hd1 : ((m : Int) != (n : Int)) = false := by simp; omega
  have hd2 : ((m2 : Int) != (n : Int)) = true := by simp; omega
  clear hm hmn
  go_enter Tryz.func13, Tryz.ntmps13
  go_wp2_with fail
  obtain ⟨w1, hq1, hb9, hz9, Hbp⟩ := new1 w 30 [.slice ac m cc, .slice ar m2 cr]
  rw [hq1]
  clear hq1
  have HB := Lib.hid hb9
  have HZS := hz9
  clear hb9 hz9
  have bp_ := Hbp.out.c2
  go_wp2_with fail
  refine (refKind_some k h1 h3 w1).mono ?_
  rintro e w2 ⟨aq, cq, ap, cp, rfl, hq9, hp9, hb9⟩
  clear bp_
  replace Hbp := Lib.hid (Hbp.out.up hb9)
  replace HB := hbu HB hb9
  replace HZS := sz HZS hb9.size
  clear hb9
  have bp_ := Hbp.out.c2
  have HRG := Lib.hid (RG.mk (G := grp k) hq9 hp9)
  clear hq9 hp9
  have BQ := Lib.hid (Below.refl w2.heap.size w2)
  have HBPK := Hbp
  have HBK := HB
  have o3_bp_ := bp_; clear bp_
  obtain ⟨w3, hq3, hb9, hz9, Hg⟩ := new1 w2 86 [.int .i64 ((grp k).size : Int), .slice aq (dl (grp k).q.m) cq, .slice ap (dl (grp k).p.m) cp]
  replace Hbp := Lib.hid (Hbp.out.up hb9)
  replace BQ := hbu BQ hb9
  replace HB := hbu HB hb9
  replace HZS := sz HZS hz9.out
  clear hb9 hz9
  have bp_ := Hbp.out.c2
  have g_ := Hg.out.c3
  go_wp2_with fail
  clear hq3 o3_bp_
  refine (HWS.out aq ap cq cp w3 (HRG.out.up BQ.out) (HC.out.up HB.out)).mono ?_
  rintro e w4 ⟨rfl, hb9⟩
  clear bp_
  replace Hbp := Lib.hid (Hbp.out.up hb9)
  clear g_
  replace Hg := Lib.hid (Hg.out.up hb9)
  replace BQ := hbu BQ hb9
  replace HB := hbu HB hb9
  replace HZS := sz HZS hb9.size
  clear hb9
  have bp_ := Hbp.out.c2
  have g_ := Hg.out.c3
  go_wp2_with fail
  go_ret
  exact ⟨rfl, HB.out⟩
 ·have hd1 : ((m : Int) != (n : Int)) = true := by simp; omega
  clear hm hmn
  go_enter Tryz.func13, Tryz.ntmps13
  go_wp2_with fail
  obtain ⟨w1, hq1, hb9, hz9, Hbp⟩ := new1 w 30 [.slice ac m cc, .slice ar m2 cr]
  rw [hq1]
  clear hq1
  have HB := Lib.hid hb9
  have HZS := hz9
  clear hb9 hz9
  have bp_ := Hbp.out.c2
  go_wp2_with fail
  refine (refKind_some k h1 h3 w1).mono ?_
  rintro e w2 ⟨aq, cq, ap, cp, rfl, hq9, hp9, hb9⟩
  clear bp_
  replace Hbp := Lib.hid (Hbp.out.up hb9)
  replace HB := hbu HB hb9
  replace HZS := sz HZS hb9.size
  clear hb9
  have bp_ := Hbp.out.c2
  have HRG := Lib.hid (RG.mk (G := grp k) hq9 hp9)
  clear hq9 hp9
  have BQ := Lib.hid (Below.refl w2.heap.size w2)
  have HBPK := Hbp
  have HBK := HB
  have o3_bp_ := bp_; clear bp_
  obtain ⟨w3, hq3, hb9, hz9, Hg⟩ := new1 w2 86 [.int .i64 ((grp k).size : Int), .slice aq (dl (grp k).q.m) cq, .slice ap (dl (grp k).p.m) cp]
  replace Hbp := Lib.hid (Hbp.out.up hb9)
  replace BQ := hbu BQ hb9
  replace HB := hbu HB hb9
  replace HZS := sz HZS hz9.out
  clear hb9 hz9
  have bp_ := Hbp.out.c2
  have g_ := Hg.out.c3
  go_wp2_with fail
  clear hq3 o3_bp_
  refine (HWS.out aq ap cq cp w3 (HRG.out.up BQ.out) (HC.out.up HB.out)).mono ?_
  rintro e w4 ⟨rfl, hb9⟩
  clear bp_
  replace Hbp := Lib.hid (Hbp.out.up hb9)
  clear g_
  replace Hg := Lib.hid (Hg.out.up hb9)
  replace BQ := hbu BQ hb9
  replace HB := hbu HB hb9
  replace HZS := sz HZS hb9.size
  clear hb9
  have bp_ := Hbp.out.c2
  have g_ := Hg.out.c3
  go_wp2_with fail
  go_ret
  exact ⟨rfl, HB.out⟩
theorem rVany_body (k : Nat) (h1 : 1 ≤ k) (h3 : k ≤ 3) (label : ByteArray) (hlb : label.size < 140737488355328) (ss : List SetA) (n : Nat) (hn : ss.length = n) (al : Option Addr) (cl : Nat) (hz : setsE (grp k) ss = 0) (cs : List ByteArray) (hcs : cs.length = n) (rs : List RowA) (hrs : rs.length = n) (hrl : ∀ r ∈ rs, r.l.length ≤ 8796093022207) (ac ar : Option Addr) (cc cr : Nat) (V : Bool) (hV : (vanOk (grp k) (ss.map SetA.l) cs (rs.map RowA.l) n && decide (mont (grp k).q.m (chN (vanT (grp k) (ss.map SetA.l) cs (rs.map RowA.l) (vanB k label (ss.map SetA.l)) n) challengeB) = mont (grp k).q.m (vanS cs n))) = V) (w : World) (hC : SetsAt w al ss) (hS : Sl w w.heap.size ac (cs.map Value.string)) (hR : RowsAt w ar rs) :
  Calls Tryz.prog 13 #[.int .i64 (k : Int), .string label, .slice al n cl, .agg #[.slice ac n cc, .slice ar n cr]] w fun e w' => e = .returned (.bool V) ∧ Below w.heap.size w w' := by
 have OK := Lib.hid (grp_ok k h1 h3)
 have HWS := Lib.hid (fun aq ap cq cp w hG hC => rWrongSets (aq := aq) (ap := ap) (cq := cq) (cp := cp) OK.out ss n hn al cl w hG hC)
 rw [hz] at HWS
 unfold Gives at HWS
 have HC := Lib.hid hC
 have HS := Lib.hid hS
 have HR := Lib.hid hR
 have HN := Lib.hid hn
 have HCS := Lib.hid hcs
 have HRS := Lib.hid hrs
 have HRL := Lib.hid hrl
 have HZE := Lib.hid (setsE_ok hz)
 have h16 : n ≤ 16 := by have := HZE.out.2.1; omega
 have HSS := Lib.hid (fun s (hs : s ∈ ss) => wrongsE_all HZE.out.2.2 s hs)
 have hs0 : (((grp k).size : Int) == 0) = false := by have h9 := of_decide_eq_true (size_gt0 k h1 h3); simp; omega
 unfold vanB at hV
 have HBS := Lib.hid (show (saySs (beginT eitherB label k) (ss.map SetA.l)).size = 32 from saySs_size _ _ (say1_size _ _ _))
 have HF1 := Lib.hid (fun w => rbegin_any (k : Int) (by omega) eitherB label (by decide) hlb w)
 have HF2 := Lib.hid (fun w hC => rsaySets_any (beginT eitherB label k) (say1_size _ _ _) ss n hn h16 (fun t ht => by
  obtain ⟨hsh, hel⟩ := wrong_ok (HSS.out t ht)
  have hsz := shape_ok hsh
  refine ⟨hsz.2.1, fun c hc => ?_⟩
  have h8 := List.all_eq_true.1 hel c hc
  unfold cElems at h8
  rw [Bool.and_eq_true] at h8
  have hs := OK.out.size_le
  have hsm : ∀ s, isEl (grp k).q.m (grp k).size s = true → s.size ≤ 32 := fun s h => by
   unfold isEl at h
   simp only [Bool.and_eq_true, decide_eq_true_eq] at h
   omega
  have h9 := hsz.2.2 c hc
  exact ⟨h9.2.1, by omega, fun x hx => hsm x (List.all_eq_true.1 h8.1 x hx), fun x hx => hsm x (List.all_eq_true.1 h8.2 x hx)⟩) al cl w hC)
 have HF3 := Lib.hid (fun s ro h64 hz' sh al cl w hC => rsayFi_any s ro ro.length rfl h64 hz' sh al cl w hC)
 have HF4 := Lib.hid (fun gz pv aq cq s hs w hQ => rChallenge_any gz (grp k).q.m pv OK.out.q.pos aq cq s challengeB hs (by decide) w hQ)
 have HVT := Lib.hid (fun j => (show vanT (grp k) (ss.map SetA.l) cs (rs.map RowA.l) (saySs (beginT eitherB label k) (ss.map SetA.l)) (j + 1) = sayFi (vanT (grp k) (ss.map SetA.l) cs (rs.map RowA.l) (saySs (beginT eitherB label k) (ss.map SetA.l)) j) (vanR (grp k) (ss.map SetA.l) cs (rs.map RowA.l) j) from rfl))
 have HVZ := Lib.hid (fun j => vanT_size (grp k) (ss.map SetA.l) cs (rs.map RowA.l) (saySs (beginT eitherB label k) (ss.map SetA.l)) HBS.out j)
 have HV0 := Lib.hid (show vanT (grp k) (ss.map SetA.l) cs (rs.map RowA.l) (saySs (beginT eitherB label k) (ss.map SetA.l)) 0 = saySs (beginT eitherB label k) (ss.map SetA.l) from rfl)
 generalize vanT (grp k) (ss.map SetA.l) cs (rs.map RowA.l) (saySs (beginT eitherB label k) (ss.map SetA.l)) = VT at *
 generalize saySs (beginT eitherB label k) (ss.map SetA.l) = SB at *
 generalize beginT eitherB label k = BT at *
 generalize sayFi = SF at *
 generalize chN = CN at *
 generalize chT = CT at *
 have HV := Lib.hid hV.symm
 have HVS := Lib.hid (fun j => (show vanS cs (j + 1) = vanS cs j + numOf (cs.getD j ⟨#[]⟩) from rfl))
 have HVS0 := Lib.hid (show vanS cs 0 % (grp k).q.m = 0 from Nat.zero_mod _)
 generalize vanS cs = VS at *
 have hd1 : ((n : Int) != (n : Int)) = false := by simp
 clear hC hS hR hn hcs hrs hrl hlb hV hz
 go_enter Tryz.func13, Tryz.ntmps13
 go_wp2_with fail
 obtain ⟨w1, hq1, hb9, hz9, Hbp⟩ := new1 w 30 [.slice ac n cc, .slice ar n cr]
 rw [hq1]
 clear hq1
 have HB := Lib.hid hb9
 have HZS := hz9
 clear hb9 hz9
 have bp_ := Hbp.out.c2
 go_wp2_with fail
 refine (refKind_some k h1 h3 w1).mono ?_
 rintro e w2 ⟨aq, cq, ap, cp, rfl, hq9, hp9, hb9⟩
 clear bp_
 replace Hbp := Lib.hid (Hbp.out.up hb9)
 replace HB := hbu HB hb9
 replace HZS := sz HZS hb9.size
 clear hb9
 have bp_ := Hbp.out.c2
 have HRG := Lib.hid (RG.mk (G := grp k) hq9 hp9)
 clear hq9 hp9
 have BQ := Lib.hid (Below.refl w2.heap.size w2)
 have HBPK := Hbp
 have HBK := HB
 have o3_bp_ := bp_; clear bp_
 obtain ⟨w3, hq3, hb9, hz9, Hg⟩ := new1 w2 86 [.int .i64 ((grp k).size : Int), .slice aq (dl (grp k).q.m) cq, .slice ap (dl (grp k).p.m) cp]
 replace Hbp := Lib.hid (Hbp.out.up hb9)
 replace BQ := hbu BQ hb9
 replace HB := hbu HB hb9
 replace HZS := sz HZS hz9.out
 clear hb9 hz9
 have bp_ := Hbp.out.c2
 have g_ := Hg.out.c3
 go_wp2_with fail
 clear hq3 o3_bp_
 refine (HWS.out aq ap cq cp w3 (HRG.out.up BQ.out) (HC.out.up HB.out)).mono ?_
 rintro e w4 ⟨rfl, hb9⟩
 clear bp_
 replace Hbp := Lib.hid (Hbp.out.up hb9)
 clear g_
 replace Hg := Lib.hid (Hg.out.up hb9)
 replace BQ := hbu BQ hb9
 replace HB := hbu HB hb9
 replace HZS := sz HZS hb9.size
 clear hb9
 have bp_ := Hbp.out.c2
 have g_ := Hg.out.c3
 clear HWS
 go_wp2_with fail
 refine (HF1.out w4).mono ?_
 rintro e w5 ⟨rfl, hb9⟩
 clear bp_
 replace Hbp := Lib.hid (Hbp.out.up hb9)
 clear g_
 replace Hg := Lib.hid (Hg.out.up hb9)
 replace BQ := hbu BQ hb9
 replace HB := hbu HB hb9
 replace HZS := sz HZS hb9.size
 clear hb9
 have bp_ := Hbp.out.c2
 have g_ := Hg.out.c3
 go_wp2_with fail
 refine (HF2.out w5 (HC.out.up HB.out)).mono ?_
 rintro e w6 ⟨rfl, hb9⟩
 clear bp_
 replace Hbp := Lib.hid (Hbp.out.up hb9)
 clear g_
 replace Hg := Lib.hid (Hg.out.up hb9)
 replace BQ := hbu BQ hb9
 replace HB := hbu HB hb9
 replace HZS := sz HZS hb9.size
 clear hb9
 have bp_ := Hbp.out.c2
 have g_ := Hg.out.c3
 have o7_bp_ := bp_; clear bp_
 have o7_g_ := g_; clear g_
 obtain ⟨w7, hq7, hb9, hz9, Ht⟩ := new1 w6 89 [.string SB]
 replace Hbp := Lib.hid (Hbp.out.up hb9)
 replace Hg := Lib.hid (Hg.out.up hb9)
 replace BQ := hbu BQ hb9
 replace HB := hbu HB hb9
 replace HZS := sz HZS hz9.out
 clear hb9 hz9
 have bp_ := Hbp.out.c2
 have g_ := Hg.out.c3
 have t_ := Ht.out.c1
 go_wp2_with fail
 clear hq7 o7_g_ o7_bp_
 refine (refOf_any 0 (by decide) w7).mono ?_
 rintro e w8 ⟨a0, c0, rfl, hn9, hb9⟩
 clear bp_
 replace Hbp := Lib.hid (Hbp.out.up hb9)
 clear g_
 replace Hg := Lib.hid (Hg.out.up hb9)
 clear t_
 replace Ht := Lib.hid (Ht.out.up hb9)
 replace BQ := hbu BQ hb9
 replace HB := hbu HB hb9
 replace HZS := sz HZS hb9.size
 have HN0 := Lib.hid hn9
 clear hn9 hb9
 have bp_ := Hbp.out.c2
 have g_ := Hg.out.c3
 have t_ := Ht.out.c1
 have HN1 := Lib.hid (show NumAt w8 a0 (VS 0 % (grp k).q.m) by rw [HVS0.out]; exact HN0.out)
 clear HN0
 have HGT := Lib.hid (show w2.heap.size < w6.heap.size by have g0 := HZS.out; omega)
 have HWK := Lib.hid HBK.out.size
 go_wp2_with fail
 go_loopw [51, 11] (fun i v wr => ∃ (j : Nat) (y : ByteArray) (a9 : Option Addr) (c9 : Nat), j ≤ n ∧ i = .int .i64 (j : Int) ∧ v = .slice a9 (dl (VS j % (grp k).q.m)) c9 ∧ Hid (y = VT j) ∧ Hid (vanOk (grp k) (ss.map SetA.l) cs (rs.map RowA.l) j = true) ∧ Hid (NumAt wr a9 (VS j % (grp k).q.m)) ∧ Hid (Bx wr w6.heap.size 89 [.string y]) ∧ Hid (Bx wr w2.heap.size 86 [.int .i64 ((grp k).size : Int), .slice aq (dl (grp k).q.m) cq, .slice ap (dl (grp k).p.m) cp]) ∧ Hid (Below w2.heap.size w2 wr)) (fun i _ _ => n - (intOf i).toNat)
 case atStart => exact ⟨0, _, a0, c0, Nat.zero_le _, rfl, by rw [HVS0.out], Lib.hid HV0.out.symm, rfl, HN1, Ht, Hg, BQ⟩
 case round =>
  clear Ht Hg HB Hbp t_ g_ bp_ HN1 BQ
  obtain ⟨j, y, a9, c9, hj, rfl, rfl, HYE, HOKJ, HNS, Ht, Hg, BQ⟩ := hrel
  have HB := Lib.hid (below_up HBK.out BQ.out)
  have Hbp := Lib.hid (HBPK.out.up BQ.out)
  have HTL := Lib.hid Ht.out.lt
  by_cases hjn : j < n
  ·have hjs : j < ss.length := by rw [HN.out]; exact hjn
   have hjc : j < cs.length := by rw [HCS.out]; exact hjn
   have hjr : j < rs.length := by rw [HRS.out]; exact hjn
   obtain ⟨bl, ol, rfl, hbl0, hc⟩ := (HC.out.s.up HB.out).elem SetA.cells_len (by omega) j hjs
   have hc_0 := hc 0 _ rfl
   rw [Nat.add_zero] at hc_0
   clear hc
   rw [Nat.mul_one] at hc_0
   obtain ⟨bc, oc, rfl, hbc, hcc⟩ := (HS.out.up HB.out).at j (by simpa using hjc)
   rw [List.getElem_map] at hcc
   obtain ⟨br, or9, rfl, hbr, hrr⟩ := (HR.out.s.up HB.out).elem RowA.cells_len (by omega) j hjr
   have hrr_0 := hrr 0 _ rfl
   rw [Nat.add_zero] at hrr_0
   clear hrr
   rw [Nat.mul_one] at hrr_0
   have HAT := Lib.hid (HC.out.one j hjs)
   have HAR := Lib.hid (HR.out.one j hjr)
   have HRLJ := Lib.hid (HRL.out _ (List.getElem_mem hjr))
   have HWJ0 := Lib.hid (HSS.out _ (List.getElem_mem hjs))
   have HKJ := Lib.hid (show (ss.map SetA.l).getD j [] = ss[j].l by rw [List.getD_eq_getElem?_getD, List.getElem?_map, List.getElem?_eq_getElem hjs]; rfl)
   have HCJ := Lib.hid (show cs.getD j ⟨#[]⟩ = cs[j] by rw [List.getD_eq_getElem?_getD, List.getElem?_eq_getElem hjc]; rfl)
   have HRJ := Lib.hid (show (rs.map RowA.l).getD j [] = rs[j].l by rw [List.getD_eq_getElem?_getD, List.getElem?_map, List.getElem?_eq_getElem hjr]; rfl)
   have HVRJ := Lib.hid (show vanR (grp k) (ss.map SetA.l) cs (rs.map RowA.l) j = eachA (grp k) (valB (grp k) ((grp k).q.m - numOf cs[j]) ss[j].l rs[j].l) (lens ss[j].l) ss[j].l.length by unfold vanR; rw [HCJ.out, HKJ.out, HRJ.out])
   have HO1 := Lib.hid (show vanOk1 (grp k) (ss.map SetA.l) cs (rs.map RowA.l) j = (isSc (grp k).q.m (grp k).size cs[j] && decide (scE (grp k) ss[j].l.length rs[j].l = 0)) by unfold vanOk1; rw [HCJ.out, HKJ.out, HRJ.out])
   have HVSJ := Lib.hid (show VS (j + 1) = VS j + numOf cs[j] by rw [HVS.out, HCJ.out])
   have HVTJ := Lib.hid (show VT (j + 1) = SF y (vanR (grp k) (ss.map SetA.l) cs (rs.map RowA.l) j) by rw [HVT.out, HYE.out])
   have HYZ := Lib.hid (show y.size = 32 by rw [HYE.out]; exact HVZ.out j)
   have HOK2 := Lib.hid (fun h => vanOk_snoc HOKJ.out h)
   have HNOT := Lib.hid (fun h => vanOk_not (G := grp k) (ls := ss.map SetA.l) (cs := cs) (rs := rs.map RowA.l) hjn h)
   clear HKJ HRJ HCJ HYE HOKJ
   generalize vanR (grp k) (ss.map SetA.l) cs (rs.map RowA.l) j = LJ at *
   generalize ss[j] = s9 at *
   generalize cs[j] = ch at *
   generalize rs[j] = r9 at *
   generalize s9.a = sa at *
   generalize s9.c = sc at *
   generalize s9.l = l at *
   obtain ⟨b, hb⟩ : ∃ b, isSc (grp k).q.m (grp k).size ch = b := ⟨_, rfl⟩
   obtain ⟨z, hz⟩ : ∃ z, scE (grp k) l.length r9.l = z := ⟨_, rfl⟩
   have HIS := Lib.hid (fun W hG => rIsSc_b (aq := aq) (ap := ap) (cq := cq) (cp := cp) OK.out ch b hb W hG)
   have HWJ := Lib.hid (fun W hG hS => rWrongSc_e (aq := aq) (ap := ap) (cq := cq) (cp := cp) OK.out l.length r9.l z hz r9.a r9.c HRLJ.out W hG hS)
   rw [hz] at HO1
   rw [hb] at HO1
   have HBC := Lib.hid hb
   have HZZ := Lib.hid hz
   have HCC := Lib.hid hcc
   have HRR0 := Lib.hid hrr_0
   have HBC0 := Lib.hid hbc
   have HBR0 := Lib.hid hbr
   clear hb hz hjs hjc hjr HSS
   replace HZS := sz HZS HTL.out
   replace HZS := sz HZS HGT.out
   replace HZS := sz HZS HWK.out
   have t_ := Ht.out.c1
   have g_ := Hg.out.c3
   have bp_ := Hbp.out.c2
   have BR := Lib.hid (Below.refl wr.heap.size wr)
   by_cases hz0 : z = 0
   case neg =>
    have hd3 : ((z : Int) != 0) = true := by simp; omega
    obtain rfl : V = false := by rw [HV.out, HNOT.out (by rw [HO1.out, decide_eq_false hz0, Bool.and_false])]; rfl
    clear hz0
    cases b
    ·go_wp2_with fail
     clear t_
     have hl_g := Hg.out.lt
     have hl_bp := Hbp.out.lt
     refine wp_region_over (by kernel_rfl) (by kernel_rfl) ?_
     have hov_g := fun (E : Over wr) o => E.cell (b := w2.heap.size) o hl_g
     have hov_bp := fun (E : Over wr) o => E.cell (b := w.heap.size) o hl_bp
     have hov_bc := fun (E : Over wr) o => E.cell (b := bc) o hbc
     have hov_br := fun (E : Over wr) o => E.cell (b := br) o hbr
     repeat (go_big_quiet_step (first | (go_at_call 58; exact calls_over (HIS.out _ (HRG.out.up (below_up BQ.out (Over.h _))))) | (go_at_call 59; exact calls_over (HWJ.out _ (HRG.out.up (below_up BQ.out (Over.h _))) (HAR.out.up (below_up HB.out (Over.h _)))))))
     all_goals (try unfold elV limbV)
     repeat (go_big_quiet_step (first | (go_at_call 58; exact calls_over (HIS.out _ (HRG.out.up (below_up BQ.out (Over.h _))))) | (go_at_call 59; exact calls_over (HWJ.out _ (HRG.out.up (below_up BQ.out (Over.h _))) (HAR.out.up (below_up HB.out (Over.h _)))))))
     all_goals (try unfold elV limbV)
     repeat (go_big_quiet_step (first | (go_at_call 58; exact calls_over (HIS.out _ (HRG.out.up (below_up BQ.out (Over.h _))))) | (go_at_call 59; exact calls_over (HWJ.out _ (HRG.out.up (below_up BQ.out (Over.h _))) (HAR.out.up (below_up HB.out (Over.h _)))))))
     all_goals (try unfold ciphV)
     refine wpQuiet_nil ?_
     rintro _ ⟨E, rfl⟩
     clear hov_g hl_g hov_bp hl_bp hov_bc hov_br
     replace Ht := Lib.hid (Ht.out.up E.h)
     clear g_
     replace Hg := Lib.hid (Hg.out.up E.h)
     clear bp_
     replace Hbp := Lib.hid (Hbp.out.up E.h)
     replace HNS := Lib.hid (HNS.out.up E.h)
     replace BQ := hbu BQ E.h
     replace BR := hbu BR E.h
     replace HB := hbu HB E.h
     replace HZS := sz HZS E.h.size
     obtain ⟨w9, hq9⟩ : ∃ W9 : World, E.w = W9 := ⟨_, rfl⟩
     rw [hq9] at Ht Hg Hbp HNS BQ BR HB HZS ⊢
     clear hq9 E
     have g_ := Hg.out.c3
     have bp_ := Hbp.out.c2
     go_wp2_with fail
     go_ret
     exact ⟨rfl, HB.out⟩
    ·go_wp2_with fail
     clear t_
     have hl_g := Hg.out.lt
     have hl_bp := Hbp.out.lt
     refine wp_region_over (by kernel_rfl) (by kernel_rfl) ?_
     have hov_g := fun (E : Over wr) o => E.cell (b := w2.heap.size) o hl_g
     have hov_bp := fun (E : Over wr) o => E.cell (b := w.heap.size) o hl_bp
     have hov_bc := fun (E : Over wr) o => E.cell (b := bc) o hbc
     have hov_br := fun (E : Over wr) o => E.cell (b := br) o hbr
     repeat (go_big_quiet_step (first | (go_at_call 58; exact calls_over (HIS.out _ (HRG.out.up (below_up BQ.out (Over.h _))))) | (go_at_call 59; exact calls_over (HWJ.out _ (HRG.out.up (below_up BQ.out (Over.h _))) (HAR.out.up (below_up HB.out (Over.h _)))))))
     all_goals (try unfold elV limbV)
     repeat (go_big_quiet_step (first | (go_at_call 58; exact calls_over (HIS.out _ (HRG.out.up (below_up BQ.out (Over.h _))))) | (go_at_call 59; exact calls_over (HWJ.out _ (HRG.out.up (below_up BQ.out (Over.h _))) (HAR.out.up (below_up HB.out (Over.h _)))))))
     all_goals (try unfold elV limbV)
     repeat (go_big_quiet_step (first | (go_at_call 58; exact calls_over (HIS.out _ (HRG.out.up (below_up BQ.out (Over.h _))))) | (go_at_call 59; exact calls_over (HWJ.out _ (HRG.out.up (below_up BQ.out (Over.h _))) (HAR.out.up (below_up HB.out (Over.h _)))))))
     all_goals (try unfold ciphV)
     refine wpQuiet_nil ?_
     rintro _ ⟨E, rfl⟩
     clear hov_g hl_g hov_bp hl_bp hov_bc hov_br
     replace Ht := Lib.hid (Ht.out.up E.h)
     clear g_
     replace Hg := Lib.hid (Hg.out.up E.h)
     clear bp_
     replace Hbp := Lib.hid (Hbp.out.up E.h)
     replace HNS := Lib.hid (HNS.out.up E.h)
     replace BQ := hbu BQ E.h
     replace BR := hbu BR E.h
     replace HB := hbu HB E.h
     replace HZS := sz HZS E.h.size
     obtain ⟨w9, hq9⟩ : ∃ W9 : World, E.w = W9 := ⟨_, rfl⟩
     rw [hq9] at Ht Hg Hbp HNS BQ BR HB HZS ⊢
     clear hq9 E
     have g_ := Hg.out.c3
     have bp_ := Hbp.out.c2
     go_wp2_with fail
     go_ret
     exact ⟨rfl, HB.out⟩
   subst hz0
   cases b
   case false =>
    obtain rfl : V = false := by rw [HV.out, HNOT.out (by rw [HO1.out]; rfl)]; rfl
    go_wp2_with fail
    clear t_
    have hl_g := Hg.out.lt
    have hl_bp := Hbp.out.lt
    refine wp_region_over (by kernel_rfl) (by kernel_rfl) ?_
    have hov_g := fun (E : Over wr) o => E.cell (b := w2.heap.size) o hl_g
    have hov_bp := fun (E : Over wr) o => E.cell (b := w.heap.size) o hl_bp
    have hov_bc := fun (E : Over wr) o => E.cell (b := bc) o hbc
    have hov_br := fun (E : Over wr) o => E.cell (b := br) o hbr
    repeat (go_big_quiet_step (first | (go_at_call 58; exact calls_over (HIS.out _ (HRG.out.up (below_up BQ.out (Over.h _))))) | (go_at_call 59; exact calls_over (HWJ.out _ (HRG.out.up (below_up BQ.out (Over.h _))) (HAR.out.up (below_up HB.out (Over.h _)))))))
    all_goals (try unfold elV limbV)
    repeat (go_big_quiet_step (first | (go_at_call 58; exact calls_over (HIS.out _ (HRG.out.up (below_up BQ.out (Over.h _))))) | (go_at_call 59; exact calls_over (HWJ.out _ (HRG.out.up (below_up BQ.out (Over.h _))) (HAR.out.up (below_up HB.out (Over.h _)))))))
    all_goals (try unfold elV limbV)
    repeat (go_big_quiet_step (first | (go_at_call 58; exact calls_over (HIS.out _ (HRG.out.up (below_up BQ.out (Over.h _))))) | (go_at_call 59; exact calls_over (HWJ.out _ (HRG.out.up (below_up BQ.out (Over.h _))) (HAR.out.up (below_up HB.out (Over.h _)))))))
    all_goals (try unfold ciphV)
    refine wpQuiet_nil ?_
    rintro _ ⟨E, rfl⟩
    clear hov_g hl_g hov_bp hl_bp hov_bc hov_br
    replace Ht := Lib.hid (Ht.out.up E.h)
    clear g_
    replace Hg := Lib.hid (Hg.out.up E.h)
    clear bp_
    replace Hbp := Lib.hid (Hbp.out.up E.h)
    replace HNS := Lib.hid (HNS.out.up E.h)
    replace BQ := hbu BQ E.h
    replace BR := hbu BR E.h
    replace HB := hbu HB E.h
    replace HZS := sz HZS E.h.size
    obtain ⟨w9, hq9⟩ : ∃ W9 : World, E.w = W9 := ⟨_, rfl⟩
    rw [hq9] at Ht Hg Hbp HNS BQ BR HB HZS ⊢
    clear hq9 E
    have g_ := Hg.out.c3
    have bp_ := Hbp.out.c2
    go_wp2_with fail
    go_ret
    exact ⟨rfl, HB.out⟩
   have HOK3 := Lib.hid (HOK2.out (by rw [HO1.out]; rfl))
   have HBO := Lib.hid (fun W hG hC hX => (show Calls Tryz.prog 62 #[.agg #[.int .i64 ((grp k).size : Int), .slice aq (dl (grp k).q.m) cq, .slice ap (dl (grp k).p.m) cp], .slice sa l.length sc, .string ch, .slice r9.a l.length r9.c] W (RowsR LJ W) from by
    have h9 := rBackOf (aq := aq) (ap := ap) (cq := cq) (cp := cp) OK.out ch _ rfl (by have h8 := HBC.out; unfold isSc at h8; simp only [Bool.and_eq_true, decide_eq_true_eq] at h8; have h7 := OK.out.size_le; omega) (isSc_le HBC.out) l r9.l (rsh_of OK.out HWJ0.out HZZ.out) l.length rfl sa r9.a sc r9.c W hG hC hX
    rw [rback_eq h1 h3 ch HWJ0.out HZZ.out, ← HVRJ.out] at h9
    exact h9))
   have HLJ := Lib.hid (show LJ.length = l.length by rw [HVRJ.out, eachA_len])
   have HFJ := Lib.hid (fun (ro : List RowA) (hm : ro.map RowA.l = LJ) (al : Option Addr) (cl : Nat) (W : World) (hC : RowsAt W al ro) => (show Calls Tryz.prog 46 #[.agg #[.string y], .slice al LJ.length cl] W fun e w' => e = .returned (.agg #[.string (SF y LJ)]) ∧ Below W.heap.size W w' from by
    have hlr : ro.length = LJ.length := by rw [← hm, List.length_map]
    obtain ⟨hsh, hel⟩ := wrong_ok HWJ0.out
    have hsz := shape_ok hsh
    have h := HF3.out y ro (by rw [hlr, HLJ.out]; exact hsz.2.1) HYZ.out (eachA_small OK.out.size_le (lens_small fun c hc => (hsz.2.2 c hc).2.1) (hm.trans HVRJ.out)) al cl W hC
    rw [hlr, hm] at h
    exact h))
   unfold RowsR at HBO
   have hch : ch.size ≤ 1048576 := by have h8 := HBC.out; unfold isSc at h8; simp only [Bool.and_eq_true, decide_eq_true_eq] at h8; have h7 := OK.out.size_le; omega
   have HCH := Lib.hid hch
   have HQ4 := Lib.hid OK.out.q.lt4
   have HCN := Lib.hid (isSc_le HBC.out)
   clear hch HO1 HOK2 HNOT HVRJ HLJ
   go_wp2_with fail
   clear t_
   have hl_g := Hg.out.lt
   have hl_bp := Hbp.out.lt
   refine wp_region_over (by kernel_rfl) (by kernel_rfl) ?_
   have hov_g := fun (E : Over wr) o => E.cell (b := w2.heap.size) o hl_g
   have hov_bp := fun (E : Over wr) o => E.cell (b := w.heap.size) o hl_bp
   have hov_bc := fun (E : Over wr) o => E.cell (b := bc) o hbc
   have hov_br := fun (E : Over wr) o => E.cell (b := br) o hbr
   repeat (go_big_quiet_step (first | (go_at_call 58; exact calls_over (HIS.out _ (HRG.out.up (below_up BQ.out (Over.h _))))) | (go_at_call 59; exact calls_over (HWJ.out _ (HRG.out.up (below_up BQ.out (Over.h _))) (HAR.out.up (below_up HB.out (Over.h _)))))))
   all_goals (try unfold elV limbV)
   repeat (go_big_quiet_step (first | (go_at_call 58; exact calls_over (HIS.out _ (HRG.out.up (below_up BQ.out (Over.h _))))) | (go_at_call 59; exact calls_over (HWJ.out _ (HRG.out.up (below_up BQ.out (Over.h _))) (HAR.out.up (below_up HB.out (Over.h _)))))))
   all_goals (try unfold elV limbV)
   repeat (go_big_quiet_step (first | (go_at_call 58; exact calls_over (HIS.out _ (HRG.out.up (below_up BQ.out (Over.h _))))) | (go_at_call 59; exact calls_over (HWJ.out _ (HRG.out.up (below_up BQ.out (Over.h _))) (HAR.out.up (below_up HB.out (Over.h _)))))))
   all_goals (try unfold ciphV)
   refine wpQuiet_nil ?_
   rintro _ ⟨E, rfl⟩
   clear hov_g hl_g hov_bp hl_bp hov_bc hov_br
   replace Ht := Lib.hid (Ht.out.up E.h)
   clear g_
   replace Hg := Lib.hid (Hg.out.up E.h)
   clear bp_
   replace Hbp := Lib.hid (Hbp.out.up E.h)
   replace HNS := Lib.hid (HNS.out.up E.h)
   replace BQ := hbu BQ E.h
   replace BR := hbu BR E.h
   replace HB := hbu HB E.h
   replace HZS := sz HZS E.h.size
   obtain ⟨w9, hq9⟩ : ∃ W9 : World, E.w = W9 := ⟨_, rfl⟩
   rw [hq9] at Ht Hg Hbp HNS BQ BR HB HZS ⊢
   clear hq9 E
   have g_ := Hg.out.c3
   have bp_ := Hbp.out.c2
   clear hcc hrr_0 hbc hbr
   have hcc := (BR.out.cell (p := ⟨bc, oc + j, none⟩) HBC0.out).trans HCC.out
   have hbc := Nat.lt_of_lt_of_le HBC0.out BR.out.size
   go_wp2_with fail
   have HT := Lib.hid (show Below w9.heap.size w9 w9.drew from (Below.refl _ _).drew)
   have hl_g := Hg.out.lt
   have hl_bp := Hbp.out.lt
   refine wp_region_tree (fun wq9 => ∃ E : Over w9, wq9 = E.w) ((.qs [0, 1, 2, 3, 4, 5, 6] (.a 7 (.a 8 (.qs [9] .done))))) (by kernel_rfl) (by kernel_rfl) (fun _ _ d _ _ h => by cases d <;> exact h) ⟨⟨_, HT.out⟩, rfl⟩ ?_
   have hov_g := fun (E : Over w9) o => E.cell (b := w2.heap.size) o hl_g
   have hov_bp := fun (E : Over w9) o => E.cell (b := w.heap.size) o hl_bp
   have hov_bc := fun (E : Over w9) o => E.cell (b := bc) o hbc
   simp only [Tree.qs]
   repeat (refine tree_q rfl rfl ?_; go_big_quiet_step (fail); refine wpQuiet_nil ?_)
   refine tree_a rfl (fun K hK => ?_)
   go_simp
   refine (refRead_any ch HCH.out _).mono ?_
   rintro e w10 ⟨a1, c1, rfl, hn9, hb9⟩
   replace HT := Lib.hid (below_up HT.out hb9)
   replace HZS := sz HZS (show w9.heap.size ≤ w10.heap.size from HT.out.size)
   clear hb9
   have HN1 := Lib.hid hn9
   clear hn9
   refine hK _ _ ⟨⟨⟨w10, HT.out⟩, rfl⟩, ?_⟩
   clear hK K
   repeat (refine tree_q rfl rfl ?_; go_big_quiet_step (fail); refine wpQuiet_nil ?_)
   refine tree_a rfl (fun K hK => ?_)
   go_simp
   refine (rAdd OK.out (Nat.lt_trans (Nat.mod_lt _ OK.out.q.pos) HQ4.out) (Nat.lt_of_le_of_lt HCN.out HQ4.out) _ (HRG.out.up (below_up BQ.out HT.out)) (HNS.out.up HT.out) HN1.out).mono ?_
   rintro e w11 ⟨a2, c2, rfl, hn9, hb9⟩
   replace HN1 := Lib.hid (HN1.out.up hb9)
   replace HT := Lib.hid (below_up HT.out hb9)
   replace HZS := sz HZS (show w9.heap.size ≤ w11.heap.size from HT.out.size)
   clear hb9
   have HN2 := Lib.hid hn9
   clear hn9
   refine hK _ _ ⟨⟨⟨w11, HT.out⟩, rfl⟩, ?_⟩
   clear hK K
   repeat (refine tree_q rfl rfl ?_; go_big_quiet_step (fail); refine wpQuiet_nil ?_)
   refine tree_end ?_
   clear hov_g hl_g hov_bp hl_bp hov_bc
   replace Ht := Lib.hid (Ht.out.up HT.out)
   clear g_
   replace Hg := Lib.hid (Hg.out.up HT.out)
   clear bp_
   replace Hbp := Lib.hid (Hbp.out.up HT.out)
   replace HNS := Lib.hid (HNS.out.up HT.out)
   replace BQ := hbu BQ HT.out
   replace BR := hbu BR HT.out
   replace HB := hbu HB HT.out
   replace HZS := sz HZS HT.out.size
   clear HT
   have g_ := Hg.out.c3
   have bp_ := Hbp.out.c2
   rw [Nat.mod_add_mod, ← HVSJ.out] at HN2 ⊢
   clear hcc hbc
   have t_ := Ht.out.c1
   have hcc := (BR.out.cell (p := ⟨bc, oc + j, none⟩) HBC0.out).trans HCC.out
   have hbc := Nat.lt_of_lt_of_le HBC0.out BR.out.size
   have hrr := (BR.out.cell (p := ⟨br, or9 + j, none⟩) HBR0.out).trans HRR0.out
   rw [sc_len9 HZZ.out] at hrr
   have hbr := Nat.lt_of_lt_of_le HBR0.out BR.out.size
   clear BR
   go_wp2_with fail
   have HT := Lib.hid (show Below w11.heap.size w11 w11.drew from (Below.refl _ _).drew)
   have hl_t := Ht.out.lt
   have hl_g := Hg.out.lt
   have hl_bp := Hbp.out.lt
   refine wp_region_treek (fun wq9 => ∃ E : Over w11, wq9 = E.w) 15 ((.e 0 [] (.e 1 [] (.qs [2, 3] (.e 4 [] (.qs [5, 6] (.e 7 [] (.qs [8] (.e 9 [] (.qs [10, 11] (.e 12 [] (.a 13 (.a 14 (.a 15 .done)))))))))))))) (by kernel_rfl) (by kernel_rfl) (fun _ _ d _ _ h => by cases d <;> exact h) ⟨⟨_, HT.out⟩, rfl⟩ ?_
   have hov_t := fun (E : Over w11) o => E.cell (b := w6.heap.size) o hl_t
   have hov_g := fun (E : Over w11) o => E.cell (b := w2.heap.size) o hl_g
   have hov_bp := fun (E : Over w11) o => E.cell (b := w.heap.size) o hl_bp
   have hov_bc := fun (E : Over w11) o => E.cell (b := bc) o hbc
   have hov_br := fun (E : Over w11) o => E.cell (b := br) o hbr
   simp only [TreeK.qs]
   repeat (first | (refine treek_q rfl rfl ?_; go_big_quiet_step (fail); refine wpQuiet_nil ?_) | (refine treek_e rfl rfl ?_; go_big_quiet_step (fail); refine wpQuiet_nil ?_))
   refine treek_a rfl (fun K hK => ?_)
   go_simp
   refine (HBO.out _ (HRG.out.up (below_up BQ.out HT.out)) (HAT.out.up (below_up HB.out HT.out)) (HAR.out.up (below_up HB.out HT.out))).mono ?_
   rintro e w12 ⟨hb9, a8, c8, ro, rfl, hm9, hr9, _⟩
   replace HT := Lib.hid (below_up HT.out hb9)
   replace HZS := sz HZS (show w11.heap.size ≤ w12.heap.size from HT.out.size)
   clear hb9
   have HMR := Lib.hid hm9
   clear hm9
   have HRR := Lib.hid hr9
   clear hr9
   refine hK _ _ ⟨fun _ => ⟨⟨w12, HT.out⟩, rfl⟩, ?_⟩
   clear hK K
   repeat (first | (refine treek_q rfl rfl ?_; go_big_quiet_step (fail); refine wpQuiet_nil ?_) | (refine treek_e rfl rfl ?_; go_big_quiet_step (fail); refine wpQuiet_nil ?_))
   refine treek_a rfl (fun K hK => ?_)
   go_simp
   refine (HFJ.out ro HMR.out a8 c8 _ HRR.out).mono ?_
   rintro e w13 ⟨rfl, hb9⟩
   replace HRR := Lib.hid (HRR.out.up hb9)
   replace HT := Lib.hid (below_up HT.out hb9)
   replace HZS := sz HZS (show w11.heap.size ≤ w13.heap.size from HT.out.size)
   clear hb9
   refine hK _ _ ⟨fun _ => ⟨⟨w13, HT.out⟩, rfl⟩, ?_⟩
   clear hK K
   repeat (first | (refine treek_q rfl rfl ?_; go_big_quiet_step (fail); refine wpQuiet_nil ?_) | (refine treek_e rfl rfl ?_; go_big_quiet_step (fail); refine wpQuiet_nil ?_))
   clear hov_t hl_t hov_g hl_g hov_bp hl_bp hov_bc hov_br
   refine treek_a rfl (fun K hK => ?_)
   clear t_
   replace Ht := Lib.hid (Ht.out.up HT.out)
   clear g_
   replace Hg := Lib.hid (Hg.out.up HT.out)
   clear bp_
   replace Hbp := Lib.hid (Hbp.out.up HT.out)
   replace HNS := Lib.hid (HNS.out.up HT.out)
   replace HN1 := Lib.hid (HN1.out.up HT.out)
   replace HN2 := Lib.hid (HN2.out.up HT.out)
   replace BQ := hbu BQ HT.out
   replace HB := hbu HB HT.out
   replace HZS := sz HZS HT.out.size
   clear HT HRR
   have t_ := Ht.out.c1
   have g_ := Hg.out.c3
   have bp_ := Hbp.out.c2
   replace HN2 := Lib.hid (numSet HN2.out Ht.out 0 (.string (SF y LJ)))
   have f14_t := Ht.out.frozen
   have o14_t_ := t_; clear t_
   have o14_g_ := g_; clear g_
   have o14_bp_ := bp_; clear bp_
   obtain ⟨w14, hq14, hg9, hz9, hx9⟩ := put1 Ht 0 (.string (SF y LJ)) [.string (SF y LJ)] rfl
   replace Hg := Lib.hid (Hg.out.grown hg9.out (sne (by have g0 := HZS.out; omega)))
   replace Hbp := Lib.hid (Hbp.out.grown hg9.out (sne (by have g0 := HZS.out; omega)))
   replace BQ := hbg BQ hg9 (by have g0 := HZS.out; omega)
   clear HNS HN1
   replace HB := hbg HB hg9 (by have g0 := HZS.out; omega)
   replace HZS := sz HZS hz9.out
   replace Ht := hx9
   clear hx9 hg9 hz9
   have t_ := Ht.out.c1
   have g_ := Hg.out.c3
   have bp_ := Hbp.out.c2
   rw [hq14] at HN2
   go_simp
   try rw [hq14]
   refine hK _ _ ⟨fun h9 => absurd rfl h9, ?_⟩
   clear hK K hq14 o14_bp_ o14_g_ o14_t_ f14_t
   refine treek_end ?_
   go_wp2_with fail
   go_roundw
   case rel => exact ⟨j + 1, _, _, _, by omega, by go_num, rfl, Lib.hid HVTJ.out.symm, HOK3, HN2, Ht, Hg, BQ⟩
   case measure => simp [intOf]; omega
  ·have hjn' : j = n := by omega
   subst hjn'
   have hcz : (cmpI (CN y challengeB % (grp k).q.m) (VS j % (grp k).q.m) == 0) = V := by
    rw [HV.out, HOKJ.out, Bool.true_and, ← HYE.out, cmp_zero]
    exact decide_eq_decide.2 (mont_iff9 OK.out _ _).symm
   have HYZ := Lib.hid (show y.size = 32 by rw [HYE.out]; exact HVZ.out j)
   clear HYE HOKJ HV
   replace HZS := sz HZS HTL.out
   replace HZS := sz HZS HGT.out
   replace HZS := sz HZS HWK.out
   have t_ := Ht.out.c1
   have g_ := Hg.out.c3
   go_wp2_with fail
   refine (HF4.out (grp k).size (.slice ap (dl (grp k).p.m) cp) aq cq y (by have := HYZ.out; omega) wr ((HRG.out.up BQ.out)).q).mono ?_
   rintro e w9 ⟨a5, c5, rfl, hn9, hb9⟩
   clear t_
   replace Ht := Lib.hid (Ht.out.up hb9)
   clear g_
   replace Hg := Lib.hid (Hg.out.up hb9)
   replace HNS := Lib.hid (HNS.out.up hb9)
   replace BQ := hbu BQ hb9
   replace HB := hbu HB hb9
   replace HZS := sz HZS hb9.size
   have HN5 := Lib.hid hn9
   clear hn9 hb9
   have t_ := Ht.out.c1
   have g_ := Hg.out.c3
   have o10_t_ := t_; clear t_
   have o10_g_ := g_; clear g_
   obtain ⟨w10, hq10, hb9, hz9, Hr⟩ := new1 w9 89 [.string (CT y challengeB)]
   replace Ht := Lib.hid (Ht.out.up hb9)
   replace Hg := Lib.hid (Hg.out.up hb9)
   replace HNS := Lib.hid (HNS.out.up hb9)
   replace HN5 := Lib.hid (HN5.out.up hb9)
   replace BQ := hbu BQ hb9
   replace HB := hbu HB hb9
   replace HZS := sz HZS hz9.out
   clear hb9 hz9
   have t_ := Ht.out.c1
   have g_ := Hg.out.c3
   have r_ := Hr.out.c1
   go_wp2_with fail
   clear hq10 o10_g_ o10_t_
   refine (refCompare_any (CN y challengeB % (grp k).q.m) (VS j % (grp k).q.m) a5 a9 c5 c9 (small_dl _ (Nat.lt_trans (Nat.mod_lt _ OK.out.q.pos) OK.out.q.lt4)) w10 HN5.out HNS.out).mono ?_
   rintro e w11 ⟨rfl, hb9⟩
   clear t_
   replace Ht := Lib.hid (Ht.out.up hb9)
   clear g_
   replace Hg := Lib.hid (Hg.out.up hb9)
   clear r_
   replace Hr := Lib.hid (Hr.out.up hb9)
   replace HNS := Lib.hid (HNS.out.up hb9)
   replace HN5 := Lib.hid (HN5.out.up hb9)
   replace BQ := hbu BQ hb9
   replace HB := hbu HB hb9
   replace HZS := sz HZS hb9.size
   clear hb9
   have t_ := Ht.out.c1
   have g_ := Hg.out.c3
   have r_ := Hr.out.c1
   go_wp2_with fail
   go_ret
   exact ⟨rfl, HB.out⟩
theorem rVerifyAny_any (k : Int) (label : ByteArray) (hlb : label.size < 140737488355328) (ss : List SetA) (al : Option Addr) (cl : Nat) (cs : List ByteArray) (rs : List RowA) (hrl : ∀ r ∈ rs, r.l.length ≤ 8796093022207) (ac ar : Option Addr) (cc cr : Nat) (w : World) (hC : SetsAt w al ss) (hS : Sl w w.heap.size ac (cs.map Value.string)) (hR : RowsAt w ar rs) :
  Calls Tryz.prog 13 #[.int .i64 k, .string label, .slice al ss.length cl, .agg #[.slice ac cs.length cc, .slice ar rs.length cr]] w fun e w' => e = .returned (.bool (vanK k label ss cs (rs.map RowA.l))) ∧ Below w.heap.size w w' := by
 unfold vanK
 rw [List.length_map]
 by_cases hk : 1 ≤ k ∧ k ≤ 3
 ·obtain ⟨j, rfl⟩ : ∃ j : Nat, k = j := ⟨k.toNat, by omega⟩
  rw [decide_eq_true hk, Bool.true_and, Int.toNat_natCast]
  by_cases hz : setsE (grp j) ss = 0
  ·rw [decide_eq_true hz, Bool.true_and]
   by_cases hm : cs.length = ss.length ∧ rs.length = ss.length
   ·rw [decide_eq_true hm.1, decide_eq_true hm.2, Bool.true_and, Bool.true_and, hm.1, hm.2]
    exact rVany_body j (by omega) (by omega) label hlb ss _ rfl al cl hz cs hm.1 rs hm.2 hrl ac ar cc cr _ rfl w hC hS hR
   ·have e : (decide (cs.length = ss.length) && (decide (rs.length = ss.length) && (vanOk (grp j) (ss.map SetA.l) cs (rs.map RowA.l) ss.length && decide (mont (grp j).q.m (chN (vanT (grp j) (ss.map SetA.l) cs (rs.map RowA.l) (vanB j label (ss.map SetA.l)) ss.length) challengeB) = mont (grp j).q.m (vanS cs ss.length))))) = false := by
     by_cases g : cs.length = ss.length
     ·rw [decide_eq_false (fun h => hm ⟨g, h⟩), Bool.false_and, Bool.and_false]
     ·rw [decide_eq_false g, Bool.false_and]
    rw [e]
    exact rVany_len j (by omega) (by omega) label ss _ rfl al cl hz ac ar _ _ cc cr hm w hC
  ·rw [decide_eq_false hz, Bool.false_and]
   exact rVany_bad j (by omega) (by omega) label ss _ rfl al cl hz ac ar _ _ cc cr w hC
 ·rw [decide_eq_false hk, Bool.false_and]
  exact rVany_none k hk label _ _ _ w
end Go.Proofs.YtdlnnkbigeiilaaGreat
namespace Go.Proofs.YtdlnnkbigeiilaaGreat
open Go.ChangeShapes Go.WideShapes Go.ChangeAt Go.RowKit
theorem flat_range (g : Nat → Value) (k len : Nat) : ((List.range len).map fun i => (List.range k).map fun j => g (i * k + j)).flatten = (List.range (len * k)).map g := by
 induction len with
 | zero => simp
 | succ m ih =>
  rw [List.range_succ, List.map_append, List.flatten_append, ih, Nat.succ_mul, List.range_add, List.map_append]
  simp [List.map_map, Function.comp_def]
section
variable {H : Type} {enc : TypeId × Value → H} {P : Program} {w : World}
theorem list_shapes {α : Type} (f : α → List Value) (R : α → Prop) : ∀ css : List (List Value), (∀ l ∈ css, ∃ x, l = f x ∧ R x) → ∃ xs : List α, xs.length = css.length ∧ css.flatten = xs.flatMap f ∧ ∀ x ∈ xs, R x
 | [], _ => ⟨[], rfl, rfl, by simp⟩
 | l :: css, h => by
  obtain ⟨x, rfl, hR⟩ := h l (by simp)
  obtain ⟨xs, h1, h2, h3⟩ := list_shapes f R css (fun c hc => h c (by simp [hc]))
  refine ⟨x :: xs, by simp [h1], by simp [h2], ?_⟩
  intro y hy
  rcases List.mem_cons.1 hy with rfl | hy
  ·exact hR
  ·exact h3 y hy
theorem list2 {cs : List Value} (h : cs.length = 2) : ∃ a b, cs = [a, b] := by
 match cs, h with
 | [a, b], _ => exact ⟨a, b, rfl⟩
theorem open_str {sp : Nat → Bool} {held : Bool} {t : TypeId} {fuel : Nat} {c : Value} {y : DataW H × List MemPlace} (ht : P.underlying t = some .string) (h : DataW.trod enc P w 0 sp held fuel t [c] = some y) : ∃ s : ByteArray, c = .string s := by
 obtain ⟨s, hs, _⟩ := DataW.trod_string ht h
 simp only [List.cons.injEq, and_true] at hs
 exact ⟨s, hs⟩
end
end Go.Proofs.YtdlnnkbigeiilaaGreat
namespace Go.Proofs.YtdlnnkbigeiilaaGreat
open Go.ChangeShapes Go.WideShapes Go.ChangeAt Go.RowKit
def Wt {H : Type} (P : Program) (t : TypeId) (d : DataW H) : Prop := ∀ n ∈ DataW.weights P t d, n ≤ reachBytes
theorem weightsAll_mem {H : Type} {P : Program} {e : TypeId} : ∀ {l : List (DataW H)} {d : DataW H}, d ∈ l → ∀ n ∈ DataW.weights P e d, n ∈ DataW.weightsAll P e l
 | x :: l, d, hd, n, hn => by
  simp only [DataW.weightsAll, List.mem_append]
  rcases List.mem_cons.1 hd with rfl | h
  ·exact Or.inl hn
  ·exact Or.inr (weightsAll_mem h n hn)
theorem Wt.slice {H : Type} {P : Program} {t e : TypeId} {elems spare : List (DataW H)} (ht : P.underlying t = some (.slice e)) (h : Wt P t (.slice elems spare)) : elems.length * P.bytesOf e ≤ reachBytes ∧ ∀ d ∈ elems, Wt P e d := by
 unfold Wt at h
 simp only [DataW.weights, ht, List.mem_cons, List.mem_append] at h
 refine ⟨Nat.le_trans (Nat.mul_le_mul_right _ (Nat.le_add_right _ _)) (h _ (Or.inl rfl)), fun d hd n hn => h n (Or.inr (Or.inl (weightsAll_mem hd n hn)))⟩
theorem Wt.agg {H : Type} {P : Program} {t : TypeId} {fs : Array Go.Field} {parts : List (DataW H)} (ht : P.underlying t = some (.struct fs)) (h : Wt P t (.agg parts)) : ∀ (j : Nat) (f : Go.Field) (d : DataW H), fs[j]? = some f → parts[j]? = some d → Wt P f.type d := by
 intro j f d hj hd n hn
 unfold Wt at h
 simp only [DataW.weights, ht] at h
 exact h n (DataW.weights_mem_each (ts := fs.toList.map (·.type)) (by rw [List.getElem?_map, Array.getElem?_toList, hj]; rfl) hd n hn)
theorem Wt.arg {H : Type} {P : Program} {ts : List TypeId} {ds : List (DataW H)} (h : (DataW.weightsEach P ts ds).all (· ≤ reachBytes) = true) {j : Nat} {t : TypeId} {d : DataW H} (ht : ts[j]? = some t) (hd : ds[j]? = some d) : Wt P t d :=
 fun n hn => of_decide_eq_true (List.all_eq_true.1 h _ (DataW.weights_mem_each ht hd n hn))
section
variable {H : Type} {enc : TypeId × Value → H} {P : Program} {w : World}
theorem open_flatW {sp : Nat → Bool} {held : Bool} {t e : TypeId} {k fuel : Nat} {c : Value} {y : DataW H × List MemPlace} (ht : P.underlying t = some (.slice e)) (hk : P.cellsOf e = k) (hk0 : 0 < k) (hW : Wt P t y.1)
  (h : DataW.trod enc P w 0 sp held fuel t [c] = some y) :
  ∃ (a : Option Addr) (cap : Nat) (css : List (List Value)), c = .slice a css.length cap ∧ css.length * P.bytesOf e ≤ reachBytes ∧ (a = none → cap = 0) ∧ (∀ l ∈ css, l.length = k) ∧ Sl w w.heap.size a css.flatten ∧
   ∀ l ∈ css, ∃ n y', Wt P e y'.1 ∧ DataW.trod enc P w 0 sp held n e l = some y' := by
 have hlt := DataW.trod_lt _ _ _ _ h
 rcases DataW.trod_slice ht h with ⟨hcs, _⟩ | ⟨x, len, cap, elems, rest, n, _, hcs, hx, hb, hl, hm, hlen, hel, _, _⟩
 ·simp only [List.cons.injEq, and_true] at hcs
  exact ⟨none, 0, [], hcs, by simp, fun _ => rfl, by simp, Or.inl rfl, by simp⟩
 simp only [List.cons.injEq, and_true] at hcs
 subst hcs
 by_cases h0 : len = 0
 ·subst h0
  exact ⟨some x, cap, [], rfl, by simp, by simp, by simp, Or.inl rfl, by simp⟩
 have hbk := Wt.slice (elems := elems.map (·.1)) (spare := rest.map (·.1)) ht (by rw [hx] at hW; exact hW)
 have each : ∀ i, i < len → ∃ l y', w.cells? 0 (x.add (i * k)) k = some l ∧ Wt P e y'.1 ∧ DataW.trod enc P w 0 sp held n e l = some y' := by
  intro i hi
  have h1 := hel i hi
  rw [hk, show elems[i]? = some (elems[i]'(by omega)) from List.getElem?_eq_getElem (by omega), Option.bind_eq_some_iff] at h1
  obtain ⟨l, hl, hy⟩ := h1
  exact ⟨l, _, hl, hbk.2 _ (List.mem_map.2 ⟨_, List.getElem_mem _, rfl⟩), hy⟩
 obtain ⟨b, off, spot⟩ := x
 have hspot : spot = none := by
  obtain ⟨l, _, h1, _⟩ := each 0 (by omega)
  obtain ⟨_, h2, h3⟩ := World.cells?_some h1
  have h4 := h3 0 hk0
  obtain ⟨v, hv⟩ : ∃ v, l[0]? = some v := ⟨_, List.getElem?_eq_getElem (by omega)⟩
  rw [hv, Deep.add_add, Nat.zero_mul, Nat.zero_add] at h4
  simpa [Addr.add] using World.cell?_spot h4
 subst hspot
 have hbW : b < w.heap.size := hlt (.cell b off) (by
  rw [hx]
  exact List.mem_append_left _ (MemPlace.mem_row.2 ⟨0, by rw [hk]; have : 0 < (elems.length + rest.length) * k := Nat.mul_pos (by omega) hk0; omega, by simp⟩))
 have hL : ∀ i, i < len → ((List.range k).map fun j => (w.cell? ⟨b, off + (i * k + j), none⟩).getD (.bool false)).length = k ∧
   (∀ j, j < k → w.cell? ⟨b, off + (i * k + j), none⟩ = some ((w.cell? ⟨b, off + (i * k + j), none⟩).getD (.bool false))) ∧
   ∃ y', Wt P e y'.1 ∧ DataW.trod enc P w 0 sp held n e ((List.range k).map fun j => (w.cell? ⟨b, off + (i * k + j), none⟩).getD (.bool false)) = some y' := by
  intro i hi
  obtain ⟨l, y', h1, h2b, h2⟩ := each i hi
  obtain ⟨_, h3, h4⟩ := World.cells?_some h1
  have h5 : ∀ j, j < k → w.cell? ⟨b, off + (i * k + j), none⟩ = l[j]? := by
   intro j hj
   have := h4 j hj
   rwa [Deep.add_add, add_plain] at this
  have e1 : (List.range k).map (fun j => (w.cell? ⟨b, off + (i * k + j), none⟩).getD (.bool false)) = l := by
   apply List.ext_getElem?
   intro j
   by_cases hj : j < k
   ·rw [List.getElem?_map, List.getElem?_range hj, Option.map_some, h5 j hj, List.getElem?_eq_getElem (show j < l.length by omega), Option.getD_some]
   ·rw [List.getElem?_eq_none (by simp; omega), List.getElem?_eq_none (by omega)]
  refine ⟨by simp, ?_, ?_⟩
  ·intro j hj
   rw [h5 j hj, List.getElem?_eq_getElem (show j < l.length by omega), Option.getD_some]
  ·rw [e1]; exact ⟨y', h2b, h2⟩
 refine ⟨some ⟨b, off, none⟩, cap, (List.range len).map fun i => (List.range k).map fun j => (w.cell? ⟨b, off + (i * k + j), none⟩).getD (.bool false), by simp, ?_, by simp, ?_, Or.inr ⟨b, off, rfl, hbW, ?_⟩, ?_⟩
 ·have := hbk.1; rw [List.length_map, hlen] at this; simpa using this
 ·intro l hl
  obtain ⟨i, _, rfl⟩ := List.mem_map.1 hl
  simp
 ·have hflat := flat_range (fun m => (w.cell? ⟨b, off + m, none⟩).getD (.bool false)) k len
  intro i v hv
  rw [hflat] at hv
  have hi : i < len * k := by have := (List.getElem?_eq_some_iff.1 hv).1; simpa using this
  have hq : i / k < len := Nat.div_lt_of_lt_mul (by rwa [Nat.mul_comm] at hi)
  have hc := (hL (i / k) hq).2.1 (i % k) (Nat.mod_lt _ hk0)
  rw [show i / k * k + i % k = i by rw [Nat.mul_comm]; exact Nat.div_add_mod i k] at hc
  rw [hc, ← hv, List.getElem?_map, List.getElem?_range hi, Option.map_some]
 ·intro l hl
  obtain ⟨i, hi, rfl⟩ := List.mem_map.1 hl
  obtain ⟨y', hyb, hy⟩ := (hL i (List.mem_range.1 hi)).2.2
  exact ⟨n, y', hyb, hy⟩
theorem open_elsW {α : Type} (f : α → List Value) (R : α → Prop) {sp : Nat → Bool} {held : Bool} {t e : TypeId} {k fuel : Nat} {c : Value} {y : DataW H × List MemPlace} (ht : P.underlying t = some (.slice e)) (hk : P.cellsOf e = k) (hk0 : 0 < k) (hW : Wt P t y.1)
  (hel : ∀ n l y', l.length = k → Wt P e y'.1 → DataW.trod enc P w 0 sp held n e l = some y' → ∃ x, l = f x ∧ R x) (h : DataW.trod enc P w 0 sp held fuel t [c] = some y) :
  ∃ (a : Option Addr) (cap : Nat) (xs : List α), c = .slice a xs.length cap ∧ xs.length * P.bytesOf e ≤ reachBytes ∧ (a = none → cap = 0) ∧ Sl w w.heap.size a (xs.flatMap f) ∧ ∀ x ∈ xs, R x := by
 obtain ⟨a, cap, css, rfl, hlB, hno, hl, hs, he⟩ := open_flatW ht hk hk0 hW h
 obtain ⟨xs, h1, h2, h3⟩ := list_shapes f R css (fun l hm => by
  obtain ⟨n, y', hyb, hy⟩ := he l hm
  exact hel n l y' (hl l hm) hyb hy)
 exact ⟨a, cap, xs, by rw [h1], by rw [h1]; exact hlB, hno, h2 ▸ hs, h3⟩
theorem open_cellsW {sp : Nat → Bool} {held : Bool} {t : TypeId} {fs : Array Go.Field} {fuel : Nat} {cs : List Value} {y : DataW H × List MemPlace} (hs : P.underlying t = some (.struct fs)) (hone : Go.Deep.oneCellFields P fs = true) (hC : P.cellsOf t = fs.size) (hW : Wt P t y.1)
  (h : DataW.trod enc P w 0 sp held fuel t cs = some y) :
  cs.length = fs.size ∧ ∀ (j : Nat) (f : Go.Field) (c : Value), fs[j]? = some f → cs[j]? = some c → ∃ n y', Wt P f.type y'.1 ∧ DataW.trod enc P w 0 sp held n f.type [c] = some y' := by
 obtain ⟨ys, n, _, hy, hcl, hlen, hg⟩ := DataW.trod_struct hs h
 have hbk := Wt.agg (parts := ys.map (·.1)) hs (by rw [hy] at hW; exact hW)
 refine ⟨by omega, fun j f c hj hc => ?_⟩
 obtain ⟨ho, hk⟩ := Go.Deep.hone_of hone j f hj
 have hjf : j < fs.size := (Array.getElem?_eq_some_iff.1 hj).1
 have h1 := hg j f hj
 have hjc := (List.getElem?_eq_some_iff.1 hc).1
 rw [ho, hk, List.drop_eq_getElem_cons hjc, List.take_succ_cons, List.take_zero, (List.getElem?_eq_some_iff.1 hc).2, List.getElem?_eq_getElem (show j < ys.length by omega)] at h1
 exact ⟨n, _, hbk j f _ hj (by rw [List.getElem?_map, List.getElem?_eq_getElem (show j < ys.length by omega)]; rfl), h1⟩
theorem open_strsW {sp : Nat → Bool} {held : Bool} {t e : TypeId} {fuel : Nat} {c : Value} {y : DataW H × List MemPlace} (ht : P.underlying t = some (.slice e)) (he : P.underlying e = some .string) (hk : P.cellsOf e = 1) (hW : Wt P t y.1) (h : DataW.trod enc P w 0 sp held fuel t [c] = some y) :
  ∃ (a : Option Addr) (cap : Nat) (bs : List ByteArray), c = .slice a bs.length cap ∧ bs.length * P.bytesOf e ≤ reachBytes ∧ (a = none → cap = 0) ∧ Sl w w.heap.size a (bs.map Value.string) := by
 obtain ⟨a, cap, xs, h1, hb, hno, h2, _⟩ := open_elsW (fun s : ByteArray => [Value.string s]) (fun _ => True) ht hk (by omega) hW (fun n l y' hl _ hy => by
  match l, hl with
  | [c'], _ =>
   obtain ⟨s, rfl⟩ := open_str he hy
   exact ⟨s, rfl, trivial⟩) h
 refine ⟨a, cap, xs, h1, hb, hno, ?_⟩
 rw [← List.flatMap_singleton' (xs.map Value.string), List.flatMap_map]
 exact h2
end
end Go.Proofs.YtdlnnkbigeiilaaGreat
namespace Go.Proofs.YtdlnnkbigeiilaaGreat
open Go.ChangeShapes Go.WideShapes Go.ChangeAt Go.RowKit
theorem either_cells : Tryz.prog.cellsOf 30 = 2 := by kernel_rfl
theorem str_cells : Tryz.prog.cellsOf 9 = 1 := by kernel_rfl
theorem strs_cells : Tryz.prog.cellsOf 23 = 1 := by kernel_rfl
theorem str_bytes : Tryz.prog.bytesOf 9 = 16 := by kernel_rfl
theorem strs_bytes : Tryz.prog.bytesOf 23 = 24 := by kernel_rfl
theorem reach16 {n : Nat} (h : n * 16 ≤ reachBytes) : n ≤ 8796093022206 := by unfold reachBytes at h; omega
theorem reach24 {n : Nat} (h : n * 24 ≤ reachBytes) : n ≤ 8796093022206 := by unfold reachBytes at h; omega
end Go.Proofs.YtdlnnkbigeiilaaGreat
namespace Go.Proofs.YtdlnnkbigeiilaaGreat
open Go.ChangeShapes Go.WideShapes Go.ChangeAt Go.RowKit
section
variable {H : Type} {enc : TypeId × Value → H} {w : World}
theorem open_capW {P : Program} {sp : Nat → Bool} {held : Bool} {t e : TypeId} {fuel n cap : Nat} {a : Option Addr} {y : DataW H × List MemPlace} (ht : P.underlying t = some (.slice e)) (h : DataW.trod enc P w 0 sp held fuel t [.slice a n cap] = some y) : n ≤ cap := by
 rcases DataW.trod_slice ht h with ⟨hcs, _⟩ | ⟨x, len, cap', elems, rest, n', _, hcs, hx, hb, hl, hm, hlen, hel, _, _⟩
 ·simp only [List.cons.injEq, Value.slice.injEq, and_true] at hcs
  omega
 ·simp only [List.cons.injEq, Value.slice.injEq, and_true] at hcs
  omega
theorem open_rows {sp : Nat → Bool} {held : Bool} (fuel : Nat) (c : Value) (y : DataW H × List MemPlace) (hW : Wt Tryz.prog 28 y.1) (h : DataW.trod enc Tryz.prog w 0 sp held fuel 28 [c] = some y) :
  ∃ (a : Option Addr) (cap : Nat) (rs : List RowA), c = .slice a rs.length cap ∧ rs.length ≤ 8796093022206 ∧ RowsAt w a rs ∧ (∀ r ∈ rs, r.a = none → r.c = 0) ∧ (∀ r ∈ rs, r.l.length ≤ 8796093022206) := by
 obtain ⟨a, cap, rs, h1, h2, _, h4, h5⟩ := open_elsW (e := 23) RowA.cells (fun r => RowA.At w r ∧ (r.a = none → r.c = 0) ∧ r.l.length ≤ 8796093022206) Tryz.underlying28 strs_cells (by omega) hW (fun n l y' hl hW' hy => by
  match l, hl with
  | [c'], _ =>
   obtain ⟨al, cp, bs, rfl, hn, hno, hs⟩ := open_strsW Tryz.underlying23 Tryz.underlying9 str_cells hW' hy
   rw [str_bytes] at hn
   exact ⟨⟨al, cp, bs⟩, rfl, hs, hno, reach16 hn⟩) h
 rw [strs_bytes] at h2
 exact ⟨a, cap, rs, h1, reach24 h2, ⟨h4, fun r hr => (h5 r hr).1⟩, fun r hr => (h5 r hr).2.1, fun r hr => (h5 r hr).2.2⟩
theorem open_eith {sp : Nat → Bool} {held : Bool} (fuel : Nat) (cs : List Value) (y : DataW H × List MemPlace) (hW : Wt Tryz.prog 30 y.1) (h : DataW.trod enc Tryz.prog w 0 sp held fuel 30 cs = some y) :
  ∃ x : EithA, cs = [.slice x.ac x.cs.length x.cc, .slice x.ar x.rs.length x.cr] ∧ x.At w ∧ x.cs.length ≤ 8796093022206 ∧ ∀ r ∈ x.rs, r.l.length ≤ 8796093022206 := by
 obtain ⟨h1, h2⟩ := open_cellsW Tryz.underlying30 (by kernel_rfl) either_cells hW h
 obtain ⟨a, b, rfl⟩ := list2 h1
 obtain ⟨_, _, hwa, ha⟩ := h2 0 _ _ rfl rfl
 obtain ⟨_, _, hwb, hb⟩ := h2 1 _ _ rfl rfl
 obtain ⟨al, cap, l, rfl, hn, hno, hs⟩ := open_strsW Tryz.underlying23 Tryz.underlying9 str_cells hwa ha
 obtain ⟨ar, cr, rs, rfl, hn2, hr, hno2, hr2⟩ := open_rows _ _ _ hwb hb
 rw [str_bytes] at hn
 exact ⟨⟨al, cap, l, ar, cr, rs⟩, rfl, ⟨hs, hr, hno2⟩, reach16 hn, hr2⟩
end
theorem agg_of {cs : Array Value} {l : List Value} (h : cs.toList = l) : Value.agg cs = .agg l.toArray := by rw [← h]
theorem claim_cells : Tryz.prog.cellsOf 50 = 2 := by kernel_rfl
section
variable {H : Type} {enc : TypeId × Value → H} {w : World}
end
end Go.Proofs.YtdlnnkbigeiilaaGreat
namespace Go.Proofs.YtdlnnkbigeiilaaGreat
open Go.ChangeShapes Go.WideShapes Go.ChangeAt Go.RowKit
theorem Wt.str {H : Type} {enc : TypeId × Value → H} {P : Program} {w : World} {sp : Nat → Bool} {held : Bool} {t : TypeId} {fuel : Nat} {s : ByteArray} {y : DataW H × List MemPlace} (ht : P.underlying t = some .string) (hW : Wt P t y.1) (h : DataW.trod enc P w 0 sp held fuel t [.string s] = some y) : s.size ≤ reachBytes := by
 obtain ⟨s', hs, hy, _⟩ := DataW.trod_string ht h
 simp only [List.cons.injEq, and_true, Value.string.injEq] at hs
 subst hs
 rw [hy] at hW
 exact hW s.data.toList.length (by simp [DataW.weights])
theorem reach_lt : reachBytes < 140737488355328 := by decide
section
variable {H : Type} {enc : TypeId × Value → H} {w : World}
theorem open_claimsC {sp : Nat → Bool} {held : Bool} (fuel : Nat) (c : Value) (y : DataW H × List MemPlace) (hW : Wt Tryz.prog 22 y.1) (h : DataW.trod enc Tryz.prog w 0 sp held fuel 22 [c] = some y) :
  ∃ (a : Option Addr) (cap : Nat) (l : List ClaimA), c = .slice a l.length cap ∧ ClaimsAt w a l ∧ ∀ c ∈ l, c.bases.length ≤ c.cb ∧ c.images.length ≤ c.ci := by
 obtain ⟨a, cap, rs, h1, _, _, h4, h5⟩ := open_elsW (e := 50) ClaimA.cells (fun r => ClaimA.At w r ∧ r.bases.length ≤ r.cb ∧ r.images.length ≤ r.ci) Tryz.underlying22 claim_cells (by omega) hW (fun n l y' hl hW' hy => by
  obtain ⟨g1, g2⟩ := open_cellsW Tryz.underlying50 (by kernel_rfl) claim_cells hW' hy
  obtain ⟨x1, x2, rfl⟩ := list2 g1
  obtain ⟨_, _, hwa, ha⟩ := g2 0 _ _ rfl rfl
  obtain ⟨_, _, hwb, hb⟩ := g2 1 _ _ rfl rfl
  obtain ⟨al, cp, bs, rfl, _, _, hs⟩ := open_strsW Tryz.underlying23 Tryz.underlying9 str_cells hwa ha
  obtain ⟨ai, ci, is, rfl, _, _, hi⟩ := open_strsW Tryz.underlying23 Tryz.underlying9 str_cells hwb hb
  exact ⟨⟨al, cp, bs, ai, ci, is⟩, rfl, ⟨hs, hi⟩, open_capW Tryz.underlying23 ha, open_capW Tryz.underlying23 hb⟩) h
 exact ⟨a, cap, rs, h1, ⟨h4, fun c hc => (h5 c hc).1⟩, fun c hc => (h5 c hc).2⟩
end
end Go.Proofs.YtdlnnkbigeiilaaGreat
namespace Go.Proofs.YtdlnnkbigeiilaaGreat
open Go.ChangeShapes Go.WideShapes Go.ChangeAt Go.RowKit
theorem sigmaChecks_any (k : Int) (label : ByteArray) (hlb : label.size < 140737488355328) (ss : List SetA) (al : Option Addr) (cl : Nat) (cs : List ByteArray) (rs : List RowA) (hrl : ∀ r ∈ rs, r.l.length ≤ 8796093022207) (hcap : ∀ s ∈ ss, ∀ c ∈ s.l, CapOk c) (ac ar : Option Addr) (cc cr : Nat) (w : World) (hC : SetsAt w al ss) (hS : Sl w w.heap.size ac (cs.map Value.string)) (hR : RowsAt w ar rs) :
  Calls Tryz.prog 4 #[.int .i64 k, .string label, .slice al ss.length cl, .agg #[.slice ac cs.length cc, .slice ar rs.length cr]] w fun e w' => e = .returned (.bool true) ∧ Below w.heap.size w w' := by
 have H1 := Lib.hid (fun w1 (hb : Below w.heap.size w w1) => sVerifyAny_any k label hlb ss al cl cs rs hrl hcap ac ar cc cr w1 (hC.up hb) (hS.up hb) (hR.up hb))
 have H2 := Lib.hid (fun w1 (hb : Below w.heap.size w w1) => rVerifyAny_any k label hlb ss al cl cs rs hrl ac ar cc cr w1 (hC.up hb) (hS.up hb) (hR.up hb))
 generalize vanK k label ss cs (rs.map RowA.l) = b at *
 generalize ss.length = n at *
 generalize cs.length = m at *
 generalize rs.length = m2 at *
 have hd : (b == b) = true := by simp
 clear hC hS hR hcap hrl hlb
 go_enter Tryz.func4, Tryz.ntmps4
 go_wp2_with fail
 obtain ⟨w1, hq1, hb9, hz9, Hbp⟩ := new1 w 30 [.slice ac m cc, .slice ar m2 cr]
 rw [hq1]
 clear hq1
 have HB := Lib.hid hb9
 have HZS := hz9
 clear hb9 hz9
 have bp_ := Hbp.out.c2
 go_wp2_with fail
 have hl_bp := Hbp.out.lt
 refine wp_region_over (by kernel_rfl) (by kernel_rfl) ?_
 have hov_bp := fun (E : Over w1) o => E.cell (b := w.heap.size) o hl_bp
 repeat (go_big_quiet_step (first | (go_at_call 12; exact calls_over (H1.out _ (below_up HB.out (Over.h _)))) | (go_at_call 13; exact calls_over (H2.out _ (below_up HB.out (Over.h _))))))
 all_goals (try unfold elV limbV)
 repeat (go_big_quiet_step (first | (go_at_call 12; exact calls_over (H1.out _ (below_up HB.out (Over.h _)))) | (go_at_call 13; exact calls_over (H2.out _ (below_up HB.out (Over.h _))))))
 all_goals (try unfold elV limbV)
 repeat (go_big_quiet_step (first | (go_at_call 12; exact calls_over (H1.out _ (below_up HB.out (Over.h _)))) | (go_at_call 13; exact calls_over (H2.out _ (below_up HB.out (Over.h _))))))
 all_goals (try unfold ciphV)
 refine wpQuiet_nil ?_
 rintro _ ⟨E, rfl⟩
 clear hov_bp hl_bp bp_
 replace Hbp := Lib.hid (Hbp.out.up E.h)
 replace HB := hbu HB E.h
 replace HZS := sz HZS E.h.size
 obtain ⟨w2, hq9⟩ : ∃ W9 : World, E.w = W9 := ⟨_, rfl⟩
 rw [hq9] at Hbp HB HZS ⊢
 clear hq9 E
 have bp_ := Hbp.out.c2
 go_wp2_with fail
 go_ret
 exact ⟨rfl, HB.out⟩
theorem claims_cells : Tryz.prog.cellsOf 22 = 1 := by kernel_rfl
section
variable {H : Type} {enc : TypeId × Value → H} {w : World}
theorem open_setsC {sp : Nat → Bool} {held : Bool} (fuel : Nat) (c : Value) (y : DataW H × List MemPlace) (hW : Wt Tryz.prog 27 y.1) (h : DataW.trod enc Tryz.prog w 0 sp held fuel 27 [c] = some y) :
  ∃ (a : Option Addr) (cap : Nat) (ss : List SetA), c = .slice a ss.length cap ∧ SetsAt w a ss ∧ ∀ s ∈ ss, ∀ c ∈ s.l, CapOk c := by
 obtain ⟨a, cap, rs, h1, _, _, h4, h5⟩ := open_elsW (e := 22) SetA.cells (fun s => ClaimsAt w s.a s.l ∧ ∀ c ∈ s.l, CapOk c) Tryz.underlying27 claims_cells (by omega) hW (fun n l y' hl hW' hy => by
  match l, hl with
  | [c'], _ =>
   obtain ⟨al, cp, cs, rfl, hC, hcap⟩ := open_claimsC _ _ _ hW' hy
   exact ⟨⟨al, cp, cs⟩, rfl, hC, hcap⟩) h
 exact ⟨a, cap, rs, h1, ⟨h4, fun s hs => (h5 s hs).1⟩, fun s hs => (h5 s hs).2⟩
end
theorem sigmaChecks_calls {H : Type} (enc : TypeId × Value → H) (W : World) (base : Nat) {v0 v1 v2 v3 : Value} {d0 d1 d2 d3 : DataW H} {p0 p1 p2 p3 : List MemPlace}
  (h0 : DataW.Trod enc Tryz.prog W 0 (fun _ => true) true 3 v0 d0 p0) (h1 : DataW.Trod enc Tryz.prog W 0 (fun _ => true) true 9 v1 d1 p1) (h2 : DataW.Trod enc Tryz.prog W 0 (fun _ => true) true 27 v2 d2 p2) (h3 : DataW.Trod enc Tryz.prog W 0 (fun _ => true) true 30 v3 d3 p3)
  (k0 : Value.okWide Tryz.prog W .any base 3 v0) (k1 : Value.okWide Tryz.prog W .any base 9 v1) (k2 : Value.okWide Tryz.prog W .any base 27 v2) (k3 : Value.okWide Tryz.prog W .any base 30 v3)
  (_lt0 : ∀ x ∈ p0, x.block < W.heap.size) (_lt1 : ∀ x ∈ p1, x.block < W.heap.size) (_lt2 : ∀ x ∈ p2, x.block < W.heap.size) (_lt3 : ∀ x ∈ p3, x.block < W.heap.size)
  (hsz : (DataW.weightsEach Tryz.prog ([3, 9, 27, 30] ++ Rows.sigmaChecksSpec.plain.varTypes Tryz.prog) ([d0, d1, d2, d3] ++ [])).all (· ≤ reachBytes) = true) :
  Calls Tryz.prog 4 #[v0, v1, v2, v3] W fun e w' => e = .returned (.bool true) ∧ Below W.heap.size W w' := by
 obtain ⟨k, rfl, _, _, _⟩ := open_int Tryz.underlying3 k0 h0
 obtain ⟨b2, n2, m2, rfl⟩ := okWide_slice Tryz.underlying27 k2
 obtain ⟨c3, rfl, _⟩ := okWide_struct Tryz.underlying30 k3
 obtain ⟨f1, h1⟩ := h1
 obtain ⟨f2, h2⟩ := h2
 obtain ⟨f3, h3⟩ := h3
 obtain ⟨label, rfl, _⟩ := Go.ChangeMaps.open_string Tryz.underlying9 k1 ⟨f1, h1⟩
 obtain ⟨al, cl, ss, e2, hC, hcap⟩ := open_setsC f2 _ _ (Wt.arg hsz (j := 2) rfl rfl) h2
 obtain ⟨x, hx, hxa, _, hxr⟩ := open_eith f3 _ _ (Wt.arg hsz (j := 3) rfl rfl) h3
 rw [e2, agg_of (show c3.toList = _ from hx)]
 exact sigmaChecks_any k label (Nat.lt_of_le_of_lt (Wt.str Tryz.underlying9 (Wt.arg hsz (j := 1) rfl rfl) h1) reach_lt) ss al cl x.cs x.rs (fun r hr => by have := hxr r hr; omega) hcap x.ac x.ar x.cc x.cr W hC hxa.c hxa.r
theorem sigmaChecks_lifted (os : Os) (started : os.Started) (H : Type) (enc : TypeId × Value → H) :
  ReturnsInHanded {} Tryz.checked os 4 .any (Rows.sigmaChecksSpec.pre6 enc Tryz.prog Tryz.f4 Rows.sigmaChecksRow.domain false) (Rows.sigmaChecksSpec.post enc Tryz.prog Tryz.f4 false true false false) := by
 refine returnsInHanded_of_change_sized (C := Tryz.checked) law_own started (by kernel_rfl) Tryz.func4
  (ChangeSpec.witness6 (enc := enc) (C := Tryz.checked) false ⟨#[], #[.int .i64 0, .string ⟨#[]⟩, .slice none 0 0, .agg #[.slice none 0 0, .slice none 0 0]], []⟩ 8 (by kernel_rfl) (by kernel_rfl) (by kernel_rfl) (by kernel_rfl)) ?_
 intro W base args ds gs before hval0 hW _ hsz0 _
 have hsz : (DataW.weightsEach Tryz.prog (Tryz.f4.params.toList ++ Rows.sigmaChecksSpec.plain.varTypes Tryz.prog) (ds ++ gs)).all (· ≤ reachBytes) = true := hsz0
 clear hsz0
 have hval : ∀ (j : Nat) t v, Tryz.f4.params[j]? = some t → args[j]? = some v → Value.okWide Tryz.prog W .any base t v := hval0
 have hW' := hW
 obtain ⟨p, q, hA0, hV, rfl, _, _⟩ := hW
 have hA : DataW.TrodAll enc Tryz.prog W 0 (fun _ => true) true Tryz.f4.params.toList args.toList ds p := hA0
 rw [Tryz.params4] at hA hval hsz
 obtain ⟨v0, vs0, d0, ds0, p0, q0, hargs, rfl, rfl, h0, r0⟩ := trodAll_cons hA
 obtain ⟨v1, vs1, d1, ds1, p1, q1, rfl, rfl, rfl, h1, r1⟩ := trodAll_cons r0
 obtain ⟨v2, vs2, d2, ds2, p2, q2, rfl, rfl, rfl, h2, r2⟩ := trodAll_cons r1
 obtain ⟨v3, vs3, d3, ds3, p3, q3, rfl, rfl, rfl, h3, r3⟩ := trodAll_cons r2
 obtain ⟨rfl, rfl, rfl⟩ := trodAll_nil r3
 obtain rfl : args = #[v0, v1, v2, v3] := by cases args; simp_all
 obtain ⟨rfl, rfl⟩ := trodVars_none hV
 have lt0 : ∀ x ∈ p0, x.block < W.heap.size := by obtain ⟨m, hm⟩ := h0; exact DataW.trod_lt m _ _ _ hm
 have lt1 : ∀ x ∈ p1, x.block < W.heap.size := by obtain ⟨m, hm⟩ := h1; exact DataW.trod_lt m _ _ _ hm
 have lt2 : ∀ x ∈ p2, x.block < W.heap.size := by obtain ⟨m, hm⟩ := h2; exact DataW.trod_lt m _ _ _ hm
 have lt3 : ∀ x ∈ p3, x.block < W.heap.size := by obtain ⟨m, hm⟩ := h3; exact DataW.trod_lt m _ _ _ hm
 clear hA0 hval0
 refine (sigmaChecks_calls enc W base h0 h1 h2 h3 (hval 0 3 v0 rfl rfl) (hval 1 9 v1 rfl rfl) (hval 2 27 v2 rfl rfl) (hval 3 30 v3 rfl rfl) lt0 lt1 lt2 lt3 hsz).mono fun e W' ⟨he, bel⟩ => ?_
 subst he
 exact ⟨_, rfl, _, _, _, [], _, [], hW', trodAll_mk1 (shut_bool Tryz.underlying4 _), (trodAll_cons_mk (Below.trod law_laidOut (by kernel_rfl) (of_decide_eq_true (by kernel_rfl)) h0 bel lt0) (trodAll_cons_mk (Below.trod law_laidOut (by kernel_rfl) (of_decide_eq_true (by kernel_rfl)) h1 bel lt1) (trodAll_cons_mk (Below.trod law_laidOut (by kernel_rfl) (of_decide_eq_true (by kernel_rfl)) h2 bel lt2) (trodAll_cons_mk (Below.trod law_laidOut (by kernel_rfl) (of_decide_eq_true (by kernel_rfl)) h3 bel lt3) trodAll_mk0)))), rfl, bel.frame _, fun h => by cases h⟩
theorem sigmaChecks_holds : Rows.SigmaChecksSaid :=
 OpenClaim.holds_of_wide 4 Tryz.f4 rfl rfl rfl rfl rfl rfl rfl ⟨rfl, rfl, rfl, rfl, rfl⟩ rfl rfl rfl rfl rfl (by kernel_rfl) Tryz.func4 (by kernel_rfl)
  (of_decide_eq_true (by kernel_rfl)) (by unfold Func.isWrapper; first | (rw [if_pos (by decide +kernel)]; kernel_rfl) | (rw [if_neg (by decide +kernel)]; exact ⟨rfl, rfl⟩))
  (fun os started H enc _ => sigmaChecks_lifted os started H enc)
#print axioms sigmaChecks_holds
end Go.Proofs.YtdlnnkbigeiilaaGreat
