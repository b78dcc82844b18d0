/- Texts of this seat, one behind the other: what SigmaEithers leans on. No condition beyond those that each names. -/
import Derived.Test.YtdlnnkbigeiilaaGreatZSigmaEithers6
import Derived.Outline

set_option maxRecDepth 100000
set_option maxHeartbeats 4000000
set_option linter.unusedVariables false
set_option linter.unusedSimpArgs false
namespace Go.Proofs.YtdlnnkbigeiilaaGreat
open Go.RowKit
theorem n3b (w : World) (A0 A1 A2 : Array Value) (t0 t1 t2 : TypeId) : Below w.heap.size w (((w.alloc (.cells A0 t0)).alloc (.cells A1 t1)).alloc (.cells A2 t2)) := ((((Below.refl _ _).alloc (Nat.le_refl _) _).alloc (by simp) _).alloc (by simp; omega) _)
theorem n30 (w : World) (A0 A1 A2 : Array Value) (t0 t1 t2 : TypeId) (c : List Value) (h : A0 = c.toArray) : Bx (((w.alloc (.cells A0 t0)).alloc (.cells A1 t1)).alloc (.cells A2 t2)) w.heap.size t0 c := by
 subst h
 exact (((Bx.new w t0 c _ rfl).alloc _).alloc _)
theorem n31 (w : World) (A0 A1 A2 : Array Value) (t0 t1 t2 : TypeId) (c : List Value) (h : A1 = c.toArray) : Bx (((w.alloc (.cells A0 t0)).alloc (.cells A1 t1)).alloc (.cells A2 t2)) (w.heap.size + 1) t1 c := by
 subst h
 have h := ((Bx.new (w.alloc (.cells A0 t0)) t1 c _ rfl).alloc (.cells A2 t2))
 rw [World.size_alloc] at h
 exact h
theorem n32 (w : World) (A0 A1 A2 : Array Value) (t0 t1 t2 : TypeId) (c : List Value) (h : A2 = c.toArray) : Bx (((w.alloc (.cells A0 t0)).alloc (.cells A1 t1)).alloc (.cells A2 t2)) (w.heap.size + 1 + 1) t2 c := by
 subst h
 have h := Bx.new ((w.alloc (.cells A0 t0)).alloc (.cells A1 t1)) t2 c _ rfl
 rw [World.size_alloc, World.size_alloc] at h
 exact h
theorem nonce_num {G : GP} (ok : G.Ok) (s : ByteArray) (n j : Nat) (h : j < (nonceL G s n).length) : textS (numOf (nonceL G s n)[j] % G.q.m) G.size = (nonceL G s n)[j] := by
 have e : (nonceL G s n)[j] = nonceS G s j := by simp [nonceL]
 rw [e]
 unfold nonceS
 rw [numOf_mod ok, Nat.mod_mod]
theorem take_str {NL : List ByteArray} {t : Nat} {y : ByteArray} (h : t < NL.length) (e : y = NL[t]) : (NL.take (t + 1)).map Value.string = (NL.take t).map Value.string ++ [.string y] := by
 subst e
 rw [List.take_succ_eq_append_getElem h, List.map_append]
 rfl
theorem eithR_set {er : Int} {w w' : World} {C : List ByteArray} {A : List (List ByteArray)} {n m i N cb ab c5 : Nat} {ta tc : TypeId} {x : ByteArray} {AN : List ByteArray} {a5 : Option Addr} {ro : List RowA} (hb : Below w.heap.size w w') (hC : C.length = n) (hr : ro.length = n) (hm : ro.map RowA.l = A) (hn : AN.length = m) (h1 : Bx w' cb tc ((C.map Value.string).set i (.string x))) (h2 : Bx w' ab ta ((ro.flatMap RowA.cells).set i (.slice a5 m c5))) (hR : RowsNew N w' ro) (hS : Sl w' w'.heap.size a5 (AN.map Value.string)) (h5 : m ≤ c5) (h6 : a5 = none → c5 = 0) :
  EithR er (C.set i x) (A.set i AN) w (.returned (.tuple #[.agg #[.slice (some ⟨cb, 0, none⟩) n n, .slice (some ⟨ab, 0, none⟩) n n], .int .i64 er])) w' := by
 subst hn
 have e1 : (C.map Value.string).set i (.string x) = (C.set i x).map Value.string := (List.map_set ..).symm
 rw [e1] at h1
 have e2 := (rows_set ro i ⟨a5, c5, AN⟩).symm
 rw [e2] at h2
 have s1 := Sl.of_block h1
 have s2 := Sl.of_block h2
 refine ⟨hb, some ⟨cb, 0, none⟩, n, some ⟨ab, 0, none⟩, n, ro.set i ⟨a5, c5, AN⟩, ?_, by simpa using s1, by rw [List.map_set, hm], ⟨by simpa using s2, fun r h => ?_⟩, fun r h => ?_⟩
 ·rw [List.length_set, List.length_set, hC, ← hm, List.length_map, hr]
 ·rcases List.mem_or_eq_of_mem_set h with h | rfl
  ·exact (hR r h).1
  ·exact hS
 ·rcases List.mem_or_eq_of_mem_set h with h | rfl
  ·exact (hR r h).2.2
  ·exact ⟨h6, h5⟩
theorem Bx.drew9 {W : World} {b : Nat} {t : TypeId} {cs : List Value} (h : Bx W b t cs) : Bx W.drew b t cs := h
theorem sPany_body (k : Nat) (h1 : 1 ≤ k) (h3 : k ≤ 3) (label seed : ByteArray) (hlb : label.size < 140737488355328) (hsd : seed.size < 140737488355328) (ss : List SetA) (n : Nat) (hn : ss.length = n) (al : Option Addr) (cl : Nat) (hz : setsE (grp k) ss = 0) (hcap : ∀ s ∈ ss, ∀ c ∈ s.l, CapOk c) (wh : Nat) (hwn : wh < n) (xs : List ByteArray) (ax : Option Addr) (cx : Nat) (hm : xs.length ≤ 8796093022207) (hz2 : scE (grp k) (pvL (ss.map SetA.l) wh).length xs = 0) (hhp : holdP (grp k) (pvL (ss.map SetA.l) wh) xs = true) (w : World) (hC : SetsAt w al ss) (hS : Sl w w.heap.size ax (xs.map Value.string)) :
  Calls Tryz.prog 17 #[.int .i64 (k : Int), .string label, .slice al n cl, .int .i64 (wh : Int), .slice ax xs.length cx, .string seed] w (EithR 0 (pvCs (grp k) (ss.map SetA.l) wh (pvT0 k label (ss.map SetA.l) seed) n) (pvAs (grp k) (ss.map SetA.l) wh (pvT0 k label (ss.map SetA.l) seed) n xs) w) := by
 have HTZ := Lib.hid (show (saySs (beginT eitherB label k) (ss.map SetA.l)).size = 32 from saySs_size _ _ (say1_size _ _ _))
 have HS0 := Lib.hid (show (pvT0 k label (ss.map SetA.l) seed).t.size = 32 ∧ (pvT0 k label (ss.map SetA.l) seed).f.size = 32 from ⟨HTZ.out, say1_size _ _ _⟩)
 have HT00 := Lib.hid (show (pvAt (grp k) (ss.map SetA.l) wh (pvT0 k label (ss.map SetA.l) seed) 0) = ⟨saySs (beginT eitherB label k) (ss.map SetA.l), say1 (saySs (beginT eitherB label k) (ss.map SetA.l)) seedB seed, 0⟩ from rfl)
 have HAZ := Lib.hid (fun j => pvAt_size (grp k) (ss.map SetA.l) wh HS0.out j)
 have HAS := Lib.hid (fun j => (show pvAt (grp k) (ss.map SetA.l) wh (pvT0 k label (ss.map SetA.l) seed) (j + 1) = pvStep (grp k) (ss.map SetA.l) wh (pvAt (grp k) (ss.map SetA.l) wh (pvT0 k label (ss.map SetA.l) seed) j) j from rfl))
 have HCS := Lib.hid (fun j => pvCj_succ (grp k) (ss.map SetA.l) wh (pvT0 k label (ss.map SetA.l) seed) j)
 have HASS := Lib.hid (fun j => pvAj_succ (grp k) (ss.map SetA.l) wh (pvT0 k label (ss.map SetA.l) seed) j)
 have HC00 := Lib.hid (show pvCj (grp k) (ss.map SetA.l) wh (pvT0 k label (ss.map SetA.l) seed) 0 = [] from rfl)
 have HA00 := Lib.hid (show pvAj (grp k) (ss.map SetA.l) wh (pvT0 k label (ss.map SetA.l) seed) 0 = [] from rfl)
 have HCL := Lib.hid (fun j => (show (pvCj (grp k) (ss.map SetA.l) wh (pvT0 k label (ss.map SetA.l) seed) j).length = j from by unfold pvCj; simp))
 rw [← pvCs_eq, ← pvAs_eq]
 unfold pvC at HCS
 unfold pvZ at HASS
 unfold pvN pvW
 clear HS0
 generalize pvAt (grp k) (ss.map SetA.l) wh (pvT0 k label (ss.map SetA.l) seed) = PV at *
 generalize pvCj (grp k) (ss.map SetA.l) wh (pvT0 k label (ss.map SetA.l) seed) = CJ at *
 generalize pvAj (grp k) (ss.map SetA.l) wh (pvT0 k label (ss.map SetA.l) seed) = AJ at *
 have OK := Lib.hid (grp_ok k h1 h3)
 have HRD := Lib.hid (fun gb w hG hC => sRAll_ok (grp k) OK.out gb ss al cl w hG hC hz)
 rw [hn] at HRD
 have HC := Lib.hid hC
 have HS := Lib.hid hS
 have HN := Lib.hid hn
 have HZE := Lib.hid (setsE_ok hz)
 have h16 : n ≤ 16 := by have := HZE.out.2.1; omega
 have HSS := Lib.hid (fun s hs => (show (∀ c ∈ s.l, CapOk c) ∧ wrongE (grp k) s.l = 0 from ⟨hcap s hs, wrongsE_all HZE.out.2.2 s hs⟩))
 have HXL := Lib.hid (sc_len9 hz2)
 have HSC := Lib.hid (fun gb a c m (hm9 : m = (pvL (ss.map SetA.l) wh).length) w1 hG hS => (show Calls Tryz.prog 53 #[.agg #[.pointer (some ⟨gb, 0, none⟩), .slice a m c], .slice ax xs.length cx] w1 (ScalQ (grp k) 0 xs w1) from by
  have h := scalars_any (grp k) OK.out gb m a c xs ax cx hm w1 hG hS
  unfold ScalR at h
  rw [hm9, hz2] at h
  rw [hm9]
  exact h))
 unfold ScalQ at HSC
 have HHB := Lib.hid hhp
 have hd1 : decide ((wh : Int) < 0) = false := decide_eq_false (by omega)
 have hd2 : decide ((wh : Int) ≥ (n : Int)) = false := decide_eq_false (by omega)
 have HMA := Lib.hid (fun (W9 : World) => by
  have h := Go.run_make_row' (P := Tryz.prog) 23 9 (.string ⟨#[]⟩) 16 Tryz.underlying23 infoStr rfl .i64 .i64 n (by omega) (by omega) W9
  rw [madeCells_eq] at h
  exact h)
 have HMB := Lib.hid (fun (W9 : World) => by
  have h := Go.run_make_row' (P := Tryz.prog) 28 23 (.slice none 0 0) 24 Tryz.underlying28 infoStrs rfl .i64 .i64 n (by omega) (by omega) W9
  rw [madeCells_eq] at h
  exact h)
 clear hC hS hn hz hcap hm hz2 hhp
 go_enter Tryz.func17, Tryz.ntmps17
 go_wp2_with fail
 obtain ⟨w1, hq1, hb9, hz9, Hout⟩ := new1 w 30 [.slice none 0 0, .slice none 0 0]
 rw [hq1]
 clear hq1
 have HB := Lib.hid hb9
 have HZS := hz9
 clear hb9 hz9
 have out_ := Hout.out.c2
 go_wp2_with fail
 refine (of_some k h1 h3 w1).mono ?_
 rintro e w2 ⟨rfl, hg9, hb9⟩
 clear out_
 replace Hout := Lib.hid (Hout.out.up hb9)
 replace HB := hbu HB hb9
 replace HZS := sz HZS hb9.size
 have HG := Lib.hid hg9
 clear hg9 hb9
 have out_ := Hout.out.c2
 go_wp2_with fail
 refine (HRD.out _ w2 HG.out (HC.out.up HB.out)).mono ?_
 rintro e w3 ⟨hb9, ts, a9, c9, rfl, hts, hsl, hat, hof, hfr⟩
 clear out_
 replace Hout := Lib.hid (Hout.out.up hb9)
 replace HG := Lib.hid (HG.out.up hb9)
 replace HB := hbu HB hb9
 replace HZS := sz HZS hb9.size
 have HTS := Lib.hid hts
 clear hts
 have HSL := Lib.hid hsl
 clear hsl
 have HAT := Lib.hid hat
 clear hat
 have HOF := Lib.hid hof
 clear hof hb9
 have out_ := Hout.out.c2
 have HTL := Lib.hid (show ts.length = n by rw [← HN.out, ← HTS.out, List.length_map])
 rw [HTL.out]
 clear HRD hfr
 have BQ := Lib.hid (Below.refl w3.heap.size w3)
 have HG5 := HG
 have HB5 := HB
 have HGL := Lib.hid (show w1.heap.size < w3.heap.size from HG.out.lt)
 have hjt : wh < ts.length := by rw [HTL.out]; exact hwn
 have hjs : wh < ss.length := by rw [HN.out]; exact hwn
 obtain ⟨bl, ol, rfl, hbl0, hc⟩ := HSL.out.elem (SetR.cells_len w1.heap.size) (by omega) wh hjt
 have hc_0 := hc 0 _ rfl
 rw [Nat.add_zero] at hc_0
 have hc_1 := hc 1 _ rfl
 clear hc
 have HSJ := Lib.hid (show ts[wh].s = ss[wh] by
  have h8 : (ts.map SetR.s)[wh]? = ss[wh]? := by rw [HTS.out]
  rw [List.getElem?_map, List.getElem?_eq_getElem hjt, List.getElem?_eq_getElem hjs] at h8
  exact Option.some.inj h8)
 have HST := Lib.hid (HAT.out _ (List.getElem_mem hjt)).1
 have HOJ := HOF.out _ (List.getElem_mem hjt)
 have HSZ := Lib.hid (read_sizes OK.out HOJ.w (HSS.out _ (by rw [HSJ.out]; exact List.getElem_mem hjs)).1 HOJ.k)
 have HKW := Lib.hid (show ts[wh].rs.map ClaimR.k = pvL (ss.map SetA.l) wh by unfold pvL; rw [HOJ.k, HSJ.out, List.getD_eq_getElem?_getD, List.getElem?_map, List.getElem?_eq_getElem hjs]; rfl)
 clear HOJ hjs HSJ
 obtain ⟨tw, htw⟩ : ∃ t, ts[wh]'hjt = t := ⟨_, rfl⟩
 rw [htw] at hc_1 HST HSZ HKW
 clear htw hjt
 have HLW := Lib.hid (show tw.rs.length = (pvL (ss.map SetA.l) wh).length by rw [← HKW.out, List.length_map])
 have HCW0 := Lib.hid hc_0
 have HCW1 := Lib.hid hc_1
 have HBL0 := Lib.hid hbl0
 have HO5 := Hout
 have HRX := Lib.hid (show tw.rs.length = xs.length by rw [HLW.out, HXL.out])
 rw [HRX.out] at hc_1 HCW1
 have hjw := hwn
 go_wp2_with fail
 refine (HSC.out w1.heap.size tw.a tw.c xs.length HXL.out w3 (HG5.out.up BQ.out) (HS.out.up HB.out)).mono ?_
 rintro e w4 ⟨hb9, v, rfl, hv9⟩
 clear out_
 replace Hout := Lib.hid (Hout.out.up hb9)
 replace HG := Lib.hid (HG.out.up hb9)
 replace BQ := hbu BQ hb9
 replace HB := hbu HB hb9
 replace HZS := sz HZS hb9.size
 clear hb9
 have out_ := Hout.out.c2
 obtain ⟨a7, c7, rfl, hsv, hfv⟩ := hv9 trivial
 have HSV := Lib.hid hsv
 clear hc_0 hc_1 hsv hfv hv9
 have BS7 := Lib.hid (Below.refl w4.heap.size w4)
 have hc_0 := (BQ.out.cell (p := ⟨bl, ol + wh * 2, none⟩) HBL0.out).trans HCW0.out
 have hc_1 := (BQ.out.cell (p := ⟨bl, ol + wh * 2 + 1, none⟩) HBL0.out).trans HCW1.out
 go_wp2_with fail
 refine (holds_any (grp k) OK.out w1.heap.size tw.rs xs.length HRX.out tw.a tw.c xs rfl a7 c7 (by have h9 := HSZ.out.1; have h8 := HSZ.out.2.1; have h7 := HRX.out; omega) HSZ.out.2.2.2.1 true (by rw [HKW.out]; exact HHB.out) w4 (HG5.out.up BQ.out) (HST.out.up BQ.out) (HSV.out.up BS7.out)).mono ?_
 rintro e w5 ⟨rfl, hb9⟩
 clear out_
 replace Hout := Lib.hid (Hout.out.up hb9)
 replace HG := Lib.hid (HG.out.up hb9)
 replace BQ := hbu BQ hb9
 replace BS7 := hbu BS7 hb9
 replace HB := hbu HB hb9
 replace HZS := sz HZS hb9.size
 clear hb9
 have out_ := Hout.out.c2
 clear hc_0 hc_1
 have HSRC := Lib.hid (fun t (ht : t ∈ ts) => by
  have hm : t.s ∈ ss := by rw [← HTS.out]; exact List.mem_map.2 ⟨t, ht, rfl⟩
  obtain ⟨bl, ol, e1, e2⟩ := (HOF.out t ht).p
  have h9 := (HC.out.up HB5.out).e _ hm
  rw [e1] at h9
  exact (show ∀ r ∈ t.rs, r.Src w3 from src_all (HOF.out t ht).k e2 h9))
 have HTM := Lib.hid (show ts.map (fun t => t.rs.map ClaimR.k) = ss.map SetA.l by rw [← HTS.out, List.map_map]; exact List.map_congr_left fun t ht => (HOF.out t ht).k)
 have HF1 := Lib.hid (fun a9 c9 w hG hS hT hC => stalk_any (grp k) w1.heap.size label hlb (by rw [grp_kind k h1 h3]; omega) ts ts.length rfl (by rw [HTL.out]; exact h16) (fun t ht => by
  have hm : t.s ∈ ss := by rw [← HTS.out]; exact List.mem_map.2 ⟨t, ht, rfl⟩
  obtain ⟨q1, q2, q3, _⟩ := read_sizes OK.out (HOF.out t ht).w (HSS.out _ hm).1 (HOF.out t ht).k
  exact ⟨by omega, q3⟩) a9 c9 w hG hS hT hC)
 rw [grp_kind k h1 h3, HTM.out, HTL.out] at HF1
 have HF3 := Lib.hid (fun tb w hT => seeded_any tb (saySs (beginT eitherB label k) (ss.map SetA.l)) seed HTZ.out hsd w hT)
 clear hlb hsd
 generalize say1 (saySs (beginT eitherB label k) (ss.map SetA.l)) seedB seed = F0 at *
 generalize saySs (beginT eitherB label k) (ss.map SetA.l) = T0 at *
 go_wp2_with fail
 refine (HF1.out (some ⟨bl, ol, none⟩) c9 w5 (HG5.out.up BQ.out) (HSL.out.up BQ.out) (fun t ht => (HAT.out t ht).1.up BQ.out) (fun t ht r hr => (HSRC.out t ht r hr).up BQ.out)).mono ?_
 rintro e wa ⟨tb, rfl, hge, ht, hb9⟩
 have HGE := Lib.hid hge
 have Ht := Lib.hid (show Bx wa tb 192 [.string T0] from ht)
 clear hge ht HF1 out_
 replace Hout := Lib.hid (Hout.out.up hb9)
 replace HG := Lib.hid (HG.out.up hb9)
 replace BQ := hbu BQ hb9
 replace BS7 := hbu BS7 hb9
 replace HB := hbu HB hb9
 replace HZS := sz HZS hb9.size
 clear hb9
 have out_ := Hout.out.c2
 replace HZS := sz HZS HGE.out
 have HZB := Lib.hid BQ.out.size
 replace HZS := sz HZS HZB.out
 have t_ := Ht.out.c1
 have HTT := Lib.hid Ht.out.lt
 replace HZS := sz HZS HTT.out
 go_wp2_with fail
 refine (HF3.out tb wa Ht.out).mono ?_
 rintro e w6 ⟨fb, rfl, hfg, hft, hb9⟩
 clear out_
 replace Hout := Lib.hid (Hout.out.up hb9)
 clear t_
 replace Ht := Lib.hid (Ht.out.up hb9)
 replace HG := Lib.hid (HG.out.up hb9)
 replace BQ := hbu BQ hb9
 replace BS7 := hbu BS7 hb9
 replace HB := hbu HB hb9
 replace HZS := sz HZS hb9.size
 have hft9 : Bx _ fb 192 [.string F0] := hft
 have Hf := Lib.hid hft9
 clear hft9 hft
 have HFG := Lib.hid hfg
 clear hfg
 replace HZS := sz HZS HFG.out
 clear hb9
 have out_ := Hout.out.c2
 have t_ := Ht.out.c1
 have f_ := Hf.out.c1
 have HFT := Lib.hid Hf.out.lt
 replace HZS := sz HZS HFT.out
 have HFS := Lib.hid (show fb < w6.heap.size from Hf.out.lt)
 have o7_out_ := out_; clear out_
 have o7_t_ := t_; clear t_
 have o7_f_ := f_; clear f_
 obtain ⟨w7, hq7, hb9, hz9, Hsu⟩ := new1 w6 72 ([.int .u64 0, .int .u64 0, .int .u64 0, .int .u64 0])
 replace Hout := Lib.hid (Hout.out.up hb9)
 replace Ht := Lib.hid (Ht.out.up hb9)
 replace Hf := Lib.hid (Hf.out.up hb9)
 replace HG := Lib.hid (HG.out.up hb9)
 replace BQ := hbu BQ hb9
 replace BS7 := hbu BS7 hb9
 replace HB := hbu HB hb9
 replace HZS := sz HZS hz9.out
 clear hb9 hz9
 have out_ := Hout.out.c2
 have t_ := Ht.out.c1
 have f_ := Hf.out.c1
 go_upto_region 18 with fail
 have HSUK := Lib.hid Hsu.out.lt
 go_cut [22] from 86 to 92 (fun v9 wq9 => ∃ cb ab eb : Nat, v9 = .pointer (some ⟨eb, 0, none⟩) ∧ Hid (w7.heap.size ≤ cb ∧ w7.heap.size ≤ ab ∧ w7.heap.size ≤ eb ∧ cb ≠ ab ∧ cb ≠ eb ∧ ab ≠ eb) ∧ Hid (Bx wq9 cb 9 (List.replicate n (.string ⟨#[]⟩))) ∧ Hid (Bx wq9 ab 23 (List.replicate n (.slice none 0 0))) ∧ Hid (Bx wq9 eb 30 [.slice (some ⟨cb, 0, none⟩) n n, .slice (some ⟨ab, 0, none⟩) n n]) ∧ Hid (Below w7.heap.size w7 wq9))
 case first =>
  have hma := HMA.out
  have hmb := HMB.out
  go_region
  all_goals (go_wp2_with fail; go_meet; case rel => first
   | exact ⟨_, _, _, rfl, Lib.hid (by refine ⟨?_, ?_, ?_, ?_, ?_, ?_⟩ <;> omega), Lib.hid (Bx.drew9 (n30 _ _ _ _ _ _ _ _ (by simp))), Lib.hid (Bx.drew9 (n31 _ _ _ _ _ _ _ _ (by simp))), Lib.hid (Bx.drew9 (n32 _ _ _ _ _ _ _ _ rfl)), Lib.hid (Below.drew (n3b _ _ _ _ _ _ _))⟩
   | exact ⟨_, _, _, rfl, Lib.hid (by refine ⟨?_, ?_, ?_, ?_, ?_, ?_⟩ <;> omega), Lib.hid (Bx.drew9 (n30 _ _ _ _ _ _ _ _ (by simp))), Lib.hid (Bx.drew9 (n32 _ _ _ _ _ _ _ _ (by simp))), Lib.hid (Bx.drew9 (n31 _ _ _ _ _ _ _ _ rfl)), Lib.hid (Below.drew (n3b _ _ _ _ _ _ _))⟩
   | exact ⟨_, _, _, rfl, Lib.hid (by refine ⟨?_, ?_, ?_, ?_, ?_, ?_⟩ <;> omega), Lib.hid (Bx.drew9 (n31 _ _ _ _ _ _ _ _ (by simp))), Lib.hid (Bx.drew9 (n30 _ _ _ _ _ _ _ _ (by simp))), Lib.hid (Bx.drew9 (n32 _ _ _ _ _ _ _ _ rfl)), Lib.hid (Below.drew (n3b _ _ _ _ _ _ _))⟩
   | exact ⟨_, _, _, rfl, Lib.hid (by refine ⟨?_, ?_, ?_, ?_, ?_, ?_⟩ <;> omega), Lib.hid (Bx.drew9 (n31 _ _ _ _ _ _ _ _ (by simp))), Lib.hid (Bx.drew9 (n32 _ _ _ _ _ _ _ _ (by simp))), Lib.hid (Bx.drew9 (n30 _ _ _ _ _ _ _ _ rfl)), Lib.hid (Below.drew (n3b _ _ _ _ _ _ _))⟩
   | exact ⟨_, _, _, rfl, Lib.hid (by refine ⟨?_, ?_, ?_, ?_, ?_, ?_⟩ <;> omega), Lib.hid (Bx.drew9 (n32 _ _ _ _ _ _ _ _ (by simp))), Lib.hid (Bx.drew9 (n30 _ _ _ _ _ _ _ _ (by simp))), Lib.hid (Bx.drew9 (n31 _ _ _ _ _ _ _ _ rfl)), Lib.hid (Below.drew (n3b _ _ _ _ _ _ _))⟩
   | exact ⟨_, _, _, rfl, Lib.hid (by refine ⟨?_, ?_, ?_, ?_, ?_, ?_⟩ <;> omega), Lib.hid (Bx.drew9 (n32 _ _ _ _ _ _ _ _ (by simp))), Lib.hid (Bx.drew9 (n31 _ _ _ _ _ _ _ _ (by simp))), Lib.hid (Bx.drew9 (n30 _ _ _ _ _ _ _ _ rfl)), Lib.hid (Below.drew (n3b _ _ _ _ _ _ _))⟩)
 case rest =>
  obtain ⟨cb, ab, eb, rfl, HNE, Hcb, Hab, Hei, hbR⟩ := hcut
  have hb9 := hbR.out
  clear hbR HMA HMB out_
  replace Hout := Lib.hid (Hout.out.up hb9)
  clear t_
  replace Ht := Lib.hid (Ht.out.up hb9)
  clear f_
  replace Hf := Lib.hid (Hf.out.up hb9)
  replace Hsu := Lib.hid (Hsu.out.up hb9)
  replace HG := Lib.hid (HG.out.up hb9)
  replace BQ := hbu BQ hb9
  replace BS7 := hbu BS7 hb9
  replace HB := hbu HB hb9
  replace HZS := sz HZS hb9.size
  clear hb9
  have out_ := Hout.out.c2
  have t_ := Ht.out.c1
  have f_ := Hf.out.c1
  have ei_ := Hei.out.c2
  have HALL := Lib.hid (show w.heap.size ≤ w1.heap.size ∧ w1.heap.size < w3.heap.size ∧ w3.heap.size ≤ tb ∧ w4.heap.size ≤ tb ∧ tb < fb ∧ fb < w6.heap.size ∧ w6.heap.size < cb ∧ w6.heap.size < ab ∧ w6.heap.size < eb ∧ cb ≠ ab ∧ cb ≠ eb ∧ ab ≠ eb ∧ cb < wc.heap.size ∧ ab < wc.heap.size ∧ eb < wc.heap.size by have g0 := HZS.out; have g1 := HGL.out; have g2 := HGE.out; have g3 := HTT.out; have g4 := HFG.out; have g5 := HFS.out; have g6 := HSUK.out; have g7 := HNE.out; have g8 := Hcb.out.lt; have g9 := Hab.out.lt; have g10 := Hei.out.lt; omega)
  clear HNE HFS HSUK
  have HSU0 := Lib.hid (show Bx wc w6.heap.size 72 [.int .u64 (dig (mont (grp k).q.m 0) 0 : Int), .int .u64 (dig (mont (grp k).q.m 0) 1 : Int), .int .u64 (dig (mont (grp k).q.m 0) 2 : Int), .int .u64 (dig (mont (grp k).q.m 0) 3 : Int)] by rw [mont_zero9]; simp only [dig_zero9]; exact Hsu.out)
  go_wp2_with fail
  clear hq7 o7_f_ o7_t_ o7_out_
  go_loopw [95, 20] (fun i vn wr => ∃ (j : Nat) (s : PvS) (ro : List RowA), j ≤ n ∧ i = .int .i64 (j : Int) ∧ Hid (PV j = s) ∧ Hid (NonN wc.heap.size wr (wh < j) (grp k).q.m xs.length (nonceL (grp k) (PV wh).f xs.length) vn) ∧ Hid (Bx wr tb 192 [.string s.t]) ∧ Hid (Bx wr fb 192 [.string s.f]) ∧ Hid (Bx wr w6.heap.size 72 [.int .u64 (dig (mont (grp k).q.m s.o) 0 : Int), .int .u64 (dig (mont (grp k).q.m s.o) 1 : Int), .int .u64 (dig (mont (grp k).q.m s.o) 2 : Int), .int .u64 (dig (mont (grp k).q.m s.o) 3 : Int)]) ∧ Hid (Bx wr cb 9 ((CJ j).map Value.string ++ List.replicate (n - j) (.string ⟨#[]⟩))) ∧ Hid (ro.length = j) ∧ Hid (ro.map RowA.l = AJ j) ∧ Hid (Bx wr ab 23 (ro.flatMap RowA.cells ++ List.replicate (n - j) (.slice none 0 0))) ∧ Hid (RowsNew wc.heap.size wr ro) ∧ Hid (Bx wr eb 30 [.slice (some ⟨cb, 0, none⟩) n n, .slice (some ⟨ab, 0, none⟩) n n]) ∧ Hid (wc.heap.size ≤ wr.heap.size) ∧ Hid (Below w3.heap.size w3 wr) ∧ Hid (Below w4.heap.size w4 wr)) (fun i _ _ => n - (intOf i).toNat)
  case atStart => exact ⟨0, _, [], Nat.zero_le _, rfl, HT00, fun h => absurd h (Nat.not_lt_zero _), Ht, Hf, HSU0, by rw [HC00.out]; exact Hcb, rfl, HA00.out.symm, Hab, (fun _ h => by cases h), Hei, Nat.le_refl _, BQ, BS7⟩
  case round =>
   clear Ht Hf Hsu Hcb Hab Hei HB BQ BS7 HSU0
   obtain ⟨j, ⟨st, sf, so⟩, ro, hj, rfl, HPJ, HNN, Ht, Hf, Hsu, Hcb, HRL, HRM, Hab, HRN, Hei, HWZ, BQ, BS7⟩ := hrel
   have HB := Lib.hid (below_up HB5.out BQ.out)
   by_cases hjn : j < n
   ·have hjt : j < ts.length := by rw [HTL.out]; exact hjn
    have hjs : j < ss.length := by rw [HN.out]; exact hjn
    obtain ⟨bl2, ol2, hae, hbl2, hc⟩ := (HSL.out.up BQ.out).elem (SetR.cells_len w1.heap.size) (by omega) j hjt
    cases hae
    have hc_0 := hc 0 _ rfl
    rw [Nat.add_zero] at hc_0
    have hc_1 := hc 1 _ rfl
    clear hc
    have HSJ := Lib.hid (show ts[j].s = ss[j] by
     have h8 : (ts.map SetR.s)[j]? = ss[j]? := by rw [HTS.out]
     rw [List.getElem?_map, List.getElem?_eq_getElem hjt, List.getElem?_eq_getElem hjs] at h8
     exact Option.some.inj h8)
    have HSTJ := Lib.hid (HAT.out _ (List.getElem_mem hjt)).1
    have HOJ := HOF.out _ (List.getElem_mem hjt)
    have HSZJ := Lib.hid (read_sizes OK.out HOJ.w (HSS.out _ (by rw [HSJ.out]; exact List.getElem_mem hjs)).1 HOJ.k)
    have HKJ := Lib.hid (show pvL (ss.map SetA.l) j = ts[j].rs.map ClaimR.k by unfold pvL; rw [HOJ.k, HSJ.out, List.getD_eq_getElem?_getD, List.getElem?_map, List.getElem?_eq_getElem hjs]; rfl)
    have HLJ := Lib.hid (show ts[j].rs.length = (pvL (ss.map SetA.l) j).length by rw [HKJ.out, List.length_map])
    have HL64 := Lib.hid (show ts[j].rs.length ≤ 64 by have h9 := HSZJ.out; omega)
    have HSZ2 := Lib.hid HSZJ.out.2.2.2.1
    have HPZ := Lib.hid (show st.size = 32 ∧ sf.size = 32 by have h9 := HAZ.out j; rw [HPJ.out] at h9; exact h9)
    have HST1 := Lib.hid (fun (e : j = wh) => show PV (j + 1) = ⟨sayFi st (eachA (grp k) (valF (grp k) (ts[j].rs.map ClaimR.k) (nonceL (grp k) sf ts[j].rs.length)) (lens (ts[j].rs.map ClaimR.k)) ts[j].rs.length), askT sf ts[j].rs.length, so⟩ by rw [HAS.out, HPJ.out]; unfold pvStep; rw [if_pos e, HKJ.out, List.length_map])
    have HST2 := Lib.hid (fun (e : ¬ j = wh) => show PV (j + 1) = ⟨sayFi st (eachA (grp k) (valB (grp k) ((grp k).q.m - chN sf otherB % (grp k).q.m) (ts[j].rs.map ClaimR.k) (nonceL (grp k) (chT sf otherB) ts[j].rs.length)) (lens (ts[j].rs.map ClaimR.k)) ts[j].rs.length), askT (chT sf otherB) ts[j].rs.length, so + chN sf otherB % (grp k).q.m⟩ by rw [HAS.out, HPJ.out]; unfold pvStep; rw [if_neg e, HKJ.out, List.length_map])
    have HCSJ := Lib.hid (show CJ (j + 1) = CJ j ++ [if j = wh then ⟨#[]⟩ else textS (chN sf otherB % (grp k).q.m) (grp k).size] by rw [HCS.out, HPJ.out])
    have HASJ := Lib.hid (show AJ (j + 1) = AJ j ++ [if j = wh then [] else nonceL (grp k) (chT sf otherB) ts[j].rs.length] by rw [HASS.out, HPJ.out, HLJ.out])
    clear HOJ HSJ HSZJ HKJ
    generalize ts[j] = t9 at *
    have HCJ0 := Lib.hid hc_0
    have HCJ1 := Lib.hid hc_1
    have hnj : n - j = (n - j - 1) + 1 := by omega
    rw [hnj, List.replicate_succ] at Hcb Hab
    clear hnj hjt hjs
    by_cases hjw : j = wh
    ·replace HST1 := Lib.hid (HST1.out hjw)
     subst hjw
     clear HST2
     have HLX := Lib.hid (show t9.rs.length = xs.length by rw [HLJ.out, HXL.out])
     have HPF := Lib.hid (show (PV j).f = sf by rw [HPJ.out])
     rw [if_pos rfl] at HCSJ HASJ
     replace HZS := sz HZS HALL.out
     replace HZS := sz HZS HWZ.out
     have t_ := Ht.out.c1
     have f_ := Hf.out.c1
     have su_ := Hsu.out.c4
     have ei_ := Hei.out.c2
     have HKP := Lib.hid (Kept.refl (fun q9 => q9 < wc.heap.size) wr)
     have o8_t_ := t_; clear t_
     have o8_f_ := f_; clear f_
     have o8_su_ := su_; clear su_
     have o8_ei_ := ei_; clear ei_
     obtain ⟨w8, hq8, hb9, hz9, Hbs⟩ := new1 wr 64 [.pointer (some ⟨w1.heap.size, 0, none⟩), .slice t9.a t9.rs.length t9.c]
     replace Ht := Lib.hid (Ht.out.up hb9)
     replace Hf := Lib.hid (Hf.out.up hb9)
     replace Hsu := Lib.hid (Hsu.out.up hb9)
     replace Hei := Lib.hid (Hei.out.up hb9)
     replace Hcb := Lib.hid (Hcb.out.up hb9)
     replace Hab := Lib.hid (Hab.out.up hb9)
     replace BQ := hbu BQ hb9
     replace BS7 := hbu BS7 hb9
     replace HKP := Lib.hid (Kept.up HKP.out hb9)
     replace HB := hbu HB hb9
     replace HZS := sz HZS hz9.out
     clear hb9 hz9
     have t_ := Ht.out.c1
     have f_ := Hf.out.c1
     have su_ := Hsu.out.c4
     have ei_ := Hei.out.c2
     have bs_ := Hbs.out.c2
     go_wp2_with fail
     clear hq8 o8_ei_ o8_su_ o8_f_ o8_t_ hc_0 hc_1
     refine (asked_any (grp k) OK.out w1.heap.size fb t9.a t9.rs.length t9.c HL64.out sf HPZ.out.2 w8 (HG5.out.up BQ.out) Hf.out (show ¬ w1.heap.size = fb by have h9 := HALL.out; omega)).mono ?_
     rintro e wd ⟨a2, c2, rfl, hs2, hf2, ht2, hk2⟩
     have HK1 := Lib.hid hk2
     have Hf1 := Lib.hid (show Bx wd fb 192 [.string (askT sf t9.rs.length)] from ht2)
     have HS2 := Lib.hid hs2
     have HF2 := Lib.hid (show ∀ x, a2 = some x → wc.heap.size ≤ x.block from fun x hx => Nat.le_trans (by have g0 := HZS.out; omega) (hf2 x hx))
     clear hs2 hf2 ht2 hk2
     have hg9 := HK1.out
     clear t_ f_ su_ ei_ bs_ Hf
     replace Ht := Lib.hid (Bx.keptP (P := fun q9 => q9 = fb) Ht.out hg9 (show ¬ (tb = fb) by have g0 := HZS.out; omega))
     replace Hsu := Lib.hid (Bx.keptP (P := fun q9 => q9 = fb) Hsu.out hg9 (show ¬ (w6.heap.size = fb) by have g0 := HZS.out; omega))
     replace Hei := Lib.hid (Bx.keptP (P := fun q9 => q9 = fb) Hei.out hg9 (show ¬ (eb = fb) by have g0 := HZS.out; omega))
     replace Hcb := Lib.hid (Bx.keptP (P := fun q9 => q9 = fb) Hcb.out hg9 (show ¬ (cb = fb) by have g0 := HZS.out; omega))
     replace Hab := Lib.hid (Bx.keptP (P := fun q9 => q9 = fb) Hab.out hg9 (show ¬ (ab = fb) by have g0 := HZS.out; omega))
     replace Hbs := Lib.hid (Bx.keptP (P := fun q9 => q9 = fb) Hbs.out hg9 (show ¬ (wr.heap.size = fb) by have g0 := HZS.out; omega))
     replace BQ := Lib.hid (Below.keptP BQ.out hg9 (by have g0 := HZS.out; omega) (fun q9 h9 => (show w3.heap.size ≤ _ by subst h9; have g0 := HZS.out; omega)))
     replace BS7 := Lib.hid (Below.keptP BS7.out hg9 (by have g0 := HZS.out; omega) (fun q9 h9 => (show w4.heap.size ≤ _ by subst h9; have g0 := HZS.out; omega)))
     replace HB := Lib.hid (Below.keptP HB.out hg9 (by have g0 := HZS.out; omega) (fun q9 h9 => (show w.heap.size ≤ _ by subst h9; have g0 := HZS.out; omega)))
     replace HZS := sz HZS (show w8.heap.size ≤ wd.heap.size from hg9.size)
     replace HKP := Lib.hid (Kept.transP HKP.out hg9 (fun q9 h9 => (show q9 < wc.heap.size by subst h9; have g0 := HZS.out; omega)))
     clear hg9
     have t_ := Ht.out.c1
     have su_ := Hsu.out.c4
     have ei_ := Hei.out.c2
     have bs_ := Hbs.out.c2
     have Hf := Hf1
     clear Hf1
     have f_ := Hf.out.c1
     have BD := Lib.hid (Below.refl wd.heap.size wd)
     go_wp2_with fail
     refine (firsts_any (grp k) OK.out w1.heap.size t9.rs t9.rs.length rfl HL64.out (fun r hr => (HSZ2.out r hr).1) t9.a t9.c (nonceL (grp k) sf t9.rs.length) (nonceL_len _ _ _) a2 c2 wd (HG5.out.up BQ.out) (HSTJ.out.up BQ.out) (HS2.out.up BD.out)).mono ?_
     rintro e w9 ⟨hb9, a9, c9, rq, rfl, hm9, hr9, hz9⟩
     clear t_
     replace Ht := Lib.hid (Ht.out.up hb9)
     clear su_
     replace Hsu := Lib.hid (Hsu.out.up hb9)
     clear ei_
     replace Hei := Lib.hid (Hei.out.up hb9)
     replace Hcb := Lib.hid (Hcb.out.up hb9)
     replace Hab := Lib.hid (Hab.out.up hb9)
     clear bs_
     replace Hbs := Lib.hid (Hbs.out.up hb9)
     clear f_
     replace Hf := Lib.hid (Hf.out.up hb9)
     replace BQ := hbu BQ hb9
     replace BS7 := hbu BS7 hb9
     replace BD := hbu BD hb9
     replace HKP := Lib.hid (Kept.up HKP.out hb9)
     replace HK1 := Lib.hid (Kept.up HK1.out hb9)
     replace HB := hbu HB hb9
     replace HZS := sz HZS hb9.size
     have HMR := Lib.hid hm9
     clear hm9
     have HRR := Lib.hid hr9
     clear hr9
     have HZR := Lib.hid hz9
     clear hz9 hb9
     have t_ := Ht.out.c1
     have su_ := Hsu.out.c4
     have ei_ := Hei.out.c2
     have bs_ := Hbs.out.c2
     have f_ := Hf.out.c1
     have HRO := Lib.hid (show rq.length = t9.rs.length by have h9 := congrArg List.length HMR.out; rw [List.length_map, eachA_len] at h9; exact h9)
     rw [← HMR.out, List.length_map]
     go_wp2_with fail
     refine (said_any tb st rq rq.length rfl (by rw [HRO.out]; exact HL64.out) HPZ.out.1 (eachA_small OK.out.size_le (lens_small fun c hc => by obtain ⟨r, hr, rfl⟩ := List.mem_map.1 hc; exact (HSZ2.out r hr).1) HMR.out) (fun r hr => (HZR.out.1 r hr).2) a9 c9 w9 Ht.out HRR.out (fun x hx e => by have h1 := HZR.out.2.1 x hx; have g0 := HZS.out; omega) (fun r hr x hx e => by have h1 := HZR.out.2.2 r hr x hx; have g0 := HZS.out; omega)).mono ?_
     rintro e we ⟨rfl, ht, hk⟩
     have HK2 := Lib.hid hk
     have Ht1 := Lib.hid (show Bx we tb 192 [.string (sayFi st (rq.map RowA.l))] from ht)
     have HS9 := Lib.hid (Sl.kept (HS2.out.up BD.out) hk (fun x hx e => by have h1 := HF2.out x hx; have h2 := HALL.out; omega))
     clear ht hk BD HK1
     have hg9 := HK2.out
     clear t_ su_ ei_ bs_ f_ Ht
     replace Hsu := Lib.hid (Bx.keptP (P := fun q9 => q9 = tb) Hsu.out hg9 (show ¬ (w6.heap.size = tb) by have g0 := HZS.out; omega))
     replace Hei := Lib.hid (Bx.keptP (P := fun q9 => q9 = tb) Hei.out hg9 (show ¬ (eb = tb) by have g0 := HZS.out; omega))
     replace Hcb := Lib.hid (Bx.keptP (P := fun q9 => q9 = tb) Hcb.out hg9 (show ¬ (cb = tb) by have g0 := HZS.out; omega))
     replace Hab := Lib.hid (Bx.keptP (P := fun q9 => q9 = tb) Hab.out hg9 (show ¬ (ab = tb) by have g0 := HZS.out; omega))
     replace Hbs := Lib.hid (Bx.keptP (P := fun q9 => q9 = tb) Hbs.out hg9 (show ¬ (wr.heap.size = tb) by have g0 := HZS.out; omega))
     replace Hf := Lib.hid (Bx.keptP (P := fun q9 => q9 = tb) Hf.out hg9 (show ¬ (fb = tb) by have g0 := HZS.out; omega))
     replace BQ := Lib.hid (Below.keptP BQ.out hg9 (by have g0 := HZS.out; omega) (fun q9 h9 => (show w3.heap.size ≤ _ by subst h9; have g0 := HZS.out; omega)))
     replace BS7 := Lib.hid (Below.keptP BS7.out hg9 (by have g0 := HZS.out; omega) (fun q9 h9 => (show w4.heap.size ≤ _ by subst h9; have g0 := HZS.out; omega)))
     replace HB := Lib.hid (Below.keptP HB.out hg9 (by have g0 := HZS.out; omega) (fun q9 h9 => (show w.heap.size ≤ _ by subst h9; have g0 := HZS.out; omega)))
     replace HZS := sz HZS (show w9.heap.size ≤ we.heap.size from hg9.size)
     replace HKP := Lib.hid (Kept.transP HKP.out hg9 (fun q9 h9 => (show q9 < wc.heap.size by subst h9; have g0 := HZS.out; omega)))
     clear hg9
     have su_ := Hsu.out.c4
     have ei_ := Hei.out.c2
     have bs_ := Hbs.out.c2
     have f_ := Hf.out.c1
     have HPN := Lib.hid (show PV (j + 1) = ⟨sayFi st (rq.map RowA.l), askT sf t9.rs.length, so⟩ by rw [HST1.out, HMR.out])
     rw [HLX.out] at HS9 ⊢
     go_wp2_with fail
     go_roundw
     case rel => exact ⟨j + 1, _, ro ++ [⟨none, 0, []⟩], by omega, by go_num, HPN, (fun _ => ⟨a2, c2, rfl, by rw [HPF.out]; exact HS9.out, HF2.out⟩), Ht1, Hf, Hsu, Lib.hid (by rw [HCSJ.out]; have h9 := Hcb.out; simpa [Nat.sub_sub] using h9), Lib.hid (by rw [List.length_append, HRL.out]; rfl), Lib.hid (by rw [List.map_append, HRM.out, HASJ.out]; rfl), Lib.hid (by rw [List.flatMap_append]; have h9 := Hab.out; simpa [RowA.cells, Nat.sub_sub] using h9), (fun r hr => by
      rcases List.mem_append.1 hr with hr | hr
      ·exact (HRN.out.keptN HKP.out) r hr
      ·obtain rfl := List.mem_singleton.1 hr
       exact ⟨Or.inl rfl, fun x hx => by (cases hx), fun _ => rfl, Nat.le_refl _⟩), Hei, Lib.hid (by have g0 := HZS.out; omega), BQ, BS7⟩
     case measure => simp [intOf]; omega
    ·replace HST2 := Lib.hid (HST2.out hjw)
     rw [if_neg hjw] at HCSJ HASJ
     clear HST1
     have HCH := Lib.hid (fun W hG hT => gChallenge_any (grp k) OK.out w1.heap.size fb sf otherB (by have := HPZ.out.2; omega) (by decide) W hG hT (show ¬ w1.heap.size = fb by have h9 := HALL.out; omega))
     rw [← scV_mod (grp k) (chN sf otherB)] at HCH
     have HY := Lib.hid (show chN sf otherB % (grp k).q.m < (grp k).q.m from Nat.mod_lt _ OK.out.q.pos)
     have HSZ3 := Lib.hid (show (chT sf otherB).size = 32 from chT_size _ _)
     generalize chN sf otherB % (grp k).q.m = y at *
     generalize chT sf otherB = s2 at *
     replace HZS := sz HZS HALL.out
     replace HZS := sz HZS HWZ.out
     have t_ := Ht.out.c1
     have f_ := Hf.out.c1
     have su_ := Hsu.out.c4
     have ei_ := Hei.out.c2
     have HKP := Lib.hid (Kept.refl (fun q9 => q9 < wc.heap.size) wr)
     have o8_t_ := t_; clear t_
     have o8_f_ := f_; clear f_
     have o8_su_ := su_; clear su_
     have o8_ei_ := ei_; clear ei_
     obtain ⟨w8, hq8, hb9, hz9, Hbs⟩ := new1 wr 64 [.pointer (some ⟨w1.heap.size, 0, none⟩), .slice t9.a t9.rs.length t9.c]
     replace Ht := Lib.hid (Ht.out.up hb9)
     replace Hf := Lib.hid (Hf.out.up hb9)
     replace Hsu := Lib.hid (Hsu.out.up hb9)
     replace Hei := Lib.hid (Hei.out.up hb9)
     replace Hcb := Lib.hid (Hcb.out.up hb9)
     replace Hab := Lib.hid (Hab.out.up hb9)
     replace BQ := hbu BQ hb9
     replace BS7 := hbu BS7 hb9
     replace HKP := Lib.hid (Kept.up HKP.out hb9)
     replace HB := hbu HB hb9
     replace HZS := sz HZS hz9.out
     clear hb9 hz9
     have t_ := Ht.out.c1
     have f_ := Hf.out.c1
     have su_ := Hsu.out.c4
     have ei_ := Hei.out.c2
     have bs_ := Hbs.out.c2
     go_wp2_with fail
     clear hq8 o8_ei_ o8_su_ o8_f_ o8_t_ hc_0 hc_1
     refine (HCH.out w8 (HG5.out.up BQ.out) Hf.out).mono ?_
     rintro e wd ⟨rfl, ht2, hk2⟩
     have HK1 := Lib.hid hk2
     have Hf1 := Lib.hid (show Bx wd fb 192 [.string s2] from ht2)
     clear ht2 hk2 HCH
     have hg9 := HK1.out
     clear t_ f_ su_ ei_ bs_ Hf
     replace Ht := Lib.hid (Bx.keptP (P := fun q9 => q9 = fb) Ht.out hg9 (show ¬ (tb = fb) by have g0 := HZS.out; omega))
     replace Hsu := Lib.hid (Bx.keptP (P := fun q9 => q9 = fb) Hsu.out hg9 (show ¬ (w6.heap.size = fb) by have g0 := HZS.out; omega))
     replace Hei := Lib.hid (Bx.keptP (P := fun q9 => q9 = fb) Hei.out hg9 (show ¬ (eb = fb) by have g0 := HZS.out; omega))
     replace Hcb := Lib.hid (Bx.keptP (P := fun q9 => q9 = fb) Hcb.out hg9 (show ¬ (cb = fb) by have g0 := HZS.out; omega))
     replace Hab := Lib.hid (Bx.keptP (P := fun q9 => q9 = fb) Hab.out hg9 (show ¬ (ab = fb) by have g0 := HZS.out; omega))
     replace Hbs := Lib.hid (Bx.keptP (P := fun q9 => q9 = fb) Hbs.out hg9 (show ¬ (wr.heap.size = fb) by have g0 := HZS.out; omega))
     replace BQ := Lib.hid (Below.keptP BQ.out hg9 (by have g0 := HZS.out; omega) (fun q9 h9 => (show w3.heap.size ≤ _ by subst h9; have g0 := HZS.out; omega)))
     replace BS7 := Lib.hid (Below.keptP BS7.out hg9 (by have g0 := HZS.out; omega) (fun q9 h9 => (show w4.heap.size ≤ _ by subst h9; have g0 := HZS.out; omega)))
     replace HB := Lib.hid (Below.keptP HB.out hg9 (by have g0 := HZS.out; omega) (fun q9 h9 => (show w.heap.size ≤ _ by subst h9; have g0 := HZS.out; omega)))
     replace HZS := sz HZS (show w8.heap.size ≤ wd.heap.size from hg9.size)
     replace HKP := Lib.hid (Kept.transP HKP.out hg9 (fun q9 h9 => (show q9 < wc.heap.size by subst h9; have g0 := HZS.out; omega)))
     clear hg9
     have t_ := Ht.out.c1
     have su_ := Hsu.out.c4
     have ei_ := Hei.out.c2
     have bs_ := Hbs.out.c2
     have Hf := Hf1
     clear Hf1 HK1
     have f_ := Hf.out.c1
     unfold scV limbV
     have o9_t_ := t_; clear t_
     have o9_su_ := su_; clear su_
     have o9_ei_ := ei_; clear ei_
     have o9_bs_ := bs_; clear bs_
     have o9_f_ := f_; clear f_
     obtain ⟨w9, hq9, hb9, hz9, Hbc⟩ := new1 wd 72 [.int .u64 (dig (mont (grp k).q.m y) 0 : Int), .int .u64 (dig (mont (grp k).q.m y) 1 : Int), .int .u64 (dig (mont (grp k).q.m y) 2 : Int), .int .u64 (dig (mont (grp k).q.m y) 3 : Int)]
     replace Ht := Lib.hid (Ht.out.up hb9)
     replace Hsu := Lib.hid (Hsu.out.up hb9)
     replace Hei := Lib.hid (Hei.out.up hb9)
     replace Hcb := Lib.hid (Hcb.out.up hb9)
     replace Hab := Lib.hid (Hab.out.up hb9)
     replace Hbs := Lib.hid (Hbs.out.up hb9)
     replace Hf := Lib.hid (Hf.out.up hb9)
     replace BQ := hbu BQ hb9
     replace BS7 := hbu BS7 hb9
     replace HKP := Lib.hid (Kept.up HKP.out hb9)
     replace HB := hbu HB hb9
     replace HZS := sz HZS hz9.out
     clear hb9 hz9
     have t_ := Ht.out.c1
     have su_ := Hsu.out.c4
     have ei_ := Hei.out.c2
     have bs_ := Hbs.out.c2
     have f_ := Hf.out.c1
     have bc_ := Hbc.out.c4
     go_wp2_with fail
     clear hq9 o9_f_ o9_bs_ o9_ei_ o9_su_ o9_t_
     refine (asked_any (grp k) OK.out w1.heap.size fb t9.a t9.rs.length t9.c HL64.out s2 HSZ3.out w9 (HG5.out.up BQ.out) Hf.out (show ¬ w1.heap.size = fb by have h9 := HALL.out; omega)).mono ?_
     rintro e we ⟨a2, c2, rfl, hs2, hf2, ht2, hk2⟩
     have HK1 := Lib.hid hk2
     have Hf1 := Lib.hid (show Bx we fb 192 [.string (askT s2 t9.rs.length)] from ht2)
     have HS2 := Lib.hid hs2
     have HF2 := Lib.hid (show ∀ x, a2 = some x → wc.heap.size ≤ x.block from fun x hx => Nat.le_trans (by have g0 := HZS.out; omega) (hf2 x hx))
     clear hs2 hf2 ht2 hk2
     have hg9 := HK1.out
     clear t_ su_ ei_ bs_ f_ bc_ Hf
     replace Ht := Lib.hid (Bx.keptP (P := fun q9 => q9 = fb) Ht.out hg9 (show ¬ (tb = fb) by have g0 := HZS.out; omega))
     replace Hsu := Lib.hid (Bx.keptP (P := fun q9 => q9 = fb) Hsu.out hg9 (show ¬ (w6.heap.size = fb) by have g0 := HZS.out; omega))
     replace Hei := Lib.hid (Bx.keptP (P := fun q9 => q9 = fb) Hei.out hg9 (show ¬ (eb = fb) by have g0 := HZS.out; omega))
     replace Hcb := Lib.hid (Bx.keptP (P := fun q9 => q9 = fb) Hcb.out hg9 (show ¬ (cb = fb) by have g0 := HZS.out; omega))
     replace Hab := Lib.hid (Bx.keptP (P := fun q9 => q9 = fb) Hab.out hg9 (show ¬ (ab = fb) by have g0 := HZS.out; omega))
     replace Hbs := Lib.hid (Bx.keptP (P := fun q9 => q9 = fb) Hbs.out hg9 (show ¬ (wr.heap.size = fb) by have g0 := HZS.out; omega))
     replace Hbc := Lib.hid (Bx.keptP (P := fun q9 => q9 = fb) Hbc.out hg9 (show ¬ (wd.heap.size = fb) by have g0 := HZS.out; omega))
     replace BQ := Lib.hid (Below.keptP BQ.out hg9 (by have g0 := HZS.out; omega) (fun q9 h9 => (show w3.heap.size ≤ _ by subst h9; have g0 := HZS.out; omega)))
     replace BS7 := Lib.hid (Below.keptP BS7.out hg9 (by have g0 := HZS.out; omega) (fun q9 h9 => (show w4.heap.size ≤ _ by subst h9; have g0 := HZS.out; omega)))
     replace HB := Lib.hid (Below.keptP HB.out hg9 (by have g0 := HZS.out; omega) (fun q9 h9 => (show w.heap.size ≤ _ by subst h9; have g0 := HZS.out; omega)))
     replace HZS := sz HZS (show w9.heap.size ≤ we.heap.size from hg9.size)
     replace HKP := Lib.hid (Kept.transP HKP.out hg9 (fun q9 h9 => (show q9 < wc.heap.size by subst h9; have g0 := HZS.out; omega)))
     clear hg9
     have t_ := Ht.out.c1
     have su_ := Hsu.out.c4
     have ei_ := Hei.out.c2
     have bs_ := Hbs.out.c2
     have bc_ := Hbc.out.c4
     have Hf := Hf1
     clear Hf1 HK1
     have f_ := Hf.out.c1
     have BD := Lib.hid (Below.refl we.heap.size we)
     have HKZ := Lib.hid (Kept.refl (fun q9 => q9 < wc.heap.size) we)
     go_wp2_with fail
     refine (back_any (grp k) OK.out w1.heap.size y (Nat.le_of_lt HY.out) t9.rs t9.rs.length rfl HL64.out HSZ2.out t9.a t9.c (nonceL (grp k) s2 t9.rs.length) (nonceL_len _ _ _) a2 c2 we (HG5.out.up BQ.out) (HSTJ.out.up BQ.out) (HS2.out.up BD.out)).mono ?_
     rintro e w10 ⟨hb9, a9, c9, rq, rfl, hm9, hr9, hz9⟩
     clear t_
     replace Ht := Lib.hid (Ht.out.up hb9)
     clear su_
     replace Hsu := Lib.hid (Hsu.out.up hb9)
     clear ei_
     replace Hei := Lib.hid (Hei.out.up hb9)
     replace Hcb := Lib.hid (Hcb.out.up hb9)
     replace Hab := Lib.hid (Hab.out.up hb9)
     clear bs_
     replace Hbs := Lib.hid (Hbs.out.up hb9)
     clear bc_
     replace Hbc := Lib.hid (Hbc.out.up hb9)
     clear f_
     replace Hf := Lib.hid (Hf.out.up hb9)
     replace BQ := hbu BQ hb9
     replace BS7 := hbu BS7 hb9
     replace BD := hbu BD hb9
     replace HKP := Lib.hid (Kept.up HKP.out hb9)
     replace HKZ := Lib.hid (Kept.up HKZ.out hb9)
     replace HB := hbu HB hb9
     replace HZS := sz HZS hb9.size
     have HMR := Lib.hid hm9
     clear hm9
     have HRR := Lib.hid hr9
     clear hr9
     have HZR := Lib.hid hz9
     clear hz9 hb9
     have t_ := Ht.out.c1
     have su_ := Hsu.out.c4
     have ei_ := Hei.out.c2
     have bs_ := Hbs.out.c2
     have bc_ := Hbc.out.c4
     have f_ := Hf.out.c1
     have HRO := Lib.hid (show rq.length = t9.rs.length by have h9 := congrArg List.length HMR.out; rw [List.length_map, eachA_len] at h9; exact h9)
     rw [← HMR.out, List.length_map]
     clear BD
     go_wp2_with fail
     refine (said_any tb st rq rq.length rfl (by rw [HRO.out]; exact HL64.out) HPZ.out.1 (eachA_small OK.out.size_le (lens_small fun c hc => by obtain ⟨r, hr, rfl⟩ := List.mem_map.1 hc; exact (HSZ2.out r hr).1) HMR.out) (fun r hr => (HZR.out.1 r hr).2) a9 c9 w10 Ht.out HRR.out (fun x hx e => by have h1 := HZR.out.2.1 x hx; have g0 := HZS.out; omega) (fun r hr x hx e => by have h1 := HZR.out.2.2 r hr x hx; have g0 := HZS.out; omega)).mono ?_
     rintro e wf ⟨rfl, ht, hk⟩
     have HK1 := Lib.hid hk
     have Ht1 := Lib.hid (show Bx wf tb 192 [.string (sayFi st (rq.map RowA.l))] from ht)
     clear ht hk
     have hg9 := HK1.out
     clear t_ su_ ei_ bs_ bc_ f_ Ht
     replace Hsu := Lib.hid (Bx.keptP (P := fun q9 => q9 = tb) Hsu.out hg9 (show ¬ (w6.heap.size = tb) by have g0 := HZS.out; omega))
     replace Hei := Lib.hid (Bx.keptP (P := fun q9 => q9 = tb) Hei.out hg9 (show ¬ (eb = tb) by have g0 := HZS.out; omega))
     replace Hcb := Lib.hid (Bx.keptP (P := fun q9 => q9 = tb) Hcb.out hg9 (show ¬ (cb = tb) by have g0 := HZS.out; omega))
     replace Hab := Lib.hid (Bx.keptP (P := fun q9 => q9 = tb) Hab.out hg9 (show ¬ (ab = tb) by have g0 := HZS.out; omega))
     replace Hbs := Lib.hid (Bx.keptP (P := fun q9 => q9 = tb) Hbs.out hg9 (show ¬ (wr.heap.size = tb) by have g0 := HZS.out; omega))
     replace Hbc := Lib.hid (Bx.keptP (P := fun q9 => q9 = tb) Hbc.out hg9 (show ¬ (wd.heap.size = tb) by have g0 := HZS.out; omega))
     replace Hf := Lib.hid (Bx.keptP (P := fun q9 => q9 = tb) Hf.out hg9 (show ¬ (fb = tb) by have g0 := HZS.out; omega))
     replace BQ := Lib.hid (Below.keptP BQ.out hg9 (by have g0 := HZS.out; omega) (fun q9 h9 => (show w3.heap.size ≤ _ by subst h9; have g0 := HZS.out; omega)))
     replace BS7 := Lib.hid (Below.keptP BS7.out hg9 (by have g0 := HZS.out; omega) (fun q9 h9 => (show w4.heap.size ≤ _ by subst h9; have g0 := HZS.out; omega)))
     replace HB := Lib.hid (Below.keptP HB.out hg9 (by have g0 := HZS.out; omega) (fun q9 h9 => (show w.heap.size ≤ _ by subst h9; have g0 := HZS.out; omega)))
     replace HZS := sz HZS (show w10.heap.size ≤ wf.heap.size from hg9.size)
     replace HKP := Lib.hid (Kept.transP HKP.out hg9 (fun q9 h9 => (show q9 < wc.heap.size by subst h9; have g0 := HZS.out; omega)))
     replace HKZ := Lib.hid (Kept.transP HKZ.out hg9 (fun q9 h9 => (show q9 < wc.heap.size by subst h9; have g0 := HZS.out; omega)))
     clear hg9
     have su_ := Hsu.out.c4
     have ei_ := Hei.out.c2
     have bs_ := Hbs.out.c2
     have bc_ := Hbc.out.c4
     have f_ := Hf.out.c1
     have Ht := Ht1
     clear Ht1 HK1
     have t_ := Ht.out.c1
     have HPN := Lib.hid (show PV (j + 1) = ⟨sayFi st (rq.map RowA.l), askT s2 t9.rs.length, so + y⟩ by rw [HST2.out, HMR.out])
     clear HST2 HMR HRR HZR HRO
     go_wp2_with fail
     refine (gAdd_any (grp k) OK.out w1.heap.size so y wf (HG5.out.up BQ.out)).mono ?_
     rintro e w11 ⟨rfl, hb9⟩
     clear su_
     replace Hsu := Lib.hid (Hsu.out.up hb9)
     clear ei_
     replace Hei := Lib.hid (Hei.out.up hb9)
     replace Hcb := Lib.hid (Hcb.out.up hb9)
     replace Hab := Lib.hid (Hab.out.up hb9)
     clear bs_
     replace Hbs := Lib.hid (Hbs.out.up hb9)
     clear bc_
     replace Hbc := Lib.hid (Hbc.out.up hb9)
     clear f_
     replace Hf := Lib.hid (Hf.out.up hb9)
     clear t_
     replace Ht := Lib.hid (Ht.out.up hb9)
     replace BQ := hbu BQ hb9
     replace BS7 := hbu BS7 hb9
     replace HKP := Lib.hid (Kept.up HKP.out hb9)
     replace HKZ := Lib.hid (Kept.up HKZ.out hb9)
     replace HB := hbu HB hb9
     replace HZS := sz HZS hb9.size
     clear hb9
     have su_ := Hsu.out.c4
     have ei_ := Hei.out.c2
     have bs_ := Hbs.out.c2
     have bc_ := Hbc.out.c4
     have f_ := Hf.out.c1
     have t_ := Ht.out.c1
     unfold scV limbV
     have f12_su := Hsu.out.frozen
     have o12_su_ := su_; clear su_
     have o12_ei_ := ei_; clear ei_
     have o12_bs_ := bs_; clear bs_
     have o12_bc_ := bc_; clear bc_
     have o12_f_ := f_; clear f_
     have o12_t_ := t_; clear t_
     obtain ⟨w12, hq12, hg9, hz9, hx9⟩ := put4 Hsu 0 (.int .u64 (dig (mont (grp k).q.m (so + y)) 0 : Int)) 1 (.int .u64 (dig (mont (grp k).q.m (so + y)) 1 : Int)) 2 (.int .u64 (dig (mont (grp k).q.m (so + y)) 2 : Int)) 3 (.int .u64 (dig (mont (grp k).q.m (so + y)) 3 : Int)) [.int .u64 (dig (mont (grp k).q.m (so + y)) 0 : Int), .int .u64 (dig (mont (grp k).q.m (so + y)) 1 : Int), .int .u64 (dig (mont (grp k).q.m (so + y)) 2 : Int), .int .u64 (dig (mont (grp k).q.m (so + y)) 3 : Int)] rfl
     replace Hei := Lib.hid (Hei.out.grown hg9.out (sne (by have g0 := HZS.out; omega)))
     replace Hcb := Lib.hid (Hcb.out.grown hg9.out (sne (by have g0 := HZS.out; omega)))
     replace Hab := Lib.hid (Hab.out.grown hg9.out (sne (by have g0 := HZS.out; omega)))
     replace Hbs := Lib.hid (Hbs.out.grown hg9.out (sne (by have g0 := HZS.out; omega)))
     replace Hbc := Lib.hid (Hbc.out.grown hg9.out (sne (by have g0 := HZS.out; omega)))
     replace Hf := Lib.hid (Hf.out.grown hg9.out (sne (by have g0 := HZS.out; omega)))
     replace Ht := Lib.hid (Ht.out.grown hg9.out (sne (by have g0 := HZS.out; omega)))
     replace BQ := hbg BQ hg9 (by have g0 := HZS.out; omega)
     replace BS7 := hbg BS7 hg9 (by have g0 := HZS.out; omega)
     replace HKP := Lib.hid (Kept.grown HKP.out hg9.out (fun q9 e9 => by obtain rfl := Option.some.inj e9; exact (by first | exact Or.inr (show w6.heap.size < wc.heap.size by have g0 := HZS.out; omega) | exact Or.inl (show wr.heap.size ≤ w6.heap.size by have g0 := HZS.out; omega))))
     replace HKZ := Lib.hid (Kept.grown HKZ.out hg9.out (fun q9 e9 => by obtain rfl := Option.some.inj e9; exact (by first | exact Or.inr (show w6.heap.size < wc.heap.size by have g0 := HZS.out; omega) | exact Or.inl (show we.heap.size ≤ w6.heap.size by have g0 := HZS.out; omega))))
     replace HB := hbg HB hg9 (by have g0 := HZS.out; omega)
     replace HZS := sz HZS hz9.out
     replace Hsu := hx9
     clear hx9 hg9 hz9
     have su_ := Hsu.out.c4
     have ei_ := Hei.out.c2
     have bs_ := Hbs.out.c2
     have bc_ := Hbc.out.c4
     have f_ := Hf.out.c1
     have t_ := Ht.out.c1
     have HGW := Lib.hid (HG5.out.up BQ.out)
     go_wp2_with fail
     clear hq12 o12_t_ o12_f_ o12_bc_ o12_bs_ o12_ei_ o12_su_ f12_su
     have hob := Hcb.out.lt
     have hoc := Hcb.out.cell (mid_get (v := .string ⟨#[]⟩) (ys := List.replicate (n - j - 1) (.string ⟨#[]⟩)) (show ((CJ j).map Value.string).length = j by rw [List.length_map, HCL.out]))
     have HT := Lib.hid (show Below w12.heap.size w12 w12.drew from (Below.refl _ _).drew)
     have hl_su := Hsu.out.lt
     have hl_ei := Hei.out.lt
     have hl_bs := Hbs.out.lt
     have hl_bc := Hbc.out.lt
     have hl_f := Hf.out.lt
     have hl_t := Ht.out.lt
     refine wp_region_treek (fun wq9 => ∃ E : Over w12, wq9 = E.w) 7 ((.qs [0] (.e 1 [] (.qs [2, 3] (.e 4 [] (.a 5 (.qs [6] (.a 7 .done)))))))) (by kernel_rfl) (by kernel_rfl) (fun _ _ d _ _ h => by cases d <;> exact h) ⟨⟨_, HT.out⟩, rfl⟩ ?_
     have hov_su := fun (E : Over w12) o => E.cell (b := w6.heap.size) o hl_su
     have hov_ei := fun (E : Over w12) o => E.cell (b := eb) o hl_ei
     have hov_bs := fun (E : Over w12) o => E.cell (b := wr.heap.size) o hl_bs
     have hov_bc := fun (E : Over w12) o => E.cell (b := wd.heap.size) o hl_bc
     have hov_f := fun (E : Over w12) o => E.cell (b := fb) o hl_f
     have hov_t := fun (E : Over w12) o => E.cell (b := tb) o hl_t
     have hov_cb := fun (E : Over w12) o => E.cell (b := cb) o hob
     simp only [TreeK.qs]
     repeat (first | (refine treek_q rfl rfl ?_; go_big_quiet_step (fail); refine wpQuiet_nil ?_) | (refine treek_e rfl rfl ?_; go_big_quiet_step (fail); refine wpQuiet_nil ?_))
     refine treek_a rfl (fun K hK => ?_)
     go_simp
     refine (gPut_any (grp k) OK.out w1.heap.size y _ (HGW.out.up HT.out)).mono ?_
     rintro e w13 ⟨rfl, hb9⟩
     replace HT := Lib.hid (below_up HT.out hb9)
     replace HZS := sz HZS (show w12.heap.size ≤ w13.heap.size from HT.out.size)
     clear hb9
     refine hK _ _ ⟨fun _ => ⟨⟨w13, HT.out⟩, rfl⟩, ?_⟩
     clear hK K
     repeat (first | (refine treek_q rfl rfl ?_; go_big_quiet_step (fail); refine wpQuiet_nil ?_) | (refine treek_e rfl rfl ?_; go_big_quiet_step (fail); refine wpQuiet_nil ?_))
     clear hoc hob hov_su hl_su hov_ei hl_ei hov_bs hl_bs hov_bc hl_bc hov_f hl_f hov_t hl_t hov_cb su_
     replace Hsu := Lib.hid (Hsu.out.up HT.out)
     clear ei_
     replace Hei := Lib.hid (Hei.out.up HT.out)
     replace Hcb := Lib.hid (Hcb.out.up HT.out)
     replace Hab := Lib.hid (Hab.out.up HT.out)
     clear bs_
     replace Hbs := Lib.hid (Hbs.out.up HT.out)
     clear bc_
     replace Hbc := Lib.hid (Hbc.out.up HT.out)
     clear f_
     replace Hf := Lib.hid (Hf.out.up HT.out)
     clear t_
     replace Ht := Lib.hid (Ht.out.up HT.out)
     replace BQ := hbu BQ HT.out
     replace BS7 := hbu BS7 HT.out
     replace HKP := Lib.hid (Kept.up HKP.out HT.out)
     replace HKZ := Lib.hid (Kept.up HKZ.out HT.out)
     replace HB := hbu HB HT.out
     replace HZS := sz HZS HT.out.size
     clear HT
     have hoc := Hcb.out.cell (mid_get (v := .string ⟨#[]⟩) (ys := List.replicate (n - j - 1) (.string ⟨#[]⟩)) (show ((CJ j).map Value.string).length = j by rw [List.length_map, HCL.out]))
     have su_ := Hsu.out.c4
     have ei_ := Hei.out.c2
     have bs_ := Hbs.out.c2
     have bc_ := Hbc.out.c4
     have f_ := Hf.out.c1
     have t_ := Ht.out.c1
     have f14_cb := Hcb.out.frozen
     have o14_su_ := su_; clear su_
     have o14_ei_ := ei_; clear ei_
     have o14_bs_ := bs_; clear bs_
     have o14_bc_ := bc_; clear bc_
     have o14_f_ := f_; clear f_
     have o14_t_ := t_; clear t_
     obtain ⟨w14, hq14, hg9, hz9, hx9⟩ := put1 Hcb j (.string (textS (y % (grp k).q.m) (grp k).size)) _ rfl
     replace Hsu := Lib.hid (Hsu.out.grown hg9.out (sne (by have g0 := HZS.out; omega)))
     replace Hei := Lib.hid (Hei.out.grown hg9.out (sne (by have g0 := HZS.out; omega)))
     replace Hab := Lib.hid (Hab.out.grown hg9.out (sne (by have g0 := HZS.out; omega)))
     replace Hbs := Lib.hid (Hbs.out.grown hg9.out (sne (by have g0 := HZS.out; omega)))
     replace Hbc := Lib.hid (Hbc.out.grown hg9.out (sne (by have g0 := HZS.out; omega)))
     replace Hf := Lib.hid (Hf.out.grown hg9.out (sne (by have g0 := HZS.out; omega)))
     replace Ht := Lib.hid (Ht.out.grown hg9.out (sne (by have g0 := HZS.out; omega)))
     replace BQ := hbg BQ hg9 (by have g0 := HZS.out; omega)
     replace BS7 := hbg BS7 hg9 (by have g0 := HZS.out; omega)
     replace HKP := Lib.hid (Kept.grown HKP.out hg9.out (fun q9 e9 => by obtain rfl := Option.some.inj e9; exact (by first | exact Or.inr (show cb < wc.heap.size by have g0 := HZS.out; omega) | exact Or.inl (show wr.heap.size ≤ cb by have g0 := HZS.out; omega))))
     replace HKZ := Lib.hid (Kept.grown HKZ.out hg9.out (fun q9 e9 => by obtain rfl := Option.some.inj e9; exact (by first | exact Or.inr (show cb < wc.heap.size by have g0 := HZS.out; omega) | exact Or.inl (show we.heap.size ≤ cb by have g0 := HZS.out; omega))))
     replace HB := hbg HB hg9 (by have g0 := HZS.out; omega)
     replace HZS := sz HZS hz9.out
     replace Hcb := hx9
     clear hx9 hg9 hz9
     have su_ := Hsu.out.c4
     have ei_ := Hei.out.c2
     have bs_ := Hbs.out.c2
     have bc_ := Hbc.out.c4
     have f_ := Hf.out.c1
     have t_ := Ht.out.c1
     refine treek_a rfl (fun K hK => ?_)
     go_simp
     try rw [hq14]
     refine hK _ _ ⟨fun h9 => absurd rfl h9, ?_⟩
     clear hK K hq14 o14_t_ o14_f_ o14_bc_ o14_bs_ o14_ei_ o14_su_ f14_cb hoc
     refine treek_end ?_
     have HCB2 := Lib.hid (show Bx w14 cb 9 ((CJ (j + 1)).map Value.string ++ List.replicate (n - (j + 1)) (.string ⟨#[]⟩)) by
      have h9 := Hcb.out
      rw [mid_set (by rw [List.length_map, HCL.out]), Nat.mod_eq_of_lt HY.out] at h9
      rw [HCSJ.out]
      simpa [Nat.sub_sub] using h9)
     replace Hcb := HCB2
     have HNB := Lib.hid (fun t h => nonce_num OK.out s2 t9.rs.length t h)
     have HNLL := Lib.hid (nonceL_len (grp k) s2 t9.rs.length)
     generalize nonceL (grp k) s2 t9.rs.length = NL at *
     clear HCB2 HCSJ HCL HSTJ HCJ0 HCJ1 HSZ2 HY
     obtain ⟨wo, rfl⟩ : ∃ wo : World, wo = wr := ⟨_, rfl⟩
     have HK2 := Lib.hid (Kept.refl (fun q9 => q9 = ab) w14)
     go_wp2_with fail
     go_loopw [136] (fun i wr => ∃ (t : Nat) (g : Option Addr) (c9 : Nat), t ≤ t9.rs.length ∧ i = .int .i64 (t : Int) ∧ Hid (Kept (fun q => q = ab) w14 wr) ∧ Hid (Bx wr ab 23 (ro.flatMap RowA.cells ++ (.slice g t c9) :: List.replicate (n - j - 1) (.slice none 0 0))) ∧ Hid (RowO w14.heap.size wr 9 1 (.slice g t c9) t ((NL.take t).map Value.string))) (fun i _ => t9.rs.length - (intOf i).toNat)
     case atStart => exact ⟨0, none, 0, Nat.zero_le _, rfl, HK2, Hab, RowO.nil⟩
     case round =>
      obtain ⟨t, g, c9, ht, rfl, HK2, Hab9, Hr⟩ := hrel
      have hg9 := HK2.out
      clear su_ ei_ bs_ bc_ f_ t_ Hab
      replace Hsu := Lib.hid (Bx.keptP (P := fun q9 => q9 = ab) Hsu.out hg9 (show ¬ (w6.heap.size = ab) by have g0 := HZS.out; omega))
      replace Hei := Lib.hid (Bx.keptP (P := fun q9 => q9 = ab) Hei.out hg9 (show ¬ (eb = ab) by have g0 := HZS.out; omega))
      replace Hcb := Lib.hid (Bx.keptP (P := fun q9 => q9 = ab) Hcb.out hg9 (show ¬ (cb = ab) by have g0 := HZS.out; omega))
      replace Hbs := Lib.hid (Bx.keptP (P := fun q9 => q9 = ab) Hbs.out hg9 (show ¬ (wo.heap.size = ab) by have g0 := HZS.out; omega))
      replace Hbc := Lib.hid (Bx.keptP (P := fun q9 => q9 = ab) Hbc.out hg9 (show ¬ (wd.heap.size = ab) by have g0 := HZS.out; omega))
      replace Hf := Lib.hid (Bx.keptP (P := fun q9 => q9 = ab) Hf.out hg9 (show ¬ (fb = ab) by have g0 := HZS.out; omega))
      replace Ht := Lib.hid (Bx.keptP (P := fun q9 => q9 = ab) Ht.out hg9 (show ¬ (tb = ab) by have g0 := HZS.out; omega))
      replace BQ := Lib.hid (Below.keptP BQ.out hg9 (by have g0 := HZS.out; omega) (fun q9 h9 => (show w3.heap.size ≤ _ by subst h9; have g0 := HZS.out; omega)))
      replace BS7 := Lib.hid (Below.keptP BS7.out hg9 (by have g0 := HZS.out; omega) (fun q9 h9 => (show w4.heap.size ≤ _ by subst h9; have g0 := HZS.out; omega)))
      replace HB := Lib.hid (Below.keptP HB.out hg9 (by have g0 := HZS.out; omega) (fun q9 h9 => (show w.heap.size ≤ _ by subst h9; have g0 := HZS.out; omega)))
      replace HZS := sz HZS (show w14.heap.size ≤ wr.heap.size from hg9.size)
      replace HKP := Lib.hid (Kept.transP HKP.out hg9 (fun q9 h9 => (show q9 < wc.heap.size by subst h9; have g0 := HZS.out; omega)))
      replace HKZ := Lib.hid (Kept.transP HKZ.out hg9 (fun q9 h9 => (show q9 < wc.heap.size by subst h9; have g0 := HZS.out; omega)))
      clear hg9
      have su_ := Hsu.out.c4
      have ei_ := Hei.out.c2
      have bs_ := Hbs.out.c2
      have bc_ := Hbc.out.c4
      have f_ := Hf.out.c1
      have t_ := Ht.out.c1
      have Hab := Hab9
      clear Hab9
      by_cases htm : t < t9.rs.length
      ·have htz : t < NL.length := by rw [HNLL.out]; exact htm
       obtain ⟨bz, oz, rfl, hbz, hcz⟩ := (Sl.kept HS2.out HKZ.out (fun x hx e => by have h1 := HF2.out x hx; have e : x.block < wc.heap.size := e; omega)).elem (limC_len _) (by omega) t htz
       have hcz_0 := hcz 0 _ rfl
       rw [Nat.add_zero] at hcz_0
       have hcz_1 := hcz 1 _ rfl
       have hcz_2 := hcz 2 _ rfl
       have hcz_3 := hcz 3 _ rfl
       clear hcz
       have HNT := Lib.hid (HNB.out t htz)
       have HTK := Lib.hid (take_str htz HNT.out)
       generalize NL[t] = x at *
       have h64 := HL64.out
       have HNP := Lib.hid (fun q e => (Hr.out.lt q e).2)
       have o15_su_ := su_; clear su_
       have o15_ei_ := ei_; clear ei_
       have o15_bs_ := bs_; clear bs_
       have o15_bc_ := bc_; clear bc_
       have o15_f_ := f_; clear f_
       have o15_t_ := t_; clear t_
       obtain ⟨w15, hq15, hb9, hz9, Hba⟩ := new1 wr 72 [.int .u64 (dig (mont (grp k).q.m (numOf x)) 0 : Int), .int .u64 (dig (mont (grp k).q.m (numOf x)) 1 : Int), .int .u64 (dig (mont (grp k).q.m (numOf x)) 2 : Int), .int .u64 (dig (mont (grp k).q.m (numOf x)) 3 : Int)]
       replace Hsu := Lib.hid (Hsu.out.up hb9)
       replace Hei := Lib.hid (Hei.out.up hb9)
       replace Hcb := Lib.hid (Hcb.out.up hb9)
       replace Hbs := Lib.hid (Hbs.out.up hb9)
       replace Hbc := Lib.hid (Hbc.out.up hb9)
       replace Hf := Lib.hid (Hf.out.up hb9)
       replace Ht := Lib.hid (Ht.out.up hb9)
       replace Hab := Lib.hid (Hab.out.up hb9)
       replace Hr := Lib.hid (Hr.out.up hb9)
       replace BQ := hbu BQ hb9
       replace BS7 := hbu BS7 hb9
       replace HKP := Lib.hid (Kept.up HKP.out hb9)
       replace HKZ := Lib.hid (Kept.up HKZ.out hb9)
       replace HK2 := Lib.hid (Kept.up HK2.out hb9)
       replace HB := hbu HB hb9
       replace HZS := sz HZS hz9.out
       clear hb9 hz9
       have su_ := Hsu.out.c4
       have ei_ := Hei.out.c2
       have bs_ := Hbs.out.c2
       have bc_ := Hbc.out.c4
       have f_ := Hf.out.c1
       have t_ := Ht.out.c1
       have ba_ := Hba.out.c4
       go_wp2_with fail
       clear hq15 o15_t_ o15_f_ o15_bc_ o15_bs_ o15_ei_ o15_su_ hcz_0 hcz_1 hcz_2 hcz_3
       have hob := Hab.out.lt
       have hoc := Hab.out.cell (mid_get (v := .slice g t c9) (ys := List.replicate (n - j - 1) (.slice none 0 0)) (show (ro.flatMap RowA.cells).length = j by rw [rows_len, HRL.out]))
       have HGW := Lib.hid (HG5.out.up BQ.out)
       have HT := Lib.hid (show Below w15.heap.size w15 w15.drew from (Below.refl _ _).drew)
       have hl_su := Hsu.out.lt
       have hl_ei := Hei.out.lt
       have hl_bs := Hbs.out.lt
       have hl_bc := Hbc.out.lt
       have hl_f := Hf.out.lt
       have hl_t := Ht.out.lt
       have hl_ba := Hba.out.lt
       refine wp_region_treek (fun wq9 => ∃ E : But w15 (Value.ownBlock (.slice g t c9)), wq9 = E.w) 14 ((.qs [0] (.e 1 [] (.qs [2, 3] (.e 4 [] (.qs [5, 6] (.e 7 [] (.qs [8] (.e 9 [] (.a 10 (.a 11 (.a 12 (.qs [13] (.a 14 .done)))))))))))))) (by kernel_rfl) (by kernel_rfl) (fun _ _ d _ _ h => by cases d <;> exact h) ⟨⟨_, ((below_grown HT.out).but _)⟩, rfl⟩ ?_
       have hov_su := fun (E : But w15 (Value.ownBlock (.slice g t c9))) o => E.cell (b := w6.heap.size) o hl_su (by intro e9; have a1 := Hr.out.lt _ e9; have a9 := HNP.out _ e9; have g0 := HZS.out; omega)
       have hov_ei := fun (E : But w15 (Value.ownBlock (.slice g t c9))) o => E.cell (b := eb) o hl_ei (by intro e9; have a1 := Hr.out.lt _ e9; have a9 := HNP.out _ e9; have g0 := HZS.out; omega)
       have hov_bs := fun (E : But w15 (Value.ownBlock (.slice g t c9))) o => E.cell (b := wo.heap.size) o hl_bs (by intro e9; have a1 := Hr.out.lt _ e9; have a9 := HNP.out _ e9; have g0 := HZS.out; omega)
       have hov_bc := fun (E : But w15 (Value.ownBlock (.slice g t c9))) o => E.cell (b := wd.heap.size) o hl_bc (by intro e9; have a1 := Hr.out.lt _ e9; have a9 := HNP.out _ e9; have g0 := HZS.out; omega)
       have hov_f := fun (E : But w15 (Value.ownBlock (.slice g t c9))) o => E.cell (b := fb) o hl_f (by intro e9; have a1 := Hr.out.lt _ e9; have a9 := HNP.out _ e9; have g0 := HZS.out; omega)
       have hov_t := fun (E : But w15 (Value.ownBlock (.slice g t c9))) o => E.cell (b := tb) o hl_t (by intro e9; have a1 := Hr.out.lt _ e9; have a9 := HNP.out _ e9; have g0 := HZS.out; omega)
       have hov_ba := fun (E : But w15 (Value.ownBlock (.slice g t c9))) o => E.cell (b := wr.heap.size) o hl_ba (by intro e9; have a1 := Hr.out.lt _ e9; have a9 := HNP.out _ e9; have g0 := HZS.out; omega)
       have hov_ab := fun (E : But w15 (Value.ownBlock (.slice g t c9))) o => E.cell (b := ab) o hob (by intro e9; have a1 := Hr.out.lt _ e9; have a9 := HNP.out _ e9; have g0 := HZS.out; omega)
       simp only [TreeK.qs]
       repeat (first | (refine treek_q rfl rfl ?_; go_big_quiet_step (fail); refine wpQuiet_nil ?_) | (refine treek_e rfl rfl ?_; go_big_quiet_step (fail); refine wpQuiet_nil ?_))
       refine treek_a rfl (fun K hK => ?_)
       go_simp
       refine (gPut_any (grp k) OK.out w1.heap.size (numOf x) _ (HGW.out.up HT.out)).mono ?_
       rintro e w16 ⟨rfl, hb9⟩
       replace HT := Lib.hid (below_up HT.out hb9)
       replace HZS := sz HZS (show w15.heap.size ≤ w16.heap.size from HT.out.size)
       clear hb9
       refine hK _ _ ⟨fun _ => ⟨⟨w16, ((below_grown HT.out).but _)⟩, rfl⟩, ?_⟩
       clear hK K
       repeat (first | (refine treek_q rfl rfl ?_; go_big_quiet_step (fail); refine wpQuiet_nil ?_) | (refine treek_e rfl rfl ?_; go_big_quiet_step (fail); refine wpQuiet_nil ?_))
       clear hoc hob hov_su hl_su hov_ei hl_ei hov_bs hl_bs hov_bc hl_bc hov_f hl_f hov_t hl_t hov_ba hl_ba hov_ab
       refine treek_a rfl (fun K hK => ?_)
       go_simp
       refine hK _ _ ⟨fun _ => ⟨⟨_, (below_grown (HT.out.alloc HT.out.size _)).but _⟩, rfl⟩, ?_⟩
       clear hK K
       obtain ⟨i9, hi9, hz90, hz91, hz92⟩ := info_parts infoStr
       have HG1 := Lib.hid ((below_grown HT.out).but (Value.ownBlock (.slice g t c9)))
       clear su_
       replace Hsu := Lib.hid (Hsu.out.up HT.out)
       clear ei_
       replace Hei := Lib.hid (Hei.out.up HT.out)
       replace Hcb := Lib.hid (Hcb.out.up HT.out)
       clear bs_
       replace Hbs := Lib.hid (Hbs.out.up HT.out)
       clear bc_
       replace Hbc := Lib.hid (Hbc.out.up HT.out)
       clear f_
       replace Hf := Lib.hid (Hf.out.up HT.out)
       clear t_
       replace Ht := Lib.hid (Ht.out.up HT.out)
       replace Hab := Lib.hid (Hab.out.up HT.out)
       clear ba_
       replace Hba := Lib.hid (Hba.out.up HT.out)
       replace Hr := Lib.hid (Hr.out.up HT.out)
       replace BQ := hbu BQ HT.out
       replace BS7 := hbu BS7 HT.out
       replace HKP := Lib.hid (Kept.up HKP.out HT.out)
       replace HKZ := Lib.hid (Kept.up HKZ.out HT.out)
       replace HK2 := Lib.hid (Kept.up HK2.out HT.out)
       replace HB := hbu HB HT.out
       replace HZS := sz HZS HT.out.size
       refine treek_a rfl (fun K hK => ?_)
       refine step_pushF (w14.heap.size) w16 (by have g0 := HZS.out; omega) rfl _ _ 23 rfl 9 i9 _ 1 16 Tryz.underlying23 hi9 hz90 hz91 hz92 rfl (by omega) ((.slice g t c9)) (t) (((NL.take t).map Value.string)) rfl Hr.out _ _ _ rfl rfl rfl (by simp [Value.oneCell']) (by omega) (by unfold maxLen; omega) ?_
       intro g17 c17 w17 hown9 hg9 hf9
       have HF9 := Lib.hid hf9
       clear hf9
       have HGR := Lib.hid (HG1.out.trans hg9)
       have hb9 := Below.grown HB.out hg9 (by have g0 := HZS.out; omega) (fun q hq => Nat.le_trans (show w.heap.size ≤ w14.heap.size by have g0 := HZS.out; omega) (Hr.out.lt q hq).1)
       replace Hsu := Lib.hid (Hsu.out.grown hg9 (fun e9 => by have a1 := Hr.out.lt _ e9; have a9 := HNP.out _ e9; have g0 := HZS.out; omega))
       replace Hei := Lib.hid (Hei.out.grown hg9 (fun e9 => by have a1 := Hr.out.lt _ e9; have a9 := HNP.out _ e9; have g0 := HZS.out; omega))
       replace Hcb := Lib.hid (Hcb.out.grown hg9 (fun e9 => by have a1 := Hr.out.lt _ e9; have a9 := HNP.out _ e9; have g0 := HZS.out; omega))
       replace Hbs := Lib.hid (Hbs.out.grown hg9 (fun e9 => by have a1 := Hr.out.lt _ e9; have a9 := HNP.out _ e9; have g0 := HZS.out; omega))
       replace Hbc := Lib.hid (Hbc.out.grown hg9 (fun e9 => by have a1 := Hr.out.lt _ e9; have a9 := HNP.out _ e9; have g0 := HZS.out; omega))
       replace Hf := Lib.hid (Hf.out.grown hg9 (fun e9 => by have a1 := Hr.out.lt _ e9; have a9 := HNP.out _ e9; have g0 := HZS.out; omega))
       replace Ht := Lib.hid (Ht.out.grown hg9 (fun e9 => by have a1 := Hr.out.lt _ e9; have a9 := HNP.out _ e9; have g0 := HZS.out; omega))
       replace Hab := Lib.hid (Hab.out.grown hg9 (fun e9 => by have a1 := Hr.out.lt _ e9; have a9 := HNP.out _ e9; have g0 := HZS.out; omega))
       replace Hba := Lib.hid (Hba.out.grown hg9 (fun e9 => by have a1 := Hr.out.lt _ e9; have a9 := HNP.out _ e9; have g0 := HZS.out; omega))
       replace BQ := Lib.hid (Below.grown BQ.out hg9 (by have g0 := HZS.out; omega) (fun q hq => Nat.le_trans (show w3.heap.size ≤ w14.heap.size by have g0 := HZS.out; omega) (Hr.out.lt q hq).1))
       replace BS7 := Lib.hid (Below.grown BS7.out hg9 (by have g0 := HZS.out; omega) (fun q hq => Nat.le_trans (show w4.heap.size ≤ w14.heap.size by have g0 := HZS.out; omega) (Hr.out.lt q hq).1))
       replace HKP := Lib.hid (Kept.grown HKP.out hg9 (fun q hq => Or.inl (Nat.le_trans (show wo.heap.size ≤ w14.heap.size by have g0 := HZS.out; omega) (Hr.out.lt q hq).1)))
       replace HKZ := Lib.hid (Kept.grown HKZ.out hg9 (fun q hq => Or.inl (Nat.le_trans (show we.heap.size ≤ w14.heap.size by have g0 := HZS.out; omega) (Hr.out.lt q hq).1)))
       replace HK2 := Lib.hid (Kept.grown HK2.out hg9 (fun q hq => Or.inl (Nat.le_trans (show w14.heap.size ≤ w14.heap.size by have g0 := HZS.out; omega) (Hr.out.lt q hq).1)))
       replace HZS := sz HZS hg9.size
       clear Hr HB HT HG1
       have Hr := Lib.hid hown9
       have HB := Lib.hid hb9
       clear hb9 hown9 hg9 hi9 hz90 hz91 hz92
       refine hK _ _ ⟨fun _ => ⟨⟨w17, HGR.out⟩, rfl⟩, ?_⟩
       clear hK K HGR
       try simp only [Act.put, List.setIfInBounds_toArray, List.set_cons_succ, List.set_cons_zero]
       repeat (first | (refine treek_q rfl rfl ?_; go_big_quiet_step (fail); refine wpQuiet_nil ?_) | (refine treek_e rfl rfl ?_; go_big_quiet_step (fail); refine wpQuiet_nil ?_))
       replace HZS := sz HZS (Hr.out.lt g17 rfl).1
       have hoc := Hab.out.cell (mid_get (v := .slice g t c9) (ys := List.replicate (n - j - 1) (.slice none 0 0)) (show (ro.flatMap RowA.cells).length = j by rw [rows_len, HRL.out]))
       have su_ := Hsu.out.c4
       have ei_ := Hei.out.c2
       have bs_ := Hbs.out.c2
       have bc_ := Hbc.out.c4
       have f_ := Hf.out.c1
       have t_ := Ht.out.c1
       have ba_ := Hba.out.c4
       have f18_ab := Hab.out.frozen
       have o18_su_ := su_; clear su_
       have o18_ei_ := ei_; clear ei_
       have o18_bs_ := bs_; clear bs_
       have o18_bc_ := bc_; clear bc_
       have o18_f_ := f_; clear f_
       have o18_t_ := t_; clear t_
       have o18_ba_ := ba_; clear ba_
       obtain ⟨w18, hq18, hg9, hz9, hx9⟩ := put1 Hab j (.slice (some ⟨g17, 0, none⟩) (t + 1) c17) _ rfl
       replace Hsu := Lib.hid (Hsu.out.grown hg9.out (sne (by have g0 := HZS.out; omega)))
       replace Hei := Lib.hid (Hei.out.grown hg9.out (sne (by have g0 := HZS.out; omega)))
       replace Hcb := Lib.hid (Hcb.out.grown hg9.out (sne (by have g0 := HZS.out; omega)))
       replace Hbs := Lib.hid (Hbs.out.grown hg9.out (sne (by have g0 := HZS.out; omega)))
       replace Hbc := Lib.hid (Hbc.out.grown hg9.out (sne (by have g0 := HZS.out; omega)))
       replace Hf := Lib.hid (Hf.out.grown hg9.out (sne (by have g0 := HZS.out; omega)))
       replace Ht := Lib.hid (Ht.out.grown hg9.out (sne (by have g0 := HZS.out; omega)))
       replace Hba := Lib.hid (Hba.out.grown hg9.out (sne (by have g0 := HZS.out; omega)))
       replace Hr := Lib.hid (RowO.grown Hr.out hg9.out (fun q9 e8 e9 => by have a1 := Hr.out.lt _ e8; have a0 := Option.some.inj e9; have g0 := HZS.out; omega))
       replace BQ := hbg BQ hg9 (by have g0 := HZS.out; omega)
       replace BS7 := hbg BS7 hg9 (by have g0 := HZS.out; omega)
       replace HKP := Lib.hid (Kept.grown HKP.out hg9.out (fun q9 e9 => by obtain rfl := Option.some.inj e9; exact (by first | exact Or.inr (show ab < wc.heap.size by have g0 := HZS.out; omega) | exact Or.inl (show wo.heap.size ≤ ab by have g0 := HZS.out; omega))))
       replace HKZ := Lib.hid (Kept.grown HKZ.out hg9.out (fun q9 e9 => by obtain rfl := Option.some.inj e9; exact (by first | exact Or.inr (show ab < wc.heap.size by have g0 := HZS.out; omega) | exact Or.inl (show we.heap.size ≤ ab by have g0 := HZS.out; omega))))
       replace HK2 := Lib.hid (Kept.grown HK2.out hg9.out (fun q9 e9 => by obtain rfl := Option.some.inj e9; exact Or.inr (rfl)))
       replace HB := hbg HB hg9 (by have g0 := HZS.out; omega)
       replace HZS := sz HZS hz9.out
       replace Hab := hx9
       clear hx9 hg9 hz9
       have su_ := Hsu.out.c4
       have ei_ := Hei.out.c2
       have bs_ := Hbs.out.c2
       have bc_ := Hbc.out.c4
       have f_ := Hf.out.c1
       have t_ := Ht.out.c1
       have ba_ := Hba.out.c4
       refine treek_a rfl (fun K hK => ?_)
       go_simp
       try rw [hq18]
       refine hK _ _ ⟨fun h9 => absurd rfl h9, ?_⟩
       clear hK K hq18 o18_ba_ o18_t_ o18_f_ o18_bc_ o18_bs_ o18_ei_ o18_su_ f18_ab hoc
       refine treek_end ?_
       go_wp2_with fail
       go_roundw
       case rel => exact ⟨t + 1, _, _, by omega, by go_num, HK2, Lib.hid (by have h9 := Hab.out; rwa [mid_set (by rw [rows_len, HRL.out])] at h9), Hr.out.eq HTK.out.symm rfl⟩
       case measure => simp [intOf]; omega
      ·have htm' : t = t9.rs.length := by omega
       subst htm'
       rw [List.take_of_length_le (by rw [HNLL.out]; exact Nat.le_refl _)] at Hr
       have HROW := Lib.hid (show RowsNew wc.heap.size wr (ro ++ [⟨g, c9, NL⟩]) from fun r hr => by
        rcases List.mem_append.1 hr with hr | hr
        ·exact (HRN.out.keptN HKP.out) r hr
        ·obtain rfl := List.mem_singleton.1 hr
         exact ⟨Hr.out.sl, fun y hy => Nat.le_trans (show wc.heap.size ≤ w14.heap.size by have a1 := HKZ.out.size; have a0 := HZS.out; omega) (RowO.own_le Hr.out hy), RowO.rowOk Hr.out⟩)
       go_wp2_with fail
       go_roundw
       case rel => exact ⟨j + 1, _, ro ++ [⟨g, c9, NL⟩], by omega, by go_num, HPN, (fun h => (HNN.out.keptN HKP.out) (by omega)), Ht, Hf, Hsu, Hcb, Lib.hid (by rw [List.length_append, HRL.out]; rfl), Lib.hid (by rw [List.map_append, HRM.out, HASJ.out]; rfl), Lib.hid (by rw [List.flatMap_append]; have h9 := Hab.out; rw [← HNLL.out] at h9; simpa [RowA.cells, Nat.sub_sub] using h9), HROW, Hei, Lib.hid (by have g0 := HZS.out; omega), BQ, BS7⟩
       case measure => simp [intOf]; omega
   ·have hjn' : j = n := by omega
    subst hjn'
    rw [Nat.sub_self, List.replicate_zero, List.append_nil] at Hcb Hab
    obtain ⟨a2, c2, rfl, hs2, hf2⟩ := HNN.out hwn
    have HS2 := Lib.hid hs2
    have HF2 := Lib.hid hf2
    clear hs2 hf2
    have HPZ := Lib.hid (show st.size = 32 ∧ sf.size = 32 by have h9 := HAZ.out j; rw [HPJ.out] at h9; exact h9)
    rw [← mont_mod (grp k).q.m so] at Hsu
    obtain ⟨wu, rfl⟩ : ∃ wu : World, wu = wc := ⟨_, rfl⟩
    have Hout := Lib.hid (show Bx wr w.heap.size 30 [.slice none 0 0, .slice none 0 0] from Bx.up HO5.out BQ.out)
    have HWW := Lib.hid (show w.heap.size < tb ∧ w.heap.size < cb ∧ w.heap.size < ab ∧ w.heap.size < wr.heap.size by have h9 := HALL.out; have h8 := HWZ.out; omega)
    obtain ⟨N, hN⟩ : ∃ N, chN st challengeB + ((grp k).q.m - so % (grp k).q.m) = N := ⟨_, rfl⟩
    have HSUB := Lib.hid (fun W hG => gSub_any (grp k) OK.out w1.heap.size (chN st challengeB) (so % (grp k).q.m) (Nat.le_of_lt (Nat.mod_lt _ OK.out.q.pos)) W hG)
    rw [hN] at HSUB
    have HNE := Lib.hid hN
    clear hN
    replace HZS := sz HZS HALL.out
    replace HZS := sz HZS HWZ.out
    replace HZS := sz HZS HWW.out
    have t_ := Ht.out.c1
    have su_ := Hsu.out.c4
    have out_ := Hout.out.c2
    have ei_ := Hei.out.c2
    have HKP := Lib.hid (Kept.refl (fun q9 => q9 < wu.heap.size) wr)
    go_upto_region 36 with fail
    go_cut [29] from 156 to 161 (fun v9 wq9 => ∃ b9 : Nat, v9 = .pointer (some ⟨b9, 0, none⟩) ∧ Hid (wr.heap.size ≤ b9) ∧ Hid (Bx wq9 b9 72 [.int .u64 (dig (mont (grp k).q.m (N)) 0 : Int), .int .u64 (dig (mont (grp k).q.m (N)) 1 : Int), .int .u64 (dig (mont (grp k).q.m (N)) 2 : Int), .int .u64 (dig (mont (grp k).q.m (N)) 3 : Int)]) ∧ Hid (Kept (fun q => q = tb) wr wq9))
    case first =>
     have HT := Lib.hid (show Below wr.heap.size wr wr.drew from (Below.refl _ _).drew)
     have HGC := Lib.hid ((HG5.out.up BQ.out).up HT.out)
     have HTC := Lib.hid (Bx.up Ht.out HT.out)
     have HK := Lib.hid (Kept.up (Kept.refl (fun q9 => q9 = tb) wr) HT.out)
     have hl_su := Hsu.out.lt
     refine wp_region_tree (fun wq9 => ∃ E : But wr (some (tb)), wq9 = E.w) (.qs [0, 1, 2, 4] (.two 3 (.two 5 (.a 6 (.a 7 .done)) 6 (.a 5 (.a 7 .done))) 6 (.a 3 (.a 5 (.a 7 .done))))) (by kernel_rfl) (by kernel_rfl) (fun _ _ d _ _ h => by cases d <;> exact h) ⟨⟨_, kept_grown HK.out⟩, rfl⟩ ?_
     have hov_su := fun (E : But wr (some (tb))) o => E.cell (b := w6.heap.size) o hl_su (by intro e9; have a0 := Option.some.inj e9; have g0 := HALL.out; omega)
     obtain ⟨wd, hwd⟩ : ∃ W9 : World, wr.drew = W9 := ⟨_, rfl⟩
     rw [hwd] at HT HGC HTC HK ⊢
     clear hwd HT
     simp only [Tree.qs]
     repeat (refine tree_q rfl rfl ?_; go_big_quiet_step (fail); refine wpQuiet_nil ?_)
     refine tree_two rfl rfl ?ta1 ?ta2
     case ta1 =>
      intro K hK
      go_simp
      refine (gChallenge_any (grp k) OK.out w1.heap.size tb st challengeB (by have := HPZ.out.1; omega) (by decide) _ HGC.out HTC.out (show ¬ w1.heap.size = tb by have h9 := HALL.out; omega)).mono ?_
      rintro e wz ⟨rfl, ht, hk⟩
      replace HGC := Lib.hid (HGC.out.keptP hk (show ¬ w1.heap.size = tb by have h9 := HALL.out; omega))
      skip
      replace HK := Lib.hid (HK.out.trans hk)
      clear ht hk HTC
      refine hK _ _ ⟨⟨⟨wz, kept_grown HK.out⟩, rfl⟩, ?_⟩
      clear hK K
      refine tree_two rfl rfl ?tb1 ?tb2
      case tb1 =>
       intro K hK
       go_simp
       refine (HSUB.out _ HGC.out).mono ?_
       rintro e wy ⟨rfl, hb9⟩
       unfold scV limbV
       skip
       replace HK := Lib.hid (HK.out.up hb9)
       clear HGC
       refine hK _ _ ⟨⟨⟨wy, kept_grown HK.out⟩, rfl⟩, ?_⟩
       clear hK K hb9
       refine tree_a rfl (fun K hK => ?_)
       go_simp
       have hb9 : Below (wy).heap.size (wy) ((wy).alloc (Obj.cells #[.int .u64 0, .int .u64 0, .int .u64 0, .int .u64 0] 72)) := (Below.refl _ _).alloc (Nat.le_refl _) _
       have HX := Lib.hid (show Bx ((wy).alloc (Obj.cells #[.int .u64 0, .int .u64 0, .int .u64 0, .int .u64 0] 72)) (wy).heap.size 72 [.int .u64 0, .int .u64 0, .int .u64 0, .int .u64 0] from Bx.new _ _ _ _ rfl)
       have HLE := Lib.hid (show wr.heap.size ≤ (wy).heap.size from HK.out.size)
       obtain ⟨wA, hqA⟩ : ∃ W9 : World, (wy).alloc (Obj.cells #[.int .u64 0, .int .u64 0, .int .u64 0, .int .u64 0] 72) = W9 := ⟨_, rfl⟩
       rw [hqA] at hb9 HX ⊢
       clear hqA
       skip
       replace HK := Lib.hid (HK.out.up hb9)
       refine hK _ _ ⟨⟨⟨wA, kept_grown HK.out⟩, rfl⟩, ?_⟩
       clear hK K hb9
       refine tree_a rfl (fun K hK => ?_)
       have fz_0 := HX.out.frozen
       have cz_ := HX.out.c4
       go_simp
       obtain ⟨wS, hqS, hgS, hzS, HXS⟩ := put4 HX 0 (.int .u64 (dig (mont (grp k).q.m N) 0 : Int)) 1 (.int .u64 (dig (mont (grp k).q.m N) 1 : Int)) 2 (.int .u64 (dig (mont (grp k).q.m N) 2 : Int)) 3 (.int .u64 (dig (mont (grp k).q.m N) 3 : Int)) _ rfl
       try rw [hqS]
       clear cz_ fz_0 hqS
       replace HK := Lib.hid (HK.out.grown hgS.out (fun q9 e9 => by obtain rfl := Option.some.inj e9; exact Or.inl HLE.out))
       refine hK _ _ ⟨⟨⟨wS, kept_grown HK.out⟩, rfl⟩, ?_⟩
       clear hK K
       refine tree_end ?_
       go_wp2_with fail
       go_meet
       case rel => exact ⟨_, rfl, HLE, HXS, HK⟩
      case tb2 =>
       intro K hK
       go_simp
       have hb9 : Below (wz).heap.size (wz) ((wz).alloc (Obj.cells #[.int .u64 0, .int .u64 0, .int .u64 0, .int .u64 0] 72)) := (Below.refl _ _).alloc (Nat.le_refl _) _
       have HX := Lib.hid (show Bx ((wz).alloc (Obj.cells #[.int .u64 0, .int .u64 0, .int .u64 0, .int .u64 0] 72)) (wz).heap.size 72 [.int .u64 0, .int .u64 0, .int .u64 0, .int .u64 0] from Bx.new _ _ _ _ rfl)
       have HLE := Lib.hid (show wr.heap.size ≤ (wz).heap.size from HK.out.size)
       obtain ⟨wA, hqA⟩ : ∃ W9 : World, (wz).alloc (Obj.cells #[.int .u64 0, .int .u64 0, .int .u64 0, .int .u64 0] 72) = W9 := ⟨_, rfl⟩
       rw [hqA] at hb9 HX ⊢
       clear hqA
       replace HGC := Lib.hid (HGC.out.up hb9)
       replace HK := Lib.hid (HK.out.up hb9)
       refine hK _ _ ⟨⟨⟨wA, kept_grown HK.out⟩, rfl⟩, ?_⟩
       clear hK K hb9
       refine tree_a rfl (fun K hK => ?_)
       go_simp
       refine (HSUB.out _ HGC.out).mono ?_
       rintro e wy ⟨rfl, hb9⟩
       unfold scV limbV
       replace HX := Lib.hid (HX.out.up hb9)
       replace HK := Lib.hid (HK.out.up hb9)
       clear HGC
       refine hK _ _ ⟨⟨⟨wy, kept_grown HK.out⟩, rfl⟩, ?_⟩
       clear hK K hb9
       refine tree_a rfl (fun K hK => ?_)
       have fz_0 := HX.out.frozen
       have cz_ := HX.out.c4
       go_simp
       obtain ⟨wS, hqS, hgS, hzS, HXS⟩ := put4 HX 0 (.int .u64 (dig (mont (grp k).q.m N) 0 : Int)) 1 (.int .u64 (dig (mont (grp k).q.m N) 1 : Int)) 2 (.int .u64 (dig (mont (grp k).q.m N) 2 : Int)) 3 (.int .u64 (dig (mont (grp k).q.m N) 3 : Int)) _ rfl
       try rw [hqS]
       clear cz_ fz_0 hqS
       replace HK := Lib.hid (HK.out.grown hgS.out (fun q9 e9 => by obtain rfl := Option.some.inj e9; exact Or.inl HLE.out))
       refine hK _ _ ⟨⟨⟨wS, kept_grown HK.out⟩, rfl⟩, ?_⟩
       clear hK K
       refine tree_end ?_
       go_wp2_with fail
       go_meet
       case rel => exact ⟨_, rfl, HLE, HXS, HK⟩
     case ta2 =>
      intro K hK
      go_simp
      have hb9 : Below (wd).heap.size (wd) ((wd).alloc (Obj.cells #[.int .u64 0, .int .u64 0, .int .u64 0, .int .u64 0] 72)) := (Below.refl _ _).alloc (Nat.le_refl _) _
      have HX := Lib.hid (show Bx ((wd).alloc (Obj.cells #[.int .u64 0, .int .u64 0, .int .u64 0, .int .u64 0] 72)) (wd).heap.size 72 [.int .u64 0, .int .u64 0, .int .u64 0, .int .u64 0] from Bx.new _ _ _ _ rfl)
      have HLE := Lib.hid (show wr.heap.size ≤ (wd).heap.size from HK.out.size)
      obtain ⟨wA, hqA⟩ : ∃ W9 : World, (wd).alloc (Obj.cells #[.int .u64 0, .int .u64 0, .int .u64 0, .int .u64 0] 72) = W9 := ⟨_, rfl⟩
      rw [hqA] at hb9 HX ⊢
      clear hqA
      (replace HGC := Lib.hid (HGC.out.up hb9); replace HTC := Lib.hid (HTC.out.up hb9))
      replace HK := Lib.hid (HK.out.up hb9)
      refine hK _ _ ⟨⟨⟨wA, kept_grown HK.out⟩, rfl⟩, ?_⟩
      clear hK K hb9
      refine tree_a rfl (fun K hK => ?_)
      go_simp
      refine (gChallenge_any (grp k) OK.out w1.heap.size tb st challengeB (by have := HPZ.out.1; omega) (by decide) _ HGC.out HTC.out (show ¬ w1.heap.size = tb by have h9 := HALL.out; omega)).mono ?_
      rintro e wz ⟨rfl, ht, hk⟩
      replace HGC := Lib.hid (HGC.out.keptP hk (show ¬ w1.heap.size = tb by have h9 := HALL.out; omega))
      replace HX := Lib.hid (HX.out.keptP hk (show ¬ _ = tb by have h9 := HALL.out; have h8 := HWZ.out; have h7 := HLE.out; omega))
      replace HK := Lib.hid (HK.out.trans hk)
      clear ht hk HTC
      refine hK _ _ ⟨⟨⟨wz, kept_grown HK.out⟩, rfl⟩, ?_⟩
      clear hK K
      refine tree_a rfl (fun K hK => ?_)
      go_simp
      refine (HSUB.out _ HGC.out).mono ?_
      rintro e wy ⟨rfl, hb9⟩
      unfold scV limbV
      replace HX := Lib.hid (HX.out.up hb9)
      replace HK := Lib.hid (HK.out.up hb9)
      clear HGC
      refine hK _ _ ⟨⟨⟨wy, kept_grown HK.out⟩, rfl⟩, ?_⟩
      clear hK K hb9
      refine tree_a rfl (fun K hK => ?_)
      have fz_0 := HX.out.frozen
      have cz_ := HX.out.c4
      go_simp
      obtain ⟨wS, hqS, hgS, hzS, HXS⟩ := put4 HX 0 (.int .u64 (dig (mont (grp k).q.m N) 0 : Int)) 1 (.int .u64 (dig (mont (grp k).q.m N) 1 : Int)) 2 (.int .u64 (dig (mont (grp k).q.m N) 2 : Int)) 3 (.int .u64 (dig (mont (grp k).q.m N) 3 : Int)) _ rfl
      try rw [hqS]
      clear cz_ fz_0 hqS
      replace HK := Lib.hid (HK.out.grown hgS.out (fun q9 e9 => by obtain rfl := Option.some.inj e9; exact Or.inl HLE.out))
      refine hK _ _ ⟨⟨⟨wS, kept_grown HK.out⟩, rfl⟩, ?_⟩
      clear hK K
      refine tree_end ?_
      go_wp2_with fail
      go_meet
      case rel => exact ⟨_, rfl, HLE, HXS, HK⟩
    case rest =>
     obtain ⟨nb, rfl, HNBG, Hnb, HK0⟩ := hcut
     have hg9 := HK0.out
     clear t_ su_ out_ ei_ Ht
     replace Hsu := Lib.hid (Bx.keptP (P := fun q9 => q9 = tb) Hsu.out hg9 (show ¬ (w6.heap.size = tb) by have g0 := HZS.out; omega))
     replace Hout := Lib.hid (Bx.keptP (P := fun q9 => q9 = tb) Hout.out hg9 (show ¬ (w.heap.size = tb) by have g0 := HZS.out; omega))
     replace Hei := Lib.hid (Bx.keptP (P := fun q9 => q9 = tb) Hei.out hg9 (show ¬ (eb = tb) by have g0 := HZS.out; omega))
     replace Hcb := Lib.hid (Bx.keptP (P := fun q9 => q9 = tb) Hcb.out hg9 (show ¬ (cb = tb) by have g0 := HZS.out; omega))
     replace Hab := Lib.hid (Bx.keptP (P := fun q9 => q9 = tb) Hab.out hg9 (show ¬ (ab = tb) by have g0 := HZS.out; omega))
     replace BQ := Lib.hid (Below.keptP BQ.out hg9 (by have g0 := HZS.out; omega) (fun q9 h9 => (show w3.heap.size ≤ _ by subst h9; have g0 := HZS.out; omega)))
     replace BS7 := Lib.hid (Below.keptP BS7.out hg9 (by have g0 := HZS.out; omega) (fun q9 h9 => (show w4.heap.size ≤ _ by subst h9; have g0 := HZS.out; omega)))
     replace HB := Lib.hid (Below.keptP HB.out hg9 (by have g0 := HZS.out; omega) (fun q9 h9 => (show w.heap.size ≤ _ by subst h9; have g0 := HZS.out; omega)))
     replace HZS := sz HZS (show wr.heap.size ≤ wc.heap.size from hg9.size)
     replace HKP := Lib.hid (Kept.transP HKP.out hg9 (fun q9 h9 => (show q9 < wu.heap.size by subst h9; have g0 := HZS.out; omega)))
     clear hg9
     have su_ := Hsu.out.c4
     have out_ := Hout.out.c2
     have ei_ := Hei.out.c2
     clear HK0
     replace HZS := sz HZS HNBG.out
     have nb_ := Hnb.out.c4
     have HGW := Lib.hid (HG5.out.up BQ.out)
     have hjc : wh < ((CJ j).map Value.string).length := by rw [List.length_map, HCL.out]; exact hwn
     have HJC := Lib.hid hjc
     clear hjc
     go_wp2_with fail
     have hob := Hcb.out.lt
     have hoc := Hcb.out.cell (List.getElem?_eq_getElem HJC.out)
     have HT := Lib.hid (show Below wc.heap.size wc wc.drew from (Below.refl _ _).drew)
     have hl_su := Hsu.out.lt
     have hl_out := Hout.out.lt
     have hl_ei := Hei.out.lt
     have hl_nb := Hnb.out.lt
     refine wp_region_treek (fun wq9 => ∃ E : Over wc, wq9 = E.w) 7 ((.qs [0] (.e 1 [] (.qs [2, 3] (.e 4 [] (.a 5 (.qs [6] (.a 7 .done)))))))) (by kernel_rfl) (by kernel_rfl) (fun _ _ d _ _ h => by cases d <;> exact h) ⟨⟨_, HT.out⟩, rfl⟩ ?_
     have hov_su := fun (E : Over wc) o => E.cell (b := w6.heap.size) o hl_su
     have hov_out := fun (E : Over wc) o => E.cell (b := w.heap.size) o hl_out
     have hov_ei := fun (E : Over wc) o => E.cell (b := eb) o hl_ei
     have hov_nb := fun (E : Over wc) o => E.cell (b := nb) o hl_nb
     have hov_cb := fun (E : Over wc) o => E.cell (b := cb) o hob
     simp only [TreeK.qs]
     repeat (first | (refine treek_q rfl rfl ?_; go_big_quiet_step (fail); refine wpQuiet_nil ?_) | (refine treek_e rfl rfl ?_; go_big_quiet_step (fail); refine wpQuiet_nil ?_))
     refine treek_a rfl (fun K hK => ?_)
     go_simp
     refine (gPut_any (grp k) OK.out w1.heap.size N _ (HGW.out.up HT.out)).mono ?_
     rintro e w8 ⟨rfl, hb9⟩
     replace HT := Lib.hid (below_up HT.out hb9)
     replace HZS := sz HZS (show wc.heap.size ≤ w8.heap.size from HT.out.size)
     clear hb9
     refine hK _ _ ⟨fun _ => ⟨⟨w8, HT.out⟩, rfl⟩, ?_⟩
     clear hK K
     repeat (first | (refine treek_q rfl rfl ?_; go_big_quiet_step (fail); refine wpQuiet_nil ?_) | (refine treek_e rfl rfl ?_; go_big_quiet_step (fail); refine wpQuiet_nil ?_))
     clear hoc hob hov_su hl_su hov_out hl_out hov_ei hl_ei hov_nb hl_nb hov_cb su_
     replace Hsu := Lib.hid (Hsu.out.up HT.out)
     clear out_
     replace Hout := Lib.hid (Hout.out.up HT.out)
     clear ei_
     replace Hei := Lib.hid (Hei.out.up HT.out)
     replace Hcb := Lib.hid (Hcb.out.up HT.out)
     replace Hab := Lib.hid (Hab.out.up HT.out)
     clear nb_
     replace Hnb := Lib.hid (Hnb.out.up HT.out)
     replace BQ := hbu BQ HT.out
     replace BS7 := hbu BS7 HT.out
     replace HKP := Lib.hid (Kept.up HKP.out HT.out)
     replace HB := hbu HB HT.out
     replace HZS := sz HZS HT.out.size
     clear HT
     have hoc := Hcb.out.cell (List.getElem?_eq_getElem HJC.out)
     have su_ := Hsu.out.c4
     have out_ := Hout.out.c2
     have ei_ := Hei.out.c2
     have nb_ := Hnb.out.c4
     have f9_cb := Hcb.out.frozen
     have o9_su_ := su_; clear su_
     have o9_out_ := out_; clear out_
     have o9_ei_ := ei_; clear ei_
     have o9_nb_ := nb_; clear nb_
     obtain ⟨w9, hq9, hg9, hz9, hx9⟩ := put1 Hcb wh (.string (textS (N % (grp k).q.m) (grp k).size)) _ rfl
     replace Hsu := Lib.hid (Hsu.out.grown hg9.out (sne (by have g0 := HZS.out; omega)))
     replace Hout := Lib.hid (Hout.out.grown hg9.out (sne (by have g0 := HZS.out; omega)))
     replace Hei := Lib.hid (Hei.out.grown hg9.out (sne (by have g0 := HZS.out; omega)))
     replace Hab := Lib.hid (Hab.out.grown hg9.out (sne (by have g0 := HZS.out; omega)))
     replace Hnb := Lib.hid (Hnb.out.grown hg9.out (sne (by have g0 := HZS.out; omega)))
     replace BQ := hbg BQ hg9 (by have g0 := HZS.out; omega)
     replace BS7 := hbg BS7 hg9 (by have g0 := HZS.out; omega)
     replace HKP := Lib.hid (Kept.grown HKP.out hg9.out (fun q9 e9 => by obtain rfl := Option.some.inj e9; exact (by first | exact Or.inr (show cb < wu.heap.size by have g0 := HZS.out; omega) | exact Or.inl (show wr.heap.size ≤ cb by have g0 := HZS.out; omega))))
     replace HB := hbg HB hg9 (by have g0 := HZS.out; omega)
     replace HZS := sz HZS hz9.out
     replace Hcb := hx9
     clear hx9 hg9 hz9
     have su_ := Hsu.out.c4
     have out_ := Hout.out.c2
     have ei_ := Hei.out.c2
     have nb_ := Hnb.out.c4
     refine treek_a rfl (fun K hK => ?_)
     go_simp
     try rw [hq9]
     refine hK _ _ ⟨fun h9 => absurd rfl h9, ?_⟩
     clear hK K hq9 o9_nb_ o9_ei_ o9_out_ o9_su_ f9_cb hoc
     refine treek_end ?_
     have HGV := Lib.hid (HG5.out.up BQ.out)
     have HS2V := Lib.hid (Sl.kept HS2.out HKP.out (fun x hx e => by have h1 := HF2.out x hx; have e : x.block < wu.heap.size := e; omega))
     have HSVV := Lib.hid (HSV.out.up BS7.out)
     have HBLW := Lib.hid (Nat.lt_of_lt_of_le HBL0.out BQ.out.size)
     have HJA := Lib.hid (show wh < (ro.flatMap RowA.cells).length by rw [rows_len, HRL.out]; exact hwn)
     have HX64 := Lib.hid (show xs.length ≤ 64 by have h9 := HSZ.out.1; have h8 := HSZ.out.2.1; have h7 := HRX.out; omega)
     have HANS := Lib.hid (ansL_len (grp k) N (nonceL_len (grp k) (PV wh).f xs.length) rfl)
     have HAW := Lib.hid (fun W hG hW hX => answers_any (grp k) OK.out w1.heap.size N tw.a xs.length tw.c (nonceL (grp k) (PV wh).f xs.length) xs xs.length (nonceL_len _ _ _) rfl HX64.out a2 a7 c2 c7 W hG hW hX)
     obtain ⟨NW, hNW⟩ : ∃ L, nonceL (grp k) (PV wh).f xs.length = L := ⟨_, rfl⟩
     rw [hNW] at HS2V HAW HANS
     obtain ⟨AN, hAN⟩ : ∃ L, ansL (grp k) N NW xs = L := ⟨_, rfl⟩
     rw [hAN] at HAW HANS
     have HNWE := Lib.hid hNW
     have HANE := Lib.hid hAN
     clear hNW hAN
     go_wp2_with fail
     have hc_0 := (BQ.out.cell (p := ⟨bl, ol + wh * 2, none⟩) HBL0.out).trans HCW0.out
     have hc_1 := (BQ.out.cell (p := ⟨bl, ol + wh * 2 + 1, none⟩) HBL0.out).trans HCW1.out
     have hob := Hab.out.lt
     have hbl := HBLW.out
     have hoc := Hab.out.cell (List.getElem?_eq_getElem HJA.out)
     have HT := Lib.hid (show Below w9.heap.size w9 w9.drew from (Below.refl _ _).drew)
     have hl_su := Hsu.out.lt
     have hl_out := Hout.out.lt
     have hl_ei := Hei.out.lt
     have hl_nb := Hnb.out.lt
     refine wp_region_treek (fun wq9 => ∃ E : Over w9, wq9 = E.w) 12 ((.qs [0] (.e 1 [] (.qs [2, 3, 4, 5] (.e 6 [] (.qs [7] (.e 8 [] (.qs [9] (.a 10 (.qs [11] (.a 12 .done))))))))))) (by kernel_rfl) (by kernel_rfl) (fun _ _ d _ _ h => by cases d <;> exact h) ⟨⟨_, HT.out⟩, rfl⟩ ?_
     have hov_su := fun (E : Over w9) o => E.cell (b := w6.heap.size) o hl_su
     have hov_out := fun (E : Over w9) o => E.cell (b := w.heap.size) o hl_out
     have hov_ei := fun (E : Over w9) o => E.cell (b := eb) o hl_ei
     have hov_nb := fun (E : Over w9) o => E.cell (b := nb) o hl_nb
     have hov_ab := fun (E : Over w9) o => E.cell (b := ab) o hob
     have hov_bl := fun (E : Over w9) o => E.cell (b := bl) o hbl
     simp only [TreeK.qs]
     repeat (first | (refine treek_q rfl rfl ?_; go_big_quiet_step (fail); refine wpQuiet_nil ?_) | (refine treek_e rfl rfl ?_; go_big_quiet_step (fail); refine wpQuiet_nil ?_))
     refine treek_a rfl (fun K hK => ?_)
     go_simp
     refine (HAW.out _ (HGV.out.up HT.out) (HS2V.out.up HT.out) (HSVV.out.up HT.out)).mono ?_
     rintro e w10 ⟨a5, c5, rfl, hs5, hf5, hc5, hc6, hb9⟩
     replace HT := Lib.hid (below_up HT.out hb9)
     replace HZS := sz HZS (show w9.heap.size ≤ w10.heap.size from HT.out.size)
     clear hb9
     have HS5 := Lib.hid hs5
     clear hs5
     have HF5 := Lib.hid hf5
     clear hf5
     have HC5 := Lib.hid hc5
     clear hc5
     have HC6 := Lib.hid hc6
     clear hc6
     refine hK _ _ ⟨fun _ => ⟨⟨w10, HT.out⟩, rfl⟩, ?_⟩
     clear hK K
     repeat (first | (refine treek_q rfl rfl ?_; go_big_quiet_step (fail); refine wpQuiet_nil ?_) | (refine treek_e rfl rfl ?_; go_big_quiet_step (fail); refine wpQuiet_nil ?_))
     clear hc_0 hc_1 hoc hob hbl hov_su hl_su hov_out hl_out hov_ei hl_ei hov_nb hl_nb hov_ab hov_bl su_
     replace Hsu := Lib.hid (Hsu.out.up HT.out)
     clear out_
     replace Hout := Lib.hid (Hout.out.up HT.out)
     clear ei_
     replace Hei := Lib.hid (Hei.out.up HT.out)
     replace Hcb := Lib.hid (Hcb.out.up HT.out)
     replace Hab := Lib.hid (Hab.out.up HT.out)
     clear nb_
     replace Hnb := Lib.hid (Hnb.out.up HT.out)
     replace BQ := hbu BQ HT.out
     replace BS7 := hbu BS7 HT.out
     replace HKP := Lib.hid (Kept.up HKP.out HT.out)
     replace HB := hbu HB HT.out
     replace HZS := sz HZS HT.out.size
     clear HT
     have HKS := Lib.hid (Kept.refl (fun q9 => q9 < wu.heap.size) w10)
     have hoc := Hab.out.cell (List.getElem?_eq_getElem HJA.out)
     have su_ := Hsu.out.c4
     have out_ := Hout.out.c2
     have ei_ := Hei.out.c2
     have nb_ := Hnb.out.c4
     have f11_ab := Hab.out.frozen
     have o11_su_ := su_; clear su_
     have o11_out_ := out_; clear out_
     have o11_ei_ := ei_; clear ei_
     have o11_nb_ := nb_; clear nb_
     obtain ⟨w11, hq11, hg9, hz9, hx9⟩ := put1 Hab wh (.slice a5 xs.length c5) _ rfl
     replace Hsu := Lib.hid (Hsu.out.grown hg9.out (sne (by have g0 := HZS.out; omega)))
     replace Hout := Lib.hid (Hout.out.grown hg9.out (sne (by have g0 := HZS.out; omega)))
     replace Hei := Lib.hid (Hei.out.grown hg9.out (sne (by have g0 := HZS.out; omega)))
     replace Hcb := Lib.hid (Hcb.out.grown hg9.out (sne (by have g0 := HZS.out; omega)))
     replace Hnb := Lib.hid (Hnb.out.grown hg9.out (sne (by have g0 := HZS.out; omega)))
     replace BQ := hbg BQ hg9 (by have g0 := HZS.out; omega)
     replace BS7 := hbg BS7 hg9 (by have g0 := HZS.out; omega)
     replace HKP := Lib.hid (Kept.grown HKP.out hg9.out (fun q9 e9 => by obtain rfl := Option.some.inj e9; exact (by first | exact Or.inr (show ab < wu.heap.size by have g0 := HZS.out; omega) | exact Or.inl (show wr.heap.size ≤ ab by have g0 := HZS.out; omega))))
     replace HKS := Lib.hid (Kept.grown HKS.out hg9.out (fun q9 e9 => by obtain rfl := Option.some.inj e9; exact (by first | exact Or.inr (show ab < wu.heap.size by have g0 := HZS.out; omega) | exact Or.inl (show w10.heap.size ≤ ab by have g0 := HZS.out; omega))))
     replace HB := hbg HB hg9 (by have g0 := HZS.out; omega)
     replace HZS := sz HZS hz9.out
     replace Hab := hx9
     clear hx9 hg9 hz9
     have su_ := Hsu.out.c4
     have out_ := Hout.out.c2
     have ei_ := Hei.out.c2
     have nb_ := Hnb.out.c4
     refine treek_a rfl (fun K hK => ?_)
     go_simp
     try rw [hq11]
     refine hK _ _ ⟨fun h9 => absurd rfl h9, ?_⟩
     clear hK K hq11 o11_nb_ o11_ei_ o11_out_ o11_su_ f11_ab hoc
     refine treek_end ?_
     have HSA := Lib.hid (Sl.kept HS5.out HKS.out (fun x hx e => by have h1 : w9.heap.size ≤ x.block := HF5.out x hx; have e : x.block < wu.heap.size := e; have g0 := HZS.out; omega))
     have HRQ := Lib.hid (HRN.out.keptN HKP.out)
     clear HS5 HRN HKP HKS BQ BS7
     have HKO := Lib.hid (Kept.refl (fun q9 => q9 < wu.heap.size) w11)
     have f12_out := Hout.out.frozen
     have o12_su_ := su_; clear su_
     have o12_out_ := out_; clear out_
     have o12_ei_ := ei_; clear ei_
     have o12_nb_ := nb_; clear nb_
     obtain ⟨w12, hq12, hg9, hz9, hx9⟩ := put2 Hout 0 (.slice (some ⟨cb, 0, none⟩) j j) 1 (.slice (some ⟨ab, 0, none⟩) j j) [.slice (some ⟨cb, 0, none⟩) j j, .slice (some ⟨ab, 0, none⟩) j j] rfl
     replace Hsu := Lib.hid (Hsu.out.grown hg9.out (sne (by have g0 := HZS.out; omega)))
     replace Hei := Lib.hid (Hei.out.grown hg9.out (sne (by have g0 := HZS.out; omega)))
     replace Hcb := Lib.hid (Hcb.out.grown hg9.out (sne (by have g0 := HZS.out; omega)))
     replace Hab := Lib.hid (Hab.out.grown hg9.out (sne (by have g0 := HZS.out; omega)))
     replace Hnb := Lib.hid (Hnb.out.grown hg9.out (sne (by have g0 := HZS.out; omega)))
     replace HKO := Lib.hid (Kept.grown HKO.out hg9.out (fun q9 e9 => by obtain rfl := Option.some.inj e9; exact (by first | exact Or.inr (show w.heap.size < wu.heap.size by have g0 := HZS.out; omega) | exact Or.inl (show w11.heap.size ≤ w.heap.size by have g0 := HZS.out; omega))))
     replace HB := hbg HB hg9 (by have g0 := HZS.out; omega)
     replace HZS := sz HZS hz9.out
     replace Hout := hx9
     clear hx9 hg9 hz9
     have su_ := Hsu.out.c4
     have out_ := Hout.out.c2
     have ei_ := Hei.out.c2
     have nb_ := Hnb.out.c4
     go_wp2_with fail
     clear hq12 o12_nb_ o12_ei_ o12_out_ o12_su_ f12_out
     have HRQ2 := Lib.hid (HRQ.out.keptN HKO.out)
     have HSA2 := Lib.hid (Sl.kept HSA.out HKO.out (fun x hx e => by have h1 : w9.heap.size ≤ x.block := HF5.out x hx; have e : x.block < wu.heap.size := e; have g0 := HZS.out; omega))
     simp [bodyPost, results, Tryz.results17, go_sem, out_]
     exact (by rw [HPJ.out]; dsimp only; rw [← HXL.out, HNE.out, HNWE.out, HANE.out]; exact eithR_set HB.out (HCL.out j) HRL.out HRM.out HANS.out Hcb.out Hab.out HRQ2.out HSA2.out HC5.out HC6.out)
end Go.Proofs.YtdlnnkbigeiilaaGreat
namespace Go.Proofs.YtdlnnkbigeiilaaGreat
open Go.RowKit
def pvCK (k : Int) (label seed : ByteArray) (ss : List SetA) (wh : Int) (xs : List ByteArray) : List ByteArray := if pvE k ss wh xs = 0 then pvCs (grp k.toNat) (ss.map SetA.l) wh.toNat (pvT0 k label (ss.map SetA.l) seed) ss.length else []
def pvAK (k : Int) (label seed : ByteArray) (ss : List SetA) (wh : Int) (xs : List ByteArray) : List (List ByteArray) := if pvE k ss wh xs = 0 then pvAs (grp k.toNat) (ss.map SetA.l) wh.toNat (pvT0 k label (ss.map SetA.l) seed) ss.length xs else []
theorem pvE_ok {k : Int} {ss : List SetA} {wh : Int} {xs : List ByteArray} (h : pvE k ss wh xs = 0) : ∃ (j v : Nat), k = j ∧ 1 ≤ j ∧ j ≤ 3 ∧ wh = v ∧ v < ss.length ∧ setsE (grp j) ss = 0 ∧ scE (grp j) (pvL (ss.map SetA.l) v).length xs = 0 ∧ holdP (grp j) (pvL (ss.map SetA.l) v) xs = true := by
 unfold pvE at h
 by_cases hk : 1 ≤ k ∧ k ≤ 3
 case neg => rw [if_neg hk] at h; cases h
 rw [if_pos hk] at h
 by_cases hz : setsE (grp k.toNat) ss = 0
 case neg => rw [if_pos hz] at h; exact absurd h hz
 rw [if_neg (fun e => e hz)] at h
 by_cases hw : wh < 0 ∨ (ss.length : Int) ≤ wh
 case pos => rw [if_pos hw] at h; cases h
 rw [if_neg hw] at h
 by_cases hs : scE (grp k.toNat) (pvL (ss.map SetA.l) wh.toNat).length xs = 0
 case neg => rw [if_pos hs] at h; exact absurd h hs
 rw [if_neg (fun e => e hs)] at h
 by_cases hh : holdP (grp k.toNat) (pvL (ss.map SetA.l) wh.toNat) xs = true
 case neg => rw [if_neg hh] at h; cases h
 exact ⟨k.toNat, wh.toNat, by omega, by omega, by omega, by omega, by omega, hz, hs, hh⟩
theorem pv_small (k : Int) (label seed : ByteArray) (ss : List SetA) (wh : Int) (xs : List ByteArray) : (pvCK k label seed ss wh xs).length ≤ 16 ∧ (pvAK k label seed ss wh xs).length ≤ 16 ∧ ∀ r ∈ pvAK k label seed ss wh xs, r.length ≤ 64 := by
 unfold pvCK pvAK
 by_cases h : pvE k ss wh xs = 0
 ·rw [if_pos h, if_pos h]
  obtain ⟨j, v, rfl, h1, h3, rfl, hv, hz, hs, _⟩ := pvE_ok h
  rw [Int.toNat_natCast, Int.toNat_natCast]
  have h16 := (setsE_ok hz).2.1
  have hw := wrongsE_all (setsE_ok hz).2.2
  have hl : ∀ i, i < ss.length → (pvL (ss.map SetA.l) i).length ≤ 64 := fun i hi => by
   have e : pvL (ss.map SetA.l) i = ss[i].l := by unfold pvL; rw [List.getD_eq_getElem?_getD, List.getElem?_map, List.getElem?_eq_getElem hi]; rfl
   rw [e]
   exact (shape_ok (wrong_ok (hw _ (List.getElem_mem hi))).1).2.1
  refine ⟨by unfold pvCs; simpa using h16, by unfold pvAs; simpa using h16, fun r hr => ?_⟩
  unfold pvAs at hr
  obtain ⟨i, hi, rfl⟩ := List.mem_map.1 hr
  have hi := List.mem_range.1 hi
  show (if i = v then ansL (grp j) _ _ xs else pvZ (grp j) (ss.map SetA.l) v _ i).length ≤ 64
  by_cases e : i = v
  ·rw [if_pos e, ansL_len (grp j) _ (show (pvW (grp j) (ss.map SetA.l) v _).length = (pvL (ss.map SetA.l) v).length from nonceL_len _ _ _) (sc_len9 hs)]
   exact hl v hv
  ·rw [if_neg e]
   show (nonceL _ _ _).length ≤ 64
   rw [nonceL_len]
   exact hl i hi
 ·rw [if_neg h, if_neg h]
  exact ⟨Nat.zero_le _, Nat.zero_le _, fun _ h => by cases h⟩
end Go.Proofs.YtdlnnkbigeiilaaGreat
namespace Go.Proofs.YtdlnnkbigeiilaaGreat
open Go.RowKit
theorem sProveAny_any (k : Int) (label seed : ByteArray) (hlb : label.size < 140737488355328) (hsd : seed.size < 140737488355328) (ss : List SetA) (al : Option Addr) (cl : Nat) (hcap : ∀ s ∈ ss, ∀ c ∈ s.l, CapOk c) (wh : Int) (xs : List ByteArray) (ax : Option Addr) (cx : Nat) (hm : xs.length ≤ 8796093022207) (w : World) (hC : SetsAt w al ss) (hS : Sl w w.heap.size ax (xs.map Value.string)) :
  Calls Tryz.prog 17 #[.int .i64 k, .string label, .slice al ss.length cl, .int .i64 wh, .slice ax xs.length cx, .string seed] w (EithR (pvE k ss wh xs : Int) (pvCK k label seed ss wh xs) (pvAK k label seed ss wh xs) w) := by
 unfold pvCK pvAK
 by_cases h : pvE k ss wh xs = 0
 ·rw [if_pos h, if_pos h, h]
  obtain ⟨j, v, rfl, h1, h3, rfl, hv, hz, hs, hh⟩ := pvE_ok h
  rw [Int.toNat_natCast, Int.toNat_natCast]
  exact sPany_body j h1 h3 label seed hlb hsd ss ss.length rfl al cl hz hcap v hv xs ax cx hm hs hh w hC hS
 ·rw [if_neg h, if_neg h]
  unfold pvE at h ⊢
  by_cases hk : 1 ≤ k ∧ k ≤ 3
  case neg => rw [if_neg hk]; exact sPany_none k hk label seed _ _ wh w
  rw [if_pos hk] at h ⊢
  obtain ⟨j, rfl⟩ : ∃ j : Nat, k = j := ⟨k.toNat, by omega⟩
  rw [Int.toNat_natCast] at h ⊢
  by_cases hz : setsE (grp j) ss = 0
  case neg => rw [if_pos hz]; exact sPany_bad j (by omega) (by omega) label seed ss ss.length rfl al cl hz _ wh w hC
  rw [if_neg (fun e => e hz)] at h ⊢
  by_cases hw : wh < 0 ∨ (ss.length : Int) ≤ wh
  case pos => rw [if_pos hw]; exact sPany_range j (by omega) (by omega) label seed ss ss.length rfl al cl hz _ wh hw w hC
  rw [if_neg hw] at h ⊢
  obtain ⟨v, rfl⟩ : ∃ v : Nat, wh = v := ⟨wh.toNat, by omega⟩
  rw [Int.toNat_natCast] at h ⊢
  by_cases hs : scE (grp j) (pvL (ss.map SetA.l) v).length xs = 0
  case neg => rw [if_pos hs]; exact sPany_sc j (by omega) (by omega) label seed ss ss.length rfl al cl hz hcap v (by omega) xs ax cx hm _ rfl hs w hC hS
  rw [if_neg (fun e => e hs)] at h ⊢
  by_cases hh : holdP (grp j) (pvL (ss.map SetA.l) v) xs = true
  case pos => rw [if_pos hh] at h; exact absurd rfl h
  rw [if_neg hh]
  exact sPany_hold j (by omega) (by omega) label seed ss ss.length rfl al cl hz hcap v (by omega) xs ax cx hm hs (Bool.eq_false_iff.2 hh) w hC hS
end Go.Proofs.YtdlnnkbigeiilaaGreat
namespace Go.Proofs.YtdlnnkbigeiilaaGreat
open Go.RowKit
section
variable {G : GP} {aq ap : Option Addr} {cq cp : Nat}
theorem rIsSc_b (ok : G.Ok) (s : ByteArray) (b : Bool) (hb : isSc G.q.m G.size s = b) (w : World) (hG : RG w G aq ap) :
  Calls Tryz.prog 58 #[.agg #[.int .i64 (G.size : Int), .slice aq (dl G.q.m) cq, .slice ap (dl G.p.m) cp], .string s] w (Gives (.bool b) w) := by
 subst hb
 exact rIsSc ok s w hG
theorem rIsEl_b (ok : G.Ok) (s : ByteArray) (b : Bool) (hb : isEl G.q.m G.size s = b) (w : World) (hG : RG w G aq ap) :
  Calls Tryz.prog 125 #[.agg #[.int .i64 (G.size : Int), .slice aq (dl G.q.m) cq, .slice ap (dl G.p.m) cp], .string s] w (Gives (.bool b) w) := by
 subst hb
 exact rIsEl ok s w hG
theorem rWrongSc (ok : G.Ok) (n : Nat) (l : List ByteArray) (al : Option Addr) (cl : Nat) (hlen : l.length ≤ 8796093022207) (w : World) (hG : RG w G aq ap) (hS : Sl w w.heap.size al (l.map Value.string)) :
  Calls Tryz.prog 59 #[.agg #[.int .i64 (G.size : Int), .slice aq (dl G.q.m) cq, .slice ap (dl G.p.m) cp], .int .i64 (n : Int), .slice al l.length cl] w (Gives (.int .i64 (scE G n l : Int)) w) := by
 have OK := Lib.hid ok
 have HG := Lib.hid hG
 have HS := Lib.hid hS
 clear ok hG hS
 obtain ⟨z, hz⟩ : ∃ z, scE G n l = z := ⟨_, rfl⟩
 have hzz : z = if l.length = n then if l.all (isSc G.q.m G.size) = true then 0 else 6 else 2 := hz.symm
 rw [hz]
 clear hz
 unfold Gives
 by_cases h1 : l.length = n
 ·have hd : ((l.length : Int) != (n : Int)) = false := by simp; omega
  rw [if_pos h1] at hzz
  have HZZ := Lib.hid hzz
  clear hzz h1
  go_enter Tryz.func59, Tryz.ntmps59
  go_wp2_with fail
  obtain ⟨w1, hq1, hb9, hz9, Hbg⟩ := new1 w 86 [.int .i64 (G.size : Int), .slice aq (dl G.q.m) cq, .slice ap (dl G.p.m) cp]
  rw [hq1]
  clear hq1
  have HB := Lib.hid hb9
  have HZS := hz9
  clear hb9 hz9
  have bg_ := Hbg.out.c3
  go_wp2_with fail
  go_loopw [15] (fun i wr => ∃ j : Nat, j ≤ l.length ∧ i = .int .i64 j ∧ Hid (Below w1.heap.size w1 wr) ∧ Hid ((l.take j).all (isSc G.q.m G.size) = true)) (fun i _ => l.length - (intOf i).toNat)
  case atStart => exact ⟨0, Nat.zero_le _, rfl, Below.refl _ _, rfl⟩
  case round =>
   obtain ⟨j, hj, rfl, HL9, HAL⟩ := hrel
   have hb9 := HL9.out
   clear HL9
   have BL := Lib.hid (Below.refl w1.heap.size w1)
   clear bg_
   replace Hbg := Lib.hid (Hbg.out.up hb9)
   replace BL := hbu BL hb9
   replace HB := hbu HB hb9
   replace HZS := sz HZS hb9.size
   clear hb9
   have bg_ := Hbg.out.c3
   by_cases hjl : j < l.length
   ·obtain ⟨bl, ol, rfl, hbl, hc⟩ := (HS.out.up HB.out).at j (by simpa using hjl)
    rw [List.getElem_map] at hc
    obtain ⟨bj, hbj⟩ : ∃ x, isSc G.q.m G.size l[j] = x := ⟨_, rfl⟩
    have HBJ := Lib.hid hbj
    clear hbj
    go_wp2_with fail
    refine (rIsSc_b OK.out l[j] bj HBJ.out wr (HG.out.up HB.out)).mono ?_
    rintro e w2 ⟨rfl, hb9⟩
    clear bg_
    replace Hbg := Lib.hid (Hbg.out.up hb9)
    replace BL := hbu BL hb9
    replace HB := hbu HB hb9
    replace HZS := sz HZS hb9.size
    clear hb9
    have bg_ := Hbg.out.c3
    cases bj
    ·go_wp2_with fail
     go_ret
     exact ⟨by rw [HZZ.out, if_neg (by rw [all_not hjl HBJ.out]; decide)]; rfl, HB.out⟩
    ·go_wp2_with fail
     go_roundw
     case rel => exact ⟨j + 1, by omega, by go_num, BL, all_snoc hjl HAL.out HBJ.out⟩
     case measure => simp [intOf]; omega
   ·have hjn : j = l.length := by omega
    subst hjn
    go_wp2_with fail
    go_ret
    exact ⟨by rw [HZZ.out, if_pos (all_take_true HAL.out)]; rfl, HB.out⟩
 ·have hd : ((l.length : Int) != (n : Int)) = true := by simp; omega
  obtain rfl : z = 2 := by rw [hzz, if_neg h1]
  clear hzz h1
  go_enter Tryz.func59, Tryz.ntmps59
  go_wp2_with fail
  obtain ⟨w1, hq1, hb9, hz9, Hbg⟩ := new1 w 86 [.int .i64 (G.size : Int), .slice aq (dl G.q.m) cq, .slice ap (dl G.p.m) cp]
  rw [hq1]
  clear hq1
  have HB := Lib.hid hb9
  have HZS := hz9
  clear hb9 hz9
  have bg_ := Hbg.out.c3
  go_wp2_with fail
  go_ret
  exact ⟨rfl, HB.out⟩
theorem rPower5 (ok : G.Ok) (b : ByteArray) (hb : b.size ≤ 32) {n : Nat} {an : Option Addr} {cn : Nat} (hn : dl n ≤ 65536) (w : World) (hG : RG w G aq ap) (hN : NumAt w an n) :
  Calls Tryz.prog 117 #[.agg #[.int .i64 (G.size : Int), .slice aq (dl G.q.m) cq, .slice ap (dl G.p.m) cp], .string b, .slice an (dl n) cn] w fun e w' => NumR w e w' (lowN G (numOf b ^ n)) := by
 have OK := Lib.hid ok
 have HG := Lib.hid hG
 have HN := Lib.hid hN
 clear ok hG hN
 go_enter Tryz.func117, Tryz.ntmps117
 go_wp2_with fail
 obtain ⟨w1, hq1, hb9, hz9, Hbg⟩ := new1 w 86 [.int .i64 (G.size : Int), .slice aq (dl G.q.m) cq, .slice ap (dl G.p.m) cp]
 rw [hq1]
 clear hq1
 have HB := Lib.hid hb9
 have HZS := hz9
 clear hb9 hz9
 have bg_ := Hbg.out.c3
 go_wp2_with fail
 have HT := Lib.hid (show Below w1.heap.size w1 w1.drew from (Below.refl _ _).drew)
 have hl_bg := Hbg.out.lt
 refine wp_region_tree (fun wq9 => ∃ E : Over w1, wq9 = E.w) ((.qs [0, 1, 3] (.a 2 (.a 4 (.qs [5] .done))))) (by kernel_rfl) (by kernel_rfl) (fun _ _ d _ _ h => by cases d <;> exact h) ⟨⟨_, HT.out⟩, rfl⟩ ?_
 have hov_bg := fun (E : Over w1) o => E.cell (b := w.heap.size) o hl_bg
 simp only [Tree.qs]
 repeat (refine tree_q rfl rfl ?_; go_big_quiet_step (fail); refine wpQuiet_nil ?_)
 refine tree_a rfl (fun K hK => ?_)
 go_simp
 refine (refRead_any b (by omega) _).mono ?_
 rintro e w2 ⟨a4, c4, rfl, hn9, hb9⟩
 replace HT := Lib.hid (below_up HT.out hb9)
 replace HZS := sz HZS (show w1.heap.size ≤ w2.heap.size from HT.out.size)
 clear hb9
 have HN4 := Lib.hid hn9
 clear hn9
 refine hK _ _ ⟨⟨⟨w2, HT.out⟩, rfl⟩, ?_⟩
 clear hK K
 repeat (refine tree_q rfl rfl ?_; go_big_quiet_step (fail); refine wpQuiet_nil ?_)
 refine tree_a rfl (fun K hK => ?_)
 go_simp
 refine (rPow OK.out (numOf_16 b hb) hn _ (HG.out.up (below_up HB.out HT.out)) HN4.out (HN.out.up (below_up HB.out HT.out))).mono ?_
 rintro e w3 ⟨a5, c5, rfl, hn9, hb9⟩
 replace HN4 := Lib.hid (HN4.out.up hb9)
 replace HT := Lib.hid (below_up HT.out hb9)
 replace HZS := sz HZS (show w1.heap.size ≤ w3.heap.size from HT.out.size)
 clear hb9
 have HN5 := Lib.hid hn9
 clear hn9
 refine hK _ _ ⟨⟨⟨w3, HT.out⟩, rfl⟩, ?_⟩
 clear hK K
 repeat (refine tree_q rfl rfl ?_; go_big_quiet_step (fail); refine wpQuiet_nil ?_)
 refine tree_end ?_
 clear hov_bg hl_bg bg_
 replace Hbg := Lib.hid (Hbg.out.up HT.out)
 replace HB := hbu HB HT.out
 replace HZS := sz HZS HT.out.size
 clear HT
 have bg_ := Hbg.out.c3
 go_wp2_with fail
 go_ret
 exact ⟨a5, c5, rfl, HN5.out, HB.out⟩
end
theorem size_n0 (k : Nat) (h1 : 1 ≤ k) (h3 : k ≤ 3) : (((grp k).size : Int) == 0) = false := by
 obtain rfl | rfl | rfl : k = 1 ∨ k = 2 ∨ k = 3 := by omega
 all_goals rfl
theorem size_gt0 (k : Nat) (h1 : 1 ≤ k) (h3 : k ≤ 3) : decide (((grp k).size : Int) > 0) = true := by
 obtain rfl | rfl | rfl : k = 1 ∨ k = 2 ∨ k = 3 := by omega
 all_goals rfl
theorem toList_ne {a b : ByteArray} (h : ¬ a = b) : ¬ a.toList = b.toList := fun e => h (by
 have h9 : (a == b) = true := by rw [beq_toListBytes]; exact beq_iff_eq.2 e
 obtain ⟨x⟩ := a
 obtain ⟨y⟩ := b
 have h10 : (x == y) = true := h9
 rw [eq_of_beq h10])
theorem toList_bne {a b : ByteArray} (h : ¬ a = b) : (a.toList == b.toList) = false := beq_eq_false_iff_ne.2 (toList_ne h)
theorem sc_len {G : GP} (ok : G.Ok) {s : ByteArray} (h : isSc G.q.m G.size s = true) : s.size ≤ 32 := by rw [isSc_size h]; exact ok.size_le
theorem el_len {G : GP} (ok : G.Ok) {s : ByteArray} (h : isEl G.q.m G.size s = true) : s.size ≤ 32 := by rw [isEl_size h]; exact ok.size_le
def mulQ (G : GP) (a b : Nat) : Nat := a * b % G.q.m
def addQ (G : GP) (a b : Nat) : Nat := (a + b) % G.q.m
def subQ (G : GP) (a b : Nat) : Nat := (a + (G.q.m - b)) % G.q.m
section
variable {G : GP} {aq ap : Option Addr} {cq cp : Nat}
theorem mulQ_lt (ok : G.Ok) (a b : Nat) : mulQ G a b < G.q.m := Nat.mod_lt _ ok.q.pos
theorem addQ_lt (ok : G.Ok) (a b : Nat) : addQ G a b < G.q.m := Nat.mod_lt _ ok.q.pos
theorem subQ_lt (ok : G.Ok) (a b : Nat) : subQ G a b < G.q.m := Nat.mod_lt _ ok.q.pos
theorem q_16 (ok : G.Ok) {x : Nat} (h : x < G.q.m) : x < DD ^ 16 := Nat.lt_trans h ok.q.lt4
theorem rMulQ (ok : G.Ok) {a b : Nat} {aa ab : Option Addr} {ca cb : Nat} (ha : a < DD ^ 16) (hb : b < DD ^ 16) (w : World) (hG : RG w G aq ap) (hA : NumAt w aa a) (hB : NumAt w ab b) :
  Calls Tryz.prog 126 #[.agg #[.int .i64 (G.size : Int), .slice aq (dl G.q.m) cq, .slice ap (dl G.p.m) cp], .slice aa (dl a) ca, .slice ab (dl b) cb] w fun e w' => NumR w e w' (mulQ G a b) := rMul ok ha hb w hG hA hB
theorem rAddQ (ok : G.Ok) {a b : Nat} {aa ab : Option Addr} {ca cb : Nat} (ha : a < DD ^ 16) (hb : b < DD ^ 16) (w : World) (hG : RG w G aq ap) (hA : NumAt w aa a) (hB : NumAt w ab b) :
  Calls Tryz.prog 60 #[.agg #[.int .i64 (G.size : Int), .slice aq (dl G.q.m) cq, .slice ap (dl G.p.m) cp], .slice aa (dl a) ca, .slice ab (dl b) cb] w fun e w' => NumR w e w' (addQ G a b) := rAdd ok ha hb w hG hA hB
theorem rSubQ (ok : G.Ok) {a b : Nat} {aa ab : Option Addr} {ca cb : Nat} (ha : a < DD ^ 16) (hb : b ≤ G.q.m) (w : World) (hG : RG w G aq ap) (hA : NumAt w aa a) (hB : NumAt w ab b) :
  Calls Tryz.prog 77 #[.agg #[.int .i64 (G.size : Int), .slice aq (dl G.q.m) cq, .slice ap (dl G.p.m) cp], .slice aa (dl a) ca, .slice ab (dl b) cb] w fun e w' => NumR w e w' (subQ G a b) := rSub ok ha hb w hG hA hB
theorem rTextQ (ok : G.Ok) {x : Nat} {an : Option Addr} {cn : Nat} (hx : x < G.q.m) (w : World) (hN : NumAt w an x) :
  Calls Tryz.prog 49 #[.slice an (dl x) cn, .int .i64 (G.size : Int)] w fun e w' => e = .returned (.string (textS x G.size)) ∧ Below w.heap.size w w' :=
 rText ok (q_16 ok hx) w hN
end
end Go.Proofs.YtdlnnkbigeiilaaGreat
namespace Go.Proofs.YtdlnnkbigeiilaaGreat
open Go.RowKit
theorem w_long {G : GP} {l : List ClaimA} {z : Nat} (hz : wrongE G l = z) (h : 64 < l.length ∨ l.any cLong = true) : z = 3 := by
 have hs : shapeE l = 3 := by
  unfold shapeE
  rw [if_pos]
  rcases h with h | h
  ·rw [decide_eq_true h]; rfl
  ·rw [h, Bool.or_true]
 rw [← hz]
 unfold wrongE
 rw [hs]
 rfl
theorem w_form {G : GP} {l : List ClaimA} {z : Nat} (hz : wrongE G l = z) (h1 : ¬ 64 < l.length) (h2 : l.any cLong = false) (h : l.length = 0 ∨ l.any cForm = true) : z = 2 := by
 have hs : shapeE l = 2 := by
  unfold shapeE
  rw [if_neg (by rw [decide_eq_false h1, h2]; decide), if_pos]
  rcases h with h | h
  ·rw [decide_eq_true h]; rfl
  ·rw [h, Bool.or_true]
 rw [← hz]
 unfold wrongE
 rw [hs]
 rfl
theorem w_elem {G : GP} {l : List ClaimA} {z : Nat} (hz : wrongE G l = z) (h1 : ¬ 64 < l.length) (h2 : l.any cLong = false) (h3 : ¬ l.length = 0) (h4 : l.any cForm = false) : z = if l.all (cElems G) = true then 0 else 7 := by
 have hs : shapeE l = 0 := by
  unfold shapeE
  rw [if_neg (by rw [decide_eq_false h1, h2]; decide), if_neg (by rw [decide_eq_false h3, h4]; decide)]
 rw [← hz]
 unfold wrongE
 rw [hs]
 rfl
theorem any_take_false {α : Type} {f : α → Bool} {l : List α} {n : Nat} (hl : l.length = n) (h : (l.take n).any f = false) : l.any f = false := by rwa [List.take_of_length_le (by omega)] at h
theorem any_one {α : Type} {f : α → Bool} {l : List α} (h : l.any f = false) {j : Nat} (hj : j < l.length) : f l[j] = false := by
 have h9 := List.any_eq_false.1 h _ (List.getElem_mem hj)
 simpa using h9
section
variable {G : GP} {aq ap : Option Addr} {cq cp : Nat}
theorem rWrong (ok : G.Ok) (l : List ClaimA) (n : Nat) (hn : l.length = n) (z : Nat) (hz : wrongE G l = z) (al : Option Addr) (cl : Nat) (w : World) (hG : RG w G aq ap) (hC : ClaimsAt w al l) :
  Calls Tryz.prog 70 #[.agg #[.int .i64 (G.size : Int), .slice aq (dl G.q.m) cq, .slice ap (dl G.p.m) cp], .slice al n cl] w (Gives (.int .i64 (z : Int)) w) := by
 have OK := Lib.hid ok
 have HG := Lib.hid hG
 have HC := Lib.hid hC
 have HN := Lib.hid hn
 have HZ := Lib.hid hz
 clear ok hG hC hn hz
 unfold Gives
 by_cases h64 : 64 < n
 ·have hd : decide ((n : Int) > 64) = true := by simp; omega
  obtain rfl : z = 3 := w_long HZ.out (Or.inl (by rw [HN.out]; exact h64))
  clear h64
  go_enter Tryz.func70, Tryz.ntmps70
  go_wp2_with fail
  obtain ⟨w1, hq1, hb9, hz9, Hbg⟩ := new1 w 86 [.int .i64 (G.size : Int), .slice aq (dl G.q.m) cq, .slice ap (dl G.p.m) cp]
  rw [hq1]
  clear hq1
  have HB := Lib.hid hb9
  have HZS := hz9
  clear hb9 hz9
  have bg_ := Hbg.out.c3
  go_wp2_with fail
  go_ret
  exact ⟨rfl, HB.out⟩
 have hd : decide ((n : Int) > 64) = false := by simp; omega
 have H64 := Lib.hid (show ¬ 64 < l.length by rw [HN.out]; exact h64)
 go_enter Tryz.func70, Tryz.ntmps70
 go_wp2_with fail
 obtain ⟨w1, hq1, hb9, hz9, Hbg⟩ := new1 w 86 [.int .i64 (G.size : Int), .slice aq (dl G.q.m) cq, .slice ap (dl G.p.m) cp]
 rw [hq1]
 clear hq1
 have HB := Lib.hid hb9
 have HZS := hz9
 clear hb9 hz9
 have bg_ := Hbg.out.c3
 have BL := Lib.hid (Below.refl w1.heap.size w1)
 go_wp2_with fail
 go_loopw [17] (fun i wr => ∃ j : Nat, j ≤ n ∧ i = .int .i64 j ∧ Hid (Below w1.heap.size w1 wr) ∧ Hid ((l.take j).any cLong = false)) (fun i _ => n - (intOf i).toNat)
 case atStart => exact ⟨0, Nat.zero_le _, rfl, BL, rfl⟩
 case round =>
  obtain ⟨j, hj, rfl, HL9, HAL⟩ := hrel
  have hb9 := HL9.out
  clear HL9 bg_
  replace Hbg := Lib.hid (Hbg.out.up hb9)
  replace BL := hbu BL hb9
  replace HB := hbu HB hb9
  replace HZS := sz HZS hb9.size
  clear hb9
  have bg_ := Hbg.out.c3
  by_cases hjn : j < n
  ·have hjl : j < l.length := by rw [HN.out]; exact hjn
   obtain ⟨bl, ol, rfl, hbl0, hc⟩ := (HC.out.s.up HB.out).elem ClaimA.cells_len (by omega) j hjl
   have hc_0 := hc 0 _ rfl
   rw [Nat.add_zero] at hc_0
   have hc_1 := hc 1 _ rfl
   clear hc
   have HS1 := Lib.hid (any_snoc (f := cLong) hjl HAL.out)
   have HS2 := Lib.hid (any_take_true (f := cLong) hjl)
   have hcl : cLong l[j] = (decide (8 < l[j].bases.length) || decide (8 < l[j].images.length)) := rfl
   generalize l[j] = c at *
   generalize c.bases.length = n1 at *
   generalize c.images.length = n2 at *
   by_cases h1 : 8 < n1
   ·obtain rfl : z = 3 := w_long HZ.out (Or.inr (HS2.out (by rw [hcl]; simp [h1])))
    have hd1 : decide ((n1 : Int) > 8) = true := by simp; omega
    clear hcl h1
    have o2_bg_ := bg_; clear bg_
    obtain ⟨w2, hq2, hb9, hz9, Hbc⟩ := new1 wr 50 [.slice c.ab n1 c.cb, .slice c.ai n2 c.ci]
    replace Hbg := Lib.hid (Hbg.out.up hb9)
    replace BL := hbu BL hb9
    replace HB := hbu HB hb9
    replace HZS := sz HZS hz9.out
    clear hb9 hz9
    have bg_ := Hbg.out.c3
    have bc_ := Hbc.out.c2
    go_wp2_with fail
    clear hq2 o2_bg_
    go_ret
    exact ⟨rfl, HB.out⟩
   have hd1 : decide ((n1 : Int) > 8) = false := by simp; omega
   by_cases h2 : 8 < n2
   ·obtain rfl : z = 3 := w_long HZ.out (Or.inr (HS2.out (by rw [hcl]; simp [h2])))
    have hd2 : decide ((n2 : Int) > 8) = true := by simp; omega
    clear hcl h1 h2
    have o2_bg_ := bg_; clear bg_
    obtain ⟨w2, hq2, hb9, hz9, Hbc⟩ := new1 wr 50 [.slice c.ab n1 c.cb, .slice c.ai n2 c.ci]
    replace Hbg := Lib.hid (Hbg.out.up hb9)
    replace BL := hbu BL hb9
    replace HB := hbu HB hb9
    replace HZS := sz HZS hz9.out
    clear hb9 hz9
    have bg_ := Hbg.out.c3
    have bc_ := Hbc.out.c2
    go_wp2_with fail
    clear hq2 o2_bg_
    go_ret
    exact ⟨rfl, HB.out⟩
   have hd2 : decide ((n2 : Int) > 8) = false := by simp; omega
   have HS3 := Lib.hid (HS1.out (by rw [hcl]; simp [h1, h2]))
   clear hcl h1 h2
   have o2_bg_ := bg_; clear bg_
   obtain ⟨w2, hq2, hb9, hz9, Hbc⟩ := new1 wr 50 [.slice c.ab n1 c.cb, .slice c.ai n2 c.ci]
   replace Hbg := Lib.hid (Hbg.out.up hb9)
   replace BL := hbu BL hb9
   replace HB := hbu HB hb9
   replace HZS := sz HZS hz9.out
   clear hb9 hz9
   have bg_ := Hbg.out.c3
   have bc_ := Hbc.out.c2
   go_wp2_with fail
   go_roundw
   case rel => exact ⟨j + 1, by omega, by go_num, BL, HS3.out⟩
   case measure => simp [intOf]; omega
  ·have hjn' : j = n := by omega
   subst hjn'
   have HLG := Lib.hid (any_take_false HN.out HAL.out)
   clear HAL hj hjn
   by_cases h0 : j = 0
   ·obtain rfl : z = 2 := w_form HZ.out H64.out HLG.out (Or.inl (by rw [HN.out]; exact h0))
    have hd0 : ((j : Int) == 0) = true := by simp; omega
    clear h0
    go_wp2_with fail
    go_ret
    exact ⟨rfl, HB.out⟩
   have H0 := Lib.hid (show ¬ l.length = 0 by rw [HN.out]; exact h0)
   have hd0 : ((j : Int) == 0) = false := by simp; omega
   generalize j = n at *
   clear h0
   obtain ⟨wo, rfl⟩ : ∃ wo : World, wo = wr := ⟨_, rfl⟩
   have BM := Lib.hid (Below.refl wo.heap.size wo)
   go_wp2_with fail
   go_loopw [37] (fun i wr => ∃ j : Nat, j ≤ n ∧ i = .int .i64 j ∧ Hid (Below wo.heap.size wo wr) ∧ Hid ((l.take j).any cForm = false)) (fun i _ => n - (intOf i).toNat)
   case atStart => exact ⟨0, Nat.zero_le _, rfl, BM, rfl⟩
   case round =>
    obtain ⟨j, hj, rfl, HL9, HAL⟩ := hrel
    have hb9 := HL9.out
    clear HL9 bg_
    replace Hbg := Lib.hid (Hbg.out.up hb9)
    replace BL := hbu BL hb9
    replace BM := hbu BM hb9
    replace HB := hbu HB hb9
    replace HZS := sz HZS hb9.size
    clear hb9
    have bg_ := Hbg.out.c3
    by_cases hjn : j < n
    ·have hjl : j < l.length := by rw [HN.out]; exact hjn
     obtain ⟨bl, ol, rfl, hbl0, hc⟩ := (HC.out.s.up HB.out).elem ClaimA.cells_len (by omega) j hjl
     have hc_0 := hc 0 _ rfl
     rw [Nat.add_zero] at hc_0
     have hc_1 := hc 1 _ rfl
     clear hc
     have HS1 := Lib.hid (any_snoc (f := cForm) hjl HAL.out)
     have HS2 := Lib.hid (any_take_true (f := cForm) hjl)
     have hcl : cForm l[j] = (decide (l[j].bases.length = 0) || decide (l[j].bases.length ≠ l[j].images.length)) := rfl
     generalize l[j] = c at *
     generalize c.bases.length = n1 at *
     generalize c.images.length = n2 at *
     by_cases h1 : n1 = 0
     ·obtain rfl : z = 2 := w_form HZ.out H64.out HLG.out (Or.inr (HS2.out (by rw [hcl]; simp [h1])))
      have hd1 : ((n1 : Int) == 0) = true := by simp; omega
      clear hcl h1
      have o2_bg_ := bg_; clear bg_
      obtain ⟨w2, hq2, hb9, hz9, Hbc⟩ := new1 wr 50 [.slice c.ab n1 c.cb, .slice c.ai n2 c.ci]
      replace Hbg := Lib.hid (Hbg.out.up hb9)
      replace BL := hbu BL hb9
      replace BM := hbu BM hb9
      replace HB := hbu HB hb9
      replace HZS := sz HZS hz9.out
      clear hb9 hz9
      have bg_ := Hbg.out.c3
      have bc_ := Hbc.out.c2
      go_wp2_with fail
      clear hq2 o2_bg_
      go_ret
      exact ⟨rfl, HB.out⟩
     have hd1 : ((n1 : Int) == 0) = false := by simp; omega
     by_cases h2 : n1 ≠ n2
     ·obtain rfl : z = 2 := w_form HZ.out H64.out HLG.out (Or.inr (HS2.out (by rw [hcl]; simp [h2])))
      have hd2 : ((n1 : Int) != (n2 : Int)) = true := by simp; omega
      clear hcl h1 h2
      have o2_bg_ := bg_; clear bg_
      obtain ⟨w2, hq2, hb9, hz9, Hbc⟩ := new1 wr 50 [.slice c.ab n1 c.cb, .slice c.ai n2 c.ci]
      replace Hbg := Lib.hid (Hbg.out.up hb9)
      replace BL := hbu BL hb9
      replace BM := hbu BM hb9
      replace HB := hbu HB hb9
      replace HZS := sz HZS hz9.out
      clear hb9 hz9
      have bg_ := Hbg.out.c3
      have bc_ := Hbc.out.c2
      go_wp2_with fail
      clear hq2 o2_bg_
      go_ret
      exact ⟨rfl, HB.out⟩
     have hd2 : ((n1 : Int) != (n2 : Int)) = false := by simp; omega
     have HS3 := Lib.hid (HS1.out (by rw [hcl]; simp [h1]; omega))
     clear hcl h1 h2
     have o2_bg_ := bg_; clear bg_
     obtain ⟨w2, hq2, hb9, hz9, Hbc⟩ := new1 wr 50 [.slice c.ab n1 c.cb, .slice c.ai n2 c.ci]
     replace Hbg := Lib.hid (Hbg.out.up hb9)
     replace BL := hbu BL hb9
     replace BM := hbu BM hb9
     replace HB := hbu HB hb9
     replace HZS := sz HZS hz9.out
     clear hb9 hz9
     have bg_ := Hbg.out.c3
     have bc_ := Hbc.out.c2
     go_wp2_with fail
     go_roundw
     case rel => exact ⟨j + 1, by omega, by go_num, BM, HS3.out⟩
     case measure => simp [intOf]; omega
    ·have hjn' : j = n := by omega
     subst hjn'
     have HLF := Lib.hid (any_take_false HN.out HAL.out)
     have HZE := Lib.hid (w_elem HZ.out H64.out HLG.out H0.out HLF.out)
     clear HAL hj hjn
     generalize j = n at *
     obtain ⟨wo2, rfl⟩ : ∃ wo2 : World, wo2 = wr := ⟨_, rfl⟩
     have BN := Lib.hid (Below.refl wo2.heap.size wo2)
     go_wp2_with fail
     go_loopw [57] (fun i wr => ∃ j : Nat, j ≤ n ∧ i = .int .i64 j ∧ Hid (Below wo2.heap.size wo2 wr) ∧ Hid ((l.take j).all (cElems G) = true)) (fun i _ => n - (intOf i).toNat)
     case atStart => exact ⟨0, Nat.zero_le _, rfl, BN, rfl⟩
     case round =>
      obtain ⟨j, hj, rfl, HL9, HAL⟩ := hrel
      have hb9 := HL9.out
      clear HL9 bg_
      replace Hbg := Lib.hid (Hbg.out.up hb9)
      replace BL := hbu BL hb9
      replace BM := hbu BM hb9
      replace BN := hbu BN hb9
      replace HB := hbu HB hb9
      replace HZS := sz HZS hb9.size
      clear hb9
      have bg_ := Hbg.out.c3
      by_cases hjn : j < n
      ·have hjl : j < l.length := by rw [HN.out]; exact hjn
       obtain ⟨bl, ol, rfl, hbl0, hc⟩ := (HC.out.s.up HB.out).elem ClaimA.cells_len (by omega) j hjl
       have hc_0 := hc 0 _ rfl
       rw [Nat.add_zero] at hc_0
       have hc_1 := hc 1 _ rfl
       clear hc
       have HAT := Lib.hid ((HC.out.up HB.out).one j hjl)
       have HFJ := Lib.hid (any_one HLF.out hjl)
       have HLJ := Lib.hid (any_one HLG.out hjl)
       have HSN := Lib.hid (all_snoc (f := cElems G) hjl HAL.out)
       have HNO := Lib.hid (all_not (f := cElems G) hjl)
       generalize l[j] = c at *
       have hlens : c.images.length = c.bases.length ∧ c.bases.length ≤ 8 := by
        have g1 := HFJ.out
        have g2 := HLJ.out
        unfold cForm at g1
        unfold cLong at g2
        simp at g1 g2
        omega
       have HLEN := Lib.hid hlens.1
       have hl8 := hlens.2
       clear hlens
       have HAB := Lib.hid HAT.out.b
       have HAJ := Lib.hid HAT.out.i
       have HSN2 := Lib.hid (show c.bases.all (isEl G.q.m G.size) = true → c.images.all (isEl G.q.m G.size) = true → _ from fun h1 h2 => HSN.out (show (c.bases.all (isEl G.q.m G.size) && c.images.all (isEl G.q.m G.size)) = true by rw [h1, h2]; rfl))
       have HNO2 := Lib.hid (show (c.bases.all (isEl G.q.m G.size) && c.images.all (isEl G.q.m G.size)) = false → _ from HNO.out)
       clear HAT HFJ HLJ HSN HNO
       generalize c.bases = bs at *
       generalize c.images = ims at *
       generalize c.ab = ab at *
       generalize c.ai = ai at *
       generalize c.cb = cb at *
       generalize c.ci = ci at *
       have BR := Lib.hid (Below.refl wr.heap.size wr)
       have o2_bg_ := bg_; clear bg_
       obtain ⟨w2, hq2, hb9, hz9, Hbc⟩ := new1 wr 50 [.slice ab bs.length cb, .slice ai ims.length ci]
       replace Hbg := Lib.hid (Hbg.out.up hb9)
       replace BL := hbu BL hb9
       replace BM := hbu BM hb9
       replace BN := hbu BN hb9
       replace BR := hbu BR hb9
       replace HB := hbu HB hb9
       replace HZS := sz HZS hz9.out
       clear hb9 hz9
       have bg_ := Hbg.out.c3
       have bc_ := Hbc.out.c2
       obtain ⟨wo3, rfl⟩ : ∃ wo3 : World, wo3 = wr := ⟨_, rfl⟩
       have BI := Lib.hid (Below.refl w2.heap.size w2)
       go_wp2_with fail
       clear hq2 o2_bg_
       go_loopw [11] (fun i wr => ∃ t : Nat, t ≤ bs.length ∧ i = .int .i64 t ∧ Hid (Below w2.heap.size w2 wr) ∧ Hid ((bs.take t).all (isEl G.q.m G.size) = true ∧ (ims.take t).all (isEl G.q.m G.size) = true)) (fun i _ => bs.length - (intOf i).toNat)
       case atStart => exact ⟨0, Nat.zero_le _, rfl, BI, ⟨rfl, rfl⟩⟩
       case round =>
        obtain ⟨t, ht, rfl, HL9, HAI⟩ := hrel
        have hb9 := HL9.out
        clear HL9 bg_
        replace Hbg := Lib.hid (Hbg.out.up hb9)
        clear bc_
        replace Hbc := Lib.hid (Hbc.out.up hb9)
        replace BL := hbu BL hb9
        replace BM := hbu BM hb9
        replace BN := hbu BN hb9
        replace BR := hbu BR hb9
        replace BI := hbu BI hb9
        replace HB := hbu HB hb9
        replace HZS := sz HZS hb9.size
        clear hb9
        have bg_ := Hbg.out.c3
        have bc_ := Hbc.out.c2
        by_cases htm : t < bs.length
        ·have hti : t < ims.length := by rw [HLEN.out]; exact htm
         obtain ⟨b1, o1, rfl, hb1, hc1⟩ := (HAB.out.up BR.out).at t (by simpa using htm)
         obtain ⟨b2, o2, rfl, hb2, hc2⟩ := (HAJ.out.up BR.out).at t (by simpa using hti)
         rw [List.getElem_map] at hc1 hc2
         have HT1 := Lib.hid (all_snoc (f := isEl G.q.m G.size) htm HAI.out.1)
         have HT2 := Lib.hid (all_snoc (f := isEl G.q.m G.size) hti HAI.out.2)
         have HT3 := Lib.hid (all_not (f := isEl G.q.m G.size) htm)
         have HT4 := Lib.hid (all_not (f := isEl G.q.m G.size) hti)
         generalize bs[t] = x at *
         generalize ims[t] = y at *
         obtain ⟨q1, hq1⟩ : ∃ q, isEl G.q.m G.size x = q := ⟨_, rfl⟩
         obtain ⟨q2, hq2⟩ : ∃ q, isEl G.q.m G.size y = q := ⟨_, rfl⟩
         have HQ1 := Lib.hid hq1
         have HQ2 := Lib.hid hq2
         clear hq1 hq2
         cases q1
         ·have HW := Lib.hid (HNO2.out (by rw [HT3.out HQ1.out]; rfl))
          obtain rfl : z = 7 := by rw [HZE.out, if_neg (by rw [HW.out]; decide)]
          go_wp2_with fail
          have HT := Lib.hid (show Below wr.heap.size wr wr.drew from (Below.refl _ _).drew)
          have hl_bg := Hbg.out.lt
          have hl_bc := Hbc.out.lt
          refine wp_region_tree (fun wq9 => ∃ E : Over wr, wq9 = E.w) ((.qs [0, 1, 2, 3, 4, 5] (.a 6 (.qs [7, 8, 9, 10, 11, 12, 13, 14] (.a 15 (.qs [16, 17] .done)))))) (by kernel_rfl) (by kernel_rfl) (fun _ _ d _ _ h => by cases d <;> exact h) ⟨⟨_, HT.out⟩, rfl⟩ ?_
          have hov_bg := fun (E : Over wr) o => E.cell (b := w.heap.size) o hl_bg
          have hov_bc := fun (E : Over wr) o => E.cell (b := wo3.heap.size) o hl_bc
          have hov_b1 := fun (E : Over wr) o => E.cell (b := b1) o hb1
          have hov_b2 := fun (E : Over wr) o => E.cell (b := b2) o hb2
          simp only [Tree.qs]
          repeat (refine tree_q rfl rfl ?_; go_big_quiet_step (fail); refine wpQuiet_nil ?_)
          refine tree_a rfl (fun K hK => ?_)
          go_simp
          refine (rIsEl_b OK.out x false HQ1.out _ (HG.out.up (below_up HB.out HT.out))).mono ?_
          rintro e w3 ⟨rfl, hb9⟩
          replace HT := Lib.hid (below_up HT.out hb9)
          replace HZS := sz HZS (show wr.heap.size ≤ w3.heap.size from HT.out.size)
          clear hb9
          refine hK _ _ ⟨⟨⟨w3, HT.out⟩, rfl⟩, ?_⟩
          clear hK K
          repeat (refine tree_q rfl rfl ?_; go_big_quiet_step (fail); refine wpQuiet_nil ?_)
          refine tree_a rfl (fun K hK => ?_)
          go_simp
          refine hK _ _ ⟨⟨⟨_, HT.out⟩, rfl⟩, ?_⟩
          clear hK K
          repeat (refine tree_q rfl rfl ?_; go_big_quiet_step (fail); refine wpQuiet_nil ?_)
          refine tree_end ?_
          clear hov_bg hl_bg hov_bc hl_bc hov_b1 hov_b2 bg_
          replace Hbg := Lib.hid (Hbg.out.up HT.out)
          clear bc_
          replace Hbc := Lib.hid (Hbc.out.up HT.out)
          replace BL := hbu BL HT.out
          replace BM := hbu BM HT.out
          replace BN := hbu BN HT.out
          replace BR := hbu BR HT.out
          replace BI := hbu BI HT.out
          replace HB := hbu HB HT.out
          replace HZS := sz HZS HT.out.size
          clear HT
          have bg_ := Hbg.out.c3
          have bc_ := Hbc.out.c2
          go_wp2_with fail
          go_ret
          exact ⟨rfl, HB.out⟩
         ·go_wp2_with fail
          have HT := Lib.hid (show Below wr.heap.size wr wr.drew from (Below.refl _ _).drew)
          have hl_bg := Hbg.out.lt
          have hl_bc := Hbc.out.lt
          refine wp_region_tree (fun wq9 => ∃ E : Over wr, wq9 = E.w) ((.qs [0, 1, 2, 3, 4, 5] (.a 6 (.qs [7, 8, 9, 10, 11, 12, 13, 14] (.a 15 (.qs [16, 17] .done)))))) (by kernel_rfl) (by kernel_rfl) (fun _ _ d _ _ h => by cases d <;> exact h) ⟨⟨_, HT.out⟩, rfl⟩ ?_
          have hov_bg := fun (E : Over wr) o => E.cell (b := w.heap.size) o hl_bg
          have hov_bc := fun (E : Over wr) o => E.cell (b := wo3.heap.size) o hl_bc
          have hov_b1 := fun (E : Over wr) o => E.cell (b := b1) o hb1
          have hov_b2 := fun (E : Over wr) o => E.cell (b := b2) o hb2
          simp only [Tree.qs]
          repeat (refine tree_q rfl rfl ?_; go_big_quiet_step (fail); refine wpQuiet_nil ?_)
          refine tree_a rfl (fun K hK => ?_)
          go_simp
          refine (rIsEl_b OK.out x true HQ1.out _ (HG.out.up (below_up HB.out HT.out))).mono ?_
          rintro e w3 ⟨rfl, hb9⟩
          replace HT := Lib.hid (below_up HT.out hb9)
          replace HZS := sz HZS (show wr.heap.size ≤ w3.heap.size from HT.out.size)
          clear hb9
          refine hK _ _ ⟨⟨⟨w3, HT.out⟩, rfl⟩, ?_⟩
          clear hK K
          repeat (refine tree_q rfl rfl ?_; go_big_quiet_step (fail); refine wpQuiet_nil ?_)
          refine tree_a rfl (fun K hK => ?_)
          go_simp
          refine (rIsEl_b OK.out y q2 HQ2.out _ (HG.out.up (below_up HB.out HT.out))).mono ?_
          rintro e w4 ⟨rfl, hb9⟩
          replace HT := Lib.hid (below_up HT.out hb9)
          replace HZS := sz HZS (show wr.heap.size ≤ w4.heap.size from HT.out.size)
          clear hb9
          refine hK _ _ ⟨⟨⟨w4, HT.out⟩, rfl⟩, ?_⟩
          clear hK K
          repeat (refine tree_q rfl rfl ?_; go_big_quiet_step (fail); refine wpQuiet_nil ?_)
          refine tree_end ?_
          clear hov_bg hl_bg hov_bc hl_bc hov_b1 hov_b2 bg_
          replace Hbg := Lib.hid (Hbg.out.up HT.out)
          clear bc_
          replace Hbc := Lib.hid (Hbc.out.up HT.out)
          replace BL := hbu BL HT.out
          replace BM := hbu BM HT.out
          replace BN := hbu BN HT.out
          replace BR := hbu BR HT.out
          replace BI := hbu BI HT.out
          replace HB := hbu HB HT.out
          replace HZS := sz HZS HT.out.size
          clear HT
          have bg_ := Hbg.out.c3
          have bc_ := Hbc.out.c2
          cases q2
          ·have HW := Lib.hid (HNO2.out (by rw [HT4.out HQ2.out, Bool.and_false]))
           obtain rfl : z = 7 := by rw [HZE.out, if_neg (by rw [HW.out]; decide)]
           go_wp2_with fail
           go_ret
           exact ⟨rfl, HB.out⟩
          ·go_wp2_with fail
           go_roundw
           case rel => exact ⟨t + 1, by omega, by go_num, BI, ⟨HT1.out HQ1.out, HT2.out HQ2.out⟩⟩
           case measure => simp [intOf]; omega
        ·have htm' : t = bs.length := by omega
         have HHT := Lib.hid (HSN2.out (all_take_true (by rw [← htm']; exact HAI.out.1)) (all_take_true (by rw [HLEN.out, ← htm']; exact HAI.out.2)))
         go_wp2_with fail
         go_roundw
         case rel => exact ⟨j + 1, by omega, by go_num, BN, HHT⟩
         case measure => simp [intOf]; omega
      ·have hjn' : j = n := by omega
       subst hjn'
       obtain rfl : z = 0 := by rw [HZE.out, if_pos (all_take_true (by rw [HN.out]; exact HAL.out))]
       go_wp2_with fail
       go_ret
       exact ⟨rfl, HB.out⟩
end
end Go.Proofs.YtdlnnkbigeiilaaGreat
namespace Go.Proofs.YtdlnnkbigeiilaaGreat
open Go.RowKit
def rhold2 (G : GP) (x : ByteArray) (b m : ByteArray) : Bool := decide (textS (lowN G (numOf b ^ numOf x)) G.size = m)
def rhold1 (G : GP) (k : ClaimA) (x : ByteArray) : Bool := (List.zipWith (rhold2 G x) k.bases k.images).all id
def rholdP (G : GP) (l : List ClaimA) (xs : List ByteArray) : Bool := (List.zipWith (rhold1 G) l xs).all id
structure RSh (G : GP) (l : List ClaimA) (xs : List ByteArray) : Prop where
 n64 : l.length ≤ 64
 len : ∀ c ∈ l, c.bases.length ≤ 8 ∧ c.images.length = c.bases.length
 bs : ∀ c ∈ l, ∀ s ∈ c.bases, s.size ≤ 32
 ims : ∀ c ∈ l, ∀ s ∈ c.images, s.size ≤ 32
 xl : xs.length = l.length
 xs : ∀ s ∈ xs, s.size ≤ 32
section
variable {G : GP} {aq ap : Option Addr} {cq cp : Nat}
theorem rHold (ok : G.Ok) (l : List ClaimA) (xs : List ByteArray) (sh : RSh G l xs) (n : Nat) (hn : l.length = n) (b : Bool) (hb : rholdP G l xs = b) (al ax : Option Addr) (cl cx : Nat) (w : World) (hG : RG w G aq ap) (hC : ClaimsAt w al l) (hX : Sl w w.heap.size ax (xs.map Value.string)) :
  Calls Tryz.prog 71 #[.agg #[.int .i64 (G.size : Int), .slice aq (dl G.q.m) cq, .slice ap (dl G.p.m) cp], .slice al n cl, .slice ax n cx] w (Gives (.bool b) w) := by
 have OK := Lib.hid ok
 have HG := Lib.hid hG
 have HC := Lib.hid hC
 have HX := Lib.hid hX
 have HN := Lib.hid hn
 have HBB := Lib.hid hb
 have HSH := Lib.hid sh
 have HXN := Lib.hid (show xs.length = n by rw [sh.xl, hn])
 have hn64 : n ≤ 64 := by rw [← hn]; exact sh.n64
 clear ok hG hC hX hn hb sh
 unfold Gives
 go_enter Tryz.func71, Tryz.ntmps71
 go_wp2_with fail
 obtain ⟨w1, hq1, hb9, hz9, Hbg⟩ := new1 w 86 [.int .i64 (G.size : Int), .slice aq (dl G.q.m) cq, .slice ap (dl G.p.m) cp]
 rw [hq1]
 clear hq1
 have HB := Lib.hid hb9
 have HZS := hz9
 clear hb9 hz9
 have bg_ := Hbg.out.c3
 have BL := Lib.hid (Below.refl w1.heap.size w1)
 go_wp2_with fail
 go_loopw [12] (fun i wr => ∃ j : Nat, j ≤ n ∧ i = .int .i64 j ∧ Hid (Below w1.heap.size w1 wr) ∧ Hid (((List.zipWith (rhold1 G) l xs).take j).all id = true)) (fun i _ => n - (intOf i).toNat)
 case atStart => exact ⟨0, Nat.zero_le _, rfl, BL, rfl⟩
 case round =>
  obtain ⟨j, hj, rfl, HL9, HAL⟩ := hrel
  have hb9 := HL9.out
  clear HL9 bg_
  replace Hbg := Lib.hid (Hbg.out.up hb9)
  replace BL := hbu BL hb9
  replace HB := hbu HB hb9
  replace HZS := sz HZS hb9.size
  clear hb9
  have bg_ := Hbg.out.c3
  by_cases hjn : j < n
  ·have hjl : j < l.length := by rw [HN.out]; exact hjn
   have hjx : j < xs.length := by rw [HXN.out]; exact hjn
   obtain ⟨bl, ol, rfl, hbl0, hc⟩ := (HC.out.s.up HB.out).elem ClaimA.cells_len (by omega) j hjl
   have hc_0 := hc 0 _ rfl
   rw [Nat.add_zero] at hc_0
   have hc_1 := hc 1 _ rfl
   clear hc
   obtain ⟨bx, ox, rfl, hbx, hcx⟩ := (HX.out.up HB.out).at j (by simpa using hjx)
   rw [List.getElem_map] at hcx
   have HAT := Lib.hid ((HC.out.up HB.out).one j hjl)
   have HSJ := Lib.hid (HSH.out.len _ (List.getElem_mem hjl))
   have HBJ := Lib.hid (HSH.out.bs _ (List.getElem_mem hjl))
   have HXJ := Lib.hid (HSH.out.xs _ (List.getElem_mem hjx))
   have HSN := Lib.hid (zalls_snoc (f := rhold1 G) hjl hjx HAL.out)
   have HNO := Lib.hid (zalls_not (f := rhold1 G) hjl hjx)
   generalize l[j] = c at *
   generalize xs[j] = x at *
   have HAB := Lib.hid HAT.out.b
   have HAJ := Lib.hid HAT.out.i
   have HSN2 := Lib.hid (show (List.zipWith (rhold2 G x) c.bases c.images).all id = true → _ from HSN.out)
   have HNO2 := Lib.hid (show (List.zipWith (rhold2 G x) c.bases c.images).all id = false → _ from HNO.out)
   clear HAT HSN HNO
   generalize c.bases = bs at *
   generalize c.images = ims at *
   generalize c.ab = ab at *
   generalize c.ai = ai at *
   generalize c.cb = cb at *
   generalize c.ci = ci at *
   have hm8 := HSJ.out.1
   have HCX := Lib.hid hcx
   clear hcx
   have BR := Lib.hid (Below.refl wr.heap.size wr)
   have o2_bg_ := bg_; clear bg_
   obtain ⟨w2, hq2, hb9, hz9, Hbc⟩ := new1 wr 50 [.slice ab bs.length cb, .slice ai ims.length ci]
   replace Hbg := Lib.hid (Hbg.out.up hb9)
   replace BL := hbu BL hb9
   replace BR := hbu BR hb9
   replace HB := hbu HB hb9
   replace HZS := sz HZS hz9.out
   clear hb9 hz9
   have bg_ := Hbg.out.c3
   have bc_ := Hbc.out.c2
   obtain ⟨wo, rfl⟩ : ∃ wo : World, wo = wr := ⟨_, rfl⟩
   have BI := Lib.hid (Below.refl w2.heap.size w2)
   go_wp2_with fail
   clear hq2 o2_bg_
   go_loopw [9] (fun i wr => ∃ t : Nat, t ≤ bs.length ∧ i = .int .i64 t ∧ Hid (Below w2.heap.size w2 wr) ∧ Hid (((List.zipWith (rhold2 G x) bs ims).take t).all id = true)) (fun i _ => bs.length - (intOf i).toNat)
   case atStart => exact ⟨0, Nat.zero_le _, rfl, BI, rfl⟩
   case round =>
    obtain ⟨t, ht, rfl, HL9, HAI⟩ := hrel
    have hb9 := HL9.out
    clear HL9 bg_
    replace Hbg := Lib.hid (Hbg.out.up hb9)
    clear bc_
    replace Hbc := Lib.hid (Hbc.out.up hb9)
    replace BL := hbu BL hb9
    replace BR := hbu BR hb9
    replace BI := hbu BI hb9
    replace HB := hbu HB hb9
    replace HZS := sz HZS hb9.size
    clear hb9
    have bg_ := Hbg.out.c3
    have bc_ := Hbc.out.c2
    by_cases htm : t < bs.length
    ·have hti : t < ims.length := by rw [HSJ.out.2]; exact htm
     obtain ⟨b1, o1, rfl, hb1, hc1⟩ := (HAB.out.up BR.out).at t (by simpa using htm)
     obtain ⟨b2, o2, rfl, hb2, hc2⟩ := (HAJ.out.up BR.out).at t (by simpa using hti)
     rw [List.getElem_map] at hc1 hc2
     have HTN := Lib.hid (zalls_snoc (f := rhold2 G x) htm hti HAI.out)
     have HTO := Lib.hid (zalls_not (f := rhold2 G x) htm hti)
     have HBT := Lib.hid (HBJ.out _ (List.getElem_mem htm))
     have hcx := (BR.out.cell (p := ⟨bx, ox + j, none⟩) hbx).trans HCX.out
     have hbx' := Nat.lt_of_lt_of_le hbx BR.out.size
     generalize bs[t] = y at *
     generalize ims[t] = m at *
     obtain ⟨q, hq⟩ : ∃ q, rhold2 G x y m = q := ⟨_, rfl⟩
     have hqe : ((textS (lowN G (numOf y ^ numOf x)) G.size).toList == m.toList) = q := by
      rw [← hq]
      unfold rhold2
      by_cases h : textS (lowN G (numOf y ^ numOf x)) G.size = m
      ·rw [decide_eq_true h, h]; simp
      ·rw [decide_eq_false h, toList_bne h]
     have HQ := Lib.hid hq
     clear hq
     go_wp2_with fail
     have HT := Lib.hid (show Below wr.heap.size wr wr.drew from (Below.refl _ _).drew)
     have hl_bg := Hbg.out.lt
     have hl_bc := Hbc.out.lt
     refine wp_region_tree (fun wq9 => ∃ E : Over wr, wq9 = E.w) ((.qs [0, 1, 2, 3, 4, 5, 6, 7, 8, 9, 12, 13, 15, 16, 17, 18, 19] (.a 10 (.a 11 (.a 14 (.qs [20] .done)))))) (by kernel_rfl) (by kernel_rfl) (fun _ _ d _ _ h => by cases d <;> exact h) ⟨⟨_, HT.out⟩, rfl⟩ ?_
     have hov_bg := fun (E : Over wr) o => E.cell (b := w.heap.size) o hl_bg
     have hov_bc := fun (E : Over wr) o => E.cell (b := wo.heap.size) o hl_bc
     have hov_b1 := fun (E : Over wr) o => E.cell (b := b1) o hb1
     have hov_b2 := fun (E : Over wr) o => E.cell (b := b2) o hb2
     have hov_bx := fun (E : Over wr) o => E.cell (b := bx) o hbx'
     simp only [Tree.qs]
     repeat (refine tree_q rfl rfl ?_; go_big_quiet_step (fail); refine wpQuiet_nil ?_)
     refine tree_a rfl (fun K hK => ?_)
     go_simp
     refine (refRead_any x (Nat.le_trans HXJ.out (by decide)) _).mono ?_
     rintro e w3 ⟨a5, c5, rfl, hn9, hb9⟩
     replace HT := Lib.hid (below_up HT.out hb9)
     replace HZS := sz HZS (show wr.heap.size ≤ w3.heap.size from HT.out.size)
     clear hb9
     have HN5 := Lib.hid hn9
     clear hn9
     refine hK _ _ ⟨⟨⟨w3, HT.out⟩, rfl⟩, ?_⟩
     clear hK K
     repeat (refine tree_q rfl rfl ?_; go_big_quiet_step (fail); refine wpQuiet_nil ?_)
     refine tree_a rfl (fun K hK => ?_)
     go_simp
     refine (rPower5 OK.out y HBT.out (Nat.le_trans (dl_of_lt _ 16 (numOf_16 x HXJ.out)) (by decide)) _ (HG.out.up (below_up HB.out HT.out)) HN5.out).mono ?_
     rintro e w4 ⟨a6, c6, rfl, hn9, hb9⟩
     replace HN5 := Lib.hid (HN5.out.up hb9)
     replace HT := Lib.hid (below_up HT.out hb9)
     replace HZS := sz HZS (show wr.heap.size ≤ w4.heap.size from HT.out.size)
     clear hb9
     have HN6 := Lib.hid hn9
     clear hn9
     refine hK _ _ ⟨⟨⟨w4, HT.out⟩, rfl⟩, ?_⟩
     clear hK K
     repeat (refine tree_q rfl rfl ?_; go_big_quiet_step (fail); refine wpQuiet_nil ?_)
     refine tree_a rfl (fun K hK => ?_)
     go_simp
     refine (rText2 OK.out _ HN6.out).mono ?_
     rintro e w5 ⟨rfl, hb9⟩
     replace HN5 := Lib.hid (HN5.out.up hb9)
     replace HN6 := Lib.hid (HN6.out.up hb9)
     replace HT := Lib.hid (below_up HT.out hb9)
     replace HZS := sz HZS (show wr.heap.size ≤ w5.heap.size from HT.out.size)
     clear hb9
     refine hK _ _ ⟨⟨⟨w5, HT.out⟩, rfl⟩, ?_⟩
     clear hK K
     repeat (refine tree_q rfl rfl ?_; go_big_quiet_step (fail); refine wpQuiet_nil ?_)
     refine tree_end ?_
     clear hov_bg hl_bg hov_bc hl_bc hov_b1 hov_b2 hov_bx bg_
     replace Hbg := Lib.hid (Hbg.out.up HT.out)
     clear bc_
     replace Hbc := Lib.hid (Hbc.out.up HT.out)
     replace BL := hbu BL HT.out
     replace BR := hbu BR HT.out
     replace BI := hbu BI HT.out
     replace HB := hbu HB HT.out
     replace HZS := sz HZS HT.out.size
     clear HT
     have bg_ := Hbg.out.c3
     have bc_ := Hbc.out.c2
     cases q
     ·obtain rfl : b = false := by rw [← HBB.out]; exact HNO2.out (HTO.out HQ.out)
      go_wp2_with fail
      go_ret
      exact ⟨rfl, HB.out⟩
     ·go_wp2_with fail
      go_roundw
      case rel => exact ⟨t + 1, by omega, by go_num, BI, HTN.out HQ.out⟩
      case measure => simp [intOf]; omega
    ·have htm' : t = bs.length := by omega
     have HHT := Lib.hid (HSN2.out (zalls_end htm'.symm HAI.out))
     go_wp2_with fail
     go_roundw
     case rel => exact ⟨j + 1, by omega, by go_num, BL, HHT⟩
     case measure => simp [intOf]; omega
  ·have hjn' : j = n := by omega
   subst hjn'
   obtain rfl : b = true := by rw [← HBB.out]; exact zalls_end HN.out HAL.out
   go_wp2_with fail
   go_ret
   exact ⟨rfl, HB.out⟩
end
end Go.Proofs.YtdlnnkbigeiilaaGreat
namespace Go.Proofs.YtdlnnkbigeiilaaGreat
open Go.RowKit
def RowsOff (v : Value) (N : Nat) (w : World) (ro : List RowA) : Prop := ∀ r ∈ ro, RowA.At w r ∧ (∀ x, r.a = some x → N ≤ x.block ∧ x.block < w.heap.size ∧ v.ownBlock ≠ some x.block) ∧ r.Ok
theorem RowsOff.up {v : Value} {N : Nat} {w w1 : World} {ro : List RowA} (h : RowsOff v N w ro) (hb : Below w.heap.size w w1) : RowsOff v N w1 ro := fun r hr =>
 let ⟨h1, h2, h3⟩ := h r hr
 ⟨RowA.At.up h1 hb, fun x hx => ⟨(h2 x hx).1, Nat.lt_of_lt_of_le (h2 x hx).2.1 hb.size, (h2 x hx).2.2⟩, h3⟩
theorem RowsOff.push {v : Value} {N g n c : Nat} {w w1 : World} {ro : List RowA} {r : RowA} (h : RowsOff v N w ro) (hr : RowsOff v N w [r]) (hk : Kept (fun q => Value.ownBlock v = some q) w w1) (hf : Value.ownBlock v = some g ∨ w.heap.size ≤ g) : RowsOff (.slice (some ⟨g, 0, none⟩) n c) N w1 (ro ++ [r]) := fun s hs => by
 obtain ⟨h1, h2, h3⟩ : RowA.At w s ∧ (∀ x, s.a = some x → N ≤ x.block ∧ x.block < w.heap.size ∧ v.ownBlock ≠ some x.block) ∧ s.Ok := by
  rcases List.mem_append.1 hs with h9 | h9
  ·exact h s h9
  ·exact hr s h9
 refine ⟨Sl.kept h1 hk (fun x hx e => (h2 x hx).2.2 e), fun x hx => ⟨(h2 x hx).1, Nat.lt_of_lt_of_le (h2 x hx).2.1 hk.size, ?_⟩, h3⟩
 intro e
 have e9 : g = x.block := Option.some.inj e
 rcases hf with hf | hf
 ·exact (h2 x hx).2.2 (by rw [hf, e9])
 ·have := (h2 x hx).2.1
  omega
theorem RowsOff.one {v : Value} {N M t c k : Nat} {w : World} {g : Option Addr} {L : List ByteArray} (h : RowO M w 9 1 (.slice g t c) t (L.map Value.string)) (hN : N ≤ M) (hv : ∀ q, v.ownBlock = some q → q < M) (_hk : L.length = k) : RowsOff v N w [⟨g, c, L⟩] := fun s hs => by
 obtain rfl := List.mem_singleton.1 hs
 refine ⟨h.sl, fun x hx => ?_, RowO.rowOk h⟩
 have hx : g = some x := hx
 obtain ⟨b, e⟩ : ∃ b, g = some ⟨b, 0, none⟩ := by
  rcases h.2 with ⟨hv, _⟩ | ⟨g0, cap, cur, hv, _⟩
  ·simp only [Value.slice.injEq] at hv
   rw [hv.1] at hx
   cases hx
  ·simp only [Value.slice.injEq] at hv
   exact ⟨g0, hv.1⟩
 subst e
 cases hx
 have h9 := h.lt b rfl
 refine ⟨Nat.le_trans hN h9.1, h9.2, fun e => ?_⟩
 have := hv _ e
 have h8 : M ≤ b := h9.1
 have : b < M := this
 omega
def rvalB (G : GP) (y : Nat) (l : List ClaimA) (xs : List ByteArray) (i t : Nat) : Nat := lowN G (numOf ((l.getD i claim0).bases.getD t ⟨#[]⟩) ^ numOf (xs.getD i ⟨#[]⟩)) * lowN G (numOf ((l.getD i claim0).images.getD t ⟨#[]⟩) ^ y)
theorem rvalB_eq (G : GP) (y : Nat) {l : List ClaimA} {xs : List ByteArray} {i t : Nat} (hi : i < l.length) (hx : i < xs.length) (ht : t < l[i].bases.length) (hti : t < l[i].images.length) : rvalB G y l xs i t = lowN G (numOf l[i].bases[t] ^ numOf xs[i]) * lowN G (numOf l[i].images[t] ^ y) := by
 unfold rvalB
 simp [List.getD, hi, hx, ht, hti]
section
variable {G : GP} {aq ap : Option Addr} {cq cp : Nat}
theorem rOf0 (w : World) : Calls Tryz.prog 57 #[.int .i64 0] w fun e w' => NumR w e w' 0 := refOf_any 0 (by decide) w
theorem rBackOf (ok : G.Ok) (ch : ByteArray) (y : Nat) (hy : subQ G 0 (numOf ch) = y) (hcs : ch.size ≤ 32) (hcq : numOf ch ≤ G.q.m) (l : List ClaimA) (xs : List ByteArray) (sh : RSh G l xs) (n : Nat) (hn : l.length = n) (al ax : Option Addr) (cl cx : Nat) (w : World) (hG : RG w G aq ap) (hC : ClaimsAt w al l) (hX : Sl w w.heap.size ax (xs.map Value.string)) :
  Calls Tryz.prog 62 #[.agg #[.int .i64 (G.size : Int), .slice aq (dl G.q.m) cq, .slice ap (dl G.p.m) cp], .slice al n cl, .string ch, .slice ax n cx] w (RowsR (eachA G (rvalB G y l xs) (lens l) n) w) := by
 have OK := Lib.hid ok
 have HG := Lib.hid hG
 have HC := Lib.hid hC
 have HX := Lib.hid hX
 have HN := Lib.hid hn
 have HSH := Lib.hid sh
 have HCS := Lib.hid hcs
 have HCQ := Lib.hid hcq
 have HYE := Lib.hid hy
 have HXN := Lib.hid (show xs.length = n by rw [sh.xl, hn])
 have hn64 : n ≤ 64 := by rw [← hn]; exact sh.n64
 have HLG := Lib.hid (show ∀ i (hi : i < l.length), (lens l).getD i 0 = l[i].bases.length from fun i hi => by unfold lens; simp [List.getD, hi])
 clear ok hG hC hX hn sh hcs hcq hy
 go_enter Tryz.func62, Tryz.ntmps62
 go_wp2_with fail
 obtain ⟨w1, hq1, hb9, hz9, Hbg⟩ := new1 w 86 [.int .i64 (G.size : Int), .slice aq (dl G.q.m) cq, .slice ap (dl G.p.m) cp]
 rw [hq1]
 clear hq1
 have HB := Lib.hid hb9
 have HZS := hz9
 clear hb9 hz9
 have bg_ := Hbg.out.c3
 go_wp2_with fail
 have HT := Lib.hid (show Below w1.heap.size w1 w1.drew from (Below.refl _ _).drew)
 have hl_bg := Hbg.out.lt
 refine wp_region_tree (fun wq9 => ∃ E : Over w1, wq9 = E.w) ((.qs [0, 2] (.a 1 (.a 3 (.a 4 (.qs [5] .done)))))) (by kernel_rfl) (by kernel_rfl) (fun _ _ d _ _ h => by cases d <;> exact h) ⟨⟨_, HT.out⟩, rfl⟩ ?_
 have hov_bg := fun (E : Over w1) o => E.cell (b := w.heap.size) o hl_bg
 simp only [Tree.qs]
 repeat (refine tree_q rfl rfl ?_; go_big_quiet_step (fail); refine wpQuiet_nil ?_)
 refine tree_a rfl (fun K hK => ?_)
 go_simp
 refine (rOf0 _).mono ?_
 rintro e w2 ⟨a1, c1, rfl, hn9, hb9⟩
 replace HT := Lib.hid (below_up HT.out hb9)
 replace HZS := sz HZS (show w1.heap.size ≤ w2.heap.size from HT.out.size)
 clear hb9
 have HN1 := Lib.hid hn9
 clear hn9
 refine hK _ _ ⟨⟨⟨w2, HT.out⟩, rfl⟩, ?_⟩
 clear hK K
 repeat (refine tree_q rfl rfl ?_; go_big_quiet_step (fail); refine wpQuiet_nil ?_)
 refine tree_a rfl (fun K hK => ?_)
 go_simp
 refine (refRead_any ch (Nat.le_trans HCS.out (by decide)) _).mono ?_
 rintro e w3 ⟨a2, c2, rfl, hn9, hb9⟩
 replace HN1 := Lib.hid (HN1.out.up hb9)
 replace HT := Lib.hid (below_up HT.out hb9)
 replace HZS := sz HZS (show w1.heap.size ≤ w3.heap.size from HT.out.size)
 clear hb9
 have HN2 := Lib.hid hn9
 clear hn9
 refine hK _ _ ⟨⟨⟨w3, HT.out⟩, rfl⟩, ?_⟩
 clear hK K
 repeat (refine tree_q rfl rfl ?_; go_big_quiet_step (fail); refine wpQuiet_nil ?_)
 refine tree_a rfl (fun K hK => ?_)
 go_simp
 refine (rSubQ OK.out (show 0 < DD ^ 16 by decide) HCQ.out _ (HG.out.up (below_up HB.out HT.out)) HN1.out HN2.out).mono ?_
 rintro e w4 ⟨a3, c3, rfl, hn9, hb9⟩
 replace HN1 := Lib.hid (HN1.out.up hb9)
 replace HN2 := Lib.hid (HN2.out.up hb9)
 replace HT := Lib.hid (below_up HT.out hb9)
 replace HZS := sz HZS (show w1.heap.size ≤ w4.heap.size from HT.out.size)
 clear hb9
 have HN3 := Lib.hid hn9
 clear hn9
 refine hK _ _ ⟨⟨⟨w4, HT.out⟩, rfl⟩, ?_⟩
 clear hK K
 repeat (refine tree_q rfl rfl ?_; go_big_quiet_step (fail); refine wpQuiet_nil ?_)
 refine tree_end ?_
 clear hov_bg hl_bg bg_
 replace Hbg := Lib.hid (Hbg.out.up HT.out)
 replace HB := hbu HB HT.out
 replace HZS := sz HZS HT.out.size
 clear HT
 have bg_ := Hbg.out.c3
 have BL := Lib.hid (Below.refl w4.heap.size w4)
 have HY := HN3
 clear HN3
 have HYD := Lib.hid (Nat.le_trans (dl_of_lt _ 16 (q_16 OK.out (subQ_lt OK.out 0 (numOf ch)))) (by decide) : dl (subQ G 0 (numOf ch)) ≤ 65536)
 rw [HYE.out] at HY HYD ⊢
 clear HYE
 go_wp2_with fail
 go_loopw [22, 10] (fun i v wr => ∃ (j : Nat) (g : Option Addr) (c9 : Nat) (ro : List RowA), j ≤ n ∧ i = .int .i64 j ∧ v = .slice g j c9 ∧ Hid (ro.map RowA.l = eachA G (rvalB G y l xs) (lens l) j) ∧ Hid (Below w4.heap.size w4 wr) ∧ Hid (RowO w4.heap.size wr 23 1 (.slice g j c9) j (ro.flatMap RowA.cells)) ∧ Hid (RowsOff (.slice g j c9) w4.heap.size wr ro)) (fun i _ _ => n - (intOf i).toNat)
 case atStart => exact ⟨0, none, 0, [], Nat.zero_le _, rfl, rfl, rfl, BL, RowO.nil, fun _ h => by cases h⟩
 case round =>
  obtain ⟨j, g, c9, ro, hj, rfl, rfl, HRM, HL9, Hr, HRN⟩ := hrel
  have hb9 := HL9.out
  clear HL9 bg_
  replace Hbg := Lib.hid (Hbg.out.up hb9)
  replace HN1 := Lib.hid (HN1.out.up hb9)
  replace HN2 := Lib.hid (HN2.out.up hb9)
  replace BL := hbu BL hb9
  replace HB := hbu HB hb9
  replace HZS := sz HZS hb9.size
  clear hb9
  have bg_ := Hbg.out.c3
  by_cases hjn : j < n
  ·have hjl : j < l.length := by rw [HN.out]; exact hjn
   have hjx : j < xs.length := by rw [HXN.out]; exact hjn
   obtain ⟨bl, ol, rfl, hbl0, hc⟩ := (HC.out.s.up HB.out).elem ClaimA.cells_len (by omega) j hjl
   have hc_0 := hc 0 _ rfl
   rw [Nat.add_zero] at hc_0
   have hc_1 := hc 1 _ rfl
   clear hc
   obtain ⟨bx, ox, rfl, hbx, hcx⟩ := (HX.out.up HB.out).at j (by simpa using hjx)
   rw [List.getElem_map] at hcx
   have HAT := Lib.hid ((HC.out.up HB.out).one j hjl)
   have HSJ := Lib.hid (HSH.out.len _ (List.getElem_mem hjl))
   have HBJ := Lib.hid (HSH.out.bs _ (List.getElem_mem hjl))
   have HIJ := Lib.hid (HSH.out.ims _ (List.getElem_mem hjl))
   have HXJ := Lib.hid (HSH.out.xs _ (List.getElem_mem hjx))
   have HMM := Lib.hid (HLG.out j hjl)
   have HVE := Lib.hid (fun t (ht : t < l[j].bases.length) (hti : t < l[j].images.length) => rvalB_eq G y hjl hjx ht hti)
   generalize l[j] = c at *
   generalize xs[j] = x at *
   have HAB := Lib.hid HAT.out.b
   have HAJ := Lib.hid HAT.out.i
   clear HAT
   generalize c.bases = bs at *
   generalize c.images = ims at *
   generalize c.ab = ab at *
   generalize c.ai = ai at *
   generalize c.cb = cb at *
   generalize c.ci = ci at *
   have hm8 := HSJ.out.1
   have HCX := Lib.hid hcx
   clear hcx
   have BR := Lib.hid (Below.refl wr.heap.size wr)
   have o5_bg_ := bg_; clear bg_
   obtain ⟨w5, hq5, hb9, hz9, Hbc⟩ := new1 wr 50 [.slice ab bs.length cb, .slice ai ims.length ci]
   replace Hbg := Lib.hid (Hbg.out.up hb9)
   replace Hr := Lib.hid (Hr.out.up hb9)
   replace HN1 := Lib.hid (HN1.out.up hb9)
   replace HN2 := Lib.hid (HN2.out.up hb9)
   replace BL := hbu BL hb9
   replace BR := hbu BR hb9
   replace HB := hbu HB hb9
   replace HZS := sz HZS hz9.out
   clear hb9 hz9
   have bg_ := Hbg.out.c3
   have bc_ := Hbc.out.c2
   have hro := Hr.out.lt
   obtain ⟨wo, rfl⟩ : ∃ wo : World, wo = wr := ⟨_, rfl⟩
   have BI := Lib.hid (Below.refl w5.heap.size w5)
   go_wp2_with fail
   clear hq5 o5_bg_
   go_loopw [14, 13] (fun i v wr => ∃ (t : Nat) (g9 : Option Addr) (cz : Nat), t ≤ bs.length ∧ i = .int .i64 t ∧ v = .slice g9 t cz ∧ Hid (Below w5.heap.size w5 wr) ∧ Hid (RowO w5.heap.size wr 9 1 (.slice g9 t cz) t ((eachL G (rvalB G y l xs) j t).map Value.string))) (fun i _ _ => bs.length - (intOf i).toNat)
   case atStart => exact ⟨0, none, 0, Nat.zero_le _, rfl, rfl, BI, RowO.nil⟩
   case round =>
    obtain ⟨t, g9, cz, ht, rfl, rfl, HL9, Hq⟩ := hrel
    have hb9 := HL9.out
    clear HL9 bg_
    replace Hbg := Lib.hid (Hbg.out.up hb9)
    clear bc_
    replace Hbc := Lib.hid (Hbc.out.up hb9)
    replace Hr := Lib.hid (Hr.out.up hb9)
    replace HN1 := Lib.hid (HN1.out.up hb9)
    replace HN2 := Lib.hid (HN2.out.up hb9)
    replace BL := hbu BL hb9
    replace BR := hbu BR hb9
    replace BI := hbu BI hb9
    replace HB := hbu HB hb9
    replace HZS := sz HZS hb9.size
    clear hb9
    have bg_ := Hbg.out.c3
    have bc_ := Hbc.out.c2
    by_cases htm : t < bs.length
    ·have hti : t < ims.length := by rw [HSJ.out.2]; exact htm
     obtain ⟨b1, o1, rfl, hb10, hb1, hc1⟩ := HAB.out.atUp BR.out t (by simpa using htm)
     obtain ⟨b2, o2, rfl, hb20, hb2, hc2⟩ := HAJ.out.atUp BR.out t (by simpa using hti)
     have HB10 := Lib.hid hb10
     have HB20 := Lib.hid hb20
     have HBX0 := Lib.hid hbx
     replace HZS := sz HZS HB10.out
     replace HZS := sz HZS HB20.out
     replace HZS := sz HZS HBX0.out
     clear hb10 hb20
     rw [List.getElem_map] at hc1 hc2
     have HBT := Lib.hid (HBJ.out _ (List.getElem_mem htm))
     have HIT := Lib.hid (HIJ.out _ (List.getElem_mem hti))
     have HVT := Lib.hid (HVE.out t htm hti)
     have hcx := (BR.out.cell (p := ⟨bx, ox + j, none⟩) hbx).trans HCX.out
     have hbx' := Nat.lt_of_lt_of_le hbx BR.out.size
     generalize bs[t] = z at *
     generalize ims[t] = m at *
     clear hc_0 hc_1
     go_wp2_with fail
     have HT := Lib.hid (show Below wr.heap.size wr wr.drew from (Below.refl _ _).drew)
     have hl_bg := Hbg.out.lt
     have hl_bc := Hbc.out.lt
     refine wp_region_tree (fun wq9 => ∃ E : But wr (Value.ownBlock (.slice g9 t cz)), wq9 = E.w) ((.qs [0, 1, 2, 3, 4, 5, 6, 7, 8, 9, 10, 11, 14, 15, 16, 17, 18, 19, 20, 23, 24] (.a 12 (.a 13 (.a 21 (.a 22 (.a 25 (.a 26 (.a 27 (.qs [28] .done)))))))))) (by kernel_rfl) (by kernel_rfl) (fun _ _ d _ _ h => by cases d <;> exact h) ⟨⟨_, ((below_grown HT.out).but _)⟩, rfl⟩ ?_
     have hov_bg := fun (E : But wr (Value.ownBlock (.slice g9 t cz))) o => E.cell (b := w.heap.size) o hl_bg (by intro e9; have a1 := Hq.out.lt _ e9; have g0 := HZS.out; omega)
     have hov_bc := fun (E : But wr (Value.ownBlock (.slice g9 t cz))) o => E.cell (b := wo.heap.size) o hl_bc (by intro e9; have a1 := Hq.out.lt _ e9; have g0 := HZS.out; omega)
     have hov_b1 := fun (E : But wr (Value.ownBlock (.slice g9 t cz))) o => E.cell (b := b1) o hb1 (by intro e9; have a1 := Hq.out.lt _ e9; have g0 := HZS.out; omega)
     have hov_b2 := fun (E : But wr (Value.ownBlock (.slice g9 t cz))) o => E.cell (b := b2) o hb2 (by intro e9; have a1 := Hq.out.lt _ e9; have g0 := HZS.out; omega)
     have hov_bx := fun (E : But wr (Value.ownBlock (.slice g9 t cz))) o => E.cell (b := bx) o hbx' (by intro e9; have a1 := Hq.out.lt _ e9; have g0 := HZS.out; omega)
     simp only [Tree.qs]
     repeat (refine tree_q rfl rfl ?_; go_big_quiet_step (fail); refine wpQuiet_nil ?_)
     refine tree_a rfl (fun K hK => ?_)
     go_simp
     refine (refRead_any x (Nat.le_trans HXJ.out (by decide)) _).mono ?_
     rintro e w6 ⟨a5, c5, rfl, hn9, hb9⟩
     replace HT := Lib.hid (below_up HT.out hb9)
     replace HZS := sz HZS (show wr.heap.size ≤ w6.heap.size from HT.out.size)
     clear hb9
     have HN5 := Lib.hid hn9
     clear hn9
     refine hK _ _ ⟨⟨⟨w6, ((below_grown HT.out).but _)⟩, rfl⟩, ?_⟩
     clear hK K
     repeat (refine tree_q rfl rfl ?_; go_big_quiet_step (fail); refine wpQuiet_nil ?_)
     refine tree_a rfl (fun K hK => ?_)
     go_simp
     refine (rPower5 OK.out z HBT.out (Nat.le_trans (dl_of_lt _ 16 (numOf_16 x HXJ.out)) (by decide)) _ (HG.out.up (below_up HB.out HT.out)) HN5.out).mono ?_
     rintro e w7 ⟨a6, c6, rfl, hn9, hb9⟩
     replace HN5 := Lib.hid (HN5.out.up hb9)
     replace HT := Lib.hid (below_up HT.out hb9)
     replace HZS := sz HZS (show wr.heap.size ≤ w7.heap.size from HT.out.size)
     clear hb9
     have HN6 := Lib.hid hn9
     clear hn9
     refine hK _ _ ⟨⟨⟨w7, ((below_grown HT.out).but _)⟩, rfl⟩, ?_⟩
     clear hK K
     repeat (refine tree_q rfl rfl ?_; go_big_quiet_step (fail); refine wpQuiet_nil ?_)
     refine tree_a rfl (fun K hK => ?_)
     go_simp
     refine (rPower5 OK.out m HIT.out HYD.out _ (HG.out.up (below_up HB.out HT.out)) (HY.out.up (below_up BL.out HT.out))).mono ?_
     rintro e w8 ⟨a7, c7, rfl, hn9, hb9⟩
     replace HN5 := Lib.hid (HN5.out.up hb9)
     replace HN6 := Lib.hid (HN6.out.up hb9)
     replace HT := Lib.hid (below_up HT.out hb9)
     replace HZS := sz HZS (show wr.heap.size ≤ w8.heap.size from HT.out.size)
     clear hb9
     have HN7 := Lib.hid hn9
     clear hn9
     refine hK _ _ ⟨⟨⟨w8, ((below_grown HT.out).but _)⟩, rfl⟩, ?_⟩
     clear hK K
     repeat (refine tree_q rfl rfl ?_; go_big_quiet_step (fail); refine wpQuiet_nil ?_)
     refine tree_a rfl (fun K hK => ?_)
     go_simp
     refine (rProd OK.out (lowN_16 OK.out _) (lowN_16 OK.out _) _ (HG.out.up (below_up HB.out HT.out)) HN6.out HN7.out).mono ?_
     rintro e w9 ⟨a8, c8, rfl, hn9, hb9⟩
     replace HN5 := Lib.hid (HN5.out.up hb9)
     replace HN6 := Lib.hid (HN6.out.up hb9)
     replace HN7 := Lib.hid (HN7.out.up hb9)
     replace HT := Lib.hid (below_up HT.out hb9)
     replace HZS := sz HZS (show wr.heap.size ≤ w9.heap.size from HT.out.size)
     clear hb9
     have HN8 := Lib.hid hn9
     clear hn9
     refine hK _ _ ⟨⟨⟨w9, ((below_grown HT.out).but _)⟩, rfl⟩, ?_⟩
     clear hK K
     repeat (refine tree_q rfl rfl ?_; go_big_quiet_step (fail); refine wpQuiet_nil ?_)
     refine tree_a rfl (fun K hK => ?_)
     go_simp
     refine (rText2 OK.out _ HN8.out).mono ?_
     rintro e w10 ⟨rfl, hb9⟩
     replace HN5 := Lib.hid (HN5.out.up hb9)
     replace HN6 := Lib.hid (HN6.out.up hb9)
     replace HN7 := Lib.hid (HN7.out.up hb9)
     replace HN8 := Lib.hid (HN8.out.up hb9)
     replace HT := Lib.hid (below_up HT.out hb9)
     replace HZS := sz HZS (show wr.heap.size ≤ w10.heap.size from HT.out.size)
     clear hb9
     refine hK _ _ ⟨⟨⟨w10, ((below_grown HT.out).but _)⟩, rfl⟩, ?_⟩
     clear hK K
     repeat (refine tree_q rfl rfl ?_; go_big_quiet_step (fail); refine wpQuiet_nil ?_)
     clear hov_bg hl_bg hov_bc hl_bc hov_b1 hov_b2 hov_bx
     refine tree_a rfl (fun K hK => ?_)
     go_simp
     refine hK _ _ ⟨⟨⟨_, (below_grown (HT.out.alloc HT.out.size _)).but _⟩, rfl⟩, ?_⟩
     clear hK K
     obtain ⟨i9, hi9, hz90, hz91, hz92⟩ := info_parts infoStr
     have HG1 := Lib.hid ((below_grown HT.out).but (Value.ownBlock (.slice g9 t cz)))
     clear bg_
     replace Hbg := Lib.hid (Hbg.out.up HT.out)
     clear bc_
     replace Hbc := Lib.hid (Hbc.out.up HT.out)
     replace Hr := Lib.hid (Hr.out.up HT.out)
     replace Hq := Lib.hid (Hq.out.up HT.out)
     replace HN1 := Lib.hid (HN1.out.up HT.out)
     replace HN2 := Lib.hid (HN2.out.up HT.out)
     replace BL := hbu BL HT.out
     replace BR := hbu BR HT.out
     replace BI := hbu BI HT.out
     replace HB := hbu HB HT.out
     replace HZS := sz HZS HT.out.size
     refine tree_a rfl (fun K hK => ?_)
     refine step_pushR (w5.heap.size) w10 (by have g0 := HZS.out; omega) rfl _ _ 23 rfl 9 i9 _ 1 16 Tryz.underlying23 hi9 hz90 hz91 hz92 rfl (by omega) ((.slice g9 t cz)) (t) (((eachL G (rvalB G y l xs) j t).map Value.string)) rfl Hq.out _ _ _ rfl rfl rfl (by simp [Value.oneCell']) (by omega) (by unfold maxLen; omega) ?_
     intro g11 c11 w11 hown9 hg9
     have HGR := Lib.hid (HG1.out.trans hg9)
     have hb9 := Below.grown HB.out hg9 (by have g0 := HZS.out; omega) (fun q hq => Nat.le_trans (show w.heap.size ≤ w5.heap.size by have g0 := HZS.out; omega) (Hq.out.lt q hq).1)
     replace Hbg := Lib.hid (Hbg.out.grown hg9 (fun e9 => by have a1 := Hq.out.lt _ e9; have g0 := HZS.out; omega))
     replace Hbc := Lib.hid (Hbc.out.grown hg9 (fun e9 => by have a1 := Hq.out.lt _ e9; have g0 := HZS.out; omega))
     clear HN1 HN2 HN5 HN6 HN7 HN8
     replace BL := Lib.hid (Below.grown BL.out hg9 (by have g0 := HZS.out; omega) (fun q hq => Nat.le_trans (show w4.heap.size ≤ w5.heap.size by have g0 := HZS.out; omega) (Hq.out.lt q hq).1))
     replace BR := Lib.hid (Below.grown BR.out hg9 (by have g0 := HZS.out; omega) (fun q hq => Nat.le_trans (show wo.heap.size ≤ w5.heap.size by have g0 := HZS.out; omega) (Hq.out.lt q hq).1))
     replace BI := Lib.hid (Below.grown BI.out hg9 (by have g0 := HZS.out; omega) (fun q hq => Nat.le_trans (show w5.heap.size ≤ w5.heap.size by have g0 := HZS.out; omega) (Hq.out.lt q hq).1))
     replace HZS := sz HZS hg9.size
     clear Hq HB HT HG1
     have Hq := Lib.hid hown9
     have HB := Lib.hid hb9
     clear hb9 hown9 hg9 hi9 hz90 hz91 hz92
     refine hK _ _ ⟨⟨⟨w11, HGR.out⟩, rfl⟩, ?_⟩
     clear hK K HGR
     have bg_ := Hbg.out.c3
     have bc_ := Hbc.out.c2
     try simp only [Act.put, List.setIfInBounds_toArray, List.set_cons_succ, List.set_cons_zero]
     repeat (refine tree_q rfl rfl ?_; go_big_quiet_step (fail); refine wpQuiet_nil ?_)
     refine tree_end ?_
     go_wp2_with fail
     go_roundw
     case rel => exact ⟨t + 1, _, _, by omega, by go_num, rfl, BI, Hq.out.eq (by rw [eachL_snoc, HVT.out]) rfl⟩
     case measure => simp [intOf]; omega
    ·have htm' : t = bs.length := by omega
     subst htm'
     have HOFF := Lib.hid (HRN.out.up BR.out)
     have HONE := Lib.hid (RowsOff.one (v := .slice g j c9) (N := w4.heap.size) (k := bs.length) Hq.out (by have a1 := HZS.out; have a2 := HZS.out; omega) (fun q9 h9 => (hro q9 h9).2) (eachL_len G _ j _))
     go_upto_region 11 with fail
     clear bc_ Hbc
     have HKP := Lib.hid (Kept.refl (fun q9 => Value.ownBlock (.slice g j c9) = some q9) wr)
     obtain ⟨i9, hi9, hz90, hz91, hz92⟩ := info_parts infoStrs
     go_wp2_with (at_builtin; refine wpList_pushF (w4.heap.size) wr (by have g0 := HZS.out; omega) rfl _ _ 28 rfl 23 i9 _ 1 24 Tryz.underlying28 hi9 hz90 hz91 hz92 rfl (by omega) ((.slice g j c9)) (j) ((ro.flatMap RowA.cells)) rfl Hr.out _ _ _ rfl rfl rfl (by simp [Value.oneCell']) (by omega) (by unfold maxLen; omega) ?_)
     intro g6 c6 w6 hown9 hg9 hf9
     clear bg_
     have hb9 := Below.grown HB.out hg9 (by have g0 := HZS.out; omega) (fun q hq => Nat.le_trans (show w.heap.size ≤ w4.heap.size by have g0 := HZS.out; omega) (Hr.out.lt q hq).1)
     replace Hbg := Lib.hid (Hbg.out.grown hg9 (fun e9 => by have a1 := Hr.out.lt _ e9; have g0 := HZS.out; omega))
     clear HN1 HN2
     replace BL := Lib.hid (Below.grown BL.out hg9 (by have g0 := HZS.out; omega) (fun q hq => Nat.le_trans (show w4.heap.size ≤ w4.heap.size by have g0 := HZS.out; omega) (Hr.out.lt q hq).1))
     replace HKP := Lib.hid (Kept.grown HKP.out hg9 (fun q hq => Or.inr hq))
     replace HZS := sz HZS hg9.size
     clear Hr HB
     have Hr := Lib.hid hown9
     have HB := Lib.hid hb9
     clear hb9 hown9 hg9 hi9 hz90 hz91 hz92
     have bg_ := Hbg.out.c3
     have HRP := Lib.hid (fun (n9 c9 : Nat) => RowsOff.push (n := n9) (c := c9) HOFF.out HONE.out HKP.out hf9)
     go_wp2_with fail
     go_roundw
     case rel => exact ⟨j + 1, _, _, _, by omega, by go_num, rfl, Lib.hid (by rw [List.map_append, HRM.out, eachA_snoc, HMM.out]; rfl), BL, Hr.out.eq (by rw [List.flatMap_append]; simp [RowA.cells, eachL_len]) rfl, HRP.out _ _⟩
     case measure => simp [intOf]; omega
  ·have hjn' : j = n := by omega
   subst hjn'
   go_wp2_with fail
   go_ret
   exact ⟨HB.out, g, c9, ro, by rw [eachA_len]; rfl, HRM.out, ⟨Hr.out.sl, fun r hr => (HRN.out r hr).1⟩, fun r hr => (HRN.out r hr).2.2⟩
end
end Go.Proofs.YtdlnnkbigeiilaaGreat
namespace Go.Proofs.YtdlnnkbigeiilaaGreat
open Go.RowKit
theorem rsh_of {G : GP} (ok : G.Ok) {l : List ClaimA} {xs : List ByteArray} (h1 : wrongE G l = 0) (h2 : scE G l.length xs = 0) : RSh G l xs := by
 obtain ⟨hs, he⟩ := wrong_ok h1
 have hs := shape_ok hs
 have hx : xs.length = l.length ∧ xs.all (isSc G.q.m G.size) = true := by
  unfold scE at h2
  by_cases h : xs.length = l.length
  ·rw [if_pos h] at h2
   by_cases g : xs.all (isSc G.q.m G.size) = true
   ·exact ⟨h, g⟩
   ·rw [if_neg g] at h2; cases h2
  ·rw [if_neg h] at h2; cases h2
 have hc : ∀ c ∈ l, c.bases.all (isEl G.q.m G.size) = true ∧ c.images.all (isEl G.q.m G.size) = true := fun c hc => by
  have h9 : (c.bases.all (isEl G.q.m G.size) && c.images.all (isEl G.q.m G.size)) = true := List.all_eq_true.1 he c hc
  exact (Bool.and_eq_true _ _).mp h9
 exact ⟨hs.2.1, fun c h => (hs.2.2 c h).2, fun c h s g => el_len ok (List.all_eq_true.1 (hc c h).1 s g), fun c h s g => el_len ok (List.all_eq_true.1 (hc c h).2 s g), hx.1, fun s g => sc_len ok (List.all_eq_true.1 hx.2 s g)⟩
section
variable {G : GP} {aq ap : Option Addr} {cq cp : Nat}
theorem rWrongSc_e (ok : G.Ok) (n : Nat) (l : List ByteArray) (z : Nat) (hz : scE G n l = z) (al : Option Addr) (cl : Nat) (hlen : l.length ≤ 8796093022207) (w : World) (hG : RG w G aq ap) (hS : Sl w w.heap.size al (l.map Value.string)) :
  Calls Tryz.prog 59 #[.agg #[.int .i64 (G.size : Int), .slice aq (dl G.q.m) cq, .slice ap (dl G.p.m) cp], .int .i64 (n : Int), .slice al l.length cl] w (Gives (.int .i64 (z : Int)) w) := by
 subst hz
 exact rWrongSc ok n l al cl hlen w hG hS
theorem rWrongSc_n (ok : G.Ok) (n : Nat) (l : List ByteArray) (hn : l.length = n) (z : Nat) (hz : scE G n l = z) (al : Option Addr) (cl : Nat) (hlen : l.length ≤ 8796093022207) (w : World) (hG : RG w G aq ap) (hS : Sl w w.heap.size al (l.map Value.string)) :
  Calls Tryz.prog 59 #[.agg #[.int .i64 (G.size : Int), .slice aq (dl G.q.m) cq, .slice ap (dl G.p.m) cp], .int .i64 (n : Int), .slice al n cl] w (Gives (.int .i64 (z : Int)) w) := by
 have h := rWrongSc_e (aq := aq) (ap := ap) (cq := cq) (cp := cp) ok n l z hz al cl hlen w hG hS
 rwa [hn] at h
end
def zeroT (G : GP) : ByteArray := textS 0 G.size
theorem zeroT_size (G : GP) : (zeroT G).size = G.size := textS_size 0 G.size
theorem zeroT_num (G : GP) : numOf (zeroT G) = 0 := by unfold zeroT; rw [numOf_textS, Nat.zero_mod]
section
variable {G : GP} {aq ap : Option Addr} {cq cp : Nat}
theorem rText0 (ok : G.Ok) {an : Option Addr} {cn : Nat} (w : World) (hN : NumAt w an 0) :
  Calls Tryz.prog 49 #[.slice an (dl 0) cn, .int .i64 (G.size : Int)] w fun e w' => e = .returned (.string (zeroT G)) ∧ Below w.heap.size w w' := rText ok (by decide) w hN
theorem rFirstOf (ok : G.Ok) (y : Nat) (hy : subQ G 0 0 = y) (l : List ClaimA) (xs : List ByteArray) (sh : RSh G l xs) (n : Nat) (hn : l.length = n) (al ax : Option Addr) (cl cx : Nat) (w : World) (hG : RG w G aq ap) (hC : ClaimsAt w al l) (hX : Sl w w.heap.size ax (xs.map Value.string)) :
  Calls Tryz.prog 74 #[.agg #[.int .i64 (G.size : Int), .slice aq (dl G.q.m) cq, .slice ap (dl G.p.m) cp], .slice al n cl, .slice ax n cx] w (RowsR (eachA G (rvalB G y l xs) (lens l) n) w) := by
 have OK := Lib.hid ok
 have HG := Lib.hid hG
 have HC := Lib.hid hC
 have HX := Lib.hid hX
 have HN := Lib.hid hn
 have HSH := Lib.hid sh
 have HY := Lib.hid (show subQ G 0 (numOf (zeroT G)) = y by rw [zeroT_num, hy])
 have HZ1 := Lib.hid (show (zeroT G).size ≤ 32 by rw [zeroT_size]; exact ok.size_le)
 have HZ2 := Lib.hid (show numOf (zeroT G) ≤ G.q.m by rw [zeroT_num]; exact Nat.zero_le _)
 clear ok hG hC hX hn sh hy
 go_enter Tryz.func74, Tryz.ntmps74
 go_wp2_with fail
 obtain ⟨w1, hq1, hb9, hz9, Hbg⟩ := new1 w 86 [.int .i64 (G.size : Int), .slice aq (dl G.q.m) cq, .slice ap (dl G.p.m) cp]
 rw [hq1]
 clear hq1
 have HB := Lib.hid hb9
 have HZS := hz9
 clear hb9 hz9
 have bg_ := Hbg.out.c3
 go_wp2_with fail
 have HT := Lib.hid (show Below w1.heap.size w1 w1.drew from (Below.refl _ _).drew)
 have hl_bg := Hbg.out.lt
 refine wp_region_tree (fun wq9 => ∃ E : Over w1, wq9 = E.w) ((.qs [0, 1, 3, 4, 6] (.a 2 (.a 5 (.a 7 (.qs [8] .done)))))) (by kernel_rfl) (by kernel_rfl) (fun _ _ d _ _ h => by cases d <;> exact h) ⟨⟨_, HT.out⟩, rfl⟩ ?_
 have hov_bg := fun (E : Over w1) o => E.cell (b := w.heap.size) o hl_bg
 simp only [Tree.qs]
 repeat (refine tree_q rfl rfl ?_; go_big_quiet_step (fail); refine wpQuiet_nil ?_)
 refine tree_a rfl (fun K hK => ?_)
 go_simp
 refine (rOf0 _).mono ?_
 rintro e w2 ⟨a1, c1, rfl, hn9, hb9⟩
 replace HT := Lib.hid (below_up HT.out hb9)
 replace HZS := sz HZS (show w1.heap.size ≤ w2.heap.size from HT.out.size)
 clear hb9
 have HN1 := Lib.hid hn9
 clear hn9
 refine hK _ _ ⟨⟨⟨w2, HT.out⟩, rfl⟩, ?_⟩
 clear hK K
 repeat (refine tree_q rfl rfl ?_; go_big_quiet_step (fail); refine wpQuiet_nil ?_)
 refine tree_a rfl (fun K hK => ?_)
 go_simp
 refine (rText0 OK.out _ HN1.out).mono ?_
 rintro e w3 ⟨rfl, hb9⟩
 replace HN1 := Lib.hid (HN1.out.up hb9)
 replace HT := Lib.hid (below_up HT.out hb9)
 replace HZS := sz HZS (show w1.heap.size ≤ w3.heap.size from HT.out.size)
 clear hb9
 refine hK _ _ ⟨⟨⟨w3, HT.out⟩, rfl⟩, ?_⟩
 clear hK K
 repeat (refine tree_q rfl rfl ?_; go_big_quiet_step (fail); refine wpQuiet_nil ?_)
 refine tree_a rfl (fun K hK => ?_)
 go_simp
 refine (rBackOf OK.out (zeroT G) y HY.out HZ1.out HZ2.out l xs HSH.out n HN.out al ax cl cx _ (HG.out.up (below_up HB.out HT.out)) (HC.out.up (below_up HB.out HT.out)) (HX.out.up (below_up HB.out HT.out))).mono ?_
 rintro e w4 ⟨hb9, a9, c9, ro, rfl, hm9, hr9, hz9⟩
 replace HN1 := Lib.hid (HN1.out.up hb9)
 replace HT := Lib.hid (below_up HT.out hb9)
 replace HZS := sz HZS (show w1.heap.size ≤ w4.heap.size from HT.out.size)
 clear hb9
 have HMR := Lib.hid hm9
 clear hm9
 have HRR := Lib.hid hr9
 clear hr9
 have HZR := Lib.hid hz9
 clear hz9
 refine hK _ _ ⟨⟨⟨w4, HT.out⟩, rfl⟩, ?_⟩
 clear hK K
 repeat (refine tree_q rfl rfl ?_; go_big_quiet_step (fail); refine wpQuiet_nil ?_)
 refine tree_end ?_
 clear hov_bg hl_bg bg_
 replace Hbg := Lib.hid (Hbg.out.up HT.out)
 replace HB := hbu HB HT.out
 replace HZS := sz HZS HT.out.size
 clear HT
 have bg_ := Hbg.out.c3
 go_wp2_with fail
 go_ret
 exact ⟨HB.out, a9, c9, ro, rfl, HMR.out, HRR.out, HZR.out⟩
end
def rfirstK (k : Int) (l : List ClaimA) (xs : List ByteArray) : List (List ByteArray) := if openK k l xs = 0 then eachA (grp k.toNat) (rvalB (grp k.toNat) (subQ (grp k.toNat) 0 0) l xs) (lens l) l.length else []
end Go.Proofs.YtdlnnkbigeiilaaGreat
namespace Go.Proofs.YtdlnnkbigeiilaaGreat
open Go.RowKit
theorem isSc_lt' {G : GP} {s : ByteArray} (h : isSc G.q.m G.size s = true) : numOf s % G.q.m = numOf s ∧ numOf s < G.q.m := by
 unfold isSc at h
 simp only [Bool.and_eq_true, decide_eq_true_eq] at h
 exact ⟨Nat.mod_eq_of_lt h.2, h.2⟩
theorem T_eq {k : Nat} (h1 : 1 ≤ k) (h3 : k ≤ 3) {x y : Nat} : textS (lowN (grp k) x) (grp k).size = textS (lowN (grp k) y) (grp k).size ↔ lowN (grp k) x = lowN (grp k) y :=
 ⟨fun h => T_inj (grp_ok k h1 h3) (grp_fits k h1 h3) (lowN_le (grp_ok k h1 h3) x) (lowN_le (grp_ok k h1 h3) y) h, fun h => by rw [h]⟩
end Go.Proofs.YtdlnnkbigeiilaaGreat
namespace Go.Proofs.YtdlnnkbigeiilaaGreat
open Go.RowKit
theorem el_le {q size : Nat} {s : ByteArray} (h : isEl q size s = true) : numOf s ≤ q := by
 unfold isEl at h
 simp only [Bool.and_eq_true, decide_eq_true_eq] at h
 exact h.2
theorem el_text {G : GP} (ok : G.Ok) {m : ByteArray} (h : isEl G.q.m G.size m = true) : m = textS (lowN G (numOf m)) G.size := by
 rw [lowN_fix ok (el_le h), ← isEl_size h, text_numOf]
structure AllOk (G : GP) (l : List ClaimA) (xs : List ByteArray) : Prop where
 len : ∀ c ∈ l, c.images.length = c.bases.length
 bs : ∀ c ∈ l, ∀ s ∈ c.bases, isEl G.q.m G.size s = true
 ims : ∀ c ∈ l, ∀ s ∈ c.images, isEl G.q.m G.size s = true
 xl : xs.length = l.length
 xs : ∀ s ∈ xs, isSc G.q.m G.size s = true
theorem allOk {k : Int} {l : List ClaimA} {xs : List ByteArray} (h : openK k l xs = 0) : (1 ≤ k ∧ k ≤ 3) ∧ AllOk (grp k.toNat) l xs := by
 obtain ⟨hk, hs, he, hxl, hxa⟩ := openK_ok h
 have hs := shape_ok hs
 have hc : ∀ c ∈ l, c.bases.all (isEl (grp k.toNat).q.m (grp k.toNat).size) = true ∧ c.images.all (isEl (grp k.toNat).q.m (grp k.toNat).size) = true := fun c hc => by
  have h9 : (c.bases.all (isEl (grp k.toNat).q.m (grp k.toNat).size) && c.images.all (isEl (grp k.toNat).q.m (grp k.toNat).size)) = true := List.all_eq_true.1 he c hc
  exact (Bool.and_eq_true _ _).mp h9
 exact ⟨hk, fun c h => (hs.2.2 c h).2.2, fun c h s g => List.all_eq_true.1 (hc c h).1 s g, fun c h s g => List.all_eq_true.1 (hc c h).2 s g, hxl, fun s g => List.all_eq_true.1 hxa s g⟩
theorem eachA_congr {G : GP} {v v' : Nat → Nat → Nat} {ms : List Nat} {n : Nat} (h : ∀ i t, i < n → t < ms.getD i 0 → lowN G (v i t) = lowN G (v' i t)) : eachA G v ms n = eachA G v' ms n := by
 unfold eachA eachL
 apply List.map_congr_left
 intro i hi
 apply List.map_congr_left
 intro t ht
 rw [h i t (List.mem_range.1 hi) (List.mem_range.1 ht)]
end Go.Proofs.YtdlnnkbigeiilaaGreat
namespace Go.Proofs.YtdlnnkbigeiilaaGreat
open Go.RowKit
theorem zipWith_congr' {α β γ : Type} {f g : α → β → γ} {l : List α} {m : List β} (h : ∀ i (hl : i < l.length) (hm : i < m.length), f l[i] m[i] = g l[i] m[i]) : List.zipWith f l m = List.zipWith g l m := by
 apply List.ext_getElem
 ·simp
 ·intro i h1 h2
  rw [List.getElem_zipWith, List.getElem_zipWith]
  exact h i _ _
theorem hold2_eq {k : Nat} (h1 : 1 ≤ k) (h3 : k ≤ 3) {x b m : ByteArray} (hx : isSc (grp k).q.m (grp k).size x = true) (hm : isEl (grp k).q.m (grp k).size m = true) : rhold2 (grp k) x b m = hold2 (grp k) x b m := by
 unfold rhold2 hold2
 rw [(isSc_lt' hx).1, decide_eq_decide]
 have e := el_text (grp_ok k h1 h3) hm
 constructor
 ·intro h
  exact (T_eq h1 h3).1 (h.trans e)
 ·intro h
  exact ((T_eq h1 h3).2 h).trans e.symm
theorem holdP_eq {k : Nat} (h1 : 1 ≤ k) (h3 : k ≤ 3) {l : List ClaimA} {xs : List ByteArray} (h : AllOk (grp k) l xs) : rholdP (grp k) l xs = holdP (grp k) l xs := by
 unfold rholdP holdP
 rw [zipWith_congr' (f := rhold1 (grp k)) (g := hold1 (grp k))]
 intro i hl hx
 unfold rhold1 hold1
 rw [zipWith_congr' (f := rhold2 (grp k) xs[i]) (g := hold2 (grp k) xs[i])]
 intro t hb hm
 exact hold2_eq h1 h3 (h.xs _ (List.getElem_mem hx)) (h.ims _ (List.getElem_mem hl) _ (List.getElem_mem hm))
theorem valB_low {G : GP} (ok : G.Ok) {l : List ClaimA} {xs : List ByteArray} (h : AllOk G l xs) (y z : Nat) (hy : y = z % G.q.m) (i t : Nat) (hi : i < l.length) (_ht : t < (lens l).getD i 0) : lowN G (rvalB G y l xs i t) = lowN G (valB G z l xs i t) := by
 have hx : i < xs.length := by rw [h.xl]; exact hi
 unfold rvalB valB valF
 rw [lowN_mul ok, ← hy]
 have e : xs.getD i ⟨#[]⟩ = xs[i] := by simp [List.getD, hx]
 rw [e, (isSc_lt' (h.xs _ (List.getElem_mem hx))).1]
theorem valF_low {G : GP} (ok : G.Ok) {l : List ClaimA} {xs : List ByteArray} (h : AllOk G l xs) (i t : Nat) (hi : i < l.length) (_ht : t < (lens l).getD i 0) : lowN G (rvalB G (subQ G 0 0) l xs i t) = lowN G (valF G l xs i t) := by
 rw [valB_low ok h (subQ G 0 0) 0 (by unfold subQ; simp) i t hi _ht]
 unfold valB
 rw [Nat.zero_mod, Nat.pow_zero, Nat.mul_one]
theorem rfirstK_eq (k : Int) (l : List ClaimA) (xs : List ByteArray) : rfirstK k l xs = firstK k l xs := by
 unfold rfirstK firstK
 by_cases h : openK k l xs = 0
 ·rw [if_pos h, if_pos h]
  obtain ⟨hk, ha⟩ := allOk h
  exact eachA_congr fun i t hi ht => valF_low (grp_ok _ (by omega) (by omega)) ha i t hi ht
 ·rw [if_neg h, if_neg h]
end Go.Proofs.YtdlnnkbigeiilaaGreat
namespace Go.Proofs.YtdlnnkbigeiilaaGreat
open Go.RowKit
end Go.Proofs.YtdlnnkbigeiilaaGreat
namespace Go.Proofs.YtdlnnkbigeiilaaGreat
open Go.RowKit
end Go.Proofs.YtdlnnkbigeiilaaGreat
