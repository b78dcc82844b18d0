/- SigmaEither: whichever of the sets holds, that one of them does is proved, and found right. No condition. -/
import Derived.Test.YtdlnnkbigeiilaaZSigmaEither5
import Derived.Outline

set_option maxRecDepth 100000
set_option maxHeartbeats 4000000
set_option linter.unusedVariables false
set_option linter.unusedSimpArgs false
namespace Go.Proofs.Ytdlnnkbigeiilaa
open Go.RowKit
theorem n3b (w : World) (A0 A1 A2 : Array Value) (t0 t1 t2 : TypeId) : Below w.heap.size w (((w.alloc (.cells A0 t0)).alloc (.cells A1 t1)).alloc (.cells A2 t2)) := ((((Below.refl _ _).alloc (Nat.le_refl _) _).alloc (by simp) _).alloc (by simp; omega) _)
theorem n30 (w : World) (A0 A1 A2 : Array Value) (t0 t1 t2 : TypeId) (c : List Value) (h : A0 = c.toArray) : Bx (((w.alloc (.cells A0 t0)).alloc (.cells A1 t1)).alloc (.cells A2 t2)) w.heap.size t0 c := by
 subst h
 exact (((Bx.new w t0 c _ rfl).alloc _).alloc _)
theorem n31 (w : World) (A0 A1 A2 : Array Value) (t0 t1 t2 : TypeId) (c : List Value) (h : A1 = c.toArray) : Bx (((w.alloc (.cells A0 t0)).alloc (.cells A1 t1)).alloc (.cells A2 t2)) (w.heap.size + 1) t1 c := by
 subst h
 have h := ((Bx.new (w.alloc (.cells A0 t0)) t1 c _ rfl).alloc (.cells A2 t2))
 rw [World.size_alloc] at h
 exact h
theorem n32 (w : World) (A0 A1 A2 : Array Value) (t0 t1 t2 : TypeId) (c : List Value) (h : A2 = c.toArray) : Bx (((w.alloc (.cells A0 t0)).alloc (.cells A1 t1)).alloc (.cells A2 t2)) (w.heap.size + 1 + 1) t2 c := by
 subst h
 have h := Bx.new ((w.alloc (.cells A0 t0)).alloc (.cells A1 t1)) t2 c _ rfl
 rw [World.size_alloc, World.size_alloc] at h
 exact h
theorem nonce_num {G : GP} (ok : G.Ok) (s : ByteArray) (n j : Nat) (h : j < (nonceL G s n).length) : textS (numOf (nonceL G s n)[j] % G.q.m) G.size = (nonceL G s n)[j] := by
 have e : (nonceL G s n)[j] = nonceS G s j := by simp [nonceL]
 rw [e]
 unfold nonceS
 rw [numOf_mod ok, Nat.mod_mod]
theorem take_str {NL : List ByteArray} {t : Nat} {y : ByteArray} (h : t < NL.length) (e : y = NL[t]) : (NL.take (t + 1)).map Value.string = (NL.take t).map Value.string ++ [.string y] := by
 subst e
 rw [List.take_succ_eq_append_getElem h, List.map_append]
 rfl
theorem eithR_set {er : Int} {w w' : World} {C : List ByteArray} {A : List (List ByteArray)} {n m i N cb ab c5 : Nat} {ta tc : TypeId} {x : ByteArray} {AN : List ByteArray} {a5 : Option Addr} {ro : List RowA} (hb : Below w.heap.size w w') (hC : C.length = n) (hr : ro.length = n) (hm : ro.map RowA.l = A) (hn : AN.length = m) (h1 : Bx w' cb tc ((C.map Value.string).set i (.string x))) (h2 : Bx w' ab ta ((ro.flatMap RowA.cells).set i (.slice a5 m c5))) (hR : RowsNew N w' ro) (hS : Sl w' w'.heap.size a5 (AN.map Value.string)) (h5 : m ≤ c5) (h6 : a5 = none → c5 = 0) :
  EithR er (C.set i x) (A.set i AN) w (.returned (.tuple #[.agg #[.slice (some ⟨cb, 0, none⟩) n n, .slice (some ⟨ab, 0, none⟩) n n], .int .i64 er])) w' := by
 subst hn
 have e1 : (C.map Value.string).set i (.string x) = (C.set i x).map Value.string := (List.map_set ..).symm
 rw [e1] at h1
 have e2 := (rows_set ro i ⟨a5, c5, AN⟩).symm
 rw [e2] at h2
 have s1 := Sl.of_block h1
 have s2 := Sl.of_block h2
 refine ⟨hb, some ⟨cb, 0, none⟩, n, some ⟨ab, 0, none⟩, n, ro.set i ⟨a5, c5, AN⟩, ?_, by simpa using s1, by rw [List.map_set, hm], ⟨by simpa using s2, fun r h => ?_⟩, fun r h => ?_⟩
 ·rw [List.length_set, List.length_set, hC, ← hm, List.length_map, hr]
 ·rcases List.mem_or_eq_of_mem_set h with h | rfl
  ·exact (hR r h).1
  ·exact hS
 ·rcases List.mem_or_eq_of_mem_set h with h | rfl
  ·exact (hR r h).2.2
  ·exact ⟨h6, h5⟩
theorem Bx.drew9 {W : World} {b : Nat} {t : TypeId} {cs : List Value} (h : Bx W b t cs) : Bx W.drew b t cs := h
theorem sPany_body (k : Nat) (h1 : 1 ≤ k) (h3 : k ≤ 3) (label seed : ByteArray) (hlb : label.size < 140737488355328) (hsd : seed.size < 140737488355328) (ss : List SetA) (n : Nat) (hn : ss.length = n) (al : Option Addr) (cl : Nat) (hz : setsE (grp k) ss = 0) (hcap : ∀ s ∈ ss, ∀ c ∈ s.l, CapOk c) (wh : Nat) (hwn : wh < n) (xs : List ByteArray) (ax : Option Addr) (cx : Nat) (hm : xs.length ≤ 8796093022207) (hz2 : scE (grp k) (pvL (ss.map SetA.l) wh).length xs = 0) (hhp : holdP (grp k) (pvL (ss.map SetA.l) wh) xs = true) (w : World) (hC : SetsAt w al ss) (hS : Sl w w.heap.size ax (xs.map Value.string)) :
  Calls Try.prog 29 #[.int .i64 (k : Int), .string label, .slice al n cl, .int .i64 (wh : Int), .slice ax xs.length cx, .string seed] w (EithR 0 (pvCs (grp k) (ss.map SetA.l) wh (pvT0 k label (ss.map SetA.l) seed) n) (pvAs (grp k) (ss.map SetA.l) wh (pvT0 k label (ss.map SetA.l) seed) n xs) w) := by
 have HTZ := Lib.hid (show (saySs (beginT eitherB label k) (ss.map SetA.l)).size = 32 from saySs_size _ _ (say1_size _ _ _))
 have HS0 := Lib.hid (show (pvT0 k label (ss.map SetA.l) seed).t.size = 32 ∧ (pvT0 k label (ss.map SetA.l) seed).f.size = 32 from ⟨HTZ.out, say1_size _ _ _⟩)
 have HT00 := Lib.hid (show (pvAt (grp k) (ss.map SetA.l) wh (pvT0 k label (ss.map SetA.l) seed) 0) = ⟨saySs (beginT eitherB label k) (ss.map SetA.l), say1 (saySs (beginT eitherB label k) (ss.map SetA.l)) seedB seed, 0⟩ from rfl)
 have HAZ := Lib.hid (fun j => pvAt_size (grp k) (ss.map SetA.l) wh HS0.out j)
 have HAS := Lib.hid (fun j => (show pvAt (grp k) (ss.map SetA.l) wh (pvT0 k label (ss.map SetA.l) seed) (j + 1) = pvStep (grp k) (ss.map SetA.l) wh (pvAt (grp k) (ss.map SetA.l) wh (pvT0 k label (ss.map SetA.l) seed) j) j from rfl))
 have HCS := Lib.hid (fun j => pvCj_succ (grp k) (ss.map SetA.l) wh (pvT0 k label (ss.map SetA.l) seed) j)
 have HASS := Lib.hid (fun j => pvAj_succ (grp k) (ss.map SetA.l) wh (pvT0 k label (ss.map SetA.l) seed) j)
 have HC00 := Lib.hid (show pvCj (grp k) (ss.map SetA.l) wh (pvT0 k label (ss.map SetA.l) seed) 0 = [] from rfl)
 have HA00 := Lib.hid (show pvAj (grp k) (ss.map SetA.l) wh (pvT0 k label (ss.map SetA.l) seed) 0 = [] from rfl)
 have HCL := Lib.hid (fun j => (show (pvCj (grp k) (ss.map SetA.l) wh (pvT0 k label (ss.map SetA.l) seed) j).length = j from by unfold pvCj; simp))
 rw [← pvCs_eq, ← pvAs_eq]
 unfold pvC at HCS
 unfold pvZ at HASS
 unfold pvN pvW
 clear HS0
 generalize pvAt (grp k) (ss.map SetA.l) wh (pvT0 k label (ss.map SetA.l) seed) = PV at *
 generalize pvCj (grp k) (ss.map SetA.l) wh (pvT0 k label (ss.map SetA.l) seed) = CJ at *
 generalize pvAj (grp k) (ss.map SetA.l) wh (pvT0 k label (ss.map SetA.l) seed) = AJ at *
 have OK := Lib.hid (grp_ok k h1 h3)
 have HRD := Lib.hid (fun gb w hG hC => sRAll_ok (grp k) OK.out gb ss al cl w hG hC hz)
 rw [hn] at HRD
 have HC := Lib.hid hC
 have HS := Lib.hid hS
 have HN := Lib.hid hn
 have HZE := Lib.hid (setsE_ok hz)
 have h16 : n ≤ 16 := by have := HZE.out.2.1; omega
 have HSS := Lib.hid (fun s hs => (show (∀ c ∈ s.l, CapOk c) ∧ wrongE (grp k) s.l = 0 from ⟨hcap s hs, wrongsE_all HZE.out.2.2 s hs⟩))
 have HXL := Lib.hid (sc_len9 hz2)
 have HSC := Lib.hid (fun gb a c m (hm9 : m = (pvL (ss.map SetA.l) wh).length) w1 hG hS => (show Calls Try.prog 67 #[.agg #[.pointer (some ⟨gb, 0, none⟩), .slice a m c], .slice ax xs.length cx] w1 (ScalQ (grp k) 0 xs w1) from by
  have h := scalars_any (grp k) OK.out gb m a c xs ax cx hm w1 hG hS
  unfold ScalR at h
  rw [hm9, hz2] at h
  rw [hm9]
  exact h))
 unfold ScalQ at HSC
 have HHB := Lib.hid hhp
 have hd1 : decide ((wh : Int) < 0) = false := decide_eq_false (by omega)
 have hd2 : decide ((wh : Int) ≥ (n : Int)) = false := decide_eq_false (by omega)
 have HMA := Lib.hid (fun (W9 : World) => by
  have h := Go.run_make_row' (P := Try.prog) 22 9 (.string ⟨#[]⟩) 16 Try.underlying22 infoStr rfl .i64 .i64 n (by omega) (by omega) W9
  rw [madeCells_eq] at h
  exact h)
 have HMB := Lib.hid (fun (W9 : World) => by
  have h := Go.run_make_row' (P := Try.prog) 58 22 (.slice none 0 0) 24 Try.underlying58 infoStrs rfl .i64 .i64 n (by omega) (by omega) W9
  rw [madeCells_eq] at h
  exact h)
 clear hC hS hn hz hcap hm hz2 hhp
 go_enter Try.func29, Try.ntmps29
 go_wp2_with fail
 obtain ⟨w1, hq1, hb9, hz9, Hout⟩ := new1 w 60 [.slice none 0 0, .slice none 0 0]
 rw [hq1]
 clear hq1
 have HB := Lib.hid hb9
 have HZS := hz9
 clear hb9 hz9
 have out_ := Hout.out.c2
 go_wp2_with fail
 refine (of_some k h1 h3 w1).mono ?_
 rintro e w2 ⟨rfl, hg9, hb9⟩
 clear out_
 replace Hout := Lib.hid (Hout.out.up hb9)
 replace HB := hbu HB hb9
 replace HZS := sz HZS hb9.size
 have HG := Lib.hid hg9
 clear hg9 hb9
 have out_ := Hout.out.c2
 go_wp2_with fail
 refine (HRD.out _ w2 HG.out (HC.out.up HB.out)).mono ?_
 rintro e w3 ⟨hb9, ts, a9, c9, rfl, hts, hsl, hat, hof, hfr⟩
 clear out_
 replace Hout := Lib.hid (Hout.out.up hb9)
 replace HG := Lib.hid (HG.out.up hb9)
 replace HB := hbu HB hb9
 replace HZS := sz HZS hb9.size
 have HTS := Lib.hid hts
 clear hts
 have HSL := Lib.hid hsl
 clear hsl
 have HAT := Lib.hid hat
 clear hat
 have HOF := Lib.hid hof
 clear hof hb9
 have out_ := Hout.out.c2
 have HTL := Lib.hid (show ts.length = n by rw [← HN.out, ← HTS.out, List.length_map])
 rw [HTL.out]
 clear HRD hfr
 have BQ := Lib.hid (Below.refl w3.heap.size w3)
 have HG5 := HG
 have HB5 := HB
 have HGL := Lib.hid (show w1.heap.size < w3.heap.size from HG.out.lt)
 have hjt : wh < ts.length := by rw [HTL.out]; exact hwn
 have hjs : wh < ss.length := by rw [HN.out]; exact hwn
 obtain ⟨bl, ol, rfl, hbl0, hc⟩ := HSL.out.elem (SetR.cells_len w1.heap.size) (by omega) wh hjt
 have hc_0 := hc 0 _ rfl
 rw [Nat.add_zero] at hc_0
 have hc_1 := hc 1 _ rfl
 clear hc
 have HSJ := Lib.hid (show ts[wh].s = ss[wh] by
  have h8 : (ts.map SetR.s)[wh]? = ss[wh]? := by rw [HTS.out]
  rw [List.getElem?_map, List.getElem?_eq_getElem hjt, List.getElem?_eq_getElem hjs] at h8
  exact Option.some.inj h8)
 have HST := Lib.hid (HAT.out _ (List.getElem_mem hjt)).1
 have HOJ := HOF.out _ (List.getElem_mem hjt)
 have HSZ := Lib.hid (read_sizes OK.out HOJ.w (HSS.out _ (by rw [HSJ.out]; exact List.getElem_mem hjs)).1 HOJ.k)
 have HKW := Lib.hid (show ts[wh].rs.map ClaimR.k = pvL (ss.map SetA.l) wh by unfold pvL; rw [HOJ.k, HSJ.out, List.getD_eq_getElem?_getD, List.getElem?_map, List.getElem?_eq_getElem hjs]; rfl)
 clear HOJ hjs HSJ
 obtain ⟨tw, htw⟩ : ∃ t, ts[wh]'hjt = t := ⟨_, rfl⟩
 rw [htw] at hc_1 HST HSZ HKW
 clear htw hjt
 have HLW := Lib.hid (show tw.rs.length = (pvL (ss.map SetA.l) wh).length by rw [← HKW.out, List.length_map])
 have HCW0 := Lib.hid hc_0
 have HCW1 := Lib.hid hc_1
 have HBL0 := Lib.hid hbl0
 have HO5 := Hout
 have HRX := Lib.hid (show tw.rs.length = xs.length by rw [HLW.out, HXL.out])
 rw [HRX.out] at hc_1 HCW1
 have hjw := hwn
 go_wp2_with fail
 refine (HSC.out w1.heap.size tw.a tw.c xs.length HXL.out w3 (HG5.out.up BQ.out) (HS.out.up HB.out)).mono ?_
 rintro e w4 ⟨hb9, v, rfl, hv9⟩
 clear out_
 replace Hout := Lib.hid (Hout.out.up hb9)
 replace HG := Lib.hid (HG.out.up hb9)
 replace BQ := hbu BQ hb9
 replace HB := hbu HB hb9
 replace HZS := sz HZS hb9.size
 clear hb9
 have out_ := Hout.out.c2
 obtain ⟨a7, c7, rfl, hsv, hfv⟩ := hv9 trivial
 have HSV := Lib.hid hsv
 clear hc_0 hc_1 hsv hfv hv9
 have BS7 := Lib.hid (Below.refl w4.heap.size w4)
 have hc_0 := (BQ.out.cell (p := ⟨bl, ol + wh * 2, none⟩) HBL0.out).trans HCW0.out
 have hc_1 := (BQ.out.cell (p := ⟨bl, ol + wh * 2 + 1, none⟩) HBL0.out).trans HCW1.out
 go_wp2_with fail
 refine (holds_any (grp k) OK.out w1.heap.size tw.rs xs.length HRX.out tw.a tw.c xs rfl a7 c7 (by have h9 := HSZ.out.1; have h8 := HSZ.out.2.1; have h7 := HRX.out; omega) HSZ.out.2.2.2.1 true (by rw [HKW.out]; exact HHB.out) w4 (HG5.out.up BQ.out) (HST.out.up BQ.out) (HSV.out.up BS7.out)).mono ?_
 rintro e w5 ⟨rfl, hb9⟩
 clear out_
 replace Hout := Lib.hid (Hout.out.up hb9)
 replace HG := Lib.hid (HG.out.up hb9)
 replace BQ := hbu BQ hb9
 replace BS7 := hbu BS7 hb9
 replace HB := hbu HB hb9
 replace HZS := sz HZS hb9.size
 clear hb9
 have out_ := Hout.out.c2
 clear hc_0 hc_1
 have HSRC := Lib.hid (fun t (ht : t ∈ ts) => by
  have hm : t.s ∈ ss := by rw [← HTS.out]; exact List.mem_map.2 ⟨t, ht, rfl⟩
  obtain ⟨bl, ol, e1, e2⟩ := (HOF.out t ht).p
  have h9 := (HC.out.up HB5.out).e _ hm
  rw [e1] at h9
  exact (show ∀ r ∈ t.rs, r.Src w3 from src_all (HOF.out t ht).k e2 h9))
 have HTM := Lib.hid (show ts.map (fun t => t.rs.map ClaimR.k) = ss.map SetA.l by rw [← HTS.out, List.map_map]; exact List.map_congr_left fun t ht => (HOF.out t ht).k)
 have HF1 := Lib.hid (fun a9 c9 w hG hS hT hC => stalk_any (grp k) w1.heap.size label hlb (by rw [grp_kind k h1 h3]; omega) ts ts.length rfl (by rw [HTL.out]; exact h16) (fun t ht => by
  have hm : t.s ∈ ss := by rw [← HTS.out]; exact List.mem_map.2 ⟨t, ht, rfl⟩
  obtain ⟨q1, q2, q3, _⟩ := read_sizes OK.out (HOF.out t ht).w (HSS.out _ hm).1 (HOF.out t ht).k
  exact ⟨by omega, q3⟩) a9 c9 w hG hS hT hC)
 rw [grp_kind k h1 h3, HTM.out, HTL.out] at HF1
 have HF3 := Lib.hid (fun tb w hT => seeded_any tb (saySs (beginT eitherB label k) (ss.map SetA.l)) seed HTZ.out hsd w hT)
 clear hlb hsd
 generalize say1 (saySs (beginT eitherB label k) (ss.map SetA.l)) seedB seed = F0 at *
 generalize saySs (beginT eitherB label k) (ss.map SetA.l) = T0 at *
 go_wp2_with fail
 refine (HF1.out (some ⟨bl, ol, none⟩) c9 w5 (HG5.out.up BQ.out) (HSL.out.up BQ.out) (fun t ht => (HAT.out t ht).1.up BQ.out) (fun t ht r hr => (HSRC.out t ht r hr).up BQ.out)).mono ?_
 rintro e wa ⟨tb, rfl, hge, ht, hb9⟩
 have HGE := Lib.hid hge
 have Ht := Lib.hid (show Bx wa tb 67 [.string T0] from ht)
 clear hge ht HF1 out_
 replace Hout := Lib.hid (Hout.out.up hb9)
 replace HG := Lib.hid (HG.out.up hb9)
 replace BQ := hbu BQ hb9
 replace BS7 := hbu BS7 hb9
 replace HB := hbu HB hb9
 replace HZS := sz HZS hb9.size
 clear hb9
 have out_ := Hout.out.c2
 replace HZS := sz HZS HGE.out
 have HZB := Lib.hid BQ.out.size
 replace HZS := sz HZS HZB.out
 have t_ := Ht.out.c1
 have HTT := Lib.hid Ht.out.lt
 replace HZS := sz HZS HTT.out
 go_wp2_with fail
 refine (HF3.out tb wa Ht.out).mono ?_
 rintro e w6 ⟨fb, rfl, hfg, hft, hb9⟩
 clear out_
 replace Hout := Lib.hid (Hout.out.up hb9)
 clear t_
 replace Ht := Lib.hid (Ht.out.up hb9)
 replace HG := Lib.hid (HG.out.up hb9)
 replace BQ := hbu BQ hb9
 replace BS7 := hbu BS7 hb9
 replace HB := hbu HB hb9
 replace HZS := sz HZS hb9.size
 have hft9 : Bx _ fb 67 [.string F0] := hft
 have Hf := Lib.hid hft9
 clear hft9 hft
 have HFG := Lib.hid hfg
 clear hfg
 replace HZS := sz HZS HFG.out
 clear hb9
 have out_ := Hout.out.c2
 have t_ := Ht.out.c1
 have f_ := Hf.out.c1
 have HFT := Lib.hid Hf.out.lt
 replace HZS := sz HZS HFT.out
 have HFS := Lib.hid (show fb < w6.heap.size from Hf.out.lt)
 have o7_out_ := out_; clear out_
 have o7_t_ := t_; clear t_
 have o7_f_ := f_; clear f_
 obtain ⟨w7, hq7, hb9, hz9, Hsu⟩ := new1 w6 78 ([.int .u64 0, .int .u64 0, .int .u64 0, .int .u64 0])
 replace Hout := Lib.hid (Hout.out.up hb9)
 replace Ht := Lib.hid (Ht.out.up hb9)
 replace Hf := Lib.hid (Hf.out.up hb9)
 replace HG := Lib.hid (HG.out.up hb9)
 replace BQ := hbu BQ hb9
 replace BS7 := hbu BS7 hb9
 replace HB := hbu HB hb9
 replace HZS := sz HZS hz9.out
 clear hb9 hz9
 have out_ := Hout.out.c2
 have t_ := Ht.out.c1
 have f_ := Hf.out.c1
 go_upto_region 18 with fail
 have HSUK := Lib.hid Hsu.out.lt
 go_cut [22] from 86 to 92 (fun v9 wq9 => ∃ cb ab eb : Nat, v9 = .pointer (some ⟨eb, 0, none⟩) ∧ Hid (w7.heap.size ≤ cb ∧ w7.heap.size ≤ ab ∧ w7.heap.size ≤ eb ∧ cb ≠ ab ∧ cb ≠ eb ∧ ab ≠ eb) ∧ Hid (Bx wq9 cb 9 (List.replicate n (.string ⟨#[]⟩))) ∧ Hid (Bx wq9 ab 22 (List.replicate n (.slice none 0 0))) ∧ Hid (Bx wq9 eb 60 [.slice (some ⟨cb, 0, none⟩) n n, .slice (some ⟨ab, 0, none⟩) n n]) ∧ Hid (Below w7.heap.size w7 wq9))
 case first =>
  have hma := HMA.out
  have hmb := HMB.out
  go_region
  all_goals (go_wp2_with fail; go_meet; case rel => first
   | exact ⟨_, _, _, rfl, Lib.hid (by refine ⟨?_, ?_, ?_, ?_, ?_, ?_⟩ <;> omega), Lib.hid (Bx.drew9 (n30 _ _ _ _ _ _ _ _ (by simp))), Lib.hid (Bx.drew9 (n31 _ _ _ _ _ _ _ _ (by simp))), Lib.hid (Bx.drew9 (n32 _ _ _ _ _ _ _ _ rfl)), Lib.hid (Below.drew (n3b _ _ _ _ _ _ _))⟩
   | exact ⟨_, _, _, rfl, Lib.hid (by refine ⟨?_, ?_, ?_, ?_, ?_, ?_⟩ <;> omega), Lib.hid (Bx.drew9 (n30 _ _ _ _ _ _ _ _ (by simp))), Lib.hid (Bx.drew9 (n32 _ _ _ _ _ _ _ _ (by simp))), Lib.hid (Bx.drew9 (n31 _ _ _ _ _ _ _ _ rfl)), Lib.hid (Below.drew (n3b _ _ _ _ _ _ _))⟩
   | exact ⟨_, _, _, rfl, Lib.hid (by refine ⟨?_, ?_, ?_, ?_, ?_, ?_⟩ <;> omega), Lib.hid (Bx.drew9 (n31 _ _ _ _ _ _ _ _ (by simp))), Lib.hid (Bx.drew9 (n30 _ _ _ _ _ _ _ _ (by simp))), Lib.hid (Bx.drew9 (n32 _ _ _ _ _ _ _ _ rfl)), Lib.hid (Below.drew (n3b _ _ _ _ _ _ _))⟩
   | exact ⟨_, _, _, rfl, Lib.hid (by refine ⟨?_, ?_, ?_, ?_, ?_, ?_⟩ <;> omega), Lib.hid (Bx.drew9 (n31 _ _ _ _ _ _ _ _ (by simp))), Lib.hid (Bx.drew9 (n32 _ _ _ _ _ _ _ _ (by simp))), Lib.hid (Bx.drew9 (n30 _ _ _ _ _ _ _ _ rfl)), Lib.hid (Below.drew (n3b _ _ _ _ _ _ _))⟩
   | exact ⟨_, _, _, rfl, Lib.hid (by refine ⟨?_, ?_, ?_, ?_, ?_, ?_⟩ <;> omega), Lib.hid (Bx.drew9 (n32 _ _ _ _ _ _ _ _ (by simp))), Lib.hid (Bx.drew9 (n30 _ _ _ _ _ _ _ _ (by simp))), Lib.hid (Bx.drew9 (n31 _ _ _ _ _ _ _ _ rfl)), Lib.hid (Below.drew (n3b _ _ _ _ _ _ _))⟩
   | exact ⟨_, _, _, rfl, Lib.hid (by refine ⟨?_, ?_, ?_, ?_, ?_, ?_⟩ <;> omega), Lib.hid (Bx.drew9 (n32 _ _ _ _ _ _ _ _ (by simp))), Lib.hid (Bx.drew9 (n31 _ _ _ _ _ _ _ _ (by simp))), Lib.hid (Bx.drew9 (n30 _ _ _ _ _ _ _ _ rfl)), Lib.hid (Below.drew (n3b _ _ _ _ _ _ _))⟩)
 case rest =>
  obtain ⟨cb, ab, eb, rfl, HNE, Hcb, Hab, Hei, hbR⟩ := hcut
  have hb9 := hbR.out
  clear hbR HMA HMB out_
  replace Hout := Lib.hid (Hout.out.up hb9)
  clear t_
  replace Ht := Lib.hid (Ht.out.up hb9)
  clear f_
  replace Hf := Lib.hid (Hf.out.up hb9)
  replace Hsu := Lib.hid (Hsu.out.up hb9)
  replace HG := Lib.hid (HG.out.up hb9)
  replace BQ := hbu BQ hb9
  replace BS7 := hbu BS7 hb9
  replace HB := hbu HB hb9
  replace HZS := sz HZS hb9.size
  clear hb9
  have out_ := Hout.out.c2
  have t_ := Ht.out.c1
  have f_ := Hf.out.c1
  have ei_ := Hei.out.c2
  have HALL := Lib.hid (show w.heap.size ≤ w1.heap.size ∧ w1.heap.size < w3.heap.size ∧ w3.heap.size ≤ tb ∧ w4.heap.size ≤ tb ∧ tb < fb ∧ fb < w6.heap.size ∧ w6.heap.size < cb ∧ w6.heap.size < ab ∧ w6.heap.size < eb ∧ cb ≠ ab ∧ cb ≠ eb ∧ ab ≠ eb ∧ cb < wc.heap.size ∧ ab < wc.heap.size ∧ eb < wc.heap.size by have g0 := HZS.out; have g1 := HGL.out; have g2 := HGE.out; have g3 := HTT.out; have g4 := HFG.out; have g5 := HFS.out; have g6 := HSUK.out; have g7 := HNE.out; have g8 := Hcb.out.lt; have g9 := Hab.out.lt; have g10 := Hei.out.lt; omega)
  clear HNE HFS HSUK
  have HSU0 := Lib.hid (show Bx wc w6.heap.size 78 [.int .u64 (dig (mont (grp k).q.m 0) 0 : Int), .int .u64 (dig (mont (grp k).q.m 0) 1 : Int), .int .u64 (dig (mont (grp k).q.m 0) 2 : Int), .int .u64 (dig (mont (grp k).q.m 0) 3 : Int)] by rw [mont_zero9]; simp only [dig_zero9]; exact Hsu.out)
  go_wp2_with fail
  clear hq7 o7_f_ o7_t_ o7_out_
  go_loopw [95, 20] (fun i vn wr => ∃ (j : Nat) (s : PvS) (ro : List RowA), j ≤ n ∧ i = .int .i64 (j : Int) ∧ Hid (PV j = s) ∧ Hid (NonN wc.heap.size wr (wh < j) (grp k).q.m xs.length (nonceL (grp k) (PV wh).f xs.length) vn) ∧ Hid (Bx wr tb 67 [.string s.t]) ∧ Hid (Bx wr fb 67 [.string s.f]) ∧ Hid (Bx wr w6.heap.size 78 [.int .u64 (dig (mont (grp k).q.m s.o) 0 : Int), .int .u64 (dig (mont (grp k).q.m s.o) 1 : Int), .int .u64 (dig (mont (grp k).q.m s.o) 2 : Int), .int .u64 (dig (mont (grp k).q.m s.o) 3 : Int)]) ∧ Hid (Bx wr cb 9 ((CJ j).map Value.string ++ List.replicate (n - j) (.string ⟨#[]⟩))) ∧ Hid (ro.length = j) ∧ Hid (ro.map RowA.l = AJ j) ∧ Hid (Bx wr ab 22 (ro.flatMap RowA.cells ++ List.replicate (n - j) (.slice none 0 0))) ∧ Hid (RowsNew wc.heap.size wr ro) ∧ Hid (Bx wr eb 60 [.slice (some ⟨cb, 0, none⟩) n n, .slice (some ⟨ab, 0, none⟩) n n]) ∧ Hid (wc.heap.size ≤ wr.heap.size) ∧ Hid (Below w3.heap.size w3 wr) ∧ Hid (Below w4.heap.size w4 wr)) (fun i _ _ => n - (intOf i).toNat)
  case atStart => exact ⟨0, _, [], Nat.zero_le _, rfl, HT00, fun h => absurd h (Nat.not_lt_zero _), Ht, Hf, HSU0, by rw [HC00.out]; exact Hcb, rfl, HA00.out.symm, Hab, (fun _ h => by cases h), Hei, Nat.le_refl _, BQ, BS7⟩
  case round =>
   clear Ht Hf Hsu Hcb Hab Hei HB BQ BS7 HSU0
   obtain ⟨j, ⟨st, sf, so⟩, ro, hj, rfl, HPJ, HNN, Ht, Hf, Hsu, Hcb, HRL, HRM, Hab, HRN, Hei, HWZ, BQ, BS7⟩ := hrel
   have HB := Lib.hid (below_up HB5.out BQ.out)
   by_cases hjn : j < n
   ·have hjt : j < ts.length := by rw [HTL.out]; exact hjn
    have hjs : j < ss.length := by rw [HN.out]; exact hjn
    obtain ⟨bl2, ol2, hae, hbl2, hc⟩ := (HSL.out.up BQ.out).elem (SetR.cells_len w1.heap.size) (by omega) j hjt
    cases hae
    have hc_0 := hc 0 _ rfl
    rw [Nat.add_zero] at hc_0
    have hc_1 := hc 1 _ rfl
    clear hc
    have HSJ := Lib.hid (show ts[j].s = ss[j] by
     have h8 : (ts.map SetR.s)[j]? = ss[j]? := by rw [HTS.out]
     rw [List.getElem?_map, List.getElem?_eq_getElem hjt, List.getElem?_eq_getElem hjs] at h8
     exact Option.some.inj h8)
    have HSTJ := Lib.hid (HAT.out _ (List.getElem_mem hjt)).1
    have HOJ := HOF.out _ (List.getElem_mem hjt)
    have HSZJ := Lib.hid (read_sizes OK.out HOJ.w (HSS.out _ (by rw [HSJ.out]; exact List.getElem_mem hjs)).1 HOJ.k)
    have HKJ := Lib.hid (show pvL (ss.map SetA.l) j = ts[j].rs.map ClaimR.k by unfold pvL; rw [HOJ.k, HSJ.out, List.getD_eq_getElem?_getD, List.getElem?_map, List.getElem?_eq_getElem hjs]; rfl)
    have HLJ := Lib.hid (show ts[j].rs.length = (pvL (ss.map SetA.l) j).length by rw [HKJ.out, List.length_map])
    have HL64 := Lib.hid (show ts[j].rs.length ≤ 64 by have h9 := HSZJ.out; omega)
    have HSZ2 := Lib.hid HSZJ.out.2.2.2.1
    have HPZ := Lib.hid (show st.size = 32 ∧ sf.size = 32 by have h9 := HAZ.out j; rw [HPJ.out] at h9; exact h9)
    have HST1 := Lib.hid (fun (e : j = wh) => show PV (j + 1) = ⟨sayFi st (eachA (grp k) (valF (grp k) (ts[j].rs.map ClaimR.k) (nonceL (grp k) sf ts[j].rs.length)) (lens (ts[j].rs.map ClaimR.k)) ts[j].rs.length), askT sf ts[j].rs.length, so⟩ by rw [HAS.out, HPJ.out]; unfold pvStep; rw [if_pos e, HKJ.out, List.length_map])
    have HST2 := Lib.hid (fun (e : ¬ j = wh) => show PV (j + 1) = ⟨sayFi st (eachA (grp k) (valB (grp k) ((grp k).q.m - chN sf otherB % (grp k).q.m) (ts[j].rs.map ClaimR.k) (nonceL (grp k) (chT sf otherB) ts[j].rs.length)) (lens (ts[j].rs.map ClaimR.k)) ts[j].rs.length), askT (chT sf otherB) ts[j].rs.length, so + chN sf otherB % (grp k).q.m⟩ by rw [HAS.out, HPJ.out]; unfold pvStep; rw [if_neg e, HKJ.out, List.length_map])
    have HCSJ := Lib.hid (show CJ (j + 1) = CJ j ++ [if j = wh then ⟨#[]⟩ else textS (chN sf otherB % (grp k).q.m) (grp k).size] by rw [HCS.out, HPJ.out])
    have HASJ := Lib.hid (show AJ (j + 1) = AJ j ++ [if j = wh then [] else nonceL (grp k) (chT sf otherB) ts[j].rs.length] by rw [HASS.out, HPJ.out, HLJ.out])
    clear HOJ HSJ HSZJ HKJ
    generalize ts[j] = t9 at *
    have HCJ0 := Lib.hid hc_0
    have HCJ1 := Lib.hid hc_1
    have hnj : n - j = (n - j - 1) + 1 := by omega
    rw [hnj, List.replicate_succ] at Hcb Hab
    clear hnj hjt hjs
    by_cases hjw : j = wh
    ·replace HST1 := Lib.hid (HST1.out hjw)
     subst hjw
     clear HST2
     have HLX := Lib.hid (show t9.rs.length = xs.length by rw [HLJ.out, HXL.out])
     have HPF := Lib.hid (show (PV j).f = sf by rw [HPJ.out])
     rw [if_pos rfl] at HCSJ HASJ
     replace HZS := sz HZS HALL.out
     replace HZS := sz HZS HWZ.out
     have t_ := Ht.out.c1
     have f_ := Hf.out.c1
     have su_ := Hsu.out.c4
     have ei_ := Hei.out.c2
     have HKP := Lib.hid (Kept.refl (fun q9 => q9 < wc.heap.size) wr)
     have o8_t_ := t_; clear t_
     have o8_f_ := f_; clear f_
     have o8_su_ := su_; clear su_
     have o8_ei_ := ei_; clear ei_
     obtain ⟨w8, hq8, hb9, hz9, Hbs⟩ := new1 wr 121 [.pointer (some ⟨w1.heap.size, 0, none⟩), .slice t9.a t9.rs.length t9.c]
     replace Ht := Lib.hid (Ht.out.up hb9)
     replace Hf := Lib.hid (Hf.out.up hb9)
     replace Hsu := Lib.hid (Hsu.out.up hb9)
     replace Hei := Lib.hid (Hei.out.up hb9)
     replace Hcb := Lib.hid (Hcb.out.up hb9)
     replace Hab := Lib.hid (Hab.out.up hb9)
     replace BQ := hbu BQ hb9
     replace BS7 := hbu BS7 hb9
     replace HKP := Lib.hid (Kept.up HKP.out hb9)
     replace HB := hbu HB hb9
     replace HZS := sz HZS hz9.out
     clear hb9 hz9
     have t_ := Ht.out.c1
     have f_ := Hf.out.c1
     have su_ := Hsu.out.c4
     have ei_ := Hei.out.c2
     have bs_ := Hbs.out.c2
     go_wp2_with fail
     clear hq8 o8_ei_ o8_su_ o8_f_ o8_t_ hc_0 hc_1
     refine (asked_any (grp k) OK.out w1.heap.size fb t9.a t9.rs.length t9.c HL64.out sf HPZ.out.2 w8 (HG5.out.up BQ.out) Hf.out (show ¬ w1.heap.size = fb by have h9 := HALL.out; omega)).mono ?_
     rintro e wd ⟨a2, c2, rfl, hs2, hf2, ht2, hk2⟩
     have HK1 := Lib.hid hk2
     have Hf1 := Lib.hid (show Bx wd fb 67 [.string (askT sf t9.rs.length)] from ht2)
     have HS2 := Lib.hid hs2
     have HF2 := Lib.hid (show ∀ x, a2 = some x → wc.heap.size ≤ x.block from fun x hx => Nat.le_trans (by have g0 := HZS.out; omega) (hf2 x hx))
     clear hs2 hf2 ht2 hk2
     have hg9 := HK1.out
     clear t_ f_ su_ ei_ bs_ Hf
     replace Ht := Lib.hid (Bx.keptP (P := fun q9 => q9 = fb) Ht.out hg9 (show ¬ (tb = fb) by have g0 := HZS.out; omega))
     replace Hsu := Lib.hid (Bx.keptP (P := fun q9 => q9 = fb) Hsu.out hg9 (show ¬ (w6.heap.size = fb) by have g0 := HZS.out; omega))
     replace Hei := Lib.hid (Bx.keptP (P := fun q9 => q9 = fb) Hei.out hg9 (show ¬ (eb = fb) by have g0 := HZS.out; omega))
     replace Hcb := Lib.hid (Bx.keptP (P := fun q9 => q9 = fb) Hcb.out hg9 (show ¬ (cb = fb) by have g0 := HZS.out; omega))
     replace Hab := Lib.hid (Bx.keptP (P := fun q9 => q9 = fb) Hab.out hg9 (show ¬ (ab = fb) by have g0 := HZS.out; omega))
     replace Hbs := Lib.hid (Bx.keptP (P := fun q9 => q9 = fb) Hbs.out hg9 (show ¬ (wr.heap.size = fb) by have g0 := HZS.out; omega))
     replace BQ := Lib.hid (Below.keptP BQ.out hg9 (by have g0 := HZS.out; omega) (fun q9 h9 => (show w3.heap.size ≤ _ by subst h9; have g0 := HZS.out; omega)))
     replace BS7 := Lib.hid (Below.keptP BS7.out hg9 (by have g0 := HZS.out; omega) (fun q9 h9 => (show w4.heap.size ≤ _ by subst h9; have g0 := HZS.out; omega)))
     replace HB := Lib.hid (Below.keptP HB.out hg9 (by have g0 := HZS.out; omega) (fun q9 h9 => (show w.heap.size ≤ _ by subst h9; have g0 := HZS.out; omega)))
     replace HZS := sz HZS (show w8.heap.size ≤ wd.heap.size from hg9.size)
     replace HKP := Lib.hid (Kept.transP HKP.out hg9 (fun q9 h9 => (show q9 < wc.heap.size by subst h9; have g0 := HZS.out; omega)))
     clear hg9
     have t_ := Ht.out.c1
     have su_ := Hsu.out.c4
     have ei_ := Hei.out.c2
     have bs_ := Hbs.out.c2
     have Hf := Hf1
     clear Hf1
     have f_ := Hf.out.c1
     have BD := Lib.hid (Below.refl wd.heap.size wd)
     go_wp2_with fail
     refine (firsts_any (grp k) OK.out w1.heap.size t9.rs t9.rs.length rfl HL64.out (fun r hr => (HSZ2.out r hr).1) t9.a t9.c (nonceL (grp k) sf t9.rs.length) (nonceL_len _ _ _) a2 c2 wd (HG5.out.up BQ.out) (HSTJ.out.up BQ.out) (HS2.out.up BD.out)).mono ?_
     rintro e w9 ⟨hb9, a9, c9, rq, rfl, hm9, hr9, hz9⟩
     clear t_
     replace Ht := Lib.hid (Ht.out.up hb9)
     clear su_
     replace Hsu := Lib.hid (Hsu.out.up hb9)
     clear ei_
     replace Hei := Lib.hid (Hei.out.up hb9)
     replace Hcb := Lib.hid (Hcb.out.up hb9)
     replace Hab := Lib.hid (Hab.out.up hb9)
     clear bs_
     replace Hbs := Lib.hid (Hbs.out.up hb9)
     clear f_
     replace Hf := Lib.hid (Hf.out.up hb9)
     replace BQ := hbu BQ hb9
     replace BS7 := hbu BS7 hb9
     replace BD := hbu BD hb9
     replace HKP := Lib.hid (Kept.up HKP.out hb9)
     replace HK1 := Lib.hid (Kept.up HK1.out hb9)
     replace HB := hbu HB hb9
     replace HZS := sz HZS hb9.size
     have HMR := Lib.hid hm9
     clear hm9
     have HRR := Lib.hid hr9
     clear hr9
     have HZR := Lib.hid hz9
     clear hz9 hb9
     have t_ := Ht.out.c1
     have su_ := Hsu.out.c4
     have ei_ := Hei.out.c2
     have bs_ := Hbs.out.c2
     have f_ := Hf.out.c1
     have HRO := Lib.hid (show rq.length = t9.rs.length by have h9 := congrArg List.length HMR.out; rw [List.length_map, eachA_len] at h9; exact h9)
     rw [← HMR.out, List.length_map]
     go_wp2_with fail
     refine (said_any tb st rq rq.length rfl (by rw [HRO.out]; exact HL64.out) HPZ.out.1 (eachA_small OK.out.size_le (lens_small fun c hc => by obtain ⟨r, hr, rfl⟩ := List.mem_map.1 hc; exact (HSZ2.out r hr).1) HMR.out) (fun r hr => (HZR.out.1 r hr).2) a9 c9 w9 Ht.out HRR.out (fun x hx e => by have h1 := HZR.out.2.1 x hx; have g0 := HZS.out; omega) (fun r hr x hx e => by have h1 := HZR.out.2.2 r hr x hx; have g0 := HZS.out; omega)).mono ?_
     rintro e we ⟨rfl, ht, hk⟩
     have HK2 := Lib.hid hk
     have Ht1 := Lib.hid (show Bx we tb 67 [.string (sayFi st (rq.map RowA.l))] from ht)
     have HS9 := Lib.hid (Sl.kept (HS2.out.up BD.out) hk (fun x hx e => by have h1 := HF2.out x hx; have h2 := HALL.out; omega))
     clear ht hk BD HK1
     have hg9 := HK2.out
     clear t_ su_ ei_ bs_ f_ Ht
     replace Hsu := Lib.hid (Bx.keptP (P := fun q9 => q9 = tb) Hsu.out hg9 (show ¬ (w6.heap.size = tb) by have g0 := HZS.out; omega))
     replace Hei := Lib.hid (Bx.keptP (P := fun q9 => q9 = tb) Hei.out hg9 (show ¬ (eb = tb) by have g0 := HZS.out; omega))
     replace Hcb := Lib.hid (Bx.keptP (P := fun q9 => q9 = tb) Hcb.out hg9 (show ¬ (cb = tb) by have g0 := HZS.out; omega))
     replace Hab := Lib.hid (Bx.keptP (P := fun q9 => q9 = tb) Hab.out hg9 (show ¬ (ab = tb) by have g0 := HZS.out; omega))
     replace Hbs := Lib.hid (Bx.keptP (P := fun q9 => q9 = tb) Hbs.out hg9 (show ¬ (wr.heap.size = tb) by have g0 := HZS.out; omega))
     replace Hf := Lib.hid (Bx.keptP (P := fun q9 => q9 = tb) Hf.out hg9 (show ¬ (fb = tb) by have g0 := HZS.out; omega))
     replace BQ := Lib.hid (Below.keptP BQ.out hg9 (by have g0 := HZS.out; omega) (fun q9 h9 => (show w3.heap.size ≤ _ by subst h9; have g0 := HZS.out; omega)))
     replace BS7 := Lib.hid (Below.keptP BS7.out hg9 (by have g0 := HZS.out; omega) (fun q9 h9 => (show w4.heap.size ≤ _ by subst h9; have g0 := HZS.out; omega)))
     replace HB := Lib.hid (Below.keptP HB.out hg9 (by have g0 := HZS.out; omega) (fun q9 h9 => (show w.heap.size ≤ _ by subst h9; have g0 := HZS.out; omega)))
     replace HZS := sz HZS (show w9.heap.size ≤ we.heap.size from hg9.size)
     replace HKP := Lib.hid (Kept.transP HKP.out hg9 (fun q9 h9 => (show q9 < wc.heap.size by subst h9; have g0 := HZS.out; omega)))
     clear hg9
     have su_ := Hsu.out.c4
     have ei_ := Hei.out.c2
     have bs_ := Hbs.out.c2
     have f_ := Hf.out.c1
     have HPN := Lib.hid (show PV (j + 1) = ⟨sayFi st (rq.map RowA.l), askT sf t9.rs.length, so⟩ by rw [HST1.out, HMR.out])
     rw [HLX.out] at HS9 ⊢
     go_wp2_with fail
     go_roundw
     case rel => exact ⟨j + 1, _, ro ++ [⟨none, 0, []⟩], by omega, by go_num, HPN, (fun _ => ⟨a2, c2, rfl, by rw [HPF.out]; exact HS9.out, HF2.out⟩), Ht1, Hf, Hsu, Lib.hid (by rw [HCSJ.out]; have h9 := Hcb.out; simpa [Nat.sub_sub] using h9), Lib.hid (by rw [List.length_append, HRL.out]; rfl), Lib.hid (by rw [List.map_append, HRM.out, HASJ.out]; rfl), Lib.hid (by rw [List.flatMap_append]; have h9 := Hab.out; simpa [RowA.cells, Nat.sub_sub] using h9), (fun r hr => by
      rcases List.mem_append.1 hr with hr | hr
      ·exact (HRN.out.keptN HKP.out) r hr
      ·obtain rfl := List.mem_singleton.1 hr
       exact ⟨Or.inl rfl, fun x hx => by (cases hx), fun _ => rfl, Nat.le_refl _⟩), Hei, Lib.hid (by have g0 := HZS.out; omega), BQ, BS7⟩
     case measure => simp [intOf]; omega
    ·replace HST2 := Lib.hid (HST2.out hjw)
     rw [if_neg hjw] at HCSJ HASJ
     clear HST1
     have HCH := Lib.hid (fun W hG hT => gChallenge_any (grp k) OK.out w1.heap.size fb sf otherB (by have := HPZ.out.2; omega) (by decide) W hG hT (show ¬ w1.heap.size = fb by have h9 := HALL.out; omega))
     rw [← scV_mod (grp k) (chN sf otherB)] at HCH
     have HY := Lib.hid (show chN sf otherB % (grp k).q.m < (grp k).q.m from Nat.mod_lt _ OK.out.q.pos)
     have HSZ3 := Lib.hid (show (chT sf otherB).size = 32 from chT_size _ _)
     generalize chN sf otherB % (grp k).q.m = y at *
     generalize chT sf otherB = s2 at *
     replace HZS := sz HZS HALL.out
     replace HZS := sz HZS HWZ.out
     have t_ := Ht.out.c1
     have f_ := Hf.out.c1
     have su_ := Hsu.out.c4
     have ei_ := Hei.out.c2
     have HKP := Lib.hid (Kept.refl (fun q9 => q9 < wc.heap.size) wr)
     have o8_t_ := t_; clear t_
     have o8_f_ := f_; clear f_
     have o8_su_ := su_; clear su_
     have o8_ei_ := ei_; clear ei_
     obtain ⟨w8, hq8, hb9, hz9, Hbs⟩ := new1 wr 121 [.pointer (some ⟨w1.heap.size, 0, none⟩), .slice t9.a t9.rs.length t9.c]
     replace Ht := Lib.hid (Ht.out.up hb9)
     replace Hf := Lib.hid (Hf.out.up hb9)
     replace Hsu := Lib.hid (Hsu.out.up hb9)
     replace Hei := Lib.hid (Hei.out.up hb9)
     replace Hcb := Lib.hid (Hcb.out.up hb9)
     replace Hab := Lib.hid (Hab.out.up hb9)
     replace BQ := hbu BQ hb9
     replace BS7 := hbu BS7 hb9
     replace HKP := Lib.hid (Kept.up HKP.out hb9)
     replace HB := hbu HB hb9
     replace HZS := sz HZS hz9.out
     clear hb9 hz9
     have t_ := Ht.out.c1
     have f_ := Hf.out.c1
     have su_ := Hsu.out.c4
     have ei_ := Hei.out.c2
     have bs_ := Hbs.out.c2
     go_wp2_with fail
     clear hq8 o8_ei_ o8_su_ o8_f_ o8_t_ hc_0 hc_1
     refine (HCH.out w8 (HG5.out.up BQ.out) Hf.out).mono ?_
     rintro e wd ⟨rfl, ht2, hk2⟩
     have HK1 := Lib.hid hk2
     have Hf1 := Lib.hid (show Bx wd fb 67 [.string s2] from ht2)
     clear ht2 hk2 HCH
     have hg9 := HK1.out
     clear t_ f_ su_ ei_ bs_ Hf
     replace Ht := Lib.hid (Bx.keptP (P := fun q9 => q9 = fb) Ht.out hg9 (show ¬ (tb = fb) by have g0 := HZS.out; omega))
     replace Hsu := Lib.hid (Bx.keptP (P := fun q9 => q9 = fb) Hsu.out hg9 (show ¬ (w6.heap.size = fb) by have g0 := HZS.out; omega))
     replace Hei := Lib.hid (Bx.keptP (P := fun q9 => q9 = fb) Hei.out hg9 (show ¬ (eb = fb) by have g0 := HZS.out; omega))
     replace Hcb := Lib.hid (Bx.keptP (P := fun q9 => q9 = fb) Hcb.out hg9 (show ¬ (cb = fb) by have g0 := HZS.out; omega))
     replace Hab := Lib.hid (Bx.keptP (P := fun q9 => q9 = fb) Hab.out hg9 (show ¬ (ab = fb) by have g0 := HZS.out; omega))
     replace Hbs := Lib.hid (Bx.keptP (P := fun q9 => q9 = fb) Hbs.out hg9 (show ¬ (wr.heap.size = fb) by have g0 := HZS.out; omega))
     replace BQ := Lib.hid (Below.keptP BQ.out hg9 (by have g0 := HZS.out; omega) (fun q9 h9 => (show w3.heap.size ≤ _ by subst h9; have g0 := HZS.out; omega)))
     replace BS7 := Lib.hid (Below.keptP BS7.out hg9 (by have g0 := HZS.out; omega) (fun q9 h9 => (show w4.heap.size ≤ _ by subst h9; have g0 := HZS.out; omega)))
     replace HB := Lib.hid (Below.keptP HB.out hg9 (by have g0 := HZS.out; omega) (fun q9 h9 => (show w.heap.size ≤ _ by subst h9; have g0 := HZS.out; omega)))
     replace HZS := sz HZS (show w8.heap.size ≤ wd.heap.size from hg9.size)
     replace HKP := Lib.hid (Kept.transP HKP.out hg9 (fun q9 h9 => (show q9 < wc.heap.size by subst h9; have g0 := HZS.out; omega)))
     clear hg9
     have t_ := Ht.out.c1
     have su_ := Hsu.out.c4
     have ei_ := Hei.out.c2
     have bs_ := Hbs.out.c2
     have Hf := Hf1
     clear Hf1 HK1
     have f_ := Hf.out.c1
     unfold scV limbV
     have o9_t_ := t_; clear t_
     have o9_su_ := su_; clear su_
     have o9_ei_ := ei_; clear ei_
     have o9_bs_ := bs_; clear bs_
     have o9_f_ := f_; clear f_
     obtain ⟨w9, hq9, hb9, hz9, Hbc⟩ := new1 wd 78 [.int .u64 (dig (mont (grp k).q.m y) 0 : Int), .int .u64 (dig (mont (grp k).q.m y) 1 : Int), .int .u64 (dig (mont (grp k).q.m y) 2 : Int), .int .u64 (dig (mont (grp k).q.m y) 3 : Int)]
     replace Ht := Lib.hid (Ht.out.up hb9)
     replace Hsu := Lib.hid (Hsu.out.up hb9)
     replace Hei := Lib.hid (Hei.out.up hb9)
     replace Hcb := Lib.hid (Hcb.out.up hb9)
     replace Hab := Lib.hid (Hab.out.up hb9)
     replace Hbs := Lib.hid (Hbs.out.up hb9)
     replace Hf := Lib.hid (Hf.out.up hb9)
     replace BQ := hbu BQ hb9
     replace BS7 := hbu BS7 hb9
     replace HKP := Lib.hid (Kept.up HKP.out hb9)
     replace HB := hbu HB hb9
     replace HZS := sz HZS hz9.out
     clear hb9 hz9
     have t_ := Ht.out.c1
     have su_ := Hsu.out.c4
     have ei_ := Hei.out.c2
     have bs_ := Hbs.out.c2
     have f_ := Hf.out.c1
     have bc_ := Hbc.out.c4
     go_wp2_with fail
     clear hq9 o9_f_ o9_bs_ o9_ei_ o9_su_ o9_t_
     refine (asked_any (grp k) OK.out w1.heap.size fb t9.a t9.rs.length t9.c HL64.out s2 HSZ3.out w9 (HG5.out.up BQ.out) Hf.out (show ¬ w1.heap.size = fb by have h9 := HALL.out; omega)).mono ?_
     rintro e we ⟨a2, c2, rfl, hs2, hf2, ht2, hk2⟩
     have HK1 := Lib.hid hk2
     have Hf1 := Lib.hid (show Bx we fb 67 [.string (askT s2 t9.rs.length)] from ht2)
     have HS2 := Lib.hid hs2
     have HF2 := Lib.hid (show ∀ x, a2 = some x → wc.heap.size ≤ x.block from fun x hx => Nat.le_trans (by have g0 := HZS.out; omega) (hf2 x hx))
     clear hs2 hf2 ht2 hk2
     have hg9 := HK1.out
     clear t_ su_ ei_ bs_ f_ bc_ Hf
     replace Ht := Lib.hid (Bx.keptP (P := fun q9 => q9 = fb) Ht.out hg9 (show ¬ (tb = fb) by have g0 := HZS.out; omega))
     replace Hsu := Lib.hid (Bx.keptP (P := fun q9 => q9 = fb) Hsu.out hg9 (show ¬ (w6.heap.size = fb) by have g0 := HZS.out; omega))
     replace Hei := Lib.hid (Bx.keptP (P := fun q9 => q9 = fb) Hei.out hg9 (show ¬ (eb = fb) by have g0 := HZS.out; omega))
     replace Hcb := Lib.hid (Bx.keptP (P := fun q9 => q9 = fb) Hcb.out hg9 (show ¬ (cb = fb) by have g0 := HZS.out; omega))
     replace Hab := Lib.hid (Bx.keptP (P := fun q9 => q9 = fb) Hab.out hg9 (show ¬ (ab = fb) by have g0 := HZS.out; omega))
     replace Hbs := Lib.hid (Bx.keptP (P := fun q9 => q9 = fb) Hbs.out hg9 (show ¬ (wr.heap.size = fb) by have g0 := HZS.out; omega))
     replace Hbc := Lib.hid (Bx.keptP (P := fun q9 => q9 = fb) Hbc.out hg9 (show ¬ (wd.heap.size = fb) by have g0 := HZS.out; omega))
     replace BQ := Lib.hid (Below.keptP BQ.out hg9 (by have g0 := HZS.out; omega) (fun q9 h9 => (show w3.heap.size ≤ _ by subst h9; have g0 := HZS.out; omega)))
     replace BS7 := Lib.hid (Below.keptP BS7.out hg9 (by have g0 := HZS.out; omega) (fun q9 h9 => (show w4.heap.size ≤ _ by subst h9; have g0 := HZS.out; omega)))
     replace HB := Lib.hid (Below.keptP HB.out hg9 (by have g0 := HZS.out; omega) (fun q9 h9 => (show w.heap.size ≤ _ by subst h9; have g0 := HZS.out; omega)))
     replace HZS := sz HZS (show w9.heap.size ≤ we.heap.size from hg9.size)
     replace HKP := Lib.hid (Kept.transP HKP.out hg9 (fun q9 h9 => (show q9 < wc.heap.size by subst h9; have g0 := HZS.out; omega)))
     clear hg9
     have t_ := Ht.out.c1
     have su_ := Hsu.out.c4
     have ei_ := Hei.out.c2
     have bs_ := Hbs.out.c2
     have bc_ := Hbc.out.c4
     have Hf := Hf1
     clear Hf1 HK1
     have f_ := Hf.out.c1
     have BD := Lib.hid (Below.refl we.heap.size we)
     have HKZ := Lib.hid (Kept.refl (fun q9 => q9 < wc.heap.size) we)
     go_wp2_with fail
     refine (back_any (grp k) OK.out w1.heap.size y (Nat.le_of_lt HY.out) t9.rs t9.rs.length rfl HL64.out HSZ2.out t9.a t9.c (nonceL (grp k) s2 t9.rs.length) (nonceL_len _ _ _) a2 c2 we (HG5.out.up BQ.out) (HSTJ.out.up BQ.out) (HS2.out.up BD.out)).mono ?_
     rintro e w10 ⟨hb9, a9, c9, rq, rfl, hm9, hr9, hz9⟩
     clear t_
     replace Ht := Lib.hid (Ht.out.up hb9)
     clear su_
     replace Hsu := Lib.hid (Hsu.out.up hb9)
     clear ei_
     replace Hei := Lib.hid (Hei.out.up hb9)
     replace Hcb := Lib.hid (Hcb.out.up hb9)
     replace Hab := Lib.hid (Hab.out.up hb9)
     clear bs_
     replace Hbs := Lib.hid (Hbs.out.up hb9)
     clear bc_
     replace Hbc := Lib.hid (Hbc.out.up hb9)
     clear f_
     replace Hf := Lib.hid (Hf.out.up hb9)
     replace BQ := hbu BQ hb9
     replace BS7 := hbu BS7 hb9
     replace BD := hbu BD hb9
     replace HKP := Lib.hid (Kept.up HKP.out hb9)
     replace HKZ := Lib.hid (Kept.up HKZ.out hb9)
     replace HB := hbu HB hb9
     replace HZS := sz HZS hb9.size
     have HMR := Lib.hid hm9
     clear hm9
     have HRR := Lib.hid hr9
     clear hr9
     have HZR := Lib.hid hz9
     clear hz9 hb9
     have t_ := Ht.out.c1
     have su_ := Hsu.out.c4
     have ei_ := Hei.out.c2
     have bs_ := Hbs.out.c2
     have bc_ := Hbc.out.c4
     have f_ := Hf.out.c1
     have HRO := Lib.hid (show rq.length = t9.rs.length by have h9 := congrArg List.length HMR.out; rw [List.length_map, eachA_len] at h9; exact h9)
     rw [← HMR.out, List.length_map]
     clear BD
     go_wp2_with fail
     refine (said_any tb st rq rq.length rfl (by rw [HRO.out]; exact HL64.out) HPZ.out.1 (eachA_small OK.out.size_le (lens_small fun c hc => by obtain ⟨r, hr, rfl⟩ := List.mem_map.1 hc; exact (HSZ2.out r hr).1) HMR.out) (fun r hr => (HZR.out.1 r hr).2) a9 c9 w10 Ht.out HRR.out (fun x hx e => by have h1 := HZR.out.2.1 x hx; have g0 := HZS.out; omega) (fun r hr x hx e => by have h1 := HZR.out.2.2 r hr x hx; have g0 := HZS.out; omega)).mono ?_
     rintro e wf ⟨rfl, ht, hk⟩
     have HK1 := Lib.hid hk
     have Ht1 := Lib.hid (show Bx wf tb 67 [.string (sayFi st (rq.map RowA.l))] from ht)
     clear ht hk
     have hg9 := HK1.out
     clear t_ su_ ei_ bs_ bc_ f_ Ht
     replace Hsu := Lib.hid (Bx.keptP (P := fun q9 => q9 = tb) Hsu.out hg9 (show ¬ (w6.heap.size = tb) by have g0 := HZS.out; omega))
     replace Hei := Lib.hid (Bx.keptP (P := fun q9 => q9 = tb) Hei.out hg9 (show ¬ (eb = tb) by have g0 := HZS.out; omega))
     replace Hcb := Lib.hid (Bx.keptP (P := fun q9 => q9 = tb) Hcb.out hg9 (show ¬ (cb = tb) by have g0 := HZS.out; omega))
     replace Hab := Lib.hid (Bx.keptP (P := fun q9 => q9 = tb) Hab.out hg9 (show ¬ (ab = tb) by have g0 := HZS.out; omega))
     replace Hbs := Lib.hid (Bx.keptP (P := fun q9 => q9 = tb) Hbs.out hg9 (show ¬ (wr.heap.size = tb) by have g0 := HZS.out; omega))
     replace Hbc := Lib.hid (Bx.keptP (P := fun q9 => q9 = tb) Hbc.out hg9 (show ¬ (wd.heap.size = tb) by have g0 := HZS.out; omega))
     replace Hf := Lib.hid (Bx.keptP (P := fun q9 => q9 = tb) Hf.out hg9 (show ¬ (fb = tb) by have g0 := HZS.out; omega))
     replace BQ := Lib.hid (Below.keptP BQ.out hg9 (by have g0 := HZS.out; omega) (fun q9 h9 => (show w3.heap.size ≤ _ by subst h9; have g0 := HZS.out; omega)))
     replace BS7 := Lib.hid (Below.keptP BS7.out hg9 (by have g0 := HZS.out; omega) (fun q9 h9 => (show w4.heap.size ≤ _ by subst h9; have g0 := HZS.out; omega)))
     replace HB := Lib.hid (Below.keptP HB.out hg9 (by have g0 := HZS.out; omega) (fun q9 h9 => (show w.heap.size ≤ _ by subst h9; have g0 := HZS.out; omega)))
     replace HZS := sz HZS (show w10.heap.size ≤ wf.heap.size from hg9.size)
     replace HKP := Lib.hid (Kept.transP HKP.out hg9 (fun q9 h9 => (show q9 < wc.heap.size by subst h9; have g0 := HZS.out; omega)))
     replace HKZ := Lib.hid (Kept.transP HKZ.out hg9 (fun q9 h9 => (show q9 < wc.heap.size by subst h9; have g0 := HZS.out; omega)))
     clear hg9
     have su_ := Hsu.out.c4
     have ei_ := Hei.out.c2
     have bs_ := Hbs.out.c2
     have bc_ := Hbc.out.c4
     have f_ := Hf.out.c1
     have Ht := Ht1
     clear Ht1 HK1
     have t_ := Ht.out.c1
     have HPN := Lib.hid (show PV (j + 1) = ⟨sayFi st (rq.map RowA.l), askT s2 t9.rs.length, so + y⟩ by rw [HST2.out, HMR.out])
     clear HST2 HMR HRR HZR HRO
     go_wp2_with fail
     refine (gAdd_any (grp k) OK.out w1.heap.size so y wf (HG5.out.up BQ.out)).mono ?_
     rintro e w11 ⟨rfl, hb9⟩
     clear su_
     replace Hsu := Lib.hid (Hsu.out.up hb9)
     clear ei_
     replace Hei := Lib.hid (Hei.out.up hb9)
     replace Hcb := Lib.hid (Hcb.out.up hb9)
     replace Hab := Lib.hid (Hab.out.up hb9)
     clear bs_
     replace Hbs := Lib.hid (Hbs.out.up hb9)
     clear bc_
     replace Hbc := Lib.hid (Hbc.out.up hb9)
     clear f_
     replace Hf := Lib.hid (Hf.out.up hb9)
     clear t_
     replace Ht := Lib.hid (Ht.out.up hb9)
     replace BQ := hbu BQ hb9
     replace BS7 := hbu BS7 hb9
     replace HKP := Lib.hid (Kept.up HKP.out hb9)
     replace HKZ := Lib.hid (Kept.up HKZ.out hb9)
     replace HB := hbu HB hb9
     replace HZS := sz HZS hb9.size
     clear hb9
     have su_ := Hsu.out.c4
     have ei_ := Hei.out.c2
     have bs_ := Hbs.out.c2
     have bc_ := Hbc.out.c4
     have f_ := Hf.out.c1
     have t_ := Ht.out.c1
     unfold scV limbV
     have f12_su := Hsu.out.frozen
     have o12_su_ := su_; clear su_
     have o12_ei_ := ei_; clear ei_
     have o12_bs_ := bs_; clear bs_
     have o12_bc_ := bc_; clear bc_
     have o12_f_ := f_; clear f_
     have o12_t_ := t_; clear t_
     obtain ⟨w12, hq12, hg9, hz9, hx9⟩ := put4 Hsu 0 (.int .u64 (dig (mont (grp k).q.m (so + y)) 0 : Int)) 1 (.int .u64 (dig (mont (grp k).q.m (so + y)) 1 : Int)) 2 (.int .u64 (dig (mont (grp k).q.m (so + y)) 2 : Int)) 3 (.int .u64 (dig (mont (grp k).q.m (so + y)) 3 : Int)) [.int .u64 (dig (mont (grp k).q.m (so + y)) 0 : Int), .int .u64 (dig (mont (grp k).q.m (so + y)) 1 : Int), .int .u64 (dig (mont (grp k).q.m (so + y)) 2 : Int), .int .u64 (dig (mont (grp k).q.m (so + y)) 3 : Int)] rfl
     replace Hei := Lib.hid (Hei.out.grown hg9.out (sne (by have g0 := HZS.out; omega)))
     replace Hcb := Lib.hid (Hcb.out.grown hg9.out (sne (by have g0 := HZS.out; omega)))
     replace Hab := Lib.hid (Hab.out.grown hg9.out (sne (by have g0 := HZS.out; omega)))
     replace Hbs := Lib.hid (Hbs.out.grown hg9.out (sne (by have g0 := HZS.out; omega)))
     replace Hbc := Lib.hid (Hbc.out.grown hg9.out (sne (by have g0 := HZS.out; omega)))
     replace Hf := Lib.hid (Hf.out.grown hg9.out (sne (by have g0 := HZS.out; omega)))
     replace Ht := Lib.hid (Ht.out.grown hg9.out (sne (by have g0 := HZS.out; omega)))
     replace BQ := hbg BQ hg9 (by have g0 := HZS.out; omega)
     replace BS7 := hbg BS7 hg9 (by have g0 := HZS.out; omega)
     replace HKP := Lib.hid (Kept.grown HKP.out hg9.out (fun q9 e9 => by obtain rfl := Option.some.inj e9; exact (by first | exact Or.inr (show w6.heap.size < wc.heap.size by have g0 := HZS.out; omega) | exact Or.inl (show wr.heap.size ≤ w6.heap.size by have g0 := HZS.out; omega))))
     replace HKZ := Lib.hid (Kept.grown HKZ.out hg9.out (fun q9 e9 => by obtain rfl := Option.some.inj e9; exact (by first | exact Or.inr (show w6.heap.size < wc.heap.size by have g0 := HZS.out; omega) | exact Or.inl (show we.heap.size ≤ w6.heap.size by have g0 := HZS.out; omega))))
     replace HB := hbg HB hg9 (by have g0 := HZS.out; omega)
     replace HZS := sz HZS hz9.out
     replace Hsu := hx9
     clear hx9 hg9 hz9
     have su_ := Hsu.out.c4
     have ei_ := Hei.out.c2
     have bs_ := Hbs.out.c2
     have bc_ := Hbc.out.c4
     have f_ := Hf.out.c1
     have t_ := Ht.out.c1
     have HGW := Lib.hid (HG5.out.up BQ.out)
     go_wp2_with fail
     clear hq12 o12_t_ o12_f_ o12_bc_ o12_bs_ o12_ei_ o12_su_ f12_su
     have hob := Hcb.out.lt
     have hoc := Hcb.out.cell (mid_get (v := .string ⟨#[]⟩) (ys := List.replicate (n - j - 1) (.string ⟨#[]⟩)) (show ((CJ j).map Value.string).length = j by rw [List.length_map, HCL.out]))
     have HT := Lib.hid (show Below w12.heap.size w12 w12.drew from (Below.refl _ _).drew)
     have hl_su := Hsu.out.lt
     have hl_ei := Hei.out.lt
     have hl_bs := Hbs.out.lt
     have hl_bc := Hbc.out.lt
     have hl_f := Hf.out.lt
     have hl_t := Ht.out.lt
     refine wp_region_treek (fun wq9 => ∃ E : Over w12, wq9 = E.w) 7 ((.qs [0] (.e 1 [] (.qs [2, 3] (.e 4 [] (.a 5 (.qs [6] (.a 7 .done)))))))) (by kernel_rfl) (by kernel_rfl) (fun _ _ d _ _ h => by cases d <;> exact h) ⟨⟨_, HT.out⟩, rfl⟩ ?_
     have hov_su := fun (E : Over w12) o => E.cell (b := w6.heap.size) o hl_su
     have hov_ei := fun (E : Over w12) o => E.cell (b := eb) o hl_ei
     have hov_bs := fun (E : Over w12) o => E.cell (b := wr.heap.size) o hl_bs
     have hov_bc := fun (E : Over w12) o => E.cell (b := wd.heap.size) o hl_bc
     have hov_f := fun (E : Over w12) o => E.cell (b := fb) o hl_f
     have hov_t := fun (E : Over w12) o => E.cell (b := tb) o hl_t
     have hov_cb := fun (E : Over w12) o => E.cell (b := cb) o hob
     simp only [TreeK.qs]
     repeat (first | (refine treek_q rfl rfl ?_; go_big_quiet_step (fail); refine wpQuiet_nil ?_) | (refine treek_e rfl rfl ?_; go_big_quiet_step (fail); refine wpQuiet_nil ?_))
     refine treek_a rfl (fun K hK => ?_)
     go_simp
     refine (gPut_any (grp k) OK.out w1.heap.size y _ (HGW.out.up HT.out)).mono ?_
     rintro e w13 ⟨rfl, hb9⟩
     replace HT := Lib.hid (below_up HT.out hb9)
     replace HZS := sz HZS (show w12.heap.size ≤ w13.heap.size from HT.out.size)
     clear hb9
     refine hK _ _ ⟨fun _ => ⟨⟨w13, HT.out⟩, rfl⟩, ?_⟩
     clear hK K
     repeat (first | (refine treek_q rfl rfl ?_; go_big_quiet_step (fail); refine wpQuiet_nil ?_) | (refine treek_e rfl rfl ?_; go_big_quiet_step (fail); refine wpQuiet_nil ?_))
     clear hoc hob hov_su hl_su hov_ei hl_ei hov_bs hl_bs hov_bc hl_bc hov_f hl_f hov_t hl_t hov_cb su_
     replace Hsu := Lib.hid (Hsu.out.up HT.out)
     clear ei_
     replace Hei := Lib.hid (Hei.out.up HT.out)
     replace Hcb := Lib.hid (Hcb.out.up HT.out)
     replace Hab := Lib.hid (Hab.out.up HT.out)
     clear bs_
     replace Hbs := Lib.hid (Hbs.out.up HT.out)
     clear bc_
     replace Hbc := Lib.hid (Hbc.out.up HT.out)
     clear f_
     replace Hf := Lib.hid (Hf.out.up HT.out)
     clear t_
     replace Ht := Lib.hid (Ht.out.up HT.out)
     replace BQ := hbu BQ HT.out
     replace BS7 := hbu BS7 HT.out
     replace HKP := Lib.hid (Kept.up HKP.out HT.out)
     replace HKZ := Lib.hid (Kept.up HKZ.out HT.out)
     replace HB := hbu HB HT.out
     replace HZS := sz HZS HT.out.size
     clear HT
     have hoc := Hcb.out.cell (mid_get (v := .string ⟨#[]⟩) (ys := List.replicate (n - j - 1) (.string ⟨#[]⟩)) (show ((CJ j).map Value.string).length = j by rw [List.length_map, HCL.out]))
     have su_ := Hsu.out.c4
     have ei_ := Hei.out.c2
     have bs_ := Hbs.out.c2
     have bc_ := Hbc.out.c4
     have f_ := Hf.out.c1
     have t_ := Ht.out.c1
     have f14_cb := Hcb.out.frozen
     have o14_su_ := su_; clear su_
     have o14_ei_ := ei_; clear ei_
     have o14_bs_ := bs_; clear bs_
     have o14_bc_ := bc_; clear bc_
     have o14_f_ := f_; clear f_
     have o14_t_ := t_; clear t_
     obtain ⟨w14, hq14, hg9, hz9, hx9⟩ := put1 Hcb j (.string (textS (y % (grp k).q.m) (grp k).size)) _ rfl
     replace Hsu := Lib.hid (Hsu.out.grown hg9.out (sne (by have g0 := HZS.out; omega)))
     replace Hei := Lib.hid (Hei.out.grown hg9.out (sne (by have g0 := HZS.out; omega)))
     replace Hab := Lib.hid (Hab.out.grown hg9.out (sne (by have g0 := HZS.out; omega)))
     replace Hbs := Lib.hid (Hbs.out.grown hg9.out (sne (by have g0 := HZS.out; omega)))
     replace Hbc := Lib.hid (Hbc.out.grown hg9.out (sne (by have g0 := HZS.out; omega)))
     replace Hf := Lib.hid (Hf.out.grown hg9.out (sne (by have g0 := HZS.out; omega)))
     replace Ht := Lib.hid (Ht.out.grown hg9.out (sne (by have g0 := HZS.out; omega)))
     replace BQ := hbg BQ hg9 (by have g0 := HZS.out; omega)
     replace BS7 := hbg BS7 hg9 (by have g0 := HZS.out; omega)
     replace HKP := Lib.hid (Kept.grown HKP.out hg9.out (fun q9 e9 => by obtain rfl := Option.some.inj e9; exact (by first | exact Or.inr (show cb < wc.heap.size by have g0 := HZS.out; omega) | exact Or.inl (show wr.heap.size ≤ cb by have g0 := HZS.out; omega))))
     replace HKZ := Lib.hid (Kept.grown HKZ.out hg9.out (fun q9 e9 => by obtain rfl := Option.some.inj e9; exact (by first | exact Or.inr (show cb < wc.heap.size by have g0 := HZS.out; omega) | exact Or.inl (show we.heap.size ≤ cb by have g0 := HZS.out; omega))))
     replace HB := hbg HB hg9 (by have g0 := HZS.out; omega)
     replace HZS := sz HZS hz9.out
     replace Hcb := hx9
     clear hx9 hg9 hz9
     have su_ := Hsu.out.c4
     have ei_ := Hei.out.c2
     have bs_ := Hbs.out.c2
     have bc_ := Hbc.out.c4
     have f_ := Hf.out.c1
     have t_ := Ht.out.c1
     refine treek_a rfl (fun K hK => ?_)
     go_simp
     try rw [hq14]
     refine hK _ _ ⟨fun h9 => absurd rfl h9, ?_⟩
     clear hK K hq14 o14_t_ o14_f_ o14_bc_ o14_bs_ o14_ei_ o14_su_ f14_cb hoc
     refine treek_end ?_
     have HCB2 := Lib.hid (show Bx w14 cb 9 ((CJ (j + 1)).map Value.string ++ List.replicate (n - (j + 1)) (.string ⟨#[]⟩)) by
      have h9 := Hcb.out
      rw [mid_set (by rw [List.length_map, HCL.out]), Nat.mod_eq_of_lt HY.out] at h9
      rw [HCSJ.out]
      simpa [Nat.sub_sub] using h9)
     replace Hcb := HCB2
     have HNB := Lib.hid (fun t h => nonce_num OK.out s2 t9.rs.length t h)
     have HNLL := Lib.hid (nonceL_len (grp k) s2 t9.rs.length)
     generalize nonceL (grp k) s2 t9.rs.length = NL at *
     clear HCB2 HCSJ HCL HSTJ HCJ0 HCJ1 HSZ2 HY
     obtain ⟨wo, rfl⟩ : ∃ wo : World, wo = wr := ⟨_, rfl⟩
     have HK2 := Lib.hid (Kept.refl (fun q9 => q9 = ab) w14)
     go_wp2_with fail
     go_loopw [136] (fun i wr => ∃ (t : Nat) (g : Option Addr) (c9 : Nat), t ≤ t9.rs.length ∧ i = .int .i64 (t : Int) ∧ Hid (Kept (fun q => q = ab) w14 wr) ∧ Hid (Bx wr ab 22 (ro.flatMap RowA.cells ++ (.slice g t c9) :: List.replicate (n - j - 1) (.slice none 0 0))) ∧ Hid (RowO w14.heap.size wr 9 1 (.slice g t c9) t ((NL.take t).map Value.string))) (fun i _ => t9.rs.length - (intOf i).toNat)
     case atStart => exact ⟨0, none, 0, Nat.zero_le _, rfl, HK2, Hab, RowO.nil⟩
     case round =>
      obtain ⟨t, g, c9, ht, rfl, HK2, Hab9, Hr⟩ := hrel
      have hg9 := HK2.out
      clear su_ ei_ bs_ bc_ f_ t_ Hab
      replace Hsu := Lib.hid (Bx.keptP (P := fun q9 => q9 = ab) Hsu.out hg9 (show ¬ (w6.heap.size = ab) by have g0 := HZS.out; omega))
      replace Hei := Lib.hid (Bx.keptP (P := fun q9 => q9 = ab) Hei.out hg9 (show ¬ (eb = ab) by have g0 := HZS.out; omega))
      replace Hcb := Lib.hid (Bx.keptP (P := fun q9 => q9 = ab) Hcb.out hg9 (show ¬ (cb = ab) by have g0 := HZS.out; omega))
      replace Hbs := Lib.hid (Bx.keptP (P := fun q9 => q9 = ab) Hbs.out hg9 (show ¬ (wo.heap.size = ab) by have g0 := HZS.out; omega))
      replace Hbc := Lib.hid (Bx.keptP (P := fun q9 => q9 = ab) Hbc.out hg9 (show ¬ (wd.heap.size = ab) by have g0 := HZS.out; omega))
      replace Hf := Lib.hid (Bx.keptP (P := fun q9 => q9 = ab) Hf.out hg9 (show ¬ (fb = ab) by have g0 := HZS.out; omega))
      replace Ht := Lib.hid (Bx.keptP (P := fun q9 => q9 = ab) Ht.out hg9 (show ¬ (tb = ab) by have g0 := HZS.out; omega))
      replace BQ := Lib.hid (Below.keptP BQ.out hg9 (by have g0 := HZS.out; omega) (fun q9 h9 => (show w3.heap.size ≤ _ by subst h9; have g0 := HZS.out; omega)))
      replace BS7 := Lib.hid (Below.keptP BS7.out hg9 (by have g0 := HZS.out; omega) (fun q9 h9 => (show w4.heap.size ≤ _ by subst h9; have g0 := HZS.out; omega)))
      replace HB := Lib.hid (Below.keptP HB.out hg9 (by have g0 := HZS.out; omega) (fun q9 h9 => (show w.heap.size ≤ _ by subst h9; have g0 := HZS.out; omega)))
      replace HZS := sz HZS (show w14.heap.size ≤ wr.heap.size from hg9.size)
      replace HKP := Lib.hid (Kept.transP HKP.out hg9 (fun q9 h9 => (show q9 < wc.heap.size by subst h9; have g0 := HZS.out; omega)))
      replace HKZ := Lib.hid (Kept.transP HKZ.out hg9 (fun q9 h9 => (show q9 < wc.heap.size by subst h9; have g0 := HZS.out; omega)))
      clear hg9
      have su_ := Hsu.out.c4
      have ei_ := Hei.out.c2
      have bs_ := Hbs.out.c2
      have bc_ := Hbc.out.c4
      have f_ := Hf.out.c1
      have t_ := Ht.out.c1
      have Hab := Hab9
      clear Hab9
      by_cases htm : t < t9.rs.length
      ·have htz : t < NL.length := by rw [HNLL.out]; exact htm
       obtain ⟨bz, oz, rfl, hbz, hcz⟩ := (Sl.kept HS2.out HKZ.out (fun x hx e => by have h1 := HF2.out x hx; have e : x.block < wc.heap.size := e; omega)).elem (limC_len _) (by omega) t htz
       have hcz_0 := hcz 0 _ rfl
       rw [Nat.add_zero] at hcz_0
       have hcz_1 := hcz 1 _ rfl
       have hcz_2 := hcz 2 _ rfl
       have hcz_3 := hcz 3 _ rfl
       clear hcz
       have HNT := Lib.hid (HNB.out t htz)
       have HTK := Lib.hid (take_str htz HNT.out)
       generalize NL[t] = x at *
       have h64 := HL64.out
       have HNP := Lib.hid (fun q e => (Hr.out.lt q e).2)
       have o15_su_ := su_; clear su_
       have o15_ei_ := ei_; clear ei_
       have o15_bs_ := bs_; clear bs_
       have o15_bc_ := bc_; clear bc_
       have o15_f_ := f_; clear f_
       have o15_t_ := t_; clear t_
       obtain ⟨w15, hq15, hb9, hz9, Hba⟩ := new1 wr 78 [.int .u64 (dig (mont (grp k).q.m (numOf x)) 0 : Int), .int .u64 (dig (mont (grp k).q.m (numOf x)) 1 : Int), .int .u64 (dig (mont (grp k).q.m (numOf x)) 2 : Int), .int .u64 (dig (mont (grp k).q.m (numOf x)) 3 : Int)]
       replace Hsu := Lib.hid (Hsu.out.up hb9)
       replace Hei := Lib.hid (Hei.out.up hb9)
       replace Hcb := Lib.hid (Hcb.out.up hb9)
       replace Hbs := Lib.hid (Hbs.out.up hb9)
       replace Hbc := Lib.hid (Hbc.out.up hb9)
       replace Hf := Lib.hid (Hf.out.up hb9)
       replace Ht := Lib.hid (Ht.out.up hb9)
       replace Hab := Lib.hid (Hab.out.up hb9)
       replace Hr := Lib.hid (Hr.out.up hb9)
       replace BQ := hbu BQ hb9
       replace BS7 := hbu BS7 hb9
       replace HKP := Lib.hid (Kept.up HKP.out hb9)
       replace HKZ := Lib.hid (Kept.up HKZ.out hb9)
       replace HK2 := Lib.hid (Kept.up HK2.out hb9)
       replace HB := hbu HB hb9
       replace HZS := sz HZS hz9.out
       clear hb9 hz9
       have su_ := Hsu.out.c4
       have ei_ := Hei.out.c2
       have bs_ := Hbs.out.c2
       have bc_ := Hbc.out.c4
       have f_ := Hf.out.c1
       have t_ := Ht.out.c1
       have ba_ := Hba.out.c4
       go_wp2_with fail
       clear hq15 o15_t_ o15_f_ o15_bc_ o15_bs_ o15_ei_ o15_su_ hcz_0 hcz_1 hcz_2 hcz_3
       have hob := Hab.out.lt
       have hoc := Hab.out.cell (mid_get (v := .slice g t c9) (ys := List.replicate (n - j - 1) (.slice none 0 0)) (show (ro.flatMap RowA.cells).length = j by rw [rows_len, HRL.out]))
       have HGW := Lib.hid (HG5.out.up BQ.out)
       have HT := Lib.hid (show Below w15.heap.size w15 w15.drew from (Below.refl _ _).drew)
       have hl_su := Hsu.out.lt
       have hl_ei := Hei.out.lt
       have hl_bs := Hbs.out.lt
       have hl_bc := Hbc.out.lt
       have hl_f := Hf.out.lt
       have hl_t := Ht.out.lt
       have hl_ba := Hba.out.lt
       refine wp_region_treek (fun wq9 => ∃ E : But w15 (Value.ownBlock (.slice g t c9)), wq9 = E.w) 14 ((.qs [0] (.e 1 [] (.qs [2, 3] (.e 4 [] (.qs [5, 6] (.e 7 [] (.qs [8] (.e 9 [] (.a 10 (.a 11 (.a 12 (.qs [13] (.a 14 .done)))))))))))))) (by kernel_rfl) (by kernel_rfl) (fun _ _ d _ _ h => by cases d <;> exact h) ⟨⟨_, ((below_grown HT.out).but _)⟩, rfl⟩ ?_
       have hov_su := fun (E : But w15 (Value.ownBlock (.slice g t c9))) o => E.cell (b := w6.heap.size) o hl_su (by intro e9; have a1 := Hr.out.lt _ e9; have a9 := HNP.out _ e9; have g0 := HZS.out; omega)
       have hov_ei := fun (E : But w15 (Value.ownBlock (.slice g t c9))) o => E.cell (b := eb) o hl_ei (by intro e9; have a1 := Hr.out.lt _ e9; have a9 := HNP.out _ e9; have g0 := HZS.out; omega)
       have hov_bs := fun (E : But w15 (Value.ownBlock (.slice g t c9))) o => E.cell (b := wo.heap.size) o hl_bs (by intro e9; have a1 := Hr.out.lt _ e9; have a9 := HNP.out _ e9; have g0 := HZS.out; omega)
       have hov_bc := fun (E : But w15 (Value.ownBlock (.slice g t c9))) o => E.cell (b := wd.heap.size) o hl_bc (by intro e9; have a1 := Hr.out.lt _ e9; have a9 := HNP.out _ e9; have g0 := HZS.out; omega)
       have hov_f := fun (E : But w15 (Value.ownBlock (.slice g t c9))) o => E.cell (b := fb) o hl_f (by intro e9; have a1 := Hr.out.lt _ e9; have a9 := HNP.out _ e9; have g0 := HZS.out; omega)
       have hov_t := fun (E : But w15 (Value.ownBlock (.slice g t c9))) o => E.cell (b := tb) o hl_t (by intro e9; have a1 := Hr.out.lt _ e9; have a9 := HNP.out _ e9; have g0 := HZS.out; omega)
       have hov_ba := fun (E : But w15 (Value.ownBlock (.slice g t c9))) o => E.cell (b := wr.heap.size) o hl_ba (by intro e9; have a1 := Hr.out.lt _ e9; have a9 := HNP.out _ e9; have g0 := HZS.out; omega)
       have hov_ab := fun (E : But w15 (Value.ownBlock (.slice g t c9))) o => E.cell (b := ab) o hob (by intro e9; have a1 := Hr.out.lt _ e9; have a9 := HNP.out _ e9; have g0 := HZS.out; omega)
       simp only [TreeK.qs]
       repeat (first | (refine treek_q rfl rfl ?_; go_big_quiet_step (fail); refine wpQuiet_nil ?_) | (refine treek_e rfl rfl ?_; go_big_quiet_step (fail); refine wpQuiet_nil ?_))
       refine treek_a rfl (fun K hK => ?_)
       go_simp
       refine (gPut_any (grp k) OK.out w1.heap.size (numOf x) _ (HGW.out.up HT.out)).mono ?_
       rintro e w16 ⟨rfl, hb9⟩
       replace HT := Lib.hid (below_up HT.out hb9)
       replace HZS := sz HZS (show w15.heap.size ≤ w16.heap.size from HT.out.size)
       clear hb9
       refine hK _ _ ⟨fun _ => ⟨⟨w16, ((below_grown HT.out).but _)⟩, rfl⟩, ?_⟩
       clear hK K
       repeat (first | (refine treek_q rfl rfl ?_; go_big_quiet_step (fail); refine wpQuiet_nil ?_) | (refine treek_e rfl rfl ?_; go_big_quiet_step (fail); refine wpQuiet_nil ?_))
       clear hoc hob hov_su hl_su hov_ei hl_ei hov_bs hl_bs hov_bc hl_bc hov_f hl_f hov_t hl_t hov_ba hl_ba hov_ab
       refine treek_a rfl (fun K hK => ?_)
       go_simp
       refine hK _ _ ⟨fun _ => ⟨⟨_, (below_grown (HT.out.alloc HT.out.size _)).but _⟩, rfl⟩, ?_⟩
       clear hK K
       obtain ⟨i9, hi9, hz90, hz91, hz92⟩ := info_parts infoStr
       have HG1 := Lib.hid ((below_grown HT.out).but (Value.ownBlock (.slice g t c9)))
       clear su_
       replace Hsu := Lib.hid (Hsu.out.up HT.out)
       clear ei_
       replace Hei := Lib.hid (Hei.out.up HT.out)
       replace Hcb := Lib.hid (Hcb.out.up HT.out)
       clear bs_
       replace Hbs := Lib.hid (Hbs.out.up HT.out)
       clear bc_
       replace Hbc := Lib.hid (Hbc.out.up HT.out)
       clear f_
       replace Hf := Lib.hid (Hf.out.up HT.out)
       clear t_
       replace Ht := Lib.hid (Ht.out.up HT.out)
       replace Hab := Lib.hid (Hab.out.up HT.out)
       clear ba_
       replace Hba := Lib.hid (Hba.out.up HT.out)
       replace Hr := Lib.hid (Hr.out.up HT.out)
       replace BQ := hbu BQ HT.out
       replace BS7 := hbu BS7 HT.out
       replace HKP := Lib.hid (Kept.up HKP.out HT.out)
       replace HKZ := Lib.hid (Kept.up HKZ.out HT.out)
       replace HK2 := Lib.hid (Kept.up HK2.out HT.out)
       replace HB := hbu HB HT.out
       replace HZS := sz HZS HT.out.size
       refine treek_a rfl (fun K hK => ?_)
       refine step_pushF (w14.heap.size) w16 (by have g0 := HZS.out; omega) rfl _ _ 22 rfl 9 i9 _ 1 16 Try.underlying22 hi9 hz90 hz91 hz92 rfl (by omega) ((.slice g t c9)) (t) (((NL.take t).map Value.string)) rfl Hr.out _ _ _ rfl rfl rfl (by simp [Value.oneCell']) (by omega) (by unfold maxLen; omega) ?_
       intro g17 c17 w17 hown9 hg9 hf9
       have HF9 := Lib.hid hf9
       clear hf9
       have HGR := Lib.hid (HG1.out.trans hg9)
       have hb9 := Below.grown HB.out hg9 (by have g0 := HZS.out; omega) (fun q hq => Nat.le_trans (show w.heap.size ≤ w14.heap.size by have g0 := HZS.out; omega) (Hr.out.lt q hq).1)
       replace Hsu := Lib.hid (Hsu.out.grown hg9 (fun e9 => by have a1 := Hr.out.lt _ e9; have a9 := HNP.out _ e9; have g0 := HZS.out; omega))
       replace Hei := Lib.hid (Hei.out.grown hg9 (fun e9 => by have a1 := Hr.out.lt _ e9; have a9 := HNP.out _ e9; have g0 := HZS.out; omega))
       replace Hcb := Lib.hid (Hcb.out.grown hg9 (fun e9 => by have a1 := Hr.out.lt _ e9; have a9 := HNP.out _ e9; have g0 := HZS.out; omega))
       replace Hbs := Lib.hid (Hbs.out.grown hg9 (fun e9 => by have a1 := Hr.out.lt _ e9; have a9 := HNP.out _ e9; have g0 := HZS.out; omega))
       replace Hbc := Lib.hid (Hbc.out.grown hg9 (fun e9 => by have a1 := Hr.out.lt _ e9; have a9 := HNP.out _ e9; have g0 := HZS.out; omega))
       replace Hf := Lib.hid (Hf.out.grown hg9 (fun e9 => by have a1 := Hr.out.lt _ e9; have a9 := HNP.out _ e9; have g0 := HZS.out; omega))
       replace Ht := Lib.hid (Ht.out.grown hg9 (fun e9 => by have a1 := Hr.out.lt _ e9; have a9 := HNP.out _ e9; have g0 := HZS.out; omega))
       replace Hab := Lib.hid (Hab.out.grown hg9 (fun e9 => by have a1 := Hr.out.lt _ e9; have a9 := HNP.out _ e9; have g0 := HZS.out; omega))
       replace Hba := Lib.hid (Hba.out.grown hg9 (fun e9 => by have a1 := Hr.out.lt _ e9; have a9 := HNP.out _ e9; have g0 := HZS.out; omega))
       replace BQ := Lib.hid (Below.grown BQ.out hg9 (by have g0 := HZS.out; omega) (fun q hq => Nat.le_trans (show w3.heap.size ≤ w14.heap.size by have g0 := HZS.out; omega) (Hr.out.lt q hq).1))
       replace BS7 := Lib.hid (Below.grown BS7.out hg9 (by have g0 := HZS.out; omega) (fun q hq => Nat.le_trans (show w4.heap.size ≤ w14.heap.size by have g0 := HZS.out; omega) (Hr.out.lt q hq).1))
       replace HKP := Lib.hid (Kept.grown HKP.out hg9 (fun q hq => Or.inl (Nat.le_trans (show wo.heap.size ≤ w14.heap.size by have g0 := HZS.out; omega) (Hr.out.lt q hq).1)))
       replace HKZ := Lib.hid (Kept.grown HKZ.out hg9 (fun q hq => Or.inl (Nat.le_trans (show we.heap.size ≤ w14.heap.size by have g0 := HZS.out; omega) (Hr.out.lt q hq).1)))
       replace HK2 := Lib.hid (Kept.grown HK2.out hg9 (fun q hq => Or.inl (Nat.le_trans (show w14.heap.size ≤ w14.heap.size by have g0 := HZS.out; omega) (Hr.out.lt q hq).1)))
       replace HZS := sz HZS hg9.size
       clear Hr HB HT HG1
       have Hr := Lib.hid hown9
       have HB := Lib.hid hb9
       clear hb9 hown9 hg9 hi9 hz90 hz91 hz92
       refine hK _ _ ⟨fun _ => ⟨⟨w17, HGR.out⟩, rfl⟩, ?_⟩
       clear hK K HGR
       try simp only [Act.put, List.setIfInBounds_toArray, List.set_cons_succ, List.set_cons_zero]
       repeat (first | (refine treek_q rfl rfl ?_; go_big_quiet_step (fail); refine wpQuiet_nil ?_) | (refine treek_e rfl rfl ?_; go_big_quiet_step (fail); refine wpQuiet_nil ?_))
       replace HZS := sz HZS (Hr.out.lt g17 rfl).1
       have hoc := Hab.out.cell (mid_get (v := .slice g t c9) (ys := List.replicate (n - j - 1) (.slice none 0 0)) (show (ro.flatMap RowA.cells).length = j by rw [rows_len, HRL.out]))
       have su_ := Hsu.out.c4
       have ei_ := Hei.out.c2
       have bs_ := Hbs.out.c2
       have bc_ := Hbc.out.c4
       have f_ := Hf.out.c1
       have t_ := Ht.out.c1
       have ba_ := Hba.out.c4
       have f18_ab := Hab.out.frozen
       have o18_su_ := su_; clear su_
       have o18_ei_ := ei_; clear ei_
       have o18_bs_ := bs_; clear bs_
       have o18_bc_ := bc_; clear bc_
       have o18_f_ := f_; clear f_
       have o18_t_ := t_; clear t_
       have o18_ba_ := ba_; clear ba_
       obtain ⟨w18, hq18, hg9, hz9, hx9⟩ := put1 Hab j (.slice (some ⟨g17, 0, none⟩) (t + 1) c17) _ rfl
       replace Hsu := Lib.hid (Hsu.out.grown hg9.out (sne (by have g0 := HZS.out; omega)))
       replace Hei := Lib.hid (Hei.out.grown hg9.out (sne (by have g0 := HZS.out; omega)))
       replace Hcb := Lib.hid (Hcb.out.grown hg9.out (sne (by have g0 := HZS.out; omega)))
       replace Hbs := Lib.hid (Hbs.out.grown hg9.out (sne (by have g0 := HZS.out; omega)))
       replace Hbc := Lib.hid (Hbc.out.grown hg9.out (sne (by have g0 := HZS.out; omega)))
       replace Hf := Lib.hid (Hf.out.grown hg9.out (sne (by have g0 := HZS.out; omega)))
       replace Ht := Lib.hid (Ht.out.grown hg9.out (sne (by have g0 := HZS.out; omega)))
       replace Hba := Lib.hid (Hba.out.grown hg9.out (sne (by have g0 := HZS.out; omega)))
       replace Hr := Lib.hid (RowO.grown Hr.out hg9.out (fun q9 e8 e9 => by have a1 := Hr.out.lt _ e8; have a0 := Option.some.inj e9; have g0 := HZS.out; omega))
       replace BQ := hbg BQ hg9 (by have g0 := HZS.out; omega)
       replace BS7 := hbg BS7 hg9 (by have g0 := HZS.out; omega)
       replace HKP := Lib.hid (Kept.grown HKP.out hg9.out (fun q9 e9 => by obtain rfl := Option.some.inj e9; exact (by first | exact Or.inr (show ab < wc.heap.size by have g0 := HZS.out; omega) | exact Or.inl (show wo.heap.size ≤ ab by have g0 := HZS.out; omega))))
       replace HKZ := Lib.hid (Kept.grown HKZ.out hg9.out (fun q9 e9 => by obtain rfl := Option.some.inj e9; exact (by first | exact Or.inr (show ab < wc.heap.size by have g0 := HZS.out; omega) | exact Or.inl (show we.heap.size ≤ ab by have g0 := HZS.out; omega))))
       replace HK2 := Lib.hid (Kept.grown HK2.out hg9.out (fun q9 e9 => by obtain rfl := Option.some.inj e9; exact Or.inr (rfl)))
       replace HB := hbg HB hg9 (by have g0 := HZS.out; omega)
       replace HZS := sz HZS hz9.out
       replace Hab := hx9
       clear hx9 hg9 hz9
       have su_ := Hsu.out.c4
       have ei_ := Hei.out.c2
       have bs_ := Hbs.out.c2
       have bc_ := Hbc.out.c4
       have f_ := Hf.out.c1
       have t_ := Ht.out.c1
       have ba_ := Hba.out.c4
       refine treek_a rfl (fun K hK => ?_)
       go_simp
       try rw [hq18]
       refine hK _ _ ⟨fun h9 => absurd rfl h9, ?_⟩
       clear hK K hq18 o18_ba_ o18_t_ o18_f_ o18_bc_ o18_bs_ o18_ei_ o18_su_ f18_ab hoc
       refine treek_end ?_
       go_wp2_with fail
       go_roundw
       case rel => exact ⟨t + 1, _, _, by omega, by go_num, HK2, Lib.hid (by have h9 := Hab.out; rwa [mid_set (by rw [rows_len, HRL.out])] at h9), Hr.out.eq HTK.out.symm rfl⟩
       case measure => simp [intOf]; omega
      ·have htm' : t = t9.rs.length := by omega
       subst htm'
       rw [List.take_of_length_le (by rw [HNLL.out]; exact Nat.le_refl _)] at Hr
       have HROW := Lib.hid (show RowsNew wc.heap.size wr (ro ++ [⟨g, c9, NL⟩]) from fun r hr => by
        rcases List.mem_append.1 hr with hr | hr
        ·exact (HRN.out.keptN HKP.out) r hr
        ·obtain rfl := List.mem_singleton.1 hr
         exact ⟨Hr.out.sl, fun y hy => Nat.le_trans (show wc.heap.size ≤ w14.heap.size by have a1 := HKZ.out.size; have a0 := HZS.out; omega) (RowO.own_le Hr.out hy), RowO.rowOk Hr.out⟩)
       go_wp2_with fail
       go_roundw
       case rel => exact ⟨j + 1, _, ro ++ [⟨g, c9, NL⟩], by omega, by go_num, HPN, (fun h => (HNN.out.keptN HKP.out) (by omega)), Ht, Hf, Hsu, Hcb, Lib.hid (by rw [List.length_append, HRL.out]; rfl), Lib.hid (by rw [List.map_append, HRM.out, HASJ.out]; rfl), Lib.hid (by rw [List.flatMap_append]; have h9 := Hab.out; rw [← HNLL.out] at h9; simpa [RowA.cells, Nat.sub_sub] using h9), HROW, Hei, Lib.hid (by have g0 := HZS.out; omega), BQ, BS7⟩
       case measure => simp [intOf]; omega
   ·have hjn' : j = n := by omega
    subst hjn'
    rw [Nat.sub_self, List.replicate_zero, List.append_nil] at Hcb Hab
    obtain ⟨a2, c2, rfl, hs2, hf2⟩ := HNN.out hwn
    have HS2 := Lib.hid hs2
    have HF2 := Lib.hid hf2
    clear hs2 hf2
    have HPZ := Lib.hid (show st.size = 32 ∧ sf.size = 32 by have h9 := HAZ.out j; rw [HPJ.out] at h9; exact h9)
    rw [← mont_mod (grp k).q.m so] at Hsu
    obtain ⟨wu, rfl⟩ : ∃ wu : World, wu = wc := ⟨_, rfl⟩
    have Hout := Lib.hid (show Bx wr w.heap.size 60 [.slice none 0 0, .slice none 0 0] from Bx.up HO5.out BQ.out)
    have HWW := Lib.hid (show w.heap.size < tb ∧ w.heap.size < cb ∧ w.heap.size < ab ∧ w.heap.size < wr.heap.size by have h9 := HALL.out; have h8 := HWZ.out; omega)
    obtain ⟨N, hN⟩ : ∃ N, chN st challengeB + ((grp k).q.m - so % (grp k).q.m) = N := ⟨_, rfl⟩
    have HSUB := Lib.hid (fun W hG => gSub_any (grp k) OK.out w1.heap.size (chN st challengeB) (so % (grp k).q.m) (Nat.le_of_lt (Nat.mod_lt _ OK.out.q.pos)) W hG)
    rw [hN] at HSUB
    have HNE := Lib.hid hN
    clear hN
    replace HZS := sz HZS HALL.out
    replace HZS := sz HZS HWZ.out
    replace HZS := sz HZS HWW.out
    have t_ := Ht.out.c1
    have su_ := Hsu.out.c4
    have out_ := Hout.out.c2
    have ei_ := Hei.out.c2
    have HKP := Lib.hid (Kept.refl (fun q9 => q9 < wu.heap.size) wr)
    go_upto_region 36 with fail
    go_cut [29] from 156 to 161 (fun v9 wq9 => ∃ b9 : Nat, v9 = .pointer (some ⟨b9, 0, none⟩) ∧ Hid (wr.heap.size ≤ b9) ∧ Hid (Bx wq9 b9 78 [.int .u64 (dig (mont (grp k).q.m (N)) 0 : Int), .int .u64 (dig (mont (grp k).q.m (N)) 1 : Int), .int .u64 (dig (mont (grp k).q.m (N)) 2 : Int), .int .u64 (dig (mont (grp k).q.m (N)) 3 : Int)]) ∧ Hid (Kept (fun q => q = tb) wr wq9))
    case first =>
     have HT := Lib.hid (show Below wr.heap.size wr wr.drew from (Below.refl _ _).drew)
     have HGC := Lib.hid ((HG5.out.up BQ.out).up HT.out)
     have HTC := Lib.hid (Bx.up Ht.out HT.out)
     have HK := Lib.hid (Kept.up (Kept.refl (fun q9 => q9 = tb) wr) HT.out)
     have hl_su := Hsu.out.lt
     refine wp_region_tree (fun wq9 => ∃ E : But wr (some (tb)), wq9 = E.w) (.qs [0, 1, 2, 4] (.two 3 (.two 5 (.a 6 (.a 7 .done)) 6 (.a 5 (.a 7 .done))) 6 (.a 3 (.a 5 (.a 7 .done))))) (by kernel_rfl) (by kernel_rfl) (fun _ _ d _ _ h => by cases d <;> exact h) ⟨⟨_, kept_grown HK.out⟩, rfl⟩ ?_
     have hov_su := fun (E : But wr (some (tb))) o => E.cell (b := w6.heap.size) o hl_su (by intro e9; have a0 := Option.some.inj e9; have g0 := HALL.out; omega)
     obtain ⟨wd, hwd⟩ : ∃ W9 : World, wr.drew = W9 := ⟨_, rfl⟩
     rw [hwd] at HT HGC HTC HK ⊢
     clear hwd HT
     simp only [Tree.qs]
     repeat (refine tree_q rfl rfl ?_; go_big_quiet_step (fail); refine wpQuiet_nil ?_)
     refine tree_two rfl rfl ?ta1 ?ta2
     case ta1 =>
      intro K hK
      go_simp
      refine (gChallenge_any (grp k) OK.out w1.heap.size tb st challengeB (by have := HPZ.out.1; omega) (by decide) _ HGC.out HTC.out (show ¬ w1.heap.size = tb by have h9 := HALL.out; omega)).mono ?_
      rintro e wz ⟨rfl, ht, hk⟩
      replace HGC := Lib.hid (HGC.out.keptP hk (show ¬ w1.heap.size = tb by have h9 := HALL.out; omega))
      skip
      replace HK := Lib.hid (HK.out.trans hk)
      clear ht hk HTC
      refine hK _ _ ⟨⟨⟨wz, kept_grown HK.out⟩, rfl⟩, ?_⟩
      clear hK K
      refine tree_two rfl rfl ?tb1 ?tb2
      case tb1 =>
       intro K hK
       go_simp
       refine (HSUB.out _ HGC.out).mono ?_
       rintro e wy ⟨rfl, hb9⟩
       unfold scV limbV
       skip
       replace HK := Lib.hid (HK.out.up hb9)
       clear HGC
       refine hK _ _ ⟨⟨⟨wy, kept_grown HK.out⟩, rfl⟩, ?_⟩
       clear hK K hb9
       refine tree_a rfl (fun K hK => ?_)
       go_simp
       have hb9 : Below (wy).heap.size (wy) ((wy).alloc (Obj.cells #[.int .u64 0, .int .u64 0, .int .u64 0, .int .u64 0] 78)) := (Below.refl _ _).alloc (Nat.le_refl _) _
       have HX := Lib.hid (show Bx ((wy).alloc (Obj.cells #[.int .u64 0, .int .u64 0, .int .u64 0, .int .u64 0] 78)) (wy).heap.size 78 [.int .u64 0, .int .u64 0, .int .u64 0, .int .u64 0] from Bx.new _ _ _ _ rfl)
       have HLE := Lib.hid (show wr.heap.size ≤ (wy).heap.size from HK.out.size)
       obtain ⟨wA, hqA⟩ : ∃ W9 : World, (wy).alloc (Obj.cells #[.int .u64 0, .int .u64 0, .int .u64 0, .int .u64 0] 78) = W9 := ⟨_, rfl⟩
       rw [hqA] at hb9 HX ⊢
       clear hqA
       skip
       replace HK := Lib.hid (HK.out.up hb9)
       refine hK _ _ ⟨⟨⟨wA, kept_grown HK.out⟩, rfl⟩, ?_⟩
       clear hK K hb9
       refine tree_a rfl (fun K hK => ?_)
       have fz_0 := HX.out.frozen
       have cz_ := HX.out.c4
       go_simp
       obtain ⟨wS, hqS, hgS, hzS, HXS⟩ := put4 HX 0 (.int .u64 (dig (mont (grp k).q.m N) 0 : Int)) 1 (.int .u64 (dig (mont (grp k).q.m N) 1 : Int)) 2 (.int .u64 (dig (mont (grp k).q.m N) 2 : Int)) 3 (.int .u64 (dig (mont (grp k).q.m N) 3 : Int)) _ rfl
       try rw [hqS]
       clear cz_ fz_0 hqS
       replace HK := Lib.hid (HK.out.grown hgS.out (fun q9 e9 => by obtain rfl := Option.some.inj e9; exact Or.inl HLE.out))
       refine hK _ _ ⟨⟨⟨wS, kept_grown HK.out⟩, rfl⟩, ?_⟩
       clear hK K
       refine tree_end ?_
       go_wp2_with fail
       go_meet
       case rel => exact ⟨_, rfl, HLE, HXS, HK⟩
      case tb2 =>
       intro K hK
       go_simp
       have hb9 : Below (wz).heap.size (wz) ((wz).alloc (Obj.cells #[.int .u64 0, .int .u64 0, .int .u64 0, .int .u64 0] 78)) := (Below.refl _ _).alloc (Nat.le_refl _) _
       have HX := Lib.hid (show Bx ((wz).alloc (Obj.cells #[.int .u64 0, .int .u64 0, .int .u64 0, .int .u64 0] 78)) (wz).heap.size 78 [.int .u64 0, .int .u64 0, .int .u64 0, .int .u64 0] from Bx.new _ _ _ _ rfl)
       have HLE := Lib.hid (show wr.heap.size ≤ (wz).heap.size from HK.out.size)
       obtain ⟨wA, hqA⟩ : ∃ W9 : World, (wz).alloc (Obj.cells #[.int .u64 0, .int .u64 0, .int .u64 0, .int .u64 0] 78) = W9 := ⟨_, rfl⟩
       rw [hqA] at hb9 HX ⊢
       clear hqA
       replace HGC := Lib.hid (HGC.out.up hb9)
       replace HK := Lib.hid (HK.out.up hb9)
       refine hK _ _ ⟨⟨⟨wA, kept_grown HK.out⟩, rfl⟩, ?_⟩
       clear hK K hb9
       refine tree_a rfl (fun K hK => ?_)
       go_simp
       refine (HSUB.out _ HGC.out).mono ?_
       rintro e wy ⟨rfl, hb9⟩
       unfold scV limbV
       replace HX := Lib.hid (HX.out.up hb9)
       replace HK := Lib.hid (HK.out.up hb9)
       clear HGC
       refine hK _ _ ⟨⟨⟨wy, kept_grown HK.out⟩, rfl⟩, ?_⟩
       clear hK K hb9
       refine tree_a rfl (fun K hK => ?_)
       have fz_0 := HX.out.frozen
       have cz_ := HX.out.c4
       go_simp
       obtain ⟨wS, hqS, hgS, hzS, HXS⟩ := put4 HX 0 (.int .u64 (dig (mont (grp k).q.m N) 0 : Int)) 1 (.int .u64 (dig (mont (grp k).q.m N) 1 : Int)) 2 (.int .u64 (dig (mont (grp k).q.m N) 2 : Int)) 3 (.int .u64 (dig (mont (grp k).q.m N) 3 : Int)) _ rfl
       try rw [hqS]
       clear cz_ fz_0 hqS
       replace HK := Lib.hid (HK.out.grown hgS.out (fun q9 e9 => by obtain rfl := Option.some.inj e9; exact Or.inl HLE.out))
       refine hK _ _ ⟨⟨⟨wS, kept_grown HK.out⟩, rfl⟩, ?_⟩
       clear hK K
       refine tree_end ?_
       go_wp2_with fail
       go_meet
       case rel => exact ⟨_, rfl, HLE, HXS, HK⟩
     case ta2 =>
      intro K hK
      go_simp
      have hb9 : Below (wd).heap.size (wd) ((wd).alloc (Obj.cells #[.int .u64 0, .int .u64 0, .int .u64 0, .int .u64 0] 78)) := (Below.refl _ _).alloc (Nat.le_refl _) _
      have HX := Lib.hid (show Bx ((wd).alloc (Obj.cells #[.int .u64 0, .int .u64 0, .int .u64 0, .int .u64 0] 78)) (wd).heap.size 78 [.int .u64 0, .int .u64 0, .int .u64 0, .int .u64 0] from Bx.new _ _ _ _ rfl)
      have HLE := Lib.hid (show wr.heap.size ≤ (wd).heap.size from HK.out.size)
      obtain ⟨wA, hqA⟩ : ∃ W9 : World, (wd).alloc (Obj.cells #[.int .u64 0, .int .u64 0, .int .u64 0, .int .u64 0] 78) = W9 := ⟨_, rfl⟩
      rw [hqA] at hb9 HX ⊢
      clear hqA
      (replace HGC := Lib.hid (HGC.out.up hb9); replace HTC := Lib.hid (HTC.out.up hb9))
      replace HK := Lib.hid (HK.out.up hb9)
      refine hK _ _ ⟨⟨⟨wA, kept_grown HK.out⟩, rfl⟩, ?_⟩
      clear hK K hb9
      refine tree_a rfl (fun K hK => ?_)
      go_simp
      refine (gChallenge_any (grp k) OK.out w1.heap.size tb st challengeB (by have := HPZ.out.1; omega) (by decide) _ HGC.out HTC.out (show ¬ w1.heap.size = tb by have h9 := HALL.out; omega)).mono ?_
      rintro e wz ⟨rfl, ht, hk⟩
      replace HGC := Lib.hid (HGC.out.keptP hk (show ¬ w1.heap.size = tb by have h9 := HALL.out; omega))
      replace HX := Lib.hid (HX.out.keptP hk (show ¬ _ = tb by have h9 := HALL.out; have h8 := HWZ.out; have h7 := HLE.out; omega))
      replace HK := Lib.hid (HK.out.trans hk)
      clear ht hk HTC
      refine hK _ _ ⟨⟨⟨wz, kept_grown HK.out⟩, rfl⟩, ?_⟩
      clear hK K
      refine tree_a rfl (fun K hK => ?_)
      go_simp
      refine (HSUB.out _ HGC.out).mono ?_
      rintro e wy ⟨rfl, hb9⟩
      unfold scV limbV
      replace HX := Lib.hid (HX.out.up hb9)
      replace HK := Lib.hid (HK.out.up hb9)
      clear HGC
      refine hK _ _ ⟨⟨⟨wy, kept_grown HK.out⟩, rfl⟩, ?_⟩
      clear hK K hb9
      refine tree_a rfl (fun K hK => ?_)
      have fz_0 := HX.out.frozen
      have cz_ := HX.out.c4
      go_simp
      obtain ⟨wS, hqS, hgS, hzS, HXS⟩ := put4 HX 0 (.int .u64 (dig (mont (grp k).q.m N) 0 : Int)) 1 (.int .u64 (dig (mont (grp k).q.m N) 1 : Int)) 2 (.int .u64 (dig (mont (grp k).q.m N) 2 : Int)) 3 (.int .u64 (dig (mont (grp k).q.m N) 3 : Int)) _ rfl
      try rw [hqS]
      clear cz_ fz_0 hqS
      replace HK := Lib.hid (HK.out.grown hgS.out (fun q9 e9 => by obtain rfl := Option.some.inj e9; exact Or.inl HLE.out))
      refine hK _ _ ⟨⟨⟨wS, kept_grown HK.out⟩, rfl⟩, ?_⟩
      clear hK K
      refine tree_end ?_
      go_wp2_with fail
      go_meet
      case rel => exact ⟨_, rfl, HLE, HXS, HK⟩
    case rest =>
     obtain ⟨nb, rfl, HNBG, Hnb, HK0⟩ := hcut
     have hg9 := HK0.out
     clear t_ su_ out_ ei_ Ht
     replace Hsu := Lib.hid (Bx.keptP (P := fun q9 => q9 = tb) Hsu.out hg9 (show ¬ (w6.heap.size = tb) by have g0 := HZS.out; omega))
     replace Hout := Lib.hid (Bx.keptP (P := fun q9 => q9 = tb) Hout.out hg9 (show ¬ (w.heap.size = tb) by have g0 := HZS.out; omega))
     replace Hei := Lib.hid (Bx.keptP (P := fun q9 => q9 = tb) Hei.out hg9 (show ¬ (eb = tb) by have g0 := HZS.out; omega))
     replace Hcb := Lib.hid (Bx.keptP (P := fun q9 => q9 = tb) Hcb.out hg9 (show ¬ (cb = tb) by have g0 := HZS.out; omega))
     replace Hab := Lib.hid (Bx.keptP (P := fun q9 => q9 = tb) Hab.out hg9 (show ¬ (ab = tb) by have g0 := HZS.out; omega))
     replace BQ := Lib.hid (Below.keptP BQ.out hg9 (by have g0 := HZS.out; omega) (fun q9 h9 => (show w3.heap.size ≤ _ by subst h9; have g0 := HZS.out; omega)))
     replace BS7 := Lib.hid (Below.keptP BS7.out hg9 (by have g0 := HZS.out; omega) (fun q9 h9 => (show w4.heap.size ≤ _ by subst h9; have g0 := HZS.out; omega)))
     replace HB := Lib.hid (Below.keptP HB.out hg9 (by have g0 := HZS.out; omega) (fun q9 h9 => (show w.heap.size ≤ _ by subst h9; have g0 := HZS.out; omega)))
     replace HZS := sz HZS (show wr.heap.size ≤ wc.heap.size from hg9.size)
     replace HKP := Lib.hid (Kept.transP HKP.out hg9 (fun q9 h9 => (show q9 < wu.heap.size by subst h9; have g0 := HZS.out; omega)))
     clear hg9
     have su_ := Hsu.out.c4
     have out_ := Hout.out.c2
     have ei_ := Hei.out.c2
     clear HK0
     replace HZS := sz HZS HNBG.out
     have nb_ := Hnb.out.c4
     have HGW := Lib.hid (HG5.out.up BQ.out)
     have hjc : wh < ((CJ j).map Value.string).length := by rw [List.length_map, HCL.out]; exact hwn
     have HJC := Lib.hid hjc
     clear hjc
     go_wp2_with fail
     have hob := Hcb.out.lt
     have hoc := Hcb.out.cell (List.getElem?_eq_getElem HJC.out)
     have HT := Lib.hid (show Below wc.heap.size wc wc.drew from (Below.refl _ _).drew)
     have hl_su := Hsu.out.lt
     have hl_out := Hout.out.lt
     have hl_ei := Hei.out.lt
     have hl_nb := Hnb.out.lt
     refine wp_region_treek (fun wq9 => ∃ E : Over wc, wq9 = E.w) 7 ((.qs [0] (.e 1 [] (.qs [2, 3] (.e 4 [] (.a 5 (.qs [6] (.a 7 .done)))))))) (by kernel_rfl) (by kernel_rfl) (fun _ _ d _ _ h => by cases d <;> exact h) ⟨⟨_, HT.out⟩, rfl⟩ ?_
     have hov_su := fun (E : Over wc) o => E.cell (b := w6.heap.size) o hl_su
     have hov_out := fun (E : Over wc) o => E.cell (b := w.heap.size) o hl_out
     have hov_ei := fun (E : Over wc) o => E.cell (b := eb) o hl_ei
     have hov_nb := fun (E : Over wc) o => E.cell (b := nb) o hl_nb
     have hov_cb := fun (E : Over wc) o => E.cell (b := cb) o hob
     simp only [TreeK.qs]
     repeat (first | (refine treek_q rfl rfl ?_; go_big_quiet_step (fail); refine wpQuiet_nil ?_) | (refine treek_e rfl rfl ?_; go_big_quiet_step (fail); refine wpQuiet_nil ?_))
     refine treek_a rfl (fun K hK => ?_)
     go_simp
     refine (gPut_any (grp k) OK.out w1.heap.size N _ (HGW.out.up HT.out)).mono ?_
     rintro e w8 ⟨rfl, hb9⟩
     replace HT := Lib.hid (below_up HT.out hb9)
     replace HZS := sz HZS (show wc.heap.size ≤ w8.heap.size from HT.out.size)
     clear hb9
     refine hK _ _ ⟨fun _ => ⟨⟨w8, HT.out⟩, rfl⟩, ?_⟩
     clear hK K
     repeat (first | (refine treek_q rfl rfl ?_; go_big_quiet_step (fail); refine wpQuiet_nil ?_) | (refine treek_e rfl rfl ?_; go_big_quiet_step (fail); refine wpQuiet_nil ?_))
     clear hoc hob hov_su hl_su hov_out hl_out hov_ei hl_ei hov_nb hl_nb hov_cb su_
     replace Hsu := Lib.hid (Hsu.out.up HT.out)
     clear out_
     replace Hout := Lib.hid (Hout.out.up HT.out)
     clear ei_
     replace Hei := Lib.hid (Hei.out.up HT.out)
     replace Hcb := Lib.hid (Hcb.out.up HT.out)
     replace Hab := Lib.hid (Hab.out.up HT.out)
     clear nb_
     replace Hnb := Lib.hid (Hnb.out.up HT.out)
     replace BQ := hbu BQ HT.out
     replace BS7 := hbu BS7 HT.out
     replace HKP := Lib.hid (Kept.up HKP.out HT.out)
     replace HB := hbu HB HT.out
     replace HZS := sz HZS HT.out.size
     clear HT
     have hoc := Hcb.out.cell (List.getElem?_eq_getElem HJC.out)
     have su_ := Hsu.out.c4
     have out_ := Hout.out.c2
     have ei_ := Hei.out.c2
     have nb_ := Hnb.out.c4
     have f9_cb := Hcb.out.frozen
     have o9_su_ := su_; clear su_
     have o9_out_ := out_; clear out_
     have o9_ei_ := ei_; clear ei_
     have o9_nb_ := nb_; clear nb_
     obtain ⟨w9, hq9, hg9, hz9, hx9⟩ := put1 Hcb wh (.string (textS (N % (grp k).q.m) (grp k).size)) _ rfl
     replace Hsu := Lib.hid (Hsu.out.grown hg9.out (sne (by have g0 := HZS.out; omega)))
     replace Hout := Lib.hid (Hout.out.grown hg9.out (sne (by have g0 := HZS.out; omega)))
     replace Hei := Lib.hid (Hei.out.grown hg9.out (sne (by have g0 := HZS.out; omega)))
     replace Hab := Lib.hid (Hab.out.grown hg9.out (sne (by have g0 := HZS.out; omega)))
     replace Hnb := Lib.hid (Hnb.out.grown hg9.out (sne (by have g0 := HZS.out; omega)))
     replace BQ := hbg BQ hg9 (by have g0 := HZS.out; omega)
     replace BS7 := hbg BS7 hg9 (by have g0 := HZS.out; omega)
     replace HKP := Lib.hid (Kept.grown HKP.out hg9.out (fun q9 e9 => by obtain rfl := Option.some.inj e9; exact (by first | exact Or.inr (show cb < wu.heap.size by have g0 := HZS.out; omega) | exact Or.inl (show wr.heap.size ≤ cb by have g0 := HZS.out; omega))))
     replace HB := hbg HB hg9 (by have g0 := HZS.out; omega)
     replace HZS := sz HZS hz9.out
     replace Hcb := hx9
     clear hx9 hg9 hz9
     have su_ := Hsu.out.c4
     have out_ := Hout.out.c2
     have ei_ := Hei.out.c2
     have nb_ := Hnb.out.c4
     refine treek_a rfl (fun K hK => ?_)
     go_simp
     try rw [hq9]
     refine hK _ _ ⟨fun h9 => absurd rfl h9, ?_⟩
     clear hK K hq9 o9_nb_ o9_ei_ o9_out_ o9_su_ f9_cb hoc
     refine treek_end ?_
     have HGV := Lib.hid (HG5.out.up BQ.out)
     have HS2V := Lib.hid (Sl.kept HS2.out HKP.out (fun x hx e => by have h1 := HF2.out x hx; have e : x.block < wu.heap.size := e; omega))
     have HSVV := Lib.hid (HSV.out.up BS7.out)
     have HBLW := Lib.hid (Nat.lt_of_lt_of_le HBL0.out BQ.out.size)
     have HJA := Lib.hid (show wh < (ro.flatMap RowA.cells).length by rw [rows_len, HRL.out]; exact hwn)
     have HX64 := Lib.hid (show xs.length ≤ 64 by have h9 := HSZ.out.1; have h8 := HSZ.out.2.1; have h7 := HRX.out; omega)
     have HANS := Lib.hid (ansL_len (grp k) N (nonceL_len (grp k) (PV wh).f xs.length) rfl)
     have HAW := Lib.hid (fun W hG hW hX => answers_any (grp k) OK.out w1.heap.size N tw.a xs.length tw.c (nonceL (grp k) (PV wh).f xs.length) xs xs.length (nonceL_len _ _ _) rfl HX64.out a2 a7 c2 c7 W hG hW hX)
     obtain ⟨NW, hNW⟩ : ∃ L, nonceL (grp k) (PV wh).f xs.length = L := ⟨_, rfl⟩
     rw [hNW] at HS2V HAW HANS
     obtain ⟨AN, hAN⟩ : ∃ L, ansL (grp k) N NW xs = L := ⟨_, rfl⟩
     rw [hAN] at HAW HANS
     have HNWE := Lib.hid hNW
     have HANE := Lib.hid hAN
     clear hNW hAN
     go_wp2_with fail
     have hc_0 := (BQ.out.cell (p := ⟨bl, ol + wh * 2, none⟩) HBL0.out).trans HCW0.out
     have hc_1 := (BQ.out.cell (p := ⟨bl, ol + wh * 2 + 1, none⟩) HBL0.out).trans HCW1.out
     have hob := Hab.out.lt
     have hbl := HBLW.out
     have hoc := Hab.out.cell (List.getElem?_eq_getElem HJA.out)
     have HT := Lib.hid (show Below w9.heap.size w9 w9.drew from (Below.refl _ _).drew)
     have hl_su := Hsu.out.lt
     have hl_out := Hout.out.lt
     have hl_ei := Hei.out.lt
     have hl_nb := Hnb.out.lt
     refine wp_region_treek (fun wq9 => ∃ E : Over w9, wq9 = E.w) 12 ((.qs [0] (.e 1 [] (.qs [2, 3, 4, 5] (.e 6 [] (.qs [7] (.e 8 [] (.qs [9] (.a 10 (.qs [11] (.a 12 .done))))))))))) (by kernel_rfl) (by kernel_rfl) (fun _ _ d _ _ h => by cases d <;> exact h) ⟨⟨_, HT.out⟩, rfl⟩ ?_
     have hov_su := fun (E : Over w9) o => E.cell (b := w6.heap.size) o hl_su
     have hov_out := fun (E : Over w9) o => E.cell (b := w.heap.size) o hl_out
     have hov_ei := fun (E : Over w9) o => E.cell (b := eb) o hl_ei
     have hov_nb := fun (E : Over w9) o => E.cell (b := nb) o hl_nb
     have hov_ab := fun (E : Over w9) o => E.cell (b := ab) o hob
     have hov_bl := fun (E : Over w9) o => E.cell (b := bl) o hbl
     simp only [TreeK.qs]
     repeat (first | (refine treek_q rfl rfl ?_; go_big_quiet_step (fail); refine wpQuiet_nil ?_) | (refine treek_e rfl rfl ?_; go_big_quiet_step (fail); refine wpQuiet_nil ?_))
     refine treek_a rfl (fun K hK => ?_)
     go_simp
     refine (HAW.out _ (HGV.out.up HT.out) (HS2V.out.up HT.out) (HSVV.out.up HT.out)).mono ?_
     rintro e w10 ⟨a5, c5, rfl, hs5, hf5, hc5, hc6, hb9⟩
     replace HT := Lib.hid (below_up HT.out hb9)
     replace HZS := sz HZS (show w9.heap.size ≤ w10.heap.size from HT.out.size)
     clear hb9
     have HS5 := Lib.hid hs5
     clear hs5
     have HF5 := Lib.hid hf5
     clear hf5
     have HC5 := Lib.hid hc5
     clear hc5
     have HC6 := Lib.hid hc6
     clear hc6
     refine hK _ _ ⟨fun _ => ⟨⟨w10, HT.out⟩, rfl⟩, ?_⟩
     clear hK K
     repeat (first | (refine treek_q rfl rfl ?_; go_big_quiet_step (fail); refine wpQuiet_nil ?_) | (refine treek_e rfl rfl ?_; go_big_quiet_step (fail); refine wpQuiet_nil ?_))
     clear hc_0 hc_1 hoc hob hbl hov_su hl_su hov_out hl_out hov_ei hl_ei hov_nb hl_nb hov_ab hov_bl su_
     replace Hsu := Lib.hid (Hsu.out.up HT.out)
     clear out_
     replace Hout := Lib.hid (Hout.out.up HT.out)
     clear ei_
     replace Hei := Lib.hid (Hei.out.up HT.out)
     replace Hcb := Lib.hid (Hcb.out.up HT.out)
     replace Hab := Lib.hid (Hab.out.up HT.out)
     clear nb_
     replace Hnb := Lib.hid (Hnb.out.up HT.out)
     replace BQ := hbu BQ HT.out
     replace BS7 := hbu BS7 HT.out
     replace HKP := Lib.hid (Kept.up HKP.out HT.out)
     replace HB := hbu HB HT.out
     replace HZS := sz HZS HT.out.size
     clear HT
     have HKS := Lib.hid (Kept.refl (fun q9 => q9 < wu.heap.size) w10)
     have hoc := Hab.out.cell (List.getElem?_eq_getElem HJA.out)
     have su_ := Hsu.out.c4
     have out_ := Hout.out.c2
     have ei_ := Hei.out.c2
     have nb_ := Hnb.out.c4
     have f11_ab := Hab.out.frozen
     have o11_su_ := su_; clear su_
     have o11_out_ := out_; clear out_
     have o11_ei_ := ei_; clear ei_
     have o11_nb_ := nb_; clear nb_
     obtain ⟨w11, hq11, hg9, hz9, hx9⟩ := put1 Hab wh (.slice a5 xs.length c5) _ rfl
     replace Hsu := Lib.hid (Hsu.out.grown hg9.out (sne (by have g0 := HZS.out; omega)))
     replace Hout := Lib.hid (Hout.out.grown hg9.out (sne (by have g0 := HZS.out; omega)))
     replace Hei := Lib.hid (Hei.out.grown hg9.out (sne (by have g0 := HZS.out; omega)))
     replace Hcb := Lib.hid (Hcb.out.grown hg9.out (sne (by have g0 := HZS.out; omega)))
     replace Hnb := Lib.hid (Hnb.out.grown hg9.out (sne (by have g0 := HZS.out; omega)))
     replace BQ := hbg BQ hg9 (by have g0 := HZS.out; omega)
     replace BS7 := hbg BS7 hg9 (by have g0 := HZS.out; omega)
     replace HKP := Lib.hid (Kept.grown HKP.out hg9.out (fun q9 e9 => by obtain rfl := Option.some.inj e9; exact (by first | exact Or.inr (show ab < wu.heap.size by have g0 := HZS.out; omega) | exact Or.inl (show wr.heap.size ≤ ab by have g0 := HZS.out; omega))))
     replace HKS := Lib.hid (Kept.grown HKS.out hg9.out (fun q9 e9 => by obtain rfl := Option.some.inj e9; exact (by first | exact Or.inr (show ab < wu.heap.size by have g0 := HZS.out; omega) | exact Or.inl (show w10.heap.size ≤ ab by have g0 := HZS.out; omega))))
     replace HB := hbg HB hg9 (by have g0 := HZS.out; omega)
     replace HZS := sz HZS hz9.out
     replace Hab := hx9
     clear hx9 hg9 hz9
     have su_ := Hsu.out.c4
     have out_ := Hout.out.c2
     have ei_ := Hei.out.c2
     have nb_ := Hnb.out.c4
     refine treek_a rfl (fun K hK => ?_)
     go_simp
     try rw [hq11]
     refine hK _ _ ⟨fun h9 => absurd rfl h9, ?_⟩
     clear hK K hq11 o11_nb_ o11_ei_ o11_out_ o11_su_ f11_ab hoc
     refine treek_end ?_
     have HSA := Lib.hid (Sl.kept HS5.out HKS.out (fun x hx e => by have h1 : w9.heap.size ≤ x.block := HF5.out x hx; have e : x.block < wu.heap.size := e; have g0 := HZS.out; omega))
     have HRQ := Lib.hid (HRN.out.keptN HKP.out)
     clear HS5 HRN HKP HKS BQ BS7
     have HKO := Lib.hid (Kept.refl (fun q9 => q9 < wu.heap.size) w11)
     have f12_out := Hout.out.frozen
     have o12_su_ := su_; clear su_
     have o12_out_ := out_; clear out_
     have o12_ei_ := ei_; clear ei_
     have o12_nb_ := nb_; clear nb_
     obtain ⟨w12, hq12, hg9, hz9, hx9⟩ := put2 Hout 0 (.slice (some ⟨cb, 0, none⟩) j j) 1 (.slice (some ⟨ab, 0, none⟩) j j) [.slice (some ⟨cb, 0, none⟩) j j, .slice (some ⟨ab, 0, none⟩) j j] rfl
     replace Hsu := Lib.hid (Hsu.out.grown hg9.out (sne (by have g0 := HZS.out; omega)))
     replace Hei := Lib.hid (Hei.out.grown hg9.out (sne (by have g0 := HZS.out; omega)))
     replace Hcb := Lib.hid (Hcb.out.grown hg9.out (sne (by have g0 := HZS.out; omega)))
     replace Hab := Lib.hid (Hab.out.grown hg9.out (sne (by have g0 := HZS.out; omega)))
     replace Hnb := Lib.hid (Hnb.out.grown hg9.out (sne (by have g0 := HZS.out; omega)))
     replace HKO := Lib.hid (Kept.grown HKO.out hg9.out (fun q9 e9 => by obtain rfl := Option.some.inj e9; exact (by first | exact Or.inr (show w.heap.size < wu.heap.size by have g0 := HZS.out; omega) | exact Or.inl (show w11.heap.size ≤ w.heap.size by have g0 := HZS.out; omega))))
     replace HB := hbg HB hg9 (by have g0 := HZS.out; omega)
     replace HZS := sz HZS hz9.out
     replace Hout := hx9
     clear hx9 hg9 hz9
     have su_ := Hsu.out.c4
     have out_ := Hout.out.c2
     have ei_ := Hei.out.c2
     have nb_ := Hnb.out.c4
     go_wp2_with fail
     clear hq12 o12_nb_ o12_ei_ o12_out_ o12_su_ f12_out
     have HRQ2 := Lib.hid (HRQ.out.keptN HKO.out)
     have HSA2 := Lib.hid (Sl.kept HSA.out HKO.out (fun x hx e => by have h1 : w9.heap.size ≤ x.block := HF5.out x hx; have e : x.block < wu.heap.size := e; have g0 := HZS.out; omega))
     simp [bodyPost, results, Try.results29, go_sem, out_]
     exact (by rw [HPJ.out]; dsimp only; rw [← HXL.out, HNE.out, HNWE.out, HANE.out]; exact eithR_set HB.out (HCL.out j) HRL.out HRM.out HANS.out Hcb.out Hab.out HRQ2.out HSA2.out HC5.out HC6.out)
end Go.Proofs.Ytdlnnkbigeiilaa
namespace Go.Proofs.Ytdlnnkbigeiilaa
open Go.RowKit
theorem sProveAny_any (k : Int) (label seed : ByteArray) (hlb : label.size < 140737488355328) (hsd : seed.size < 140737488355328) (ss : List SetA) (al : Option Addr) (cl : Nat) (hcap : ∀ s ∈ ss, ∀ c ∈ s.l, CapOk c) (wh : Int) (xs : List ByteArray) (ax : Option Addr) (cx : Nat) (hm : xs.length ≤ 8796093022207) (w : World) (hC : SetsAt w al ss) (hS : Sl w w.heap.size ax (xs.map Value.string)) :
  Calls Try.prog 29 #[.int .i64 k, .string label, .slice al ss.length cl, .int .i64 wh, .slice ax xs.length cx, .string seed] w (EithR (pvE k ss wh xs : Int) (pvCK k label seed ss wh xs) (pvAK k label seed ss wh xs) w) := by
 unfold pvCK pvAK
 by_cases h : pvE k ss wh xs = 0
 ·rw [if_pos h, if_pos h, h]
  obtain ⟨j, v, rfl, h1, h3, rfl, hv, hz, hs, hh⟩ := pvE_ok h
  rw [Int.toNat_natCast, Int.toNat_natCast]
  exact sPany_body j h1 h3 label seed hlb hsd ss ss.length rfl al cl hz hcap v hv xs ax cx hm hs hh w hC hS
 ·rw [if_neg h, if_neg h]
  unfold pvE at h ⊢
  by_cases hk : 1 ≤ k ∧ k ≤ 3
  case neg => rw [if_neg hk]; exact sPany_none k hk label seed _ _ wh w
  rw [if_pos hk] at h ⊢
  obtain ⟨j, rfl⟩ : ∃ j : Nat, k = j := ⟨k.toNat, by omega⟩
  rw [Int.toNat_natCast] at h ⊢
  by_cases hz : setsE (grp j) ss = 0
  case neg => rw [if_pos hz]; exact sPany_bad j (by omega) (by omega) label seed ss ss.length rfl al cl hz _ wh w hC
  rw [if_neg (fun e => e hz)] at h ⊢
  by_cases hw : wh < 0 ∨ (ss.length : Int) ≤ wh
  case pos => rw [if_pos hw]; exact sPany_range j (by omega) (by omega) label seed ss ss.length rfl al cl hz _ wh hw w hC
  rw [if_neg hw] at h ⊢
  obtain ⟨v, rfl⟩ : ∃ v : Nat, wh = v := ⟨wh.toNat, by omega⟩
  rw [Int.toNat_natCast] at h ⊢
  by_cases hs : scE (grp j) (pvL (ss.map SetA.l) v).length xs = 0
  case neg => rw [if_pos hs]; exact sPany_sc j (by omega) (by omega) label seed ss ss.length rfl al cl hz hcap v (by omega) xs ax cx hm _ rfl hs w hC hS
  rw [if_neg (fun e => e hs)] at h ⊢
  by_cases hh : holdP (grp j) (pvL (ss.map SetA.l) v) xs = true
  case pos => rw [if_pos hh] at h; exact absurd rfl h
  rw [if_neg hh]
  exact sPany_hold j (by omega) (by omega) label seed ss ss.length rfl al cl hz hcap v (by omega) xs ax cx hm hs (Bool.eq_false_iff.2 hh) w hC hS
end Go.Proofs.Ytdlnnkbigeiilaa
namespace Go.Proofs.Ytdlnnkbigeiilaa
open Go.RowKit
theorem RowO.bx {N n size : Nat} {w : World} {e : TypeId} {a : Option Addr} {c k : Nat} {xs : List Value} (h : RowO N w e size (.slice a k c) n xs) (hn : 0 < n) : ∃ g rest, a = some ⟨g, 0, none⟩ ∧ N ≤ g ∧ n ≤ c ∧ Bx w g e (xs ++ rest) := by
 rcases h.2 with ⟨_, h0⟩ | ⟨g, cap, cur, hv, hb, hg, h1, h2, h3, h4⟩
 ·omega
 ·simp only [Value.slice.injEq] at hv
  obtain ⟨rfl, rfl, rfl⟩ := hv
  refine ⟨g, cur.toList.drop (k * size), rfl, hb, h1, ?_⟩
  rw [← h4, List.take_append_drop]
  exact hg
end Go.Proofs.Ytdlnnkbigeiilaa
namespace Go.Proofs.Ytdlnnkbigeiilaa
open Go.RowKit
theorem alive5 (w : World) : Calls Try.prog 27 #[] w fun e w' => e = .returned (.bool true) ∧ Below w.heap.size w w' := by
 have h := fun w => Scalar_some 1 (by decide) (by decide) ⟨#[0, 5]⟩ w
 rw [show isSc (grp 1).q.m (grp 1).size ⟨#[0, 5]⟩ = true by decide +kernel] at h
 have HS := Lib.hid h
 clear h
 go_enter Try.func27, Try.ntmps27
 go_wp2_with fail
 refine (HS.out w).mono ?_
 rintro e w1 ⟨rfl, hb9⟩
 have HB := Lib.hid hb9
 have HZS := Lib.hid hb9.size
 clear hb9
 go_wp2_with fail
 go_ret
 exact ⟨rfl, HB.out⟩
end Go.Proofs.Ytdlnnkbigeiilaa
namespace Go.Proofs.Ytdlnnkbigeiilaa
open Go.ChangeShapes Go.WideShapes Go.ChangeAt Go.RowKit
theorem bulk_one {H : Type} (d : DataW H) : 1 ≤ Rows.uptoBulk d := by
 cases d with
 | lit l => cases l <;> simp [Rows.uptoBulk]
 | nil => simp [Rows.uptoBulk]
 | ptr d => simp [Rows.uptoBulk]
 | slice elems spare => simp [Rows.uptoBulk]
 | agg parts => simp [Rows.uptoBulk]
 | iface t d => simp [Rows.uptoBulk]
 | map entries => simp [Rows.uptoBulk]
 | held h => simp [Rows.uptoBulk]
theorem bulk_part {H : Type} {d : DataW H} {l : List (DataW H)} (h : d ∈ l) : Rows.uptoBulk d ≤ Rows.uptoBulkAll l := by
 induction l with
 | nil => cases h
 | cons x r ih =>
  simp only [Rows.uptoBulkAll]
  rcases List.mem_cons.1 h with rfl | e
  ·omega
  ·have := ih e; omega
theorem bulk_length {H : Type} (l : List (DataW H)) : l.length ≤ Rows.uptoBulkAll l := by
 induction l with
 | nil => simp [Rows.uptoBulkAll]
 | cons x r ih => have := bulk_one x; simp only [Rows.uptoBulkAll, List.length_cons]; omega
theorem bulk_slice {H : Type} {elems spare : List (DataW H)} {B : Nat} (h : Rows.uptoBulk (.slice elems spare) ≤ B) : elems.length ≤ B ∧ ∀ d ∈ elems, Rows.uptoBulk d ≤ B := by
 simp only [Rows.uptoBulk] at h
 refine ⟨by have := bulk_length elems; omega, fun d hd => by have := bulk_part hd; omega⟩
theorem bulk_agg {H : Type} {parts : List (DataW H)} {B : Nat} (h : Rows.uptoBulk (.agg parts) ≤ B) : ∀ d ∈ parts, Rows.uptoBulk d ≤ B := by
 simp only [Rows.uptoBulk] at h
 exact fun d hd => by have := bulk_part hd; omega
theorem flat_range (g : Nat → Value) (k len : Nat) : ((List.range len).map fun i => (List.range k).map fun j => g (i * k + j)).flatten = (List.range (len * k)).map g := by
 induction len with
 | zero => simp
 | succ m ih =>
  rw [List.range_succ, List.map_append, List.flatten_append, ih, Nat.succ_mul, List.range_add, List.map_append]
  simp [List.map_map, Function.comp_def]
section
variable {H : Type} {enc : TypeId × Value → H} {P : Program} {w : World}
theorem open_flat {sp : Nat → Bool} {held : Bool} {t e : TypeId} {k fuel : Nat} {c : Value} {y : DataW H × List MemPlace} (ht : P.underlying t = some (.slice e)) (hk : P.cellsOf e = k) (hk0 : 0 < k) {B : Nat} (hB : Rows.uptoBulk y.1 ≤ B)
  (h : DataW.trod enc P w 0 sp held fuel t [c] = some y) :
  ∃ (a : Option Addr) (cap : Nat) (css : List (List Value)), c = .slice a css.length cap ∧ css.length ≤ B ∧ (∀ l ∈ css, l.length = k) ∧ Sl w w.heap.size a css.flatten ∧
   ∀ l ∈ css, ∃ n y', Rows.uptoBulk y'.1 ≤ B ∧ DataW.trod enc P w 0 sp held n e l = some y' := by
 have hlt := DataW.trod_lt _ _ _ _ h
 rcases DataW.trod_slice ht h with ⟨hcs, _⟩ | ⟨x, len, cap, elems, rest, n, _, hcs, hx, hb, hl, hm, hlen, hel, _, _⟩
 ·simp only [List.cons.injEq, and_true] at hcs
  exact ⟨none, 0, [], hcs, by simp, by simp, Or.inl rfl, by simp⟩
 simp only [List.cons.injEq, and_true] at hcs
 subst hcs
 by_cases h0 : len = 0
 ·subst h0
  exact ⟨some x, cap, [], rfl, by simp, by simp, Or.inl rfl, by simp⟩
 have hbk := bulk_slice (elems := elems.map (·.1)) (spare := rest.map (·.1)) (B := B) (by rw [hx] at hB; exact hB)
 have each : ∀ i, i < len → ∃ l y', w.cells? 0 (x.add (i * k)) k = some l ∧ Rows.uptoBulk y'.1 ≤ B ∧ DataW.trod enc P w 0 sp held n e l = some y' := by
  intro i hi
  have h1 := hel i hi
  rw [hk, show elems[i]? = some (elems[i]'(by omega)) from List.getElem?_eq_getElem (by omega), Option.bind_eq_some_iff] at h1
  obtain ⟨l, hl, hy⟩ := h1
  exact ⟨l, _, hl, hbk.2 _ (List.mem_map.2 ⟨_, List.getElem_mem _, rfl⟩), hy⟩
 obtain ⟨b, off, spot⟩ := x
 have hspot : spot = none := by
  obtain ⟨l, _, h1, _⟩ := each 0 (by omega)
  obtain ⟨_, h2, h3⟩ := World.cells?_some h1
  have h4 := h3 0 hk0
  obtain ⟨v, hv⟩ : ∃ v, l[0]? = some v := ⟨_, List.getElem?_eq_getElem (by omega)⟩
  rw [hv, Deep.add_add, Nat.zero_mul, Nat.zero_add] at h4
  simpa [Addr.add] using World.cell?_spot h4
 subst hspot
 have hbW : b < w.heap.size := hlt (.cell b off) (by
  rw [hx]
  exact List.mem_append_left _ (MemPlace.mem_row.2 ⟨0, by rw [hk]; have : 0 < (elems.length + rest.length) * k := Nat.mul_pos (by omega) hk0; omega, by simp⟩))
 have hL : ∀ i, i < len → ((List.range k).map fun j => (w.cell? ⟨b, off + (i * k + j), none⟩).getD (.bool false)).length = k ∧
   (∀ j, j < k → w.cell? ⟨b, off + (i * k + j), none⟩ = some ((w.cell? ⟨b, off + (i * k + j), none⟩).getD (.bool false))) ∧
   ∃ y', Rows.uptoBulk y'.1 ≤ B ∧ DataW.trod enc P w 0 sp held n e ((List.range k).map fun j => (w.cell? ⟨b, off + (i * k + j), none⟩).getD (.bool false)) = some y' := by
  intro i hi
  obtain ⟨l, y', h1, h2b, h2⟩ := each i hi
  obtain ⟨_, h3, h4⟩ := World.cells?_some h1
  have h5 : ∀ j, j < k → w.cell? ⟨b, off + (i * k + j), none⟩ = l[j]? := by
   intro j hj
   have := h4 j hj
   rwa [Deep.add_add, add_plain] at this
  have e1 : (List.range k).map (fun j => (w.cell? ⟨b, off + (i * k + j), none⟩).getD (.bool false)) = l := by
   apply List.ext_getElem?
   intro j
   by_cases hj : j < k
   ·rw [List.getElem?_map, List.getElem?_range hj, Option.map_some, h5 j hj, List.getElem?_eq_getElem (show j < l.length by omega), Option.getD_some]
   ·rw [List.getElem?_eq_none (by simp; omega), List.getElem?_eq_none (by omega)]
  refine ⟨by simp, ?_, ?_⟩
  ·intro j hj
   rw [h5 j hj, List.getElem?_eq_getElem (show j < l.length by omega), Option.getD_some]
  ·rw [e1]; exact ⟨y', h2b, h2⟩
 refine ⟨some ⟨b, off, none⟩, cap, (List.range len).map fun i => (List.range k).map fun j => (w.cell? ⟨b, off + (i * k + j), none⟩).getD (.bool false), by simp, ?_, ?_, Or.inr ⟨b, off, rfl, hbW, ?_⟩, ?_⟩
 ·have := hbk.1; rw [List.length_map] at this; simp; omega
 ·intro l hl
  obtain ⟨i, _, rfl⟩ := List.mem_map.1 hl
  simp
 ·have hflat := flat_range (fun m => (w.cell? ⟨b, off + m, none⟩).getD (.bool false)) k len
  intro i v hv
  rw [hflat] at hv
  have hi : i < len * k := by have := (List.getElem?_eq_some_iff.1 hv).1; simpa using this
  have hq : i / k < len := Nat.div_lt_of_lt_mul (by rwa [Nat.mul_comm] at hi)
  have hc := (hL (i / k) hq).2.1 (i % k) (Nat.mod_lt _ hk0)
  rw [show i / k * k + i % k = i by rw [Nat.mul_comm]; exact Nat.div_add_mod i k] at hc
  rw [hc, ← hv, List.getElem?_map, List.getElem?_range hi, Option.map_some]
 ·intro l hl
  obtain ⟨i, hi, rfl⟩ := List.mem_map.1 hl
  obtain ⟨y', hyb, hy⟩ := (hL i (List.mem_range.1 hi)).2.2
  exact ⟨n, y', hyb, hy⟩
theorem list_shapes {α : Type} (f : α → List Value) (R : α → Prop) : ∀ css : List (List Value), (∀ l ∈ css, ∃ x, l = f x ∧ R x) → ∃ xs : List α, xs.length = css.length ∧ css.flatten = xs.flatMap f ∧ ∀ x ∈ xs, R x
 | [], _ => ⟨[], rfl, rfl, by simp⟩
 | l :: css, h => by
  obtain ⟨x, rfl, hR⟩ := h l (by simp)
  obtain ⟨xs, h1, h2, h3⟩ := list_shapes f R css (fun c hc => h c (by simp [hc]))
  refine ⟨x :: xs, by simp [h1], by simp [h2], ?_⟩
  intro y hy
  rcases List.mem_cons.1 hy with rfl | hy
  ·exact hR
  ·exact h3 y hy
theorem open_els {α : Type} (f : α → List Value) (R : α → Prop) {sp : Nat → Bool} {held : Bool} {t e : TypeId} {k fuel : Nat} {c : Value} {y : DataW H × List MemPlace} (ht : P.underlying t = some (.slice e)) (hk : P.cellsOf e = k) (hk0 : 0 < k) {B : Nat} (hB : Rows.uptoBulk y.1 ≤ B)
  (hel : ∀ n l y', l.length = k → Rows.uptoBulk y'.1 ≤ B → DataW.trod enc P w 0 sp held n e l = some y' → ∃ x, l = f x ∧ R x) (h : DataW.trod enc P w 0 sp held fuel t [c] = some y) :
  ∃ (a : Option Addr) (cap : Nat) (xs : List α), c = .slice a xs.length cap ∧ xs.length ≤ B ∧ Sl w w.heap.size a (xs.flatMap f) ∧ ∀ x ∈ xs, R x := by
 obtain ⟨a, cap, css, rfl, hlB, hl, hs, he⟩ := open_flat ht hk hk0 hB h
 obtain ⟨xs, h1, h2, h3⟩ := list_shapes f R css (fun l hm => by
  obtain ⟨n, y', hyb, hy⟩ := he l hm
  exact hel n l y' (hl l hm) hyb hy)
 exact ⟨a, cap, xs, by rw [h1], by omega, h2 ▸ hs, h3⟩
theorem open_cells {sp : Nat → Bool} {held : Bool} {t : TypeId} {fs : Array Go.Field} {fuel : Nat} {cs : List Value} {y : DataW H × List MemPlace} (hs : P.underlying t = some (.struct fs)) (hone : Go.Deep.oneCellFields P fs = true) (hC : P.cellsOf t = fs.size) {B : Nat} (hB : Rows.uptoBulk y.1 ≤ B)
  (h : DataW.trod enc P w 0 sp held fuel t cs = some y) :
  cs.length = fs.size ∧ ∀ (j : Nat) (f : Go.Field) (c : Value), fs[j]? = some f → cs[j]? = some c → ∃ n y', Rows.uptoBulk y'.1 ≤ B ∧ DataW.trod enc P w 0 sp held n f.type [c] = some y' := by
 obtain ⟨ys, n, _, hy, hcl, hlen, hg⟩ := DataW.trod_struct hs h
 have hbk := bulk_agg (parts := ys.map (·.1)) (B := B) (by rw [hy] at hB; exact hB)
 refine ⟨by omega, fun j f c hj hc => ?_⟩
 obtain ⟨ho, hk⟩ := Go.Deep.hone_of hone j f hj
 have hjf : j < fs.size := (Array.getElem?_eq_some_iff.1 hj).1
 have h1 := hg j f hj
 have hjc := (List.getElem?_eq_some_iff.1 hc).1
 rw [ho, hk, List.drop_eq_getElem_cons hjc, List.take_succ_cons, List.take_zero, (List.getElem?_eq_some_iff.1 hc).2, List.getElem?_eq_getElem (show j < ys.length by omega)] at h1
 exact ⟨n, _, hbk _ (List.mem_map.2 ⟨_, List.getElem_mem _, rfl⟩), h1⟩
theorem list2 {cs : List Value} (h : cs.length = 2) : ∃ a b, cs = [a, b] := by
 match cs, h with
 | [a, b], _ => exact ⟨a, b, rfl⟩
theorem open_str {sp : Nat → Bool} {held : Bool} {t : TypeId} {fuel : Nat} {c : Value} {y : DataW H × List MemPlace} (ht : P.underlying t = some .string) (h : DataW.trod enc P w 0 sp held fuel t [c] = some y) : ∃ s : ByteArray, c = .string s := by
 obtain ⟨s, hs, _⟩ := DataW.trod_string ht h
 simp only [List.cons.injEq, and_true] at hs
 exact ⟨s, hs⟩
theorem open_strs {sp : Nat → Bool} {held : Bool} {t e : TypeId} {fuel : Nat} {c : Value} {y : DataW H × List MemPlace} (ht : P.underlying t = some (.slice e)) (he : P.underlying e = some .string) (hk : P.cellsOf e = 1) {B : Nat} (hB : Rows.uptoBulk y.1 ≤ B) (h : DataW.trod enc P w 0 sp held fuel t [c] = some y) :
  ∃ (a : Option Addr) (cap : Nat) (bs : List ByteArray), c = .slice a bs.length cap ∧ bs.length ≤ B ∧ Sl w w.heap.size a (bs.map Value.string) := by
 obtain ⟨a, cap, xs, h1, hb, h2, _⟩ := open_els (fun s : ByteArray => [Value.string s]) (fun _ => True) ht hk (by omega) hB (fun n l y' hl _ hy => by
  match l, hl with
  | [c'], _ =>
   obtain ⟨s, rfl⟩ := open_str he hy
   exact ⟨s, rfl, trivial⟩) h
 refine ⟨a, cap, xs, h1, hb, ?_⟩
 rw [← List.flatMap_singleton' (xs.map Value.string), List.flatMap_map]
 exact h2
end
end Go.Proofs.Ytdlnnkbigeiilaa
namespace Go.Proofs.Ytdlnnkbigeiilaa
open Go.ChangeShapes Go.WideShapes Go.ChangeAt Go.RowKit
section
variable {H : Type} {enc : TypeId × Value → H} {P : Program} {w : World}
end
end Go.Proofs.Ytdlnnkbigeiilaa
namespace Go.Proofs.Ytdlnnkbigeiilaa
open Go.ChangeShapes Go.WideShapes Go.ChangeAt Go.RowKit
theorem str_cells : Try.prog.cellsOf 9 = 1 := by kernel_rfl
end Go.Proofs.Ytdlnnkbigeiilaa
namespace Go.Proofs.Ytdlnnkbigeiilaa
open Go.ChangeShapes Go.WideShapes Go.ChangeAt Go.RowKit
section
variable {H : Type} {enc : TypeId × Value → H} {w : World}
theorem open_capW {P : Program} {sp : Nat → Bool} {held : Bool} {t e : TypeId} {fuel n cap : Nat} {a : Option Addr} {y : DataW H × List MemPlace} (ht : P.underlying t = some (.slice e)) (h : DataW.trod enc P w 0 sp held fuel t [.slice a n cap] = some y) : n ≤ cap := by
 rcases DataW.trod_slice ht h with ⟨hcs, _⟩ | ⟨x, len, cap', elems, rest, n', _, hcs, hx, hb, hl, hm, hlen, hel, _, _⟩
 ·simp only [List.cons.injEq, Value.slice.injEq, and_true] at hcs
  omega
 ·simp only [List.cons.injEq, Value.slice.injEq, and_true] at hcs
  omega
end
theorem claim_cells : Try.prog.cellsOf 112 = 2 := by kernel_rfl
section
variable {H : Type} {enc : TypeId × Value → H} {w : World}
end
end Go.Proofs.Ytdlnnkbigeiilaa
namespace Go.Proofs.Ytdlnnkbigeiilaa
open Go.ChangeShapes Go.WideShapes Go.ChangeAt Go.RowKit
theorem claims_cellsU : Try.prog.cellsOf 56 = 1 := by kernel_rfl
section
variable {H : Type} {enc : TypeId × Value → H} {w : World}
theorem open_claimsU {sp : Nat → Bool} {held : Bool} (fuel : Nat) (c : Value) (y : DataW H × List MemPlace) {B : Nat} (hB : Rows.uptoBulk y.1 ≤ B) (h : DataW.trod enc Try.prog w 0 sp held fuel 56 [c] = some y) :
  ∃ (a : Option Addr) (cap : Nat) (l : List ClaimA), c = .slice a l.length cap ∧ ClaimsAt w a l ∧ ∀ c ∈ l, c.bases.length ≤ c.cb ∧ c.images.length ≤ c.ci := by
 obtain ⟨a, cap, rs, h1, _, h4, h5⟩ := open_els (e := 112) ClaimA.cells (fun r => ClaimA.At w r ∧ r.bases.length ≤ r.cb ∧ r.images.length ≤ r.ci) Try.underlying56 claim_cells (by omega) hB (fun n l y' hl hB' hy => by
  obtain ⟨g1, g2⟩ := open_cells Try.underlying112 (by kernel_rfl) claim_cells hB' hy
  obtain ⟨x1, x2, rfl⟩ := list2 g1
  obtain ⟨_, _, hwa, ha⟩ := g2 0 _ _ rfl rfl
  obtain ⟨_, _, hwb, hb⟩ := g2 1 _ _ rfl rfl
  obtain ⟨al, cp, bs, rfl, _, hs⟩ := open_strs Try.underlying22 Try.underlying9 str_cells hwa ha
  obtain ⟨ai, ci, is, rfl, _, hi⟩ := open_strs Try.underlying22 Try.underlying9 str_cells hwb hb
  exact ⟨⟨al, cp, bs, ai, ci, is⟩, rfl, ⟨hs, hi⟩, open_capW Try.underlying22 ha, open_capW Try.underlying22 hb⟩) h
 exact ⟨a, cap, rs, h1, ⟨h4, fun c hc => (h5 c hc).1⟩, fun c hc => (h5 c hc).2⟩
theorem open_setsU {sp : Nat → Bool} {held : Bool} (fuel : Nat) (c : Value) (y : DataW H × List MemPlace) {B : Nat} (hB : Rows.uptoBulk y.1 ≤ B) (h : DataW.trod enc Try.prog w 0 sp held fuel 54 [c] = some y) :
  ∃ (a : Option Addr) (cap : Nat) (ss : List SetA), c = .slice a ss.length cap ∧ SetsAt w a ss ∧ ∀ s ∈ ss, ∀ c ∈ s.l, c.bases.length ≤ c.cb ∧ c.images.length ≤ c.ci := by
 obtain ⟨a, cap, rs, h1, _, h4, h5⟩ := open_els (e := 56) SetA.cells (fun s => ClaimsAt w s.a s.l ∧ ∀ c ∈ s.l, c.bases.length ≤ c.cb ∧ c.images.length ≤ c.ci) Try.underlying54 claims_cellsU (by omega) hB (fun n l y' hl hB' hy => by
  match l, hl with
  | [c'], _ =>
   obtain ⟨al, cp, cs, rfl, hC, hcap⟩ := open_claimsU _ _ _ hB' hy
   exact ⟨⟨al, cp, cs⟩, rfl, hC, hcap⟩) h
 exact ⟨a, cap, rs, h1, ⟨h4, fun s hs => (h5 s hs).1⟩, fun s hs => (h5 s hs).2⟩
end
end Go.Proofs.Ytdlnnkbigeiilaa
namespace Go.Proofs.Ytdlnnkbigeiilaa
open Go.ChangeShapes Go.WideShapes Go.ChangeAt Go.RowKit
theorem infoSetC : (Try.prog.info? 56).map (fun i => (i.zero, i.size, i.bytes)) = some (some (.slice none 0 0), 1, 24) := by kernel_rfl
theorem either_early (k : Int) (label o seed : ByteArray) (v : Value) (z : Bool) (L : List (ByteArray × ByteArray × ByteArray × ByteArray)) (al : Option Addr) (n cl : Nat) (wh : Int) (w : World) (hM : ∀ w1, Below w.heap.size w w1 → Calls Try.prog 28 #[.int .i64 k, .string o, v] w1 (MadeR z L w1)) (he : L.length = 0 ∨ 64 < L.length ∨ 16 < n ∨ wh < 0 ∨ (n : Int) ≤ wh) :
  Calls Try.prog 7 #[.int .i64 k, .string label, .slice al n cl, .int .i64 wh, .string o, v, .string seed] w fun e w' => e = .returned (.bool true) ∧ Below w.heap.size w w' := by
 have HM := Lib.hid hM
 clear hM
 unfold MadeR at HM
 generalize L.length = m at *
 by_cases c0 : m = 0
 ·have hd0 : ((m : Int) == 0) = true := by simp; omega
  clear he c0
  go_enter Try.func7, Try.ntmps7
  go_wp2_with fail
  refine (alive5 w).mono ?_
  rintro e w1 ⟨rfl, hb9⟩
  have HB := Lib.hid hb9
  have HZS := Lib.hid hb9.size
  clear hb9
  go_wp2_with fail
  refine (HM.out _ HB.out).mono ?_
  rintro e w2 ⟨hb9, a, c, cs, rfl, hcx, hcs, hco, hcn, _⟩
  replace HB := hbu HB hb9
  replace HZS := sz HZS hb9.size
  have HCX := Lib.hid hcx
  clear hcx
  have HCS := Lib.hid hcs
  clear hcs
  have HCO := Lib.hid hco
  clear hco hb9
  go_wp2_with fail
  go_ret
  exact ⟨rfl, HB.out⟩
 have hd0 : ((m : Int) == 0) = false := by simp; omega
 by_cases c1 : 64 < m
 ·have hd1 : decide ((m : Int) > 64) = true := by simp; omega
  clear he c0 c1
  go_enter Try.func7, Try.ntmps7
  go_wp2_with fail
  refine (alive5 w).mono ?_
  rintro e w1 ⟨rfl, hb9⟩
  have HB := Lib.hid hb9
  have HZS := Lib.hid hb9.size
  clear hb9
  go_wp2_with fail
  refine (HM.out _ HB.out).mono ?_
  rintro e w2 ⟨hb9, a, c, cs, rfl, hcx, hcs, hco, hcn, _⟩
  replace HB := hbu HB hb9
  replace HZS := sz HZS hb9.size
  have HCX := Lib.hid hcx
  clear hcx
  have HCS := Lib.hid hcs
  clear hcs
  have HCO := Lib.hid hco
  clear hco hb9
  go_wp2_with fail
  go_ret
  exact ⟨rfl, HB.out⟩
 have hd1 : decide ((m : Int) > 64) = false := by simp; omega
 by_cases c2 : 16 < n
 ·have hd2 : decide ((n : Int) > 16) = true := by simp; omega
  clear he c0 c1 c2
  go_enter Try.func7, Try.ntmps7
  go_wp2_with fail
  refine (alive5 w).mono ?_
  rintro e w1 ⟨rfl, hb9⟩
  have HB := Lib.hid hb9
  have HZS := Lib.hid hb9.size
  clear hb9
  go_wp2_with fail
  refine (HM.out _ HB.out).mono ?_
  rintro e w2 ⟨hb9, a, c, cs, rfl, hcx, hcs, hco, hcn, _⟩
  replace HB := hbu HB hb9
  replace HZS := sz HZS hb9.size
  have HCX := Lib.hid hcx
  clear hcx
  have HCS := Lib.hid hcs
  clear hcs
  have HCO := Lib.hid hco
  clear hco hb9
  go_wp2_with fail
  go_ret
  exact ⟨rfl, HB.out⟩
 have hd2 : decide ((n : Int) > 16) = false := by simp; omega
 by_cases c3 : wh < 0
 ·have hd3 : decide (wh < 0) = true := by simp; omega
  clear he c0 c1 c2 c3
  go_enter Try.func7, Try.ntmps7
  go_wp2_with fail
  refine (alive5 w).mono ?_
  rintro e w1 ⟨rfl, hb9⟩
  have HB := Lib.hid hb9
  have HZS := Lib.hid hb9.size
  clear hb9
  go_wp2_with fail
  refine (HM.out _ HB.out).mono ?_
  rintro e w2 ⟨hb9, a, c, cs, rfl, hcx, hcs, hco, hcn, _⟩
  replace HB := hbu HB hb9
  replace HZS := sz HZS hb9.size
  have HCX := Lib.hid hcx
  clear hcx
  have HCS := Lib.hid hcs
  clear hcs
  have HCO := Lib.hid hco
  clear hco hb9
  go_wp2_with fail
  go_ret
  exact ⟨rfl, HB.out⟩
 have hd3 : decide (wh < 0) = false := by simp; omega
 have hd4 : decide (wh ≥ (n : Int)) = true := by simp; omega
 clear he c0 c1 c2 c3
 go_enter Try.func7, Try.ntmps7
 go_wp2_with fail
 refine (alive5 w).mono ?_
 rintro e w1 ⟨rfl, hb9⟩
 have HB := Lib.hid hb9
 have HZS := Lib.hid hb9.size
 clear hb9
 go_wp2_with fail
 refine (HM.out _ HB.out).mono ?_
 rintro e w2 ⟨hb9, a, c, cs, rfl, hcx, hcs, hco, hcn, _⟩
 replace HB := hbu HB hb9
 replace HZS := sz HZS hb9.size
 have HCX := Lib.hid hcx
 clear hcx
 have HCS := Lib.hid hcs
 clear hcs
 have HCO := Lib.hid hco
 clear hco hb9
 go_wp2_with fail
 go_ret
 exact ⟨rfl, HB.out⟩
theorem either_body (k : Nat) (h1 : 1 ≤ k) (h3 : k ≤ 3) (label o seed : ByteArray) (hlb : label.size < 140737488355328) (hsd : seed.size < 140737488355328) (ho : isEl (grp k).q.m (grp k).size o = true) (xs : List ByteArray) (m : Nat) (hxm : xs.length = m) (ax : Option Addr) (cx : Nat) (h0 : 0 < m) (h64 : m ≤ 64) (hxs : xs.all (isSc (grp k).q.m (grp k).size) = true) (ss : List SetA) (n : Nat) (hn : ss.length = n) (h16 : n ≤ 16) (al : Option Addr) (cl : Nat) (hcap : ∀ s ∈ ss, ∀ c ∈ s.l, CapOk c) (wh : Nat) (hwn : wh < n) (w : World) (hC : SetsAt w al ss) (hX : Sl w w.heap.size ax (xs.map Value.string)) :
  Calls Try.prog 7 #[.int .i64 (k : Int), .string label, .slice al n cl, .int .i64 (wh : Int), .string o, .slice ax m cx, .string seed] w fun e w' => e = .returned (.bool true) ∧ Below w.heap.size w w' := by
 have HM := Lib.hid (fun w1 (hb9 : Below w.heap.size w w1) => made_some k h1 h3 o ho xs m hxm ax cx (by omega) true hxs w1 (hX.up hb9))
 rw [if_pos rfl] at HM
 unfold MadeR at HM
 rw [List.length_map, hxm] at HM
 have hd0 : ((m : Int) == 0) = false := by simp; omega
 have hd1 : decide ((m : Int) > 64) = false := by simp; omega
 have hd2 : decide ((n : Int) > 16) = false := by simp; omega
 have hd3 : decide ((wh : Int) < 0) = false := by simp
 have hd4 : decide ((wh : Int) ≥ (n : Int)) = false := by simp; omega
 have HN := Lib.hid hn
 have HAN := Lib.hid (show al = none → cl = 0 by
  intro e
  exfalso
  rcases hC.s with h9 | ⟨b, off, h9, _⟩
  ·have := flat_len SetA.cells 1 SetA.cells_len ss
   rw [h9, List.length_nil] at this
   omega
  ·rw [e] at h9; cases h9)
 have HC := Lib.hid hC
 have HX := Lib.hid hX
 have HSL := Lib.hid (fun (s : SetA) => (show (ss.set wh s).length = n by rw [List.length_set, hn]))
 have HPV := Lib.hid (fun (cs : List ClaimB) (hcx : cs.map ClaimB.x = xs.map (madeT (grp k) o)) a c => either_pv h1 h3 hcx hxs ss wh (by omega) a c)
 have HCP := Lib.hid (fun (cs : List ClaimB) a c => (show ∀ s ∈ ss.set wh ⟨a, c, cs.map ClaimB.a⟩, ∀ c ∈ s.l, CapOk c from fun s hs q hq => by
  rcases List.mem_or_eq_of_mem_set hs with h9 | rfl
  ·exact hcap s h9 q hq
  ·obtain ⟨b, _, rfl⟩ := List.mem_map.1 hq
   exact ⟨Nat.le_refl _, Nat.le_refl _⟩))
 have HPA := Lib.hid (fun (SS : List SetA) hcp a1 c1 W hC hS => sProveAny_any (k : Int) label seed hlb hsd SS a1 c1 hcp (wh : Int) xs ax cx (by omega) W hC hS)
 have HVA := Lib.hid (fun (SS : List SetA) (he : pvE (k : Int) SS (wh : Int) xs = 0) hcp a1 c1 (rs : List RowA) (hrs : rs.map RowA.l = pvAK (k : Int) label seed SS (wh : Int) xs) (hrl : ∀ r ∈ rs, r.l.length ≤ 8796093022207) a2 a3 c2 c3 W hC hS hR => (by
  have h := sVerifyAny_any (k : Int) label hlb SS a1 c1 (pvCK (k : Int) label seed SS (wh : Int) xs) rs hrl hcp a2 a3 c2 c3 W hC hS hR
  rw [hrs, either_van label seed SS wh xs he] at h
  exact h : Calls Try.prog 30 #[.int .i64 (k : Int), .string label, .slice a1 SS.length c1, .agg #[.slice a2 (pvCK (k : Int) label seed SS (wh : Int) xs).length c2, .slice a3 rs.length c3]] W fun e w' => e = .returned (.bool true) ∧ Below W.heap.size W w'))
 have HSMA := Lib.hid (fun (SS : List SetA) => pv_small (k : Int) label seed SS (wh : Int) xs)
 have HML := Lib.hid (fun (cs : List ClaimB) (hcx : cs.map ClaimB.x = xs.map (madeT (grp k) o)) => (show (cs.map ClaimB.a).length = m by rw [List.length_map, (made_at hcx).1, hxm]))
 unfold EithR at HPA
 rw [hxm] at HPA
 clear hC hX ho hxm hxs hlb hsd hn hcap
 go_enter Try.func7, Try.ntmps7
 go_wp2_with fail
 refine (alive5 w).mono ?_
 rintro e w1 ⟨rfl, hb9⟩
 have HB := Lib.hid hb9
 have HZS := Lib.hid hb9.size
 clear hb9
 go_wp2_with fail
 refine (HM.out _ HB.out).mono ?_
 rintro e w2 ⟨hb9, a, c, cs, rfl, hcx, hcs, hco, hcn, _⟩
 replace HB := hbu HB hb9
 replace HZS := sz HZS hb9.size
 have HCX := Lib.hid hcx
 clear hcx
 have HCS := Lib.hid hcs
 clear hcs
 have HCO := Lib.hid hco
 clear hco hb9
 have HCL := Lib.hid (show ClaimsAt w2 a (cs.map ClaimB.a) from ⟨by rw [made_cells]; exact HCS.out, fun q hq => by obtain ⟨b, hb, rfl⟩ := List.mem_map.1 hq; exact (HCO.out b hb).1.full⟩)
 have HV := Lib.hid (HPV.out cs HCX.out a c)
 have HCD := Lib.hid (setsE_code (grp k) (ss.set wh ⟨a, c, cs.map ClaimB.a⟩))
 have HMM := Lib.hid (HML.out cs HCX.out)
 have BC := Lib.hid (Below.refl w2.heap.size w2)
 clear HCS HCO hcn HM HPV HML
 obtain ⟨i9, hi9, hz90, hz91, hz92⟩ := info_parts infoSetC
 have hsl := HC.out.s.up HB.out
 have hsn : (ss.flatMap SetA.cells).length = n * 1 := by rw [flat_len SetA.cells 1 SetA.cells_len, HN.out]
 have hon : ∀ u ∈ ss.flatMap SetA.cells, u.oneCell' = true := by
  intro u hu
  obtain ⟨s, _, h9⟩ := List.mem_flatMap.1 hu
  unfold SetA.cells at h9
  rw [List.mem_singleton] at h9
  subst h9
  rfl
 go_wp2_with (at_builtin; refine wpList_joinR (w2.heap.size) w2 (Nat.le_refl _) rfl _ _ 54 rfl 56 i9 _ 1 24 Try.underlying54 hi9 hz90 hz91 hz92 rfl (by omega) (.slice none 0 0) 0 [] rfl RowO.nil al n cl (ss.flatMap SetA.cells) rfl hsn hsl HAN.out hon (by omega) (by unfold maxLen; omega) ?_)
 intro g9 d9 wj hown9 hg9
 have hb9 : Below (w2).heap.size w2 wj := Below.grown (Below.refl _ _) hg9 (Nat.le_refl _) (fun q hq => by cases hq)
 try rw [Nat.zero_add] at hown9
 try rw [List.nil_append] at hown9
 obtain ⟨sb, qr, rfl, hsN, hsc, hsb⟩ := hown9.bx (show 0 < n by omega)
 have Hsb := Lib.hid hsb
 have HSN := Lib.hid hsN
 clear hown9 hg9 hsl hsn hon hi9 hz90 hz91 hz92 hsb hsN hsc
 replace BC := hbu BC hb9
 replace HB := hbu HB hb9
 replace HZS := sz HZS hb9.size
 clear hb9
 replace HZS := sz HZS HSN.out
 have HSW := Lib.hid (show wh < (ss.flatMap SetA.cells ++ qr).length by rw [List.length_append, flat_len SetA.cells 1 SetA.cells_len, HN.out]; omega)
 have hoc := Hsb.out.cell (List.getElem?_eq_getElem HSW.out)
 try rw [Nat.zero_add]
 have f3_sb := Hsb.out.frozen
 obtain ⟨w3, hq3, hg9, hz9, hx9⟩ := put1 Hsb wh (.slice a m c) _ rfl
 replace BC := hbg BC hg9 (by have g0 := HZS.out; omega)
 replace HB := hbg HB hg9 (by have g0 := HZS.out; omega)
 replace HZS := sz HZS hz9.out
 replace Hsb := hx9
 clear hx9 hg9 hz9
 go_wp2_with fail
 clear hq3 f3_sb hoc
 have HSS0 := Lib.hid (show SetsAt w3 (some ⟨sb, 0, none⟩) (ss.set wh ⟨a, c, cs.map ClaimB.a⟩) from ⟨by
  have h9 := Hsb.out
  rw [List.set_append_left _ _ (by rw [flat_len SetA.cells 1 SetA.cells_len, HN.out]; omega)] at h9
  have h8 := Sl.app_left (Sl.of_block h9)
  rw [sets_set]
  show Sl _ _ _ ((ss.flatMap SetA.cells).set wh (.slice a (cs.map ClaimB.a).length c))
  rw [HMM.out]
  simpa using h8, fun s hs => by
  rcases List.mem_or_eq_of_mem_set hs with h9 | rfl
  ·exact (HC.out.e s h9).up HB.out
  ·exact HCL.out.up BC.out⟩)
 clear BC
 have hcp := HCP.out cs a c
 have hsl := HSL.out ⟨a, c, cs.map ClaimB.a⟩
 obtain ⟨SS, hSS⟩ : ∃ S, ss.set wh ⟨a, c, cs.map ClaimB.a⟩ = S := ⟨_, rfl⟩
 rw [hSS] at HSS0 HV HCD hcp hsl
 have HVD : pvE (k : Int) SS (wh : Int) xs = 0 ∨ pvE (k : Int) SS (wh : Int) xs = 2 ∨ pvE (k : Int) SS (wh : Int) xs = 3 ∨ pvE (k : Int) SS (wh : Int) xs = 7 := by rw [HV.out]; exact HCD.out
 have hq := HPA.out SS hcp (some ⟨sb, 0, none⟩) d9
 rw [hsl] at hq
 obtain ⟨s1, s2, s3⟩ := HSMA.out SS
 have BP := Lib.hid (Below.refl w3.heap.size w3)
 rcases HVD with h9 | h9 | h9 | h9
 ·have hv := HVA.out SS h9 hcp (some ⟨sb, 0, none⟩) d9
  rw [hsl] at hv
  rw [h9] at hq
  generalize pvCK (k : Int) label seed SS (wh : Int) xs = PC at *
  generalize pvAK (k : Int) label seed SS (wh : Int) xs = PA at *
  obtain ⟨q1, hq1⟩ : ∃ q, PC.length = q := ⟨_, rfl⟩
  obtain ⟨q2, hq2⟩ : ∃ q, PA.length = q := ⟨_, rfl⟩
  rw [hq1, hq2] at hq
  rw [hq1] at hv
  have HQ := Lib.hid hq
  have HQV := Lib.hid (fun (ro : List RowA) (hm : ro.map RowA.l = PA) a2 a3 c2 c3 => by
   have h8 := hv ro hm (fun r hr => by have h7 := s3 r.l (by rw [← hm]; exact List.mem_map.2 ⟨r, hr, rfl⟩); omega) a2 a3 c2 c3
   rw [show ro.length = q2 by rw [← hq2, ← hm, List.length_map]] at h8
   exact h8)
  clear hq hv hq1 hq2 s1 s2 s3 HPA HVA HSMA HCP HSL h9 HV HCD hcp hsl hSS
  refine (HQ.out w3 HSS0.out (HX.out.up HB.out)).mono ?_
  rintro e w4 ⟨hb9, a1, c1, r1, d1, ro, rfl, hs1, hm1, hr1, _⟩
  replace Hsb := Lib.hid (Hsb.out.up hb9)
  replace BP := hbu BP hb9
  replace HB := hbu HB hb9
  replace HZS := sz HZS hb9.size
  have HS1 := Lib.hid hs1
  clear hs1
  have HM1 := Lib.hid hm1
  clear hm1
  have HR1 := Lib.hid hr1
  clear hr1 hb9
  have BS1 := Lib.hid (Below.refl w4.heap.size w4)
  obtain ⟨w5, hq5, hb9, hz9, Hbp⟩ := new1 w4 60 [.slice a1 q1 c1, .slice r1 q2 d1]
  replace Hsb := Lib.hid (Hsb.out.up hb9)
  replace BP := hbu BP hb9
  replace BS1 := hbu BS1 hb9
  replace HB := hbu HB hb9
  replace HZS := sz HZS hz9.out
  clear hb9 hz9
  have bp_ := Hbp.out.c2
  go_wp2_with fail
  clear hq5
  refine (HQV.out ro HM1.out a1 r1 c1 d1 w5 (HSS0.out.up BP.out) (HS1.out.up BS1.out) (HR1.out.up BS1.out)).mono ?_
  rintro e w6 ⟨rfl, hb9⟩
  replace Hsb := Lib.hid (Hsb.out.up hb9)
  clear bp_
  replace Hbp := Lib.hid (Hbp.out.up hb9)
  replace BP := hbu BP hb9
  replace BS1 := hbu BS1 hb9
  replace HB := hbu HB hb9
  replace HZS := sz HZS hb9.size
  clear hb9
  have bp_ := Hbp.out.c2
  go_wp2_with fail
  go_ret
  exact ⟨rfl, HB.out⟩
 ·rw [h9, show (((2 : Nat)) : Int) = 2 from rfl] at hq
  generalize pvCK (k : Int) label seed SS (wh : Int) xs = PC at *
  generalize pvAK (k : Int) label seed SS (wh : Int) xs = PA at *
  have HQ := Lib.hid hq
  clear hq s1 s2 s3 HPA HVA HSMA HCP HSL h9 HV HCD hcp hsl hSS
  refine (HQ.out w3 HSS0.out (HX.out.up HB.out)).mono ?_
  rintro e w4 ⟨hb9, a1, c1, r1, d1, ro, rfl, _, _, _, _⟩
  replace Hsb := Lib.hid (Hsb.out.up hb9)
  replace BP := hbu BP hb9
  replace HB := hbu HB hb9
  replace HZS := sz HZS hb9.size
  clear hb9
  obtain ⟨w5, hq5, hb9, hz9, Hbp⟩ := new1 w4 60 [.slice a1 PC.length c1, .slice r1 PA.length d1]
  replace Hsb := Lib.hid (Hsb.out.up hb9)
  replace BP := hbu BP hb9
  replace HB := hbu HB hb9
  replace HZS := sz HZS hz9.out
  clear hb9 hz9
  have bp_ := Hbp.out.c2
  go_wp2_with fail
  clear hq5
  go_ret
  exact ⟨rfl, HB.out⟩
 ·rw [h9, show (((3 : Nat)) : Int) = 3 from rfl] at hq
  generalize pvCK (k : Int) label seed SS (wh : Int) xs = PC at *
  generalize pvAK (k : Int) label seed SS (wh : Int) xs = PA at *
  have HQ := Lib.hid hq
  clear hq s1 s2 s3 HPA HVA HSMA HCP HSL h9 HV HCD hcp hsl hSS
  refine (HQ.out w3 HSS0.out (HX.out.up HB.out)).mono ?_
  rintro e w4 ⟨hb9, a1, c1, r1, d1, ro, rfl, _, _, _, _⟩
  replace Hsb := Lib.hid (Hsb.out.up hb9)
  replace BP := hbu BP hb9
  replace HB := hbu HB hb9
  replace HZS := sz HZS hb9.size
  clear hb9
  obtain ⟨w5, hq5, hb9, hz9, Hbp⟩ := new1 w4 60 [.slice a1 PC.length c1, .slice r1 PA.length d1]
  replace Hsb := Lib.hid (Hsb.out.up hb9)
  replace BP := hbu BP hb9
  replace HB := hbu HB hb9
  replace HZS := sz HZS hz9.out
  clear hb9 hz9
  have bp_ := Hbp.out.c2
  go_wp2_with fail
  clear hq5
  go_ret
  exact ⟨rfl, HB.out⟩
 ·rw [h9, show (((7 : Nat)) : Int) = 7 from rfl] at hq
  generalize pvCK (k : Int) label seed SS (wh : Int) xs = PC at *
  generalize pvAK (k : Int) label seed SS (wh : Int) xs = PA at *
  have HQ := Lib.hid hq
  clear hq s1 s2 s3 HPA HVA HSMA HCP HSL h9 HV HCD hcp hsl hSS
  refine (HQ.out w3 HSS0.out (HX.out.up HB.out)).mono ?_
  rintro e w4 ⟨hb9, a1, c1, r1, d1, ro, rfl, _, _, _, _⟩
  replace Hsb := Lib.hid (Hsb.out.up hb9)
  replace BP := hbu BP hb9
  replace HB := hbu HB hb9
  replace HZS := sz HZS hb9.size
  clear hb9
  obtain ⟨w5, hq5, hb9, hz9, Hbp⟩ := new1 w4 60 [.slice a1 PC.length c1, .slice r1 PA.length d1]
  replace Hsb := Lib.hid (Hsb.out.up hb9)
  replace BP := hbu BP hb9
  replace HB := hbu HB hb9
  replace HZS := sz HZS hz9.out
  clear hb9 hz9
  have bp_ := Hbp.out.c2
  go_wp2_with fail
  clear hq5
  go_ret
  exact ⟨rfl, HB.out⟩
theorem sigmaEither_any (k : Int) (label o seed : ByteArray) (hlb : label.size < 140737488355328) (hsd : seed.size < 140737488355328) (xs : List ByteArray) (ax : Option Addr) (cx : Nat) (hm : xs.length ≤ 1000000000000) (ss : List SetA) (al : Option Addr) (cl : Nat) (hcap : ∀ s ∈ ss, ∀ c ∈ s.l, CapOk c) (wh : Int) (w : World) (hC : SetsAt w al ss) (hX : Sl w w.heap.size ax (xs.map Value.string)) :
  Calls Try.prog 7 #[.int .i64 k, .string label, .slice al ss.length cl, .int .i64 wh, .string o, .slice ax xs.length cx, .string seed] w fun e w' => e = .returned (.bool true) ∧ Below w.heap.size w w' := by
 by_cases hk : 1 ≤ k ∧ k ≤ 3
 case neg => exact either_early k label o seed _ _ [] al ss.length cl wh w (fun w1 _ => made_none k hk o _ w1) (Or.inl rfl)
 obtain ⟨j, rfl⟩ : ∃ j : Nat, k = j := ⟨k.toNat, by omega⟩
 by_cases ho : isEl (grp j).q.m (grp j).size o = true
 case neg => exact either_early j label o seed _ _ [] al ss.length cl wh w (fun w1 _ => made_elem j (by omega) (by omega) o (by simpa using ho) _ w1) (Or.inl rfl)
 have hMS := fun b hb w1 (hb9 : Below w.heap.size w w1) => made_some j (by omega) (by omega) o ho xs xs.length rfl ax cx hm b hb w1 (hX.up hb9)
 by_cases hs : xs.all (isSc (grp j).q.m (grp j).size) = true
 case neg => exact either_early j label o seed _ _ _ al ss.length cl wh w (hMS false (by simpa using hs)) (Or.inl rfl)
 by_cases he : xs.length = 0 ∨ 64 < xs.length ∨ 16 < ss.length ∨ wh < 0 ∨ (ss.length : Int) ≤ wh
 case pos =>
  refine either_early j label o seed _ _ _ al ss.length cl wh w (hMS true hs) ?_
  rw [if_pos rfl, List.length_map]
  exact he
 obtain ⟨v, rfl⟩ : ∃ v : Nat, wh = v := ⟨wh.toNat, by omega⟩
 exact either_body j (by omega) (by omega) label o seed hlb hsd ho xs _ rfl ax cx (by omega) (by omega) hs ss _ rfl (by omega) al cl hcap v (by omega) w hC hX
theorem str_upto {H : Type} {enc : TypeId × Value → H} {P : Program} {w : World} {sp : Nat → Bool} {held : Bool} {t : TypeId} {fuel : Nat} {s : ByteArray} {y : DataW H × List MemPlace} {B : Nat} (ht : P.underlying t = some .string) (hB : Rows.uptoBulk y.1 ≤ B) (h : DataW.trod enc P w 0 sp held fuel t [.string s] = some y) : s.size < B + 1 := by
 obtain ⟨s', hs, hy, _⟩ := DataW.trod_string ht h
 simp only [List.cons.injEq, and_true, Value.string.injEq] at hs
 subst hs
 rw [hy] at hB
 have h9 : s.data.toList.length + 1 ≤ B := hB
 have h8 : s.size = s.data.toList.length := rfl
 omega
theorem sigmaEither_calls {H : Type} (enc : TypeId × Value → H) (W : World) (base : Nat) {v0 v1 v2 v3 v4 v5 v6 : Value} {d0 d1 d2 d3 d4 d5 d6 : DataW H} {p0 p1 p2 p3 p4 p5 p6 : List MemPlace}
  (h0 : DataW.Trod enc Try.prog W 0 (fun _ => true) true 3 v0 d0 p0) (h1 : DataW.Trod enc Try.prog W 0 (fun _ => true) true 9 v1 d1 p1) (h2 : DataW.Trod enc Try.prog W 0 (fun _ => true) true 54 v2 d2 p2) (h3 : DataW.Trod enc Try.prog W 0 (fun _ => true) true 3 v3 d3 p3) (h4 : DataW.Trod enc Try.prog W 0 (fun _ => true) true 9 v4 d4 p4) (h5 : DataW.Trod enc Try.prog W 0 (fun _ => true) true 22 v5 d5 p5) (h6 : DataW.Trod enc Try.prog W 0 (fun _ => true) true 9 v6 d6 p6)
  (k0 : Value.okWide Try.prog W .any base 3 v0) (k1 : Value.okWide Try.prog W .any base 9 v1) (k2 : Value.okWide Try.prog W .any base 54 v2) (k3 : Value.okWide Try.prog W .any base 3 v3) (k4 : Value.okWide Try.prog W .any base 9 v4) (k5 : Value.okWide Try.prog W .any base 22 v5) (k6 : Value.okWide Try.prog W .any base 9 v6)
  (_lt0 : ∀ x ∈ p0, x.block < W.heap.size) (_lt1 : ∀ x ∈ p1, x.block < W.heap.size) (_lt2 : ∀ x ∈ p2, x.block < W.heap.size) (_lt3 : ∀ x ∈ p3, x.block < W.heap.size) (_lt4 : ∀ x ∈ p4, x.block < W.heap.size) (_lt5 : ∀ x ∈ p5, x.block < W.heap.size) (_lt6 : ∀ x ∈ p6, x.block < W.heap.size)
  (hsz : Rows.uptoSmall H ([d0, d1, d2, d3, d4, d5, d6] ++ []) = true) :
  Calls Try.prog 7 #[v0, v1, v2, v3, v4, v5, v6] W fun e w' => e = .returned (.bool true) ∧ Below W.heap.size W w' := by
 obtain ⟨k, rfl, _, _, _⟩ := open_int Try.underlying3 k0 h0
 obtain ⟨wh, rfl, _, _, _⟩ := open_int Try.underlying3 k3 h3
 obtain ⟨f1, h1⟩ := h1
 obtain ⟨f2, h2⟩ := h2
 obtain ⟨f4, h4⟩ := h4
 obtain ⟨f5, h5⟩ := h5
 obtain ⟨f6, h6⟩ := h6
 obtain ⟨label, rfl, _⟩ := Go.ChangeMaps.open_string Try.underlying9 k1 ⟨f1, h1⟩
 obtain ⟨o, rfl, _⟩ := Go.ChangeMaps.open_string Try.underlying9 k4 ⟨f4, h4⟩
 obtain ⟨seed, rfl, _⟩ := Go.ChangeMaps.open_string Try.underlying9 k6 ⟨f6, h6⟩
 obtain ⟨b2, n2, m2, rfl⟩ := okWide_slice Try.underlying54 k2
 obtain ⟨b5, n5, m5, rfl⟩ := okWide_slice Try.underlying22 k5
 have hB : Rows.uptoBulkAll [d0, d1, d2, d3, d4, d5, d6] ≤ 1048576 := of_decide_eq_true hsz
 have hB1 := Nat.le_trans (bulk_part (d := d1) (l := [d0, d1, d2, d3, d4, d5, d6]) (by simp)) hB
 have hB2 := Nat.le_trans (bulk_part (d := d2) (l := [d0, d1, d2, d3, d4, d5, d6]) (by simp)) hB
 have hB5 := Nat.le_trans (bulk_part (d := d5) (l := [d0, d1, d2, d3, d4, d5, d6]) (by simp)) hB
 have hB6 := Nat.le_trans (bulk_part (d := d6) (l := [d0, d1, d2, d3, d4, d5, d6]) (by simp)) hB
 obtain ⟨al, cl, ss, e2, hC, hcap⟩ := open_setsU f2 _ _ hB2 h2
 obtain ⟨ax, cx, xs, e5, hx, hX⟩ := open_strs Try.underlying22 Try.underlying9 str_cells hB5 h5
 have hz1 := str_upto Try.underlying9 hB1 h1
 have hz6 := str_upto Try.underlying9 hB6 h6
 rw [e2, e5]
 exact sigmaEither_any k label o seed (by omega) (by omega) xs ax cx (by omega) ss al cl hcap wh W hC hX
theorem sigmaEither_lifted (os : Os) (started : os.Started) (H : Type) (enc : TypeId × Value → H) (F : Stop.Interp) :
  ReturnsInHanded {} Try.checked os 7 .any ((Rows.OpenSpec.upto Rows.sigmaEitherSpec).pre6 enc Try.prog Try.f7 Rows.sigmaEitherUptoRow.domain false) (((Rows.OpenSpec.upto Rows.sigmaEitherSpec).at F).post enc Try.prog Try.f7 false true false false) := by
 refine returnsInHanded_of_cond (C := Try.checked) (s := Rows.OpenSpec.upto Rows.sigmaEitherSpec) (k := Rows.uptoSmall) rfl law_own started (by kernel_rfl) Try.func7
  (OpenSpec.witness (enc := enc) (C := Try.checked) (s := Rows.OpenSpec.upto Rows.sigmaEitherSpec) (k := Rows.uptoSmall) rfl false ⟨#[], #[.int .i64 0, .string ⟨#[]⟩, .slice none 0 0, .int .i64 0, .string ⟨#[]⟩, .slice none 0 0, .string ⟨#[]⟩], []⟩ 8 (by kernel_rfl) (by kernel_rfl) (by kernel_rfl)
   (x := ([.lit (.int .i64 0), .lit (.string []), .nil, .lit (.int .i64 0), .lit (.string []), .nil, .lit (.string [])], [], [])) (by kernel_rfl) rfl (by kernel_rfl)) ?_
 intro W base args ds gs before hval0 hW _ hsz0 _
 have hsz : Rows.uptoSmall H (ds ++ gs) = true := hsz0
 clear hsz0
 have hval : ∀ (j : Nat) t v, Try.f7.params[j]? = some t → args[j]? = some v → Value.okWide Try.prog W .any base t v := hval0
 have hW' := hW
 obtain ⟨p, q, hA0, hV, rfl, _, _⟩ := hW
 have hA : DataW.TrodAll enc Try.prog W 0 (fun _ => true) true Try.f7.params.toList args.toList ds p := hA0
 rw [Try.params7] at hA hval
 obtain ⟨v0, vs0, d0, ds0, p0, q0, hargs, rfl, rfl, h0, r0⟩ := trodAll_cons hA
 obtain ⟨v1, vs1, d1, ds1, p1, q1, rfl, rfl, rfl, h1, r1⟩ := trodAll_cons r0
 obtain ⟨v2, vs2, d2, ds2, p2, q2, rfl, rfl, rfl, h2, r2⟩ := trodAll_cons r1
 obtain ⟨v3, vs3, d3, ds3, p3, q3, rfl, rfl, rfl, h3, r3⟩ := trodAll_cons r2
 obtain ⟨v4, vs4, d4, ds4, p4, q4, rfl, rfl, rfl, h4, r4⟩ := trodAll_cons r3
 obtain ⟨v5, vs5, d5, ds5, p5, q5, rfl, rfl, rfl, h5, r5⟩ := trodAll_cons r4
 obtain ⟨v6, vs6, d6, ds6, p6, q6, rfl, rfl, rfl, h6, r6⟩ := trodAll_cons r5
 obtain ⟨rfl, rfl, rfl⟩ := trodAll_nil r6
 obtain rfl : args = #[v0, v1, v2, v3, v4, v5, v6] := by cases args; simp_all
 obtain ⟨rfl, rfl⟩ := trodVars_none hV
 have lt0 : ∀ x ∈ p0, x.block < W.heap.size := by obtain ⟨m, hm⟩ := h0; exact DataW.trod_lt m _ _ _ hm
 have lt1 : ∀ x ∈ p1, x.block < W.heap.size := by obtain ⟨m, hm⟩ := h1; exact DataW.trod_lt m _ _ _ hm
 have lt2 : ∀ x ∈ p2, x.block < W.heap.size := by obtain ⟨m, hm⟩ := h2; exact DataW.trod_lt m _ _ _ hm
 have lt3 : ∀ x ∈ p3, x.block < W.heap.size := by obtain ⟨m, hm⟩ := h3; exact DataW.trod_lt m _ _ _ hm
 have lt4 : ∀ x ∈ p4, x.block < W.heap.size := by obtain ⟨m, hm⟩ := h4; exact DataW.trod_lt m _ _ _ hm
 have lt5 : ∀ x ∈ p5, x.block < W.heap.size := by obtain ⟨m, hm⟩ := h5; exact DataW.trod_lt m _ _ _ hm
 have lt6 : ∀ x ∈ p6, x.block < W.heap.size := by obtain ⟨m, hm⟩ := h6; exact DataW.trod_lt m _ _ _ hm
 clear hA0 hval0
 refine (sigmaEither_calls enc W base h0 h1 h2 h3 h4 h5 h6 (hval 0 3 v0 rfl rfl) (hval 1 9 v1 rfl rfl) (hval 2 54 v2 rfl rfl) (hval 3 3 v3 rfl rfl) (hval 4 9 v4 rfl rfl) (hval 5 22 v5 rfl rfl) (hval 6 9 v6 rfl rfl) lt0 lt1 lt2 lt3 lt4 lt5 lt6 hsz).mono fun e W' ⟨he, bel⟩ => ?_
 subst he
 exact ⟨_, rfl, _, _, _, [], _, [], hW', trodAll_mk1 (shut_bool Try.underlying4 _), (trodAll_cons_mk (Below.trod law_laidOut (by kernel_rfl) (of_decide_eq_true (by kernel_rfl)) h0 bel lt0) (trodAll_cons_mk (Below.trod law_laidOut (by kernel_rfl) (of_decide_eq_true (by kernel_rfl)) h1 bel lt1) (trodAll_cons_mk (Below.trod law_laidOut (by kernel_rfl) (of_decide_eq_true (by kernel_rfl)) h2 bel lt2) (trodAll_cons_mk (Below.trod law_laidOut (by kernel_rfl) (of_decide_eq_true (by kernel_rfl)) h3 bel lt3) (trodAll_cons_mk (Below.trod law_laidOut (by kernel_rfl) (of_decide_eq_true (by kernel_rfl)) h4 bel lt4) (trodAll_cons_mk (Below.trod law_laidOut (by kernel_rfl) (of_decide_eq_true (by kernel_rfl)) h5 bel lt5) (trodAll_cons_mk (Below.trod law_laidOut (by kernel_rfl) (of_decide_eq_true (by kernel_rfl)) h6 bel lt6) trodAll_mk0))))))), rfl, bel.frame _, fun h => by cases h⟩
theorem sigmaEither_holds : Rows.SigmaEitherUptoSaid :=
 OpenClaim.holds_of_cond 7 Try.f7 rfl rfl rfl rfl rfl rfl rfl ⟨rfl, rfl, rfl, rfl, rfl⟩ rfl rfl rfl rfl rfl (by kernel_rfl) Try.func7 (by kernel_rfl)
  (of_decide_eq_true (by kernel_rfl)) (by unfold Func.isWrapper; first | (rw [if_pos (by decide +kernel)]; kernel_rfl) | (rw [if_neg (by decide +kernel)]; exact ⟨rfl, rfl⟩))
  (fun os started H enc _ F => sigmaEither_lifted os started H enc F)
#print axioms sigmaEither_holds
end Go.Proofs.Ytdlnnkbigeiilaa
