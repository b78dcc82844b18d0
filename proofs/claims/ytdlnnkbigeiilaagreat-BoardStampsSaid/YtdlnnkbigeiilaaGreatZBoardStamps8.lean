/- BoardStamps: Sign, Signed and Split of anything answer what the document says. No condition. -/
import Derived.Test.YtdlnnkbigeiilaaGreatZBoardStamps7
import Derived.Outline

set_option maxRecDepth 100000
set_option maxHeartbeats 4000000
set_option linter.unusedVariables false
set_option linter.unusedSimpArgs false
namespace Go.Proofs.YtdlnnkbigeiilaaGreat
open Go.RowKit
theorem nonce_sc {G : GP} (ok : G.Ok) (s : ByteArray) (n : Nat) : (nonceL G s n).all (isSc G.q.m G.size) = true := by
 refine List.all_eq_true.2 fun x hx => ?_
 unfold nonceL at hx
 obtain ⟨j, _, rfl⟩ := List.mem_map.1 hx
 unfold nonceS isSc
 rw [textS_size, numOf_mod ok]
 simp [Nat.mod_lt _ ok.q.pos]
theorem nonce_ok {k : Nat} (h1 : 1 ≤ k) (h3 : k ≤ 3) {l : List ClaimA} (hw : wrongE (grp k) l = 0) (s : ByteArray) : openK (k : Int) l (nonceL (grp k) s l.length) = 0 := by
 unfold openK openE scE
 rw [if_pos (by omega), Int.toNat_natCast, if_neg (by rw [hw]; simp), nonceL_len, if_pos rfl, if_pos (nonce_sc (grp_ok k h1 h3) s l.length)]
theorem rProve_none (k : Int) (hk : ¬ (1 ≤ k ∧ k ≤ 3)) (a b c d : Value) (w : World) : Calls Tryz.prog 15 #[.int .i64 k, a, b, c, d] w (ProveR 1 ⟨#[]⟩ [] w) := by
 go_enter Tryz.func15, Tryz.ntmps15
 go_wp2_with fail
 obtain ⟨w1, hq1, hb9, hz9, Hout⟩ := new1 w 25 [.string ⟨#[]⟩, .slice none 0 0]
 rw [hq1]
 clear hq1
 have HB := Lib.hid hb9
 have HZS := hz9
 clear hb9 hz9
 have out_ := Hout.out.c2
 go_wp2_with fail
 refine (refKind_none k hk w1).mono ?_
 rintro e w2 ⟨rfl, hb9⟩
 clear out_
 replace Hout := Lib.hid (Hout.out.up hb9)
 replace HB := hbu HB hb9
 replace HZS := sz HZS hb9.size
 clear hb9
 have out_ := Hout.out.c2
 have o3_out_ := out_; clear out_
 obtain ⟨w3, hq3, hb9, hz9, Hbg⟩ := new1 w2 86 [.int .i64 0, .slice none 0 0, .slice none 0 0]
 replace Hout := Lib.hid (Hout.out.up hb9)
 replace HB := hbu HB hb9
 replace HZS := sz HZS hz9.out
 clear hb9 hz9
 have out_ := Hout.out.c2
 have bg_ := Hbg.out.c3
 have f4_bg := Hbg.out.frozen
 have o4_out_ := out_; clear out_
 have o4_bg_ := bg_; clear bg_
 obtain ⟨w4, hq4, hg9, hz9, hx9⟩ := put3 Hbg 0 (.int .i64 0) 1 (.slice none 0 0) 2 (.slice none 0 0) [.int .i64 0, .slice none 0 0, .slice none 0 0] rfl
 replace Hout := Lib.hid (Hout.out.grown hg9.out (sne (by have g0 := HZS.out; omega)))
 replace HB := hbg HB hg9 (by have g0 := HZS.out; omega)
 replace HZS := sz HZS hz9.out
 replace Hbg := hx9
 clear hx9 hg9 hz9
 have out_ := Hout.out.c2
 have bg_ := Hbg.out.c3
 have f5_out := Hout.out.frozen
 have o5_out_ := out_; clear out_
 have o5_bg_ := bg_; clear bg_
 obtain ⟨w5, hq5, hg9, hz9, hx9⟩ := put2 Hout 0 (.string ⟨#[]⟩) 1 (.slice none 0 0) [.string ⟨#[]⟩, .slice none 0 0] rfl
 replace Hbg := Lib.hid (Hbg.out.grown hg9.out (sne (by have g0 := HZS.out; omega)))
 replace HB := hbg HB hg9 (by have g0 := HZS.out; omega)
 replace HZS := sz HZS hz9.out
 replace Hout := hx9
 clear hx9 hg9 hz9
 have out_ := Hout.out.c2
 have bg_ := Hbg.out.c3
 go_wp2_with fail
 clear hq5 o5_bg_ o5_out_ f5_out hq4 o4_bg_ o4_out_ f4_bg hq3 o3_out_
 simp [bodyPost, results, Tryz.results15, go_sem, out_]
 exact proveR_none _ HB.out
theorem rProve_some (k : Nat) (h1 : 1 ≤ k) (h3 : k ≤ 3) (label : ByteArray) (hlb : label.size < 140737488355328) (l : List ClaimA) (n : Nat) (hn : l.length = n) (xs : List ByteArray) (hm : xs.length ≤ 8796093022207) (seed : ByteArray) (hsd : seed.size < 140737488355328) (al ax : Option Addr) (cl cx : Nat) (w : World) (hC : ClaimsAt w al l) (hS : Sl w w.heap.size ax (xs.map Value.string)) :
  Calls Tryz.prog 15 #[.int .i64 (k : Int), .string label, .slice al n cl, .slice ax xs.length cx, .string seed] w (ProveR (prvE k l xs : Int) (if prvE k l xs = 0 then prvC k label l seed else ⟨#[]⟩) (if prvE k l xs = 0 then prvA k label l xs seed else []) w) := by
 have OK := Lib.hid (grp_ok k h1 h3)
 have hs0 : 0 < (grp k).size := by have h9 := of_decide_eq_true (size_gt0 k h1 h3); omega
 have HS0 := Lib.hid (show ¬ (((grp k).size : Int) = 0) by omega)
 have HC := Lib.hid hC
 have HS := Lib.hid hS
 have HN := Lib.hid hn
 obtain ⟨z1, hz1⟩ : ∃ z, wrongE (grp k) l = z := ⟨_, rfl⟩
 have HZ1 := Lib.hid hz1
 have hop : openK (k : Int) l xs = if wrongE (grp k) l ≠ 0 then wrongE (grp k) l else scE (grp k) l.length xs := by
  unfold openK openE
  rw [if_pos (by omega), Int.toNat_natCast]
 clear hC hS hn
 by_cases g1 : z1 = 0
 case neg =>
  have HE2 := Lib.hid (show prvE k l xs = z1 by unfold prvE; rw [hop, hz1, if_pos g1, if_neg g1])
  rw [HE2.out, if_neg g1, if_neg g1]
  have hd : ((z1 : Int) != 0) = true := by simp; omega
  clear g1 HE2 hop hz1 hsd hlb
  go_enter Tryz.func15, Tryz.ntmps15
  go_wp2_with fail
  obtain ⟨w1, hq1, hb9, hz9, Hout⟩ := new1 w 25 [.string ⟨#[]⟩, .slice none 0 0]
  rw [hq1]
  clear hq1
  have HB := Lib.hid hb9
  have HZS := hz9
  clear hb9 hz9
  have out_ := Hout.out.c2
  go_wp2_with fail
  refine (refKind_some k h1 h3 w1).mono ?_
  rintro e w2 ⟨aq, cq, ap, cp, rfl, hq9, hp9, hb9⟩
  clear out_
  replace Hout := Lib.hid (Hout.out.up hb9)
  replace HB := hbu HB hb9
  replace HZS := sz HZS hb9.size
  have HRG := Lib.hid (RG.mk (G := grp k) hq9 hp9)
  clear hq9 hp9 hb9
  have out_ := Hout.out.c2
  have HK := Lib.hid (Below.refl w2.heap.size w2)
  have o3_out_ := out_; clear out_
  obtain ⟨w3, hq3, hb9, hz9, Hbg⟩ := new1 w2 86 [.int .i64 ((grp k).size : Int), .slice aq (dl (grp k).q.m) cq, .slice ap (dl (grp k).p.m) cp]
  replace Hout := Lib.hid (Hout.out.up hb9)
  replace HK := hbu HK hb9
  replace HB := hbu HB hb9
  replace HZS := sz HZS hz9.out
  clear hb9 hz9
  have out_ := Hout.out.c2
  have bg_ := Hbg.out.c3
  go_wp2_with fail
  clear hq3 o3_out_
  refine (rWrong OK.out l n HN.out z1 HZ1.out al cl w3 (HRG.out.up HK.out) (HC.out.up HB.out)).mono ?_
  rintro e w4 ⟨rfl, hb9⟩
  clear out_
  replace Hout := Lib.hid (Hout.out.up hb9)
  clear bg_
  replace Hbg := Lib.hid (Hbg.out.up hb9)
  replace HK := hbu HK hb9
  replace HB := hbu HB hb9
  replace HZS := sz HZS hb9.size
  clear hb9
  have out_ := Hout.out.c2
  have bg_ := Hbg.out.c3
  have f5_out := Hout.out.frozen
  have o5_out_ := out_; clear out_
  have o5_bg_ := bg_; clear bg_
  obtain ⟨w5, hq5, hg9, hz9, hx9⟩ := put2 Hout 0 (.string ⟨#[]⟩) 1 (.slice none 0 0) [.string ⟨#[]⟩, .slice none 0 0] rfl
  replace Hbg := Lib.hid (Hbg.out.grown hg9.out (sne (by have g0 := HZS.out; omega)))
  replace HB := hbg HB hg9 (by have g0 := HZS.out; omega)
  replace HZS := sz HZS hz9.out
  replace Hout := hx9
  clear hx9 hg9 hz9
  have out_ := Hout.out.c2
  have bg_ := Hbg.out.c3
  go_wp2_with fail
  clear hq5 o5_bg_ o5_out_ f5_out
  simp [bodyPost, results, Tryz.results15, go_sem, out_]
  exact proveR_none _ HB.out
 subst g1
 obtain ⟨z2, hz2⟩ : ∃ z, scE (grp k) l.length xs = z := ⟨_, rfl⟩
 have HZ2 := Lib.hid hz2
 rw [hz1, if_neg (by simp), hz2] at hop
 by_cases g2 : z2 = 0
 case neg =>
  have HE2 := Lib.hid (show prvE k l xs = z2 by unfold prvE; rw [hop, if_neg g2])
  rw [HE2.out, if_neg g2, if_neg g2]
  have hd : ((z2 : Int) != 0) = true := by simp; omega
  rw [HN.out] at HZ2
  clear g2 HE2 hop hz1 hz2 hsd hlb
  go_enter Tryz.func15, Tryz.ntmps15
  go_wp2_with fail
  obtain ⟨w1, hq1, hb9, hz9, Hout⟩ := new1 w 25 [.string ⟨#[]⟩, .slice none 0 0]
  rw [hq1]
  clear hq1
  have HB := Lib.hid hb9
  have HZS := hz9
  clear hb9 hz9
  have out_ := Hout.out.c2
  go_wp2_with fail
  refine (refKind_some k h1 h3 w1).mono ?_
  rintro e w2 ⟨aq, cq, ap, cp, rfl, hq9, hp9, hb9⟩
  clear out_
  replace Hout := Lib.hid (Hout.out.up hb9)
  replace HB := hbu HB hb9
  replace HZS := sz HZS hb9.size
  have HRG := Lib.hid (RG.mk (G := grp k) hq9 hp9)
  clear hq9 hp9 hb9
  have out_ := Hout.out.c2
  have HK := Lib.hid (Below.refl w2.heap.size w2)
  have o3_out_ := out_; clear out_
  obtain ⟨w3, hq3, hb9, hz9, Hbg⟩ := new1 w2 86 [.int .i64 ((grp k).size : Int), .slice aq (dl (grp k).q.m) cq, .slice ap (dl (grp k).p.m) cp]
  replace Hout := Lib.hid (Hout.out.up hb9)
  replace HK := hbu HK hb9
  replace HB := hbu HB hb9
  replace HZS := sz HZS hz9.out
  clear hb9 hz9
  have out_ := Hout.out.c2
  have bg_ := Hbg.out.c3
  go_wp2_with fail
  clear hq3 o3_out_
  refine (rWrong OK.out l n HN.out 0 HZ1.out al cl w3 (HRG.out.up HK.out) (HC.out.up HB.out)).mono ?_
  rintro e w4 ⟨rfl, hb9⟩
  clear out_
  replace Hout := Lib.hid (Hout.out.up hb9)
  clear bg_
  replace Hbg := Lib.hid (Hbg.out.up hb9)
  replace HK := hbu HK hb9
  replace HB := hbu HB hb9
  replace HZS := sz HZS hb9.size
  clear hb9
  have out_ := Hout.out.c2
  have bg_ := Hbg.out.c3
  go_wp2_with fail
  refine (rWrongSc_e OK.out n xs z2 HZ2.out ax cx hm w4 (HRG.out.up HK.out) (HS.out.up HB.out)).mono ?_
  rintro e w5 ⟨rfl, hb9⟩
  clear out_
  replace Hout := Lib.hid (Hout.out.up hb9)
  clear bg_
  replace Hbg := Lib.hid (Hbg.out.up hb9)
  replace HK := hbu HK hb9
  replace HB := hbu HB hb9
  replace HZS := sz HZS hb9.size
  clear hb9
  have out_ := Hout.out.c2
  have bg_ := Hbg.out.c3
  have f6_out := Hout.out.frozen
  have o6_out_ := out_; clear out_
  have o6_bg_ := bg_; clear bg_
  obtain ⟨w6, hq6, hg9, hz9, hx9⟩ := put2 Hout 0 (.string ⟨#[]⟩) 1 (.slice none 0 0) [.string ⟨#[]⟩, .slice none 0 0] rfl
  replace Hbg := Lib.hid (Hbg.out.grown hg9.out (sne (by have g0 := HZS.out; omega)))
  replace HB := hbg HB hg9 (by have g0 := HZS.out; omega)
  replace HZS := sz HZS hz9.out
  replace Hout := hx9
  clear hx9 hg9 hz9
  have out_ := Hout.out.c2
  have bg_ := Hbg.out.c3
  go_wp2_with fail
  clear hq6 o6_bg_ o6_out_ f6_out
  simp [bodyPost, results, Tryz.results15, go_sem, out_]
  exact proveR_none _ HB.out
 subst g2
 have HSH := Lib.hid (rsh_of OK.out HZ1.out HZ2.out)
 have hxl : xs.length = n := by rw [sc_lens HZ2.out, HN.out]
 have hopk := hop
 obtain ⟨_, hall⟩ := allOk hopk
 rw [Int.toNat_natCast] at hall
 have hHE := holdP_eq h1 h3 hall
 rw [HN.out] at HZ2
 obtain ⟨b, hb0⟩ : ∃ b, holdP (grp k) l xs = b := ⟨_, rfl⟩
 have HP := Lib.hid (hHE.trans hb0)
 have HXL := Lib.hid hxl
 have HHB := Lib.hid hb0
 have HE := Lib.hid (show prvE k l xs = if b = true then 0 else 8 by unfold prvE; rw [hop, if_pos rfl, Int.toNat_natCast, hb0])
 rw [hxl]
 clear hxl hop hopk hall hHE hb0 hz1 hz2
 cases b
 ·rw [HE.out, if_neg (by decide), if_neg (by decide), if_neg (by decide)]
  clear HE hsd hlb
  go_enter Tryz.func15, Tryz.ntmps15
  go_wp2_with fail
  obtain ⟨w1, hq1, hb9, hz9, Hout⟩ := new1 w 25 [.string ⟨#[]⟩, .slice none 0 0]
  rw [hq1]
  clear hq1
  have HB := Lib.hid hb9
  have HZS := hz9
  clear hb9 hz9
  have out_ := Hout.out.c2
  go_wp2_with fail
  refine (refKind_some k h1 h3 w1).mono ?_
  rintro e w2 ⟨aq, cq, ap, cp, rfl, hq9, hp9, hb9⟩
  clear out_
  replace Hout := Lib.hid (Hout.out.up hb9)
  replace HB := hbu HB hb9
  replace HZS := sz HZS hb9.size
  have HRG := Lib.hid (RG.mk (G := grp k) hq9 hp9)
  clear hq9 hp9 hb9
  have out_ := Hout.out.c2
  have HK := Lib.hid (Below.refl w2.heap.size w2)
  have o3_out_ := out_; clear out_
  obtain ⟨w3, hq3, hb9, hz9, Hbg⟩ := new1 w2 86 [.int .i64 ((grp k).size : Int), .slice aq (dl (grp k).q.m) cq, .slice ap (dl (grp k).p.m) cp]
  replace Hout := Lib.hid (Hout.out.up hb9)
  replace HK := hbu HK hb9
  replace HB := hbu HB hb9
  replace HZS := sz HZS hz9.out
  clear hb9 hz9
  have out_ := Hout.out.c2
  have bg_ := Hbg.out.c3
  go_wp2_with fail
  clear hq3 o3_out_
  refine (rWrong OK.out l n HN.out 0 HZ1.out al cl w3 (HRG.out.up HK.out) (HC.out.up HB.out)).mono ?_
  rintro e w4 ⟨rfl, hb9⟩
  clear out_
  replace Hout := Lib.hid (Hout.out.up hb9)
  clear bg_
  replace Hbg := Lib.hid (Hbg.out.up hb9)
  replace HK := hbu HK hb9
  replace HB := hbu HB hb9
  replace HZS := sz HZS hb9.size
  clear hb9
  have out_ := Hout.out.c2
  have bg_ := Hbg.out.c3
  go_wp2_with fail
  refine (rWrongSc_n OK.out n xs HXL.out 0 HZ2.out ax cx hm w4 (HRG.out.up HK.out) (HS.out.up HB.out)).mono ?_
  rintro e w5 ⟨rfl, hb9⟩
  clear out_
  replace Hout := Lib.hid (Hout.out.up hb9)
  clear bg_
  replace Hbg := Lib.hid (Hbg.out.up hb9)
  replace HK := hbu HK hb9
  replace HB := hbu HB hb9
  replace HZS := sz HZS hb9.size
  clear hb9
  have out_ := Hout.out.c2
  have bg_ := Hbg.out.c3
  go_wp2_with fail
  refine (rHold OK.out l xs HSH.out n HN.out false HP.out al ax cl cx w5 (HRG.out.up HK.out) (HC.out.up HB.out) (HS.out.up HB.out)).mono ?_
  rintro e w6 ⟨rfl, hb9⟩
  clear out_
  replace Hout := Lib.hid (Hout.out.up hb9)
  clear bg_
  replace Hbg := Lib.hid (Hbg.out.up hb9)
  replace HK := hbu HK hb9
  replace HB := hbu HB hb9
  replace HZS := sz HZS hb9.size
  clear hb9
  have out_ := Hout.out.c2
  have bg_ := Hbg.out.c3
  have f7_out := Hout.out.frozen
  have o7_out_ := out_; clear out_
  have o7_bg_ := bg_; clear bg_
  obtain ⟨w7, hq7, hg9, hz9, hx9⟩ := put2 Hout 0 (.string ⟨#[]⟩) 1 (.slice none 0 0) [.string ⟨#[]⟩, .slice none 0 0] rfl
  replace Hbg := Lib.hid (Hbg.out.grown hg9.out (sne (by have g0 := HZS.out; omega)))
  replace HB := hbg HB hg9 (by have g0 := HZS.out; omega)
  replace HZS := sz HZS hz9.out
  replace Hout := hx9
  clear hx9 hg9 hz9
  have out_ := Hout.out.c2
  have bg_ := Hbg.out.c3
  go_wp2_with fail
  clear hq7 o7_bg_ o7_out_ f7_out
  simp [bodyPost, results, Tryz.results15, go_sem, out_]
  exact proveR_none _ HB.out
 ·rw [HE.out, if_pos rfl, if_pos rfl, if_pos rfl]
  have hnn : l.length = n := HN.out
  have hl64 : n ≤ 64 := hnn ▸ HSH.out.n64
  have hs1 : (prvT k label l).size = 32 := sayCl_size _ _ (say1_size _ _ _)
  have hs2 : (say1 (prvT k label l) seedB seed).size = 32 := say1_size _ _ _
  have hs3 : (sayFi (prvT k label l) (prvF k label l seed)).size = 32 := sayFi_size _ _ hs1
  have HSY := Lib.hid (show ∀ c ∈ l, SayOk c from fun c hc => ⟨(HSH.out.len c hc).1, by have := HSH.out.len c hc; omega, HSH.out.bs c hc, HSH.out.ims c hc⟩)
  have hLL : nonceL (grp k) (say1 (prvT k label l) seedB seed) n = prvL k label l seed := by unfold prvL; rw [Int.toNat_natCast, hnn]
  have hsc0 : scE (grp k) l.length (prvL k label l seed) = 0 := by
   rw [← hLL, hnn]
   unfold scE
   rw [if_pos (nonceL_len _ _ _), if_pos (nonce_sc OK.out _ _)]
  have hNL : (prvL k label l seed).length = n := by rw [← hLL, nonceL_len]
  have hNZ : ∀ x ∈ prvL k label l seed, x.size ≤ 32 := (rsh_of OK.out HZ1.out hsc0).xs
  have hFF : eachA (grp k) (rvalB (grp k) (subQ (grp k) 0 0) l (prvL k label l seed)) (lens l) n = prvF k label l seed := by
   have h9 := rfirstK_eq (k : Int) l (prvL k label l seed)
   have ho : openK (k : Int) l (prvL k label l seed) = 0 := by
    have := nonce_ok h1 h3 HZ1.out (say1 (prvT k label l) seedB seed)
    rwa [hnn, hLL] at this
   unfold rfirstK firstK at h9
   rw [if_pos ho, if_pos ho, Int.toNat_natCast, hnn] at h9
   rw [h9]
   unfold prvF
   rw [Int.toNat_natCast, hnn]
  have hFM : ∀ ro : List RowA, ro.map RowA.l = prvF k label l seed → ro.length = n ∧ ∀ r ∈ ro, r.l.length ≤ 8 ∧ ∀ x ∈ r.l, x.size ≤ 32 := fun ro hm => by
   have hm' := hm
   unfold prvF at hm'
   rw [Int.toNat_natCast, hnn] at hm'
   refine ⟨?_, eachA_small OK.out.size_le (lens_small fun c hc => (HSH.out.len c hc).1) hm'⟩
   have h9 := congrArg List.length hm'
   rwa [List.length_map, eachA_len] at h9
  have HF1 := Lib.hid (fun w => rbegin_any (k : Int) (by omega) claimsB label (by decide) hlb w)
  have HF2 := Lib.hid (fun w hC => (show Calls Tryz.prog 47 #[.agg #[.string (beginT claimsB label k)], .slice al n cl] w fun e w' => e = .returned (.agg #[.string (prvT k label l)]) ∧ Below w.heap.size w w' from rsayCl_any (beginT claimsB label k) l n hnn hl64 (say1_size _ _ _) HSY.out al cl w hC))
  have HF3 := Lib.hid (fun w => (show Calls Tryz.prog 73 #[.agg #[.string (prvT k label l)], .string seedB, .string seed] w fun e w' => e = .returned (.agg #[.string (say1 (prvT k label l) seedB seed)]) ∧ Below w.heap.size w w' from rSay_any (prvT k label l) seedB seed (by rw [hs1]; decide) (by decide) hsd w))
  have HF4 := Lib.hid (fun aq ap cq cp w hG => hLL ▸ rNonces_any (G := grp k) (aq := aq) (ap := ap) (cq := cq) (cp := cp) OK.out n hl64 (say1 (prvT k label l) seedB seed) hs2 w hG)
  have HF5 := Lib.hid (fun aq ap cq cp a9 c9 w hG hC hX => hFF ▸ rFirstOf (G := grp k) (aq := aq) (ap := ap) (cq := cq) (cp := cp) OK.out _ rfl l (prvL k label l seed) (rsh_of OK.out HZ1.out hsc0) n hnn al a9 cl c9 w hG hC hX)
  have HF6 := Lib.hid (fun (ro : List RowA) (hm : ro.map RowA.l = prvF k label l seed) (a9 : Option Addr) (c9 : Nat) (w : World) (hC : RowsAt w a9 ro) => (show Calls Tryz.prog 46 #[.agg #[.string (prvT k label l)], .slice a9 (prvF k label l seed).length c9] w fun e w' => e = .returned (.agg #[.string (sayFi (prvT k label l) (prvF k label l seed))]) ∧ Below w.heap.size w w' from by
   have h := rsayFi_any (prvT k label l) ro ro.length rfl (by rw [(hFM ro hm).1]; exact hl64) hs1 (hFM ro hm).2 a9 c9 w hC
   rw [hm] at h
   rw [← hm, List.length_map, hm]
   exact h))
  have HF7 := Lib.hid (fun pv aq cq w hQ => rChallenge_any (grp k).size (grp k).q.m pv OK.out.q.pos aq cq (sayFi (prvT k label l) (prvF k label l seed)) challengeB (by rw [hs3]; decide) (by decide) w hQ)
  have HRN := Lib.hid (show prvN k label l seed = chN (sayFi (prvT k label l) (prvF k label l seed)) challengeB from rfl)
  have HRC := Lib.hid (show prvC k label l seed = textS (prvN k label l seed % (grp k).q.m) (grp k).size by unfold prvC; rw [Int.toNat_natCast])
  have HRA := Lib.hid (show prvA k label l xs seed = ansL (grp k) (prvN k label l seed) (prvL k label l seed) xs by unfold prvA; rw [Int.toNat_natCast])
  have HNL := Lib.hid hNL
  have HNZ := Lib.hid hNZ
  generalize prvC k label l seed = PC at *
  generalize prvA k label l xs seed = PA at *
  generalize prvN k label l seed = PN at *
  generalize prvF k label l seed = PF at *
  generalize sayFi (prvT k label l) PF = t3 at *
  rw [← HRN.out] at HF7
  generalize chT t3 challengeB = t4 at *
  generalize prvL k label l seed = NL at *
  generalize askT (say1 (prvT k label l) seedB seed) n = t5 at *
  generalize say1 (prvT k label l) seedB seed = t2 at *
  generalize prvT k label l = t1 at *
  generalize beginT claimsB label k = t0 at *
  clear hs1 hs2 hs3 hLL hsc0 hNL hNZ hFF hFM hnn hlb hsd HRN
  obtain ⟨M, hM⟩ : ∃ M, PN % (grp k).q.m = M := ⟨_, rfl⟩
  have HM := Lib.hid hM
  rw [hM] at HF7 HRC
  have HML := Lib.hid (show M < (grp k).q.m from hM ▸ Nat.mod_lt _ OK.out.q.pos)
  clear hM HE
  go_enter Tryz.func15, Tryz.ntmps15
  go_wp2_with fail
  obtain ⟨w1, hq1, hb9, hz9, Hout⟩ := new1 w 25 [.string ⟨#[]⟩, .slice none 0 0]
  rw [hq1]
  clear hq1
  have HB := Lib.hid hb9
  have HZS := hz9
  clear hb9 hz9
  have out_ := Hout.out.c2
  go_wp2_with fail
  refine (refKind_some k h1 h3 w1).mono ?_
  rintro e w2 ⟨aq, cq, ap, cp, rfl, hq9, hp9, hb9⟩
  clear out_
  replace Hout := Lib.hid (Hout.out.up hb9)
  replace HB := hbu HB hb9
  replace HZS := sz HZS hb9.size
  have HRG := Lib.hid (RG.mk (G := grp k) hq9 hp9)
  clear hq9 hp9 hb9
  have out_ := Hout.out.c2
  have HK := Lib.hid (Below.refl w2.heap.size w2)
  have o3_out_ := out_; clear out_
  obtain ⟨w3, hq3, hb9, hz9, Hbg⟩ := new1 w2 86 [.int .i64 ((grp k).size : Int), .slice aq (dl (grp k).q.m) cq, .slice ap (dl (grp k).p.m) cp]
  replace Hout := Lib.hid (Hout.out.up hb9)
  replace HK := hbu HK hb9
  replace HB := hbu HB hb9
  replace HZS := sz HZS hz9.out
  clear hb9 hz9
  have out_ := Hout.out.c2
  have bg_ := Hbg.out.c3
  go_wp2_with fail
  clear hq3 o3_out_
  refine (rWrong OK.out l n HN.out 0 HZ1.out al cl w3 (HRG.out.up HK.out) (HC.out.up HB.out)).mono ?_
  rintro e w4 ⟨rfl, hb9⟩
  clear out_
  replace Hout := Lib.hid (Hout.out.up hb9)
  clear bg_
  replace Hbg := Lib.hid (Hbg.out.up hb9)
  replace HK := hbu HK hb9
  replace HB := hbu HB hb9
  replace HZS := sz HZS hb9.size
  clear hb9
  have out_ := Hout.out.c2
  have bg_ := Hbg.out.c3
  go_wp2_with fail
  refine (rWrongSc_n OK.out n xs HXL.out 0 HZ2.out ax cx hm w4 (HRG.out.up HK.out) (HS.out.up HB.out)).mono ?_
  rintro e w5 ⟨rfl, hb9⟩
  clear out_
  replace Hout := Lib.hid (Hout.out.up hb9)
  clear bg_
  replace Hbg := Lib.hid (Hbg.out.up hb9)
  replace HK := hbu HK hb9
  replace HB := hbu HB hb9
  replace HZS := sz HZS hb9.size
  clear hb9
  have out_ := Hout.out.c2
  have bg_ := Hbg.out.c3
  go_wp2_with fail
  refine (rHold OK.out l xs HSH.out n HN.out true HP.out al ax cl cx w5 (HRG.out.up HK.out) (HC.out.up HB.out) (HS.out.up HB.out)).mono ?_
  rintro e w6 ⟨rfl, hb9⟩
  clear out_
  replace Hout := Lib.hid (Hout.out.up hb9)
  clear bg_
  replace Hbg := Lib.hid (Hbg.out.up hb9)
  replace HK := hbu HK hb9
  replace HB := hbu HB hb9
  replace HZS := sz HZS hb9.size
  clear hb9
  have out_ := Hout.out.c2
  have bg_ := Hbg.out.c3
  go_wp2_with fail
  refine (HF1.out w6).mono ?_
  rintro e w7 ⟨rfl, hb9⟩
  clear out_
  replace Hout := Lib.hid (Hout.out.up hb9)
  clear bg_
  replace Hbg := Lib.hid (Hbg.out.up hb9)
  replace HK := hbu HK hb9
  replace HB := hbu HB hb9
  replace HZS := sz HZS hb9.size
  clear hb9
  have out_ := Hout.out.c2
  have bg_ := Hbg.out.c3
  go_wp2_with fail
  refine (HF2.out w7 (HC.out.up HB.out)).mono ?_
  rintro e w8 ⟨rfl, hb9⟩
  clear out_
  replace Hout := Lib.hid (Hout.out.up hb9)
  clear bg_
  replace Hbg := Lib.hid (Hbg.out.up hb9)
  replace HK := hbu HK hb9
  replace HB := hbu HB hb9
  replace HZS := sz HZS hb9.size
  clear hb9
  have out_ := Hout.out.c2
  have bg_ := Hbg.out.c3
  have o9_out_ := out_; clear out_
  have o9_bg_ := bg_; clear bg_
  obtain ⟨w9, hq9, hb9, hz9, Hbt⟩ := new1 w8 89 [.string t1]
  replace Hout := Lib.hid (Hout.out.up hb9)
  replace Hbg := Lib.hid (Hbg.out.up hb9)
  replace HK := hbu HK hb9
  replace HB := hbu HB hb9
  replace HZS := sz HZS hz9.out
  clear hb9 hz9
  have out_ := Hout.out.c2
  have bg_ := Hbg.out.c3
  have bt_ := Hbt.out.c1
  go_wp2_with fail
  clear hq9 o9_bg_ o9_out_
  go_cut [17, 16] from 53 to 62 (fun v9 u9 wq9 => ∃ (b9 : Nat) (a9 : Option Addr) (c9 : Nat), v9 = .pointer (some ⟨b9, 0, none⟩) ∧ u9 = .slice a9 n c9 ∧ Hid (RowO 0 wq9 9 1 (.slice a9 n c9) n (NL.map Value.string)) ∧ Hid (Below w9.heap.size w9 wq9))
  case first =>
   have HT := Lib.hid (show Below w9.heap.size w9 w9.drew from (Below.refl _ _).drew)
   have hl_out := Hout.out.lt
   have hl_bg := Hbg.out.lt
   have hl_bt := Hbt.out.lt
   refine wp_region_tree (fun wq9 => ∃ E : Over w9, wq9 = E.w) ((.qs [0, 1, 2, 4, 5] (.two 3 (.two 6 (.qs [7, 8, 9] (.a 10 (.qs [11] (.a 12 .done)))) 10 (.a 6 (.qs [7, 8, 9, 11] (.a 12 .done)))) 10 (.a 3 (.a 6 (.qs [7, 8, 9, 11] (.a 12 .done))))))) (by kernel_rfl) (by kernel_rfl) (fun _ _ d _ _ h => by cases d <;> exact h) ⟨⟨_, HT.out⟩, rfl⟩ ?_
   have hov_out := fun (E : Over w9) o => E.cell (b := w.heap.size) o hl_out
   have hov_bg := fun (E : Over w9) o => E.cell (b := w2.heap.size) o hl_bg
   have hov_bt := fun (E : Over w9) o => E.cell (b := w8.heap.size) o hl_bt
   obtain ⟨wd, hwd⟩ : ∃ W9 : World, w9.drew = W9 := ⟨_, rfl⟩
   rw [hwd] at HT ⊢
   clear hwd
   simp only [Tree.qs]
   repeat (refine tree_q rfl rfl ?_; go_big_quiet_step (fail); refine wpQuiet_nil ?_)
   refine tree_two rfl rfl ?ta1 ?ta2
   case ta1 =>
    intro K hK
    go_simp
    refine (HF3.out _).mono ?_
    rintro e wz3 ⟨rfl, hb9⟩
    replace HT := Lib.hid (below_up HT.out hb9)
    clear hb9
    refine hK _ _ ⟨⟨⟨wz3, HT.out⟩, rfl⟩, ?_⟩
    clear hK K
    refine tree_two rfl rfl ?ta4 ?ta5
    case ta4 =>
     intro K hK
     go_simp
     refine (HF4.out aq ap cq cp _ (HRG.out.up (below_up HK.out HT.out))).mono ?_
     rintro e wz6 ⟨a5, c5, rfl, hr5, hb9⟩
     replace HT := Lib.hid (below_up HT.out hb9)
     have HR5 := Lib.hid hr5
     clear hr5 hb9
     refine hK _ _ ⟨⟨⟨wz6, HT.out⟩, rfl⟩, ?_⟩
     clear hK K
     repeat (refine tree_q rfl rfl ?_; go_big_quiet_step (fail); refine wpQuiet_nil ?_)
     refine tree_a rfl (fun K hK => ?_)
     go_simp
     have hb9 : Below wz6.heap.size wz6 (wz6.alloc (Obj.cells #[.string ⟨#[]⟩] 89)) := (Below.refl _ _).alloc (Nat.le_refl _) _
     have hx9 : Bx (wz6.alloc (Obj.cells #[.string ⟨#[]⟩] 89)) wz6.heap.size 89 [.string ⟨#[]⟩] := Bx.new _ _ _ _ rfl
     obtain ⟨wz7, hq9⟩ : ∃ W9 : World, (wz6.alloc (Obj.cells #[.string ⟨#[]⟩] 89)) = W9 := ⟨_, rfl⟩
     rw [hq9] at hb9 hx9
     try rw [hq9]
     clear hq9
     replace HR5 := Lib.hid (HR5.out.up hb9)
     have HAr := Lib.hid HT.out.size
     replace HT := Lib.hid (below_up HT.out hb9)
     have Hr := Lib.hid hx9
     clear hb9 hx9
     refine hK _ _ ⟨⟨⟨wz7, HT.out⟩, rfl⟩, ?_⟩
     clear hK K
     repeat (refine tree_q rfl rfl ?_; go_big_quiet_step (fail); refine wpQuiet_nil ?_)
     refine tree_a rfl (fun K hK => ?_)
     have fz_0 := Hr.out.frozen 0
     have cz_0 := Hr.out.cell (i := 0) rfl
     go_simp
     replace HR5 := Lib.hid (RowO.other HR5.out (RowO.neB HR5.out Hr.out (by decide)) 0 (.string t5))
     have hx9 := (Hr.out.set 0 (.string t5))
     have hb9 : Below w9.heap.size w9 (wz7.setCell ⟨wz6.heap.size, 0, none⟩ (.string t5)) := (HT.out.setCell (show w9.heap.size ≤ wz6.heap.size from HAr.out) _)
     clear Hr HT fz_0 cz_0
     obtain ⟨wz8, hq9⟩ : ∃ W9 : World, (wz7.setCell ⟨wz6.heap.size, 0, none⟩ (.string t5)) = W9 := ⟨_, rfl⟩
     rw [hq9] at hx9 hb9 HR5
     try rw [hq9]
     clear hq9
     have HT := Lib.hid hb9
     have Hr := Lib.hid hx9
     clear hb9 hx9
     refine hK _ _ ⟨⟨⟨wz8, HT.out⟩, rfl⟩, ?_⟩
     clear hK K
     repeat (refine tree_q rfl rfl ?_; go_big_quiet_step (fail); refine wpQuiet_nil ?_)
     refine tree_end ?_
     go_wp2_with fail
     go_meet
     case rel => exact ⟨_, _, _, rfl, rfl, HR5, HT⟩
    case ta5 =>
     intro K hK
     go_simp
     have hb9 : Below wz3.heap.size wz3 (wz3.alloc (Obj.cells #[.string ⟨#[]⟩] 89)) := (Below.refl _ _).alloc (Nat.le_refl _) _
     have hx9 : Bx (wz3.alloc (Obj.cells #[.string ⟨#[]⟩] 89)) wz3.heap.size 89 [.string ⟨#[]⟩] := Bx.new _ _ _ _ rfl
     obtain ⟨wz9, hq9⟩ : ∃ W9 : World, (wz3.alloc (Obj.cells #[.string ⟨#[]⟩] 89)) = W9 := ⟨_, rfl⟩
     rw [hq9] at hb9 hx9
     try rw [hq9]
     clear hq9
     have HAr := Lib.hid HT.out.size
     replace HT := Lib.hid (below_up HT.out hb9)
     have Hr := Lib.hid hx9
     clear hb9 hx9
     refine hK _ _ ⟨⟨⟨wz9, HT.out⟩, rfl⟩, ?_⟩
     clear hK K
     refine tree_a rfl (fun K hK => ?_)
     go_simp
     refine (HF4.out aq ap cq cp _ (HRG.out.up (below_up HK.out HT.out))).mono ?_
     rintro e wz10 ⟨a5, c5, rfl, hr5, hb9⟩
     replace Hr := Lib.hid (Hr.out.up hb9)
     replace HT := Lib.hid (below_up HT.out hb9)
     have HR5 := Lib.hid hr5
     clear hr5 hb9
     refine hK _ _ ⟨⟨⟨wz10, HT.out⟩, rfl⟩, ?_⟩
     clear hK K
     repeat (refine tree_q rfl rfl ?_; go_big_quiet_step (fail); refine wpQuiet_nil ?_)
     refine tree_a rfl (fun K hK => ?_)
     have fz_0 := Hr.out.frozen 0
     have cz_0 := Hr.out.cell (i := 0) rfl
     go_simp
     replace HR5 := Lib.hid (RowO.other HR5.out (RowO.neB HR5.out Hr.out (by decide)) 0 (.string t5))
     have hx9 := (Hr.out.set 0 (.string t5))
     have hb9 : Below w9.heap.size w9 (wz10.setCell ⟨wz3.heap.size, 0, none⟩ (.string t5)) := (HT.out.setCell (show w9.heap.size ≤ wz3.heap.size from HAr.out) _)
     clear Hr HT fz_0 cz_0
     obtain ⟨wz11, hq9⟩ : ∃ W9 : World, (wz10.setCell ⟨wz3.heap.size, 0, none⟩ (.string t5)) = W9 := ⟨_, rfl⟩
     rw [hq9] at hx9 hb9 HR5
     try rw [hq9]
     clear hq9
     have HT := Lib.hid hb9
     have Hr := Lib.hid hx9
     clear hb9 hx9
     refine hK _ _ ⟨⟨⟨wz11, HT.out⟩, rfl⟩, ?_⟩
     clear hK K
     repeat (refine tree_q rfl rfl ?_; go_big_quiet_step (fail); refine wpQuiet_nil ?_)
     refine tree_end ?_
     go_wp2_with fail
     go_meet
     case rel => exact ⟨_, _, _, rfl, rfl, HR5, HT⟩
   case ta2 =>
    intro K hK
    go_simp
    have hb9 : Below wd.heap.size wd (wd.alloc (Obj.cells #[.string ⟨#[]⟩] 89)) := (Below.refl _ _).alloc (Nat.le_refl _) _
    have hx9 : Bx (wd.alloc (Obj.cells #[.string ⟨#[]⟩] 89)) wd.heap.size 89 [.string ⟨#[]⟩] := Bx.new _ _ _ _ rfl
    obtain ⟨wz12, hq9⟩ : ∃ W9 : World, (wd.alloc (Obj.cells #[.string ⟨#[]⟩] 89)) = W9 := ⟨_, rfl⟩
    rw [hq9] at hb9 hx9
    try rw [hq9]
    clear hq9
    have HAr := Lib.hid HT.out.size
    replace HT := Lib.hid (below_up HT.out hb9)
    have Hr := Lib.hid hx9
    clear hb9 hx9
    refine hK _ _ ⟨⟨⟨wz12, HT.out⟩, rfl⟩, ?_⟩
    clear hK K
    refine tree_a rfl (fun K hK => ?_)
    go_simp
    refine (HF3.out _).mono ?_
    rintro e wz13 ⟨rfl, hb9⟩
    replace Hr := Lib.hid (Hr.out.up hb9)
    replace HT := Lib.hid (below_up HT.out hb9)
    clear hb9
    refine hK _ _ ⟨⟨⟨wz13, HT.out⟩, rfl⟩, ?_⟩
    clear hK K
    refine tree_a rfl (fun K hK => ?_)
    go_simp
    refine (HF4.out aq ap cq cp _ (HRG.out.up (below_up HK.out HT.out))).mono ?_
    rintro e wz14 ⟨a5, c5, rfl, hr5, hb9⟩
    replace Hr := Lib.hid (Hr.out.up hb9)
    replace HT := Lib.hid (below_up HT.out hb9)
    have HR5 := Lib.hid hr5
    clear hr5 hb9
    refine hK _ _ ⟨⟨⟨wz14, HT.out⟩, rfl⟩, ?_⟩
    clear hK K
    repeat (refine tree_q rfl rfl ?_; go_big_quiet_step (fail); refine wpQuiet_nil ?_)
    refine tree_a rfl (fun K hK => ?_)
    have fz_0 := Hr.out.frozen 0
    have cz_0 := Hr.out.cell (i := 0) rfl
    go_simp
    replace HR5 := Lib.hid (RowO.other HR5.out (RowO.neB HR5.out Hr.out (by decide)) 0 (.string t5))
    have hx9 := (Hr.out.set 0 (.string t5))
    have hb9 : Below w9.heap.size w9 (wz14.setCell ⟨wd.heap.size, 0, none⟩ (.string t5)) := (HT.out.setCell (show w9.heap.size ≤ wd.heap.size from HAr.out) _)
    clear Hr HT fz_0 cz_0
    obtain ⟨wz15, hq9⟩ : ∃ W9 : World, (wz14.setCell ⟨wd.heap.size, 0, none⟩ (.string t5)) = W9 := ⟨_, rfl⟩
    rw [hq9] at hx9 hb9 HR5
    try rw [hq9]
    clear hq9
    have HT := Lib.hid hb9
    have Hr := Lib.hid hx9
    clear hb9 hx9
    refine hK _ _ ⟨⟨⟨wz15, HT.out⟩, rfl⟩, ?_⟩
    clear hK K
    repeat (refine tree_q rfl rfl ?_; go_big_quiet_step (fail); refine wpQuiet_nil ?_)
    refine tree_end ?_
    go_wp2_with fail
    go_meet
    case rel => exact ⟨_, _, _, rfl, rfl, HR5, HT⟩
  case rest =>
   obtain ⟨b9, a5, c5, rfl, rfl, HR5, hb9⟩ := hcut
   replace hb9 := hb9.out
   clear out_
   replace Hout := Lib.hid (Hout.out.up hb9)
   clear bg_
   replace Hbg := Lib.hid (Hbg.out.up hb9)
   clear bt_
   replace Hbt := Lib.hid (Hbt.out.up hb9)
   replace HK := hbu HK hb9
   replace HB := hbu HB hb9
   replace HZS := sz HZS hb9.size
   clear hb9
   have out_ := Hout.out.c2
   have bg_ := Hbg.out.c3
   have bt_ := Hbt.out.c1
   have BN := Lib.hid (Below.refl wc.heap.size wc)
   have HS5 := Lib.hid (RowO.sl HR5.out)
   go_wp2_with fail
   go_cut [19, 18] from 63 to 73 (fun v9 u9 wq9 => ∃ (b9 : Nat) (a9 : Option Addr) (c9 : Nat), v9 = .pointer (some ⟨b9, 0, none⟩) ∧ u9 = .slice a9 (dl M) c9 ∧ Hid (NumAt wq9 a9 M) ∧ Hid (Below wc.heap.size wc wq9))
   case first =>
    have HT := Lib.hid (show Below wc.heap.size wc wc.drew from (Below.refl _ _).drew)
    have hl_out := Hout.out.lt
    have hl_bg := Hbg.out.lt
    have hl_bt := Hbt.out.lt
    refine wp_region_tree (fun wq9 => ∃ E : Over wc, wq9 = E.w) ((.qs [0, 1, 2, 3, 4] (.two 5 (.two 6 (.two 7 (.qs [8, 9, 10] (.a 11 (.qs [12] (.a 13 .done)))) 11 (.a 7 (.qs [8, 9, 10, 12] (.a 13 .done)))) 11 (.a 6 (.a 7 (.qs [8, 9, 10, 12] (.a 13 .done))))) 11 (.a 5 (.a 6 (.a 7 (.qs [8, 9, 10, 12] (.a 13 .done)))))))) (by kernel_rfl) (by kernel_rfl) (fun _ _ d _ _ h => by cases d <;> exact h) ⟨⟨_, HT.out⟩, rfl⟩ ?_
    have hov_out := fun (E : Over wc) o => E.cell (b := w.heap.size) o hl_out
    have hov_bg := fun (E : Over wc) o => E.cell (b := w2.heap.size) o hl_bg
    have hov_bt := fun (E : Over wc) o => E.cell (b := w8.heap.size) o hl_bt
    obtain ⟨wd, hwd⟩ : ∃ W9 : World, wc.drew = W9 := ⟨_, rfl⟩
    rw [hwd] at HT ⊢
    clear hwd
    simp only [Tree.qs]
    repeat (refine tree_q rfl rfl ?_; go_big_quiet_step (fail); refine wpQuiet_nil ?_)
    refine tree_two rfl rfl ?ta1 ?ta2
    case ta1 =>
     intro K hK
     go_simp
     refine (HF5.out aq ap cq cp a5 c5 _ (HRG.out.up (below_up HK.out HT.out)) (HC.out.up (below_up HB.out HT.out)) (HS5.out.up (below_up BN.out HT.out))).mono ?_
     rintro e wz3 ⟨hb9, a9, c9, ro, rfl, hm9, hr9, _⟩
     replace HT := Lib.hid (below_up HT.out hb9)
     have HMR := Lib.hid hm9
     clear hm9
     have HRR := Lib.hid hr9
     clear hr9 hb9
     refine hK _ _ ⟨⟨⟨wz3, HT.out⟩, rfl⟩, ?_⟩
     clear hK K
     refine tree_two rfl rfl ?ta4 ?ta5
     case ta4 =>
      intro K hK
      go_simp
      refine (HF6.out ro HMR.out a9 c9 _ HRR.out).mono ?_
      rintro e wz6 ⟨rfl, hb9⟩
      replace HRR := Lib.hid (HRR.out.up hb9)
      replace HT := Lib.hid (below_up HT.out hb9)
      clear hb9
      refine hK _ _ ⟨⟨⟨wz6, HT.out⟩, rfl⟩, ?_⟩
      clear hK K
      refine tree_two rfl rfl ?ta7 ?ta8
      case ta7 =>
       intro K hK
       go_simp
       refine (HF7.out _ aq cq _ (HRG.out.up (below_up HK.out HT.out)).q).mono ?_
       rintro e wz9 ⟨a7, c7, rfl, hn7, hb9⟩
       replace HRR := Lib.hid (HRR.out.up hb9)
       replace HT := Lib.hid (below_up HT.out hb9)
       have HN7 := Lib.hid hn7
       clear hn7 hb9
       refine hK _ _ ⟨⟨⟨wz9, HT.out⟩, rfl⟩, ?_⟩
       clear hK K
       repeat (refine tree_q rfl rfl ?_; go_big_quiet_step (fail); refine wpQuiet_nil ?_)
       refine tree_a rfl (fun K hK => ?_)
       go_simp
       have hb9 : Below wz9.heap.size wz9 (wz9.alloc (Obj.cells #[.string ⟨#[]⟩] 89)) := (Below.refl _ _).alloc (Nat.le_refl _) _
       have hx9 : Bx (wz9.alloc (Obj.cells #[.string ⟨#[]⟩] 89)) wz9.heap.size 89 [.string ⟨#[]⟩] := Bx.new _ _ _ _ rfl
       obtain ⟨wz10, hq9⟩ : ∃ W9 : World, (wz9.alloc (Obj.cells #[.string ⟨#[]⟩] 89)) = W9 := ⟨_, rfl⟩
       rw [hq9] at hb9 hx9
       try rw [hq9]
       clear hq9
       replace HRR := Lib.hid (HRR.out.up hb9)
       replace HN7 := Lib.hid (HN7.out.up hb9)
       have HAr := Lib.hid HT.out.size
       replace HT := Lib.hid (below_up HT.out hb9)
       have Hr := Lib.hid hx9
       clear hb9 hx9
       refine hK _ _ ⟨⟨⟨wz10, HT.out⟩, rfl⟩, ?_⟩
       clear hK K
       repeat (refine tree_q rfl rfl ?_; go_big_quiet_step (fail); refine wpQuiet_nil ?_)
       refine tree_a rfl (fun K hK => ?_)
       have fz_0 := Hr.out.frozen 0
       have cz_0 := Hr.out.cell (i := 0) rfl
       go_simp
       replace HN7 := Lib.hid (numSet HN7.out Hr.out 0 (.string t4))
       have hx9 := (Hr.out.set 0 (.string t4))
       have hb9 : Below wc.heap.size wc (wz10.setCell ⟨wz9.heap.size, 0, none⟩ (.string t4)) := (HT.out.setCell (show wc.heap.size ≤ wz9.heap.size from HAr.out) _)
       clear HRR Hr HT fz_0 cz_0
       obtain ⟨wz11, hq9⟩ : ∃ W9 : World, (wz10.setCell ⟨wz9.heap.size, 0, none⟩ (.string t4)) = W9 := ⟨_, rfl⟩
       rw [hq9] at hx9 hb9 HN7
       try rw [hq9]
       clear hq9
       have HT := Lib.hid hb9
       have Hr := Lib.hid hx9
       clear hb9 hx9
       refine hK _ _ ⟨⟨⟨wz11, HT.out⟩, rfl⟩, ?_⟩
       clear hK K
       repeat (refine tree_q rfl rfl ?_; go_big_quiet_step (fail); refine wpQuiet_nil ?_)
       refine tree_end ?_
       go_wp2_with fail
       go_meet
       case rel => exact ⟨_, _, _, rfl, rfl, HN7, HT⟩
      case ta8 =>
       intro K hK
       go_simp
       have hb9 : Below wz6.heap.size wz6 (wz6.alloc (Obj.cells #[.string ⟨#[]⟩] 89)) := (Below.refl _ _).alloc (Nat.le_refl _) _
       have hx9 : Bx (wz6.alloc (Obj.cells #[.string ⟨#[]⟩] 89)) wz6.heap.size 89 [.string ⟨#[]⟩] := Bx.new _ _ _ _ rfl
       obtain ⟨wz12, hq9⟩ : ∃ W9 : World, (wz6.alloc (Obj.cells #[.string ⟨#[]⟩] 89)) = W9 := ⟨_, rfl⟩
       rw [hq9] at hb9 hx9
       try rw [hq9]
       clear hq9
       replace HRR := Lib.hid (HRR.out.up hb9)
       have HAr := Lib.hid HT.out.size
       replace HT := Lib.hid (below_up HT.out hb9)
       have Hr := Lib.hid hx9
       clear hb9 hx9
       refine hK _ _ ⟨⟨⟨wz12, HT.out⟩, rfl⟩, ?_⟩
       clear hK K
       refine tree_a rfl (fun K hK => ?_)
       go_simp
       refine (HF7.out _ aq cq _ (HRG.out.up (below_up HK.out HT.out)).q).mono ?_
       rintro e wz13 ⟨a7, c7, rfl, hn7, hb9⟩
       replace HRR := Lib.hid (HRR.out.up hb9)
       replace Hr := Lib.hid (Hr.out.up hb9)
       replace HT := Lib.hid (below_up HT.out hb9)
       have HN7 := Lib.hid hn7
       clear hn7 hb9
       refine hK _ _ ⟨⟨⟨wz13, HT.out⟩, rfl⟩, ?_⟩
       clear hK K
       repeat (refine tree_q rfl rfl ?_; go_big_quiet_step (fail); refine wpQuiet_nil ?_)
       refine tree_a rfl (fun K hK => ?_)
       have fz_0 := Hr.out.frozen 0
       have cz_0 := Hr.out.cell (i := 0) rfl
       go_simp
       replace HN7 := Lib.hid (numSet HN7.out Hr.out 0 (.string t4))
       have hx9 := (Hr.out.set 0 (.string t4))
       have hb9 : Below wc.heap.size wc (wz13.setCell ⟨wz6.heap.size, 0, none⟩ (.string t4)) := (HT.out.setCell (show wc.heap.size ≤ wz6.heap.size from HAr.out) _)
       clear HRR Hr HT fz_0 cz_0
       obtain ⟨wz14, hq9⟩ : ∃ W9 : World, (wz13.setCell ⟨wz6.heap.size, 0, none⟩ (.string t4)) = W9 := ⟨_, rfl⟩
       rw [hq9] at hx9 hb9 HN7
       try rw [hq9]
       clear hq9
       have HT := Lib.hid hb9
       have Hr := Lib.hid hx9
       clear hb9 hx9
       refine hK _ _ ⟨⟨⟨wz14, HT.out⟩, rfl⟩, ?_⟩
       clear hK K
       repeat (refine tree_q rfl rfl ?_; go_big_quiet_step (fail); refine wpQuiet_nil ?_)
       refine tree_end ?_
       go_wp2_with fail
       go_meet
       case rel => exact ⟨_, _, _, rfl, rfl, HN7, HT⟩
     case ta5 =>
      intro K hK
      go_simp
      have hb9 : Below wz3.heap.size wz3 (wz3.alloc (Obj.cells #[.string ⟨#[]⟩] 89)) := (Below.refl _ _).alloc (Nat.le_refl _) _
      have hx9 : Bx (wz3.alloc (Obj.cells #[.string ⟨#[]⟩] 89)) wz3.heap.size 89 [.string ⟨#[]⟩] := Bx.new _ _ _ _ rfl
      obtain ⟨wz15, hq9⟩ : ∃ W9 : World, (wz3.alloc (Obj.cells #[.string ⟨#[]⟩] 89)) = W9 := ⟨_, rfl⟩
      rw [hq9] at hb9 hx9
      try rw [hq9]
      clear hq9
      replace HRR := Lib.hid (HRR.out.up hb9)
      have HAr := Lib.hid HT.out.size
      replace HT := Lib.hid (below_up HT.out hb9)
      have Hr := Lib.hid hx9
      clear hb9 hx9
      refine hK _ _ ⟨⟨⟨wz15, HT.out⟩, rfl⟩, ?_⟩
      clear hK K
      refine tree_a rfl (fun K hK => ?_)
      go_simp
      refine (HF6.out ro HMR.out a9 c9 _ HRR.out).mono ?_
      rintro e wz16 ⟨rfl, hb9⟩
      replace HRR := Lib.hid (HRR.out.up hb9)
      replace Hr := Lib.hid (Hr.out.up hb9)
      replace HT := Lib.hid (below_up HT.out hb9)
      clear hb9
      refine hK _ _ ⟨⟨⟨wz16, HT.out⟩, rfl⟩, ?_⟩
      clear hK K
      refine tree_a rfl (fun K hK => ?_)
      go_simp
      refine (HF7.out _ aq cq _ (HRG.out.up (below_up HK.out HT.out)).q).mono ?_
      rintro e wz17 ⟨a7, c7, rfl, hn7, hb9⟩
      replace HRR := Lib.hid (HRR.out.up hb9)
      replace Hr := Lib.hid (Hr.out.up hb9)
      replace HT := Lib.hid (below_up HT.out hb9)
      have HN7 := Lib.hid hn7
      clear hn7 hb9
      refine hK _ _ ⟨⟨⟨wz17, HT.out⟩, rfl⟩, ?_⟩
      clear hK K
      repeat (refine tree_q rfl rfl ?_; go_big_quiet_step (fail); refine wpQuiet_nil ?_)
      refine tree_a rfl (fun K hK => ?_)
      have fz_0 := Hr.out.frozen 0
      have cz_0 := Hr.out.cell (i := 0) rfl
      go_simp
      replace HN7 := Lib.hid (numSet HN7.out Hr.out 0 (.string t4))
      have hx9 := (Hr.out.set 0 (.string t4))
      have hb9 : Below wc.heap.size wc (wz17.setCell ⟨wz3.heap.size, 0, none⟩ (.string t4)) := (HT.out.setCell (show wc.heap.size ≤ wz3.heap.size from HAr.out) _)
      clear HRR Hr HT fz_0 cz_0
      obtain ⟨wz18, hq9⟩ : ∃ W9 : World, (wz17.setCell ⟨wz3.heap.size, 0, none⟩ (.string t4)) = W9 := ⟨_, rfl⟩
      rw [hq9] at hx9 hb9 HN7
      try rw [hq9]
      clear hq9
      have HT := Lib.hid hb9
      have Hr := Lib.hid hx9
      clear hb9 hx9
      refine hK _ _ ⟨⟨⟨wz18, HT.out⟩, rfl⟩, ?_⟩
      clear hK K
      repeat (refine tree_q rfl rfl ?_; go_big_quiet_step (fail); refine wpQuiet_nil ?_)
      refine tree_end ?_
      go_wp2_with fail
      go_meet
      case rel => exact ⟨_, _, _, rfl, rfl, HN7, HT⟩
    case ta2 =>
     intro K hK
     go_simp
     have hb9 : Below wd.heap.size wd (wd.alloc (Obj.cells #[.string ⟨#[]⟩] 89)) := (Below.refl _ _).alloc (Nat.le_refl _) _
     have hx9 : Bx (wd.alloc (Obj.cells #[.string ⟨#[]⟩] 89)) wd.heap.size 89 [.string ⟨#[]⟩] := Bx.new _ _ _ _ rfl
     obtain ⟨wz19, hq9⟩ : ∃ W9 : World, (wd.alloc (Obj.cells #[.string ⟨#[]⟩] 89)) = W9 := ⟨_, rfl⟩
     rw [hq9] at hb9 hx9
     try rw [hq9]
     clear hq9
     have HAr := Lib.hid HT.out.size
     replace HT := Lib.hid (below_up HT.out hb9)
     have Hr := Lib.hid hx9
     clear hb9 hx9
     refine hK _ _ ⟨⟨⟨wz19, HT.out⟩, rfl⟩, ?_⟩
     clear hK K
     refine tree_a rfl (fun K hK => ?_)
     go_simp
     refine (HF5.out aq ap cq cp a5 c5 _ (HRG.out.up (below_up HK.out HT.out)) (HC.out.up (below_up HB.out HT.out)) (HS5.out.up (below_up BN.out HT.out))).mono ?_
     rintro e wz20 ⟨hb9, a9, c9, ro, rfl, hm9, hr9, _⟩
     replace Hr := Lib.hid (Hr.out.up hb9)
     replace HT := Lib.hid (below_up HT.out hb9)
     have HMR := Lib.hid hm9
     clear hm9
     have HRR := Lib.hid hr9
     clear hr9 hb9
     refine hK _ _ ⟨⟨⟨wz20, HT.out⟩, rfl⟩, ?_⟩
     clear hK K
     refine tree_a rfl (fun K hK => ?_)
     go_simp
     refine (HF6.out ro HMR.out a9 c9 _ HRR.out).mono ?_
     rintro e wz21 ⟨rfl, hb9⟩
     replace Hr := Lib.hid (Hr.out.up hb9)
     replace HRR := Lib.hid (HRR.out.up hb9)
     replace HT := Lib.hid (below_up HT.out hb9)
     clear hb9
     refine hK _ _ ⟨⟨⟨wz21, HT.out⟩, rfl⟩, ?_⟩
     clear hK K
     refine tree_a rfl (fun K hK => ?_)
     go_simp
     refine (HF7.out _ aq cq _ (HRG.out.up (below_up HK.out HT.out)).q).mono ?_
     rintro e wz22 ⟨a7, c7, rfl, hn7, hb9⟩
     replace Hr := Lib.hid (Hr.out.up hb9)
     replace HRR := Lib.hid (HRR.out.up hb9)
     replace HT := Lib.hid (below_up HT.out hb9)
     have HN7 := Lib.hid hn7
     clear hn7 hb9
     refine hK _ _ ⟨⟨⟨wz22, HT.out⟩, rfl⟩, ?_⟩
     clear hK K
     repeat (refine tree_q rfl rfl ?_; go_big_quiet_step (fail); refine wpQuiet_nil ?_)
     refine tree_a rfl (fun K hK => ?_)
     have fz_0 := Hr.out.frozen 0
     have cz_0 := Hr.out.cell (i := 0) rfl
     go_simp
     replace HN7 := Lib.hid (numSet HN7.out Hr.out 0 (.string t4))
     have hx9 := (Hr.out.set 0 (.string t4))
     have hb9 : Below wc.heap.size wc (wz22.setCell ⟨wd.heap.size, 0, none⟩ (.string t4)) := (HT.out.setCell (show wc.heap.size ≤ wd.heap.size from HAr.out) _)
     clear Hr HRR HT fz_0 cz_0
     obtain ⟨wz23, hq9⟩ : ∃ W9 : World, (wz22.setCell ⟨wd.heap.size, 0, none⟩ (.string t4)) = W9 := ⟨_, rfl⟩
     rw [hq9] at hx9 hb9 HN7
     try rw [hq9]
     clear hq9
     have HT := Lib.hid hb9
     have Hr := Lib.hid hx9
     clear hb9 hx9
     refine hK _ _ ⟨⟨⟨wz23, HT.out⟩, rfl⟩, ?_⟩
     clear hK K
     repeat (refine tree_q rfl rfl ?_; go_big_quiet_step (fail); refine wpQuiet_nil ?_)
     refine tree_end ?_
     go_wp2_with fail
     go_meet
     case rel => exact ⟨_, _, _, rfl, rfl, HN7, HT⟩
   case rest =>
    obtain ⟨b7, a7, c7, rfl, rfl, HN7, hb9⟩ := hcut
    replace hb9 := hb9.out
    clear out_
    replace Hout := Lib.hid (Hout.out.up hb9)
    clear bg_
    replace Hbg := Lib.hid (Hbg.out.up hb9)
    clear bt_
    replace Hbt := Lib.hid (Hbt.out.up hb9)
    replace HR5 := Lib.hid (HR5.out.up hb9)
    replace HK := hbu HK hb9
    replace BN := hbu BN hb9
    replace HB := hbu HB hb9
    replace HZS := sz HZS hb9.size
    clear hb9
    have out_ := Hout.out.c2
    have bg_ := Hbg.out.c3
    have bt_ := Hbt.out.c1
    go_wp2_with fail
    have HRGW := Lib.hid (HRG.out.up HK.out)
    have HSW := Lib.hid (RowO.sl HR5.out)
    have HXW := Lib.hid (HS.out.up HB.out)
    clear HK BN HR5
    have HT := Lib.hid (show Below wc.heap.size wc wc.drew from (Below.refl _ _).drew)
    have hl_bg := Hbg.out.lt
    have hl_bt := Hbt.out.lt
    refine wp_region_tree (fun wq9 => ∃ E : But wc (some (w.heap.size)), wq9 = E.w) ((.qs [0, 1, 2, 4, 5, 6, 7] (.a 3 (.a 8 (.qs [9] (.a 10 (.qs [11] .done))))))) (by kernel_rfl) (by kernel_rfl) (fun _ _ d _ _ h => by cases d <;> exact h) ⟨⟨_, ((below_grown HT.out).but _)⟩, rfl⟩ ?_
    have hov_bg := fun (E : But wc (some (w.heap.size))) o => E.cell (b := w2.heap.size) o hl_bg (by intro e9; have a0 := Option.some.inj e9; have g0 := HZS.out; omega)
    have hov_bt := fun (E : But wc (some (w.heap.size))) o => E.cell (b := w8.heap.size) o hl_bt (by intro e9; have a0 := Option.some.inj e9; have g0 := HZS.out; omega)
    simp only [Tree.qs]
    repeat (refine tree_q rfl rfl ?_; go_big_quiet_step (fail); refine wpQuiet_nil ?_)
    refine tree_a rfl (fun K hK => ?_)
    go_simp
    refine (rText OK.out (q_16 OK.out HML.out) _ (HN7.out.up HT.out)).mono ?_
    rintro e w10 ⟨rfl, hb9⟩
    replace HT := Lib.hid (below_up HT.out hb9)
    replace HZS := sz HZS (show wc.heap.size ≤ w10.heap.size from HT.out.size)
    clear hb9
    refine hK _ _ ⟨⟨⟨w10, ((below_grown HT.out).but _)⟩, rfl⟩, ?_⟩
    clear hK K
    repeat (refine tree_q rfl rfl ?_; go_big_quiet_step (fail); refine wpQuiet_nil ?_)
    refine tree_a rfl (fun K hK => ?_)
    go_simp
    refine (rAnswers_any OK.out PN M HM.out.symm NL xs n HNL.out HXL.out hl64 HNZ.out HSH.out.xs a7 a5 ax c7 c5 cx _ (HRGW.out.up HT.out) (HN7.out.up HT.out) (HSW.out.up HT.out) (HXW.out.up HT.out)).mono ?_
    rintro e w11 ⟨a6, c6, rfl, hs6, hc6, hn6, hf6, hb9⟩
    replace HT := Lib.hid (below_up HT.out hb9)
    replace HZS := sz HZS (show wc.heap.size ≤ w11.heap.size from HT.out.size)
    clear hb9
    have HS6 := Lib.hid hs6
    clear hs6
    have HC6 := Lib.hid hc6
    clear hc6
    have HN6 := Lib.hid hn6
    clear hn6
    have HF9 := Lib.hid hf6
    clear hf6
    refine hK _ _ ⟨⟨⟨w11, ((below_grown HT.out).but _)⟩, rfl⟩, ?_⟩
    clear hK K
    repeat (refine tree_q rfl rfl ?_; go_big_quiet_step (fail); refine wpQuiet_nil ?_)
    have HNO := Lib.hid (show ∀ x, a6 = some x → x.block ≠ w.heap.size from fun x hx e => by have h1 := HF9.out x hx; have h2 := HZS.out; omega)
    clear hov_bg hl_bg hov_bt hl_bt
    refine tree_a rfl (fun K hK => ?_)
    clear out_
    replace Hout := Lib.hid (Hout.out.up HT.out)
    clear bg_
    replace Hbg := Lib.hid (Hbg.out.up HT.out)
    clear bt_
    replace Hbt := Lib.hid (Hbt.out.up HT.out)
    replace HN7 := Lib.hid (HN7.out.up HT.out)
    replace HB := hbu HB HT.out
    replace HZS := sz HZS HT.out.size
    have out_ := Hout.out.c2
    have bg_ := Hbg.out.c3
    have bt_ := Hbt.out.c1
    replace HS6 := Lib.hid (Sl.setO HS6.out HNO.out 0 (.string (textS M (grp k).size)))
    replace HS6 := Lib.hid (Sl.setO HS6.out HNO.out 1 (.slice a6 n c6))
    have f12_out := Hout.out.frozen
    have o12_out_ := out_; clear out_
    have o12_bg_ := bg_; clear bg_
    have o12_bt_ := bt_; clear bt_
    obtain ⟨w12, hq12, hg9, hz9, hx9⟩ := put2 Hout 0 (.string (textS M (grp k).size)) 1 (.slice a6 n c6) [.string (textS M (grp k).size), .slice a6 n c6] rfl
    replace Hbg := Lib.hid (Hbg.out.grown hg9.out (sne (by have g0 := HZS.out; omega)))
    replace Hbt := Lib.hid (Hbt.out.grown hg9.out (sne (by have g0 := HZS.out; omega)))
    clear HN7
    replace HB := hbg HB hg9 (by have g0 := HZS.out; omega)
    replace HZS := sz HZS hz9.out
    replace Hout := hx9
    have HGR := Lib.hid (((below_grown HT.out).but _).trans hg9.out)
    clear hx9 hg9 hz9
    have out_ := Hout.out.c2
    have bg_ := Hbg.out.c3
    have bt_ := Hbt.out.c1
    rw [hq12] at HS6
    clear HT
    go_simp
    try rw [hq12]
    refine hK _ _ ⟨⟨⟨w12, HGR.out⟩, rfl⟩, ?_⟩
    clear hK K HGR hq12 o12_bt_ o12_bg_ o12_out_ f12_out
    repeat (refine tree_q rfl rfl ?_; go_big_quiet_step (fail); refine wpQuiet_nil ?_)
    refine tree_end ?_
    go_wp2_with fail
    have HPL := Lib.hid (show PA.length = n by rw [HRA.out]; exact ansL_len _ _ HNL.out HXL.out)
    have HFP := Lib.hid (show ∀ x, a6 = some x → w.heap.size ≤ x.block from fun x hx => by have h1 := HF9.out x hx; have h2 := HZS.out; omega)
    have HRP := Lib.hid (show ∀ W, Below w.heap.size w W → Sl W W.heap.size a6 ((ansL (grp k) PN NL xs).map Value.string) → ProveR 0 PC PA w (.returned (.tuple #[.agg #[.string (textS M (grp k).size), .slice a6 n c6], .int .i64 0])) W from fun W h1 h2 => ⟨h1, a6, c6, by rw [HRC.out, HPL.out], by rw [HRA.out]; exact h2, fun e => HC6.out e, by rw [HPL.out]; exact HN6.out, HFP.out⟩)
    simp [bodyPost, results, Tryz.results15, go_sem, out_]
    exact HRP.out _ HB.out HS6.out
end Go.Proofs.YtdlnnkbigeiilaaGreat
namespace Go.Proofs.YtdlnnkbigeiilaaGreat
open Go.RowKit
theorem rProve_any (k : Int) (label : ByteArray) (hlb : label.size < 140737488355328) (l : List ClaimA) (al : Option Addr) (cl : Nat) (xs : List ByteArray) (ax : Option Addr) (cx : Nat) (hn : xs.length ≤ 8796093022207) (seed : ByteArray) (hsd : seed.size < 140737488355328) (w : World) (hC : ClaimsAt w al l) (hS : Sl w w.heap.size ax (xs.map Value.string)) :
  Calls Tryz.prog 15 #[.int .i64 k, .string label, .slice al l.length cl, .slice ax xs.length cx, .string seed] w (ProveR (prvE k l xs : Int) (if prvE k l xs = 0 then prvC k label l seed else ⟨#[]⟩) (if prvE k l xs = 0 then prvA k label l xs seed else []) w) := by
 by_cases hk : 1 ≤ k ∧ k ≤ 3
 ·obtain ⟨j, rfl⟩ : ∃ j : Nat, k = (j : Int) := ⟨k.toNat, by omega⟩
  exact rProve_some j (by omega) (by omega) label hlb l l.length rfl xs hn seed hsd al ax cl cx w hC hS
 ·have h1 : prvE k l xs = 1 := by unfold prvE openK; rw [if_neg hk]; rfl
  rw [h1]
  exact rProve_none k hk _ _ _ _ w
end Go.Proofs.YtdlnnkbigeiilaaGreat
namespace Go.Proofs.YtdlnnkbigeiilaaGreat
open Go.RowKit
section
variable {G : GP} {aq ap : Option Addr} {cq cp : Nat}
theorem rRaise (ok : G.Ok) {n : Nat} {an : Option Addr} {cn : Nat} (hn : dl n ≤ 65536) (w : World) (hG : RG w G aq ap) (hN : NumAt w an n) :
  Calls Tryz.prog 80 #[.agg #[.int .i64 (G.size : Int), .slice aq (dl G.q.m) cq, .slice ap (dl G.p.m) cp], .slice an (dl n) cn] w fun e w' => NumR w e w' (lowN G (2 ^ n)) := by
 have OK := Lib.hid ok
 have HG := Lib.hid hG
 have HN := Lib.hid hN
 clear ok hG hN
 go_enter Tryz.func80, Tryz.ntmps80
 go_wp2_with fail
 obtain ⟨w1, hq1, hb9, hz9, Hbg⟩ := new1 w 86 [.int .i64 (G.size : Int), .slice aq (dl G.q.m) cq, .slice ap (dl G.p.m) cp]
 rw [hq1]
 clear hq1
 have HB := Lib.hid hb9
 have HZS := hz9
 clear hb9 hz9
 have bg_ := Hbg.out.c3
 go_wp2_with fail
 have HT := Lib.hid (show Below w1.heap.size w1 w1.drew from (Below.refl _ _).drew)
 have hl_bg := Hbg.out.lt
 refine wp_region_tree (fun wq9 => ∃ E : Over w1, wq9 = E.w) ((.qs [0, 2] (.a 1 (.a 3 (.qs [4] .done))))) (by kernel_rfl) (by kernel_rfl) (fun _ _ d _ _ h => by cases d <;> exact h) ⟨⟨_, HT.out⟩, rfl⟩ ?_
 have hov_bg := fun (E : Over w1) o => E.cell (b := w.heap.size) o hl_bg
 simp only [Tree.qs]
 repeat (refine tree_q rfl rfl ?_; go_big_quiet_step (fail); refine wpQuiet_nil ?_)
 refine tree_a rfl (fun K hK => ?_)
 go_simp
 refine (refOf_any 2 (by omega) _).mono ?_
 rintro e w2 ⟨a4, c4, rfl, hn9, hb9⟩
 replace HT := Lib.hid (below_up HT.out hb9)
 replace HZS := sz HZS (show w1.heap.size ≤ w2.heap.size from HT.out.size)
 clear hb9
 have HN4 := Lib.hid hn9
 clear hn9
 refine hK _ _ ⟨⟨⟨w2, HT.out⟩, rfl⟩, ?_⟩
 clear hK K
 repeat (refine tree_q rfl rfl ?_; go_big_quiet_step (fail); refine wpQuiet_nil ?_)
 refine tree_a rfl (fun K hK => ?_)
 go_simp
 refine (rPow OK.out (by decide) hn _ (HG.out.up (below_up HB.out HT.out)) HN4.out (HN.out.up (below_up HB.out HT.out))).mono ?_
 rintro e w3 ⟨a5, c5, rfl, hn9, hb9⟩
 replace HN4 := Lib.hid (HN4.out.up hb9)
 replace HT := Lib.hid (below_up HT.out hb9)
 replace HZS := sz HZS (show w1.heap.size ≤ w3.heap.size from HT.out.size)
 clear hb9
 have HN5 := Lib.hid hn9
 clear hn9
 refine hK _ _ ⟨⟨⟨w3, HT.out⟩, rfl⟩, ?_⟩
 clear hK K
 repeat (refine tree_q rfl rfl ?_; go_big_quiet_step (fail); refine wpQuiet_nil ?_)
 refine tree_end ?_
 clear hov_bg hl_bg bg_
 replace Hbg := Lib.hid (Hbg.out.up HT.out)
 replace HB := hbu HB HT.out
 replace HZS := sz HZS HT.out.size
 clear HT
 have bg_ := Hbg.out.c3
 go_wp2_with fail
 go_ret
 exact ⟨a5, c5, rfl, HN5.out, HB.out⟩
end
end Go.Proofs.YtdlnnkbigeiilaaGreat
namespace Go.Proofs.YtdlnnkbigeiilaaGreat
open Go.ChangeShapes Go.WideShapes Go.ChangeAt Go.RowKit
theorem refText_nil (size : Nat) (hs : size ≤ 1024) (w : World) : Calls Tryz.prog 49 #[.slice none 0 0, .int .i64 (size : Int)] w fun e w' => e = .returned (.string (textS 0 size)) ∧ Below w.heap.size w w' :=
 refText_any 0 size none 0 (by decide) hs w (NumAt.zero _ _)
theorem refText_nil0 (w : World) : Calls Tryz.prog 49 #[.slice none 0 0, .int .i64 0] w fun e w' => e = .returned (.string (textS 0 0)) ∧ Below w.heap.size w w' :=
 refText_nil 0 (by omega) w
theorem refText_two0 (a9 : Option Addr) (c9 : Nat) (w : World) (h : NumAt w a9 2) : Calls Tryz.prog 49 #[.slice a9 (dl 2) c9, .int .i64 0] w fun e w' => e = .returned (.string (textS 2 0)) ∧ Below w.heap.size w w' :=
 refText_any 2 0 a9 c9 (by decide) (by omega) w h
end Go.Proofs.YtdlnnkbigeiilaaGreat
namespace Go.Proofs.YtdlnnkbigeiilaaGreat
open Go.RowKit
theorem rPub_none (k : Int) (hk : ¬ (1 ≤ k ∧ k ≤ 3)) (x : ByteArray) (w : World) : Calls Tryz.prog 21 #[.int .i64 k, .string x] w (Gives (strE 1) w) := by
 unfold Gives strE
 go_enter Tryz.func21, Tryz.ntmps21
 go_wp2_with fail
 refine (refKind_none k hk w).mono ?_
 rintro e w1 ⟨rfl, hb9⟩
 have HB := Lib.hid hb9
 have HZS := Lib.hid hb9.size
 clear hb9
 obtain ⟨w2, hq2, hb9, hz9, Hbg⟩ := new1 w1 86 [.int .i64 0, .slice none 0 0, .slice none 0 0]
 replace HB := hbu HB hb9
 replace HZS := sz HZS hz9.out
 clear hb9 hz9
 have bg_ := Hbg.out.c3
 have f3_bg := Hbg.out.frozen
 have o3_bg_ := bg_; clear bg_
 obtain ⟨w3, hq3, hg9, hz9, hx9⟩ := put3 Hbg 0 (.int .i64 0) 1 (.slice none 0 0) 2 (.slice none 0 0) [.int .i64 0, .slice none 0 0, .slice none 0 0] rfl
 replace HB := hbg HB hg9 (by have g0 := HZS.out; omega)
 replace HZS := sz HZS hz9.out
 replace Hbg := hx9
 clear hx9 hg9 hz9
 have bg_ := Hbg.out.c3
 go_wp2_with fail
 clear hq3 o3_bg_ f3_bg hq2
 go_ret2
 exact ⟨rfl, HB.out⟩
theorem rPub_no (k : Nat) (h1 : 1 ≤ k) (h3 : k ≤ 3) (x : ByteArray) (hx : isSc (grp k).q.m (grp k).size x = false) (w : World) : Calls Tryz.prog 21 #[.int .i64 (k : Int), .string x] w (Gives (strE 6) w) := by
 have OK := Lib.hid (grp_ok k h1 h3)
 have hs0 : 0 < (grp k).size := by have h9 := of_decide_eq_true (size_gt0 k h1 h3); omega
 have HX := Lib.hid hx
 clear hx
 unfold Gives strE
 go_enter Tryz.func21, Tryz.ntmps21
 go_wp2_with fail
 refine (refKind_some k h1 h3 w).mono ?_
 rintro e w1 ⟨aq, cq, ap, cp, rfl, hq9, hp9, hb9⟩
 have HB := Lib.hid hb9
 have HZS := Lib.hid hb9.size
 have HRG := Lib.hid (RG.mk (G := grp k) hq9 hp9)
 clear hq9 hp9 hb9
 have HK := Lib.hid (Below.refl w1.heap.size w1)
 obtain ⟨w2, hq2, hb9, hz9, Hbg⟩ := new1 w1 86 [.int .i64 ((grp k).size : Int), .slice aq (dl (grp k).q.m) cq, .slice ap (dl (grp k).p.m) cp]
 replace HK := hbu HK hb9
 replace HB := hbu HB hb9
 replace HZS := sz HZS hz9.out
 clear hb9 hz9
 have bg_ := Hbg.out.c3
 go_wp2_with fail
 clear hq2
 refine (rIsSc_b OK.out x _ HX.out w2 (HRG.out.up HK.out)).mono ?_
 rintro e w3 ⟨rfl, hb9⟩
 clear bg_
 replace Hbg := Lib.hid (Hbg.out.up hb9)
 replace HK := hbu HK hb9
 replace HB := hbu HB hb9
 replace HZS := sz HZS hb9.size
 clear hb9
 have bg_ := Hbg.out.c3
 go_wp2_with fail
 go_ret2
 exact ⟨rfl, HB.out⟩
theorem rPub_yes (k : Nat) (h1 : 1 ≤ k) (h3 : k ≤ 3) (x : ByteArray) (hx : isSc (grp k).q.m (grp k).size x = true) (w : World) : Calls Tryz.prog 21 #[.int .i64 (k : Int), .string x] w (Gives (.tuple #[.string (pubS k x), .int .i64 0]) w) := by
 have OK := Lib.hid (grp_ok k h1 h3)
 have hs0 : 0 < (grp k).size := by have h9 := of_decide_eq_true (size_gt0 k h1 h3); omega
 have HX := Lib.hid hx
 have HXS := Lib.hid (show x.size ≤ 1048576 by
  have h9 := hx
  unfold isSc at h9
  simp only [Bool.and_eq_true, decide_eq_true_eq] at h9
  have h8 := (grp_ok k h1 h3).size_le
  omega)
 have HL := Lib.hid (show dl (numOf x) ≤ 65536 from Nat.le_trans (dl_of_lt (numOf x) 16 (q_16 OK.out (isSc_lt' hx).2)) (by decide))
 have HP := Lib.hid (show pubS k x = textS (lowN (grp k) (2 ^ numOf x)) (grp k).size by unfold pubS; rw [Int.toNat_natCast, (isSc_lt' hx).1])
 generalize pubS k x = PS at *
 clear hx
 unfold Gives
 go_enter Tryz.func21, Tryz.ntmps21
 go_wp2_with fail
 refine (refKind_some k h1 h3 w).mono ?_
 rintro e w1 ⟨aq, cq, ap, cp, rfl, hq9, hp9, hb9⟩
 have HB := Lib.hid hb9
 have HZS := Lib.hid hb9.size
 have HRG := Lib.hid (RG.mk (G := grp k) hq9 hp9)
 clear hq9 hp9 hb9
 have HK := Lib.hid (Below.refl w1.heap.size w1)
 obtain ⟨w2, hq2, hb9, hz9, Hbg⟩ := new1 w1 86 [.int .i64 ((grp k).size : Int), .slice aq (dl (grp k).q.m) cq, .slice ap (dl (grp k).p.m) cp]
 replace HK := hbu HK hb9
 replace HB := hbu HB hb9
 replace HZS := sz HZS hz9.out
 clear hb9 hz9
 have bg_ := Hbg.out.c3
 go_wp2_with fail
 clear hq2
 refine (rIsSc_b OK.out x _ HX.out w2 (HRG.out.up HK.out)).mono ?_
 rintro e w3 ⟨rfl, hb9⟩
 clear bg_
 replace Hbg := Lib.hid (Hbg.out.up hb9)
 replace HK := hbu HK hb9
 replace HB := hbu HB hb9
 replace HZS := sz HZS hb9.size
 clear hb9
 have bg_ := Hbg.out.c3
 go_wp2_with fail
 have HRW := Lib.hid (HRG.out.up HK.out)
 have HT := Lib.hid (show Below w3.heap.size w3 w3.drew from (Below.refl _ _).drew)
 have hl_bg := Hbg.out.lt
 refine wp_region_tree (fun wq9 => ∃ E : Over w3, wq9 = E.w) ((.qs [0, 1, 4, 5] (.a 2 (.a 3 (.a 6 (.qs [7, 8] .done)))))) (by kernel_rfl) (by kernel_rfl) (fun _ _ d _ _ h => by cases d <;> exact h) ⟨⟨_, HT.out⟩, rfl⟩ ?_
 have hov_bg := fun (E : Over w3) o => E.cell (b := w1.heap.size) o hl_bg
 simp only [Tree.qs]
 repeat (refine tree_q rfl rfl ?_; go_big_quiet_step (fail); refine wpQuiet_nil ?_)
 refine tree_a rfl (fun K hK => ?_)
 go_simp
 refine (refRead_any x HXS.out _).mono ?_
 rintro e w4 ⟨a5, c5, rfl, hn5, hb9⟩
 replace HT := Lib.hid (below_up HT.out hb9)
 replace HZS := sz HZS (show w3.heap.size ≤ w4.heap.size from HT.out.size)
 clear hb9
 have HN5 := Lib.hid hn5
 clear hn5
 refine hK _ _ ⟨⟨⟨w4, HT.out⟩, rfl⟩, ?_⟩
 clear hK K
 repeat (refine tree_q rfl rfl ?_; go_big_quiet_step (fail); refine wpQuiet_nil ?_)
 refine tree_a rfl (fun K hK => ?_)
 go_simp
 refine (rRaise OK.out HL.out _ (HRW.out.up HT.out) HN5.out).mono ?_
 rintro e w5 ⟨a6, c6, rfl, hn6, hb9⟩
 replace HN5 := Lib.hid (HN5.out.up hb9)
 replace HT := Lib.hid (below_up HT.out hb9)
 replace HZS := sz HZS (show w3.heap.size ≤ w5.heap.size from HT.out.size)
 clear hb9
 have HN6 := Lib.hid hn6
 clear hn6
 refine hK _ _ ⟨⟨⟨w5, HT.out⟩, rfl⟩, ?_⟩
 clear hK K
 repeat (refine tree_q rfl rfl ?_; go_big_quiet_step (fail); refine wpQuiet_nil ?_)
 refine tree_a rfl (fun K hK => ?_)
 go_simp
 refine (rText2 OK.out _ HN6.out).mono ?_
 rintro e w6 ⟨rfl, hb9⟩
 replace HN5 := Lib.hid (HN5.out.up hb9)
 replace HN6 := Lib.hid (HN6.out.up hb9)
 replace HT := Lib.hid (below_up HT.out hb9)
 replace HZS := sz HZS (show w3.heap.size ≤ w6.heap.size from HT.out.size)
 clear hb9
 refine hK _ _ ⟨⟨⟨w6, HT.out⟩, rfl⟩, ?_⟩
 clear hK K
 repeat (refine tree_q rfl rfl ?_; go_big_quiet_step (fail); refine wpQuiet_nil ?_)
 refine tree_end ?_
 clear hov_bg hl_bg bg_
 replace Hbg := Lib.hid (Hbg.out.up HT.out)
 replace HK := hbu HK HT.out
 replace HB := hbu HB HT.out
 replace HZS := sz HZS HT.out.size
 clear HT
 have bg_ := Hbg.out.c3
 go_wp2_with fail
 go_ret2
 exact ⟨by rw [HP.out]; rfl, HB.out⟩
def rbaseT (k : Int) : ByteArray := if 1 ≤ k ∧ k ≤ 3 then baseT k else textS 2 0
theorem rOf2 (w : World) : Calls Tryz.prog 57 #[.int .i64 2] w fun e w' => NumR w e w' 2 := refOf_any 2 (by decide) w
theorem rOwn_gen (k : Int) (z0 : Nat) (B : ByteArray) (p : ByteArray)
  (hK : ∀ w, Calls Tryz.prog 44 #[.int .i64 k] w fun e w' => ∃ vq vp, e = .returned (.agg #[.int .i64 (z0 : Int), vq, vp]) ∧ Below w.heap.size w w')
  (hT : ∀ (a : Option Addr) (c : Nat) w, NumAt w a 2 → Calls Tryz.prog 49 #[.slice a (dl 2) c, .int .i64 (z0 : Int)] w fun e w' => e = .returned (.string B) ∧ Below w.heap.size w w') (w : World) :
  Calls Tryz.prog 84 #[.int .i64 k, .string p] w fun e w' => ∃ ab ai a : Option Addr, e = .returned (.slice a 1 1) ∧ ClaimsAt w' a [ownA ab ai 1 1 B p] ∧ Below w.heap.size w w' := by
 have HKK := Lib.hid hK
 have HTT := Lib.hid hT
 clear hK hT
 go_enter Tryz.func84, Tryz.ntmps84
 go_wp2_with fail
 refine (rOf2 w).mono ?_
 rintro e w1 ⟨a2, c2, rfl, hn2, hb9⟩
 have HB := Lib.hid hb9
 have HZS := Lib.hid hb9.size
 have HN2 := Lib.hid hn2
 clear hn2 hb9
 go_wp2_with fail
 refine (HKK.out w1).mono ?_
 rintro e w2 ⟨vq, vp, rfl, hb9⟩
 replace HN2 := Lib.hid (HN2.out.up hb9)
 replace HB := hbu HB hb9
 replace HZS := sz HZS hb9.size
 clear hb9
 have hfld : ∀ W : World, Sem.run Tryz.prog (Instr.field 86 (.agg #[.int .i64 (z0 : Int), vq, vp]) 0) W = .ok (.int .i64 (z0 : Int)) W := fun _ => rfl
 go_wp2_with fail
 clear hfld
 refine (HTT.out a2 c2 w2 HN2.out).mono ?_
 rintro e w3 ⟨rfl, hb9⟩
 replace HN2 := Lib.hid (HN2.out.up hb9)
 replace HB := hbu HB hb9
 replace HZS := sz HZS hb9.size
 clear hb9
 obtain ⟨w4, hq4, hb9, hz9, Hrb, Hri, Hrc⟩ := new3 w3 9 [.string B] 9 [.string p] 50 [.slice (some ⟨w3.heap.size, 0, none⟩) 1 1, .slice (some ⟨w3.heap.size + 1, 0, none⟩) 1 1]
 replace HN2 := Lib.hid (HN2.out.up hb9)
 replace HB := hbu HB hb9
 replace HZS := sz HZS hz9.out
 clear hb9 hz9
 have rb_ := Hrb.out.c1
 have ri_ := Hri.out.c1
 have rc_ := Hrc.out.c2
 go_wp2_with fail
 clear hq4
 go_ret
 exact ⟨_, _, _, rfl, ⟨Sl.ofB Hrc.out, fun c hc => by rw [List.mem_singleton.1 hc]; exact ⟨Sl.ofB Hrb.out, Sl.ofB Hri.out⟩⟩, HB.out⟩
theorem rOwn_any (k : Int) (p : ByteArray) (w : World) :
  Calls Tryz.prog 84 #[.int .i64 k, .string p] w fun e w' => ∃ ab ai a : Option Addr, e = .returned (.slice a 1 1) ∧ ClaimsAt w' a [ownA ab ai 1 1 (rbaseT k) p] ∧ Below w.heap.size w w' := by
 by_cases hk : 1 ≤ k ∧ k ≤ 3
 ·obtain ⟨j, rfl⟩ : ∃ j : Nat, k = (j : Int) := ⟨k.toNat, by omega⟩
  have e1 : rbaseT (j : Int) = textS 2 (grp j).size := by unfold rbaseT baseT; rw [if_pos hk, Int.toNat_natCast, low2 j (by omega) (by omega)]
  rw [e1]
  exact rOwn_gen j (grp j).size _ p (fun w => (refKind_some j (by omega) (by omega) w).mono fun e w' ⟨_, _, _, _, h, _, _, hb⟩ => ⟨_, _, h, hb⟩) (fun a c w h => rText (grp_ok j (by omega) (by omega)) (by decide) w h) w
 ·have e1 : rbaseT k = textS 2 0 := by unfold rbaseT; rw [if_neg hk]
  rw [e1]
  exact rOwn_gen k 0 _ p (fun w => (refKind_none k hk w).mono fun e w' ⟨h, hb⟩ => ⟨_, _, h, hb⟩) (fun a c w h => refText_two0 a c w h) w
theorem rtag1 {text : ByteArray} (ht : text.size < 140737488355328) (a : Option Addr) (c : Nat) (w : World) (hX : Sl w w.heap.size a [.string text]) :
  Calls Tryz.prog 83 #[.string signB, .slice a 1 c] w fun e w' => e = .returned (.string (sgnT text)) ∧ Below w.heap.size w w' :=
 rTag_any signB [text] 1 rfl (join_small signB [text] 0 (by simp) (by simpa using ht) (by decide)) a c w hX
theorem rSign_er (k er : Int) (hd : (er != 0) = true) (x text seed : ByteArray) (hP : ∀ w, Calls Tryz.prog 21 #[.int .i64 k, .string x] w (Gives (strE er) w)) (w : World) :
  Calls Tryz.prog 23 #[.int .i64 k, .string x, .string text, .string seed] w (ProveR er ⟨#[]⟩ [] w) := by
 unfold Gives strE at hP
 have HP := Lib.hid hP
 clear hP
 go_enter Tryz.func23, Tryz.ntmps23
 go_wp2_with fail
 obtain ⟨w1, hq1, hb9, hz9, Hout⟩ := new1 w 25 [.string ⟨#[]⟩, .slice none 0 0]
 rw [hq1]
 clear hq1
 have HB := Lib.hid hb9
 have HZS := hz9
 clear hb9 hz9
 have out_ := Hout.out.c2
 go_wp2_with fail
 refine (HP.out w1).mono ?_
 rintro e w2 ⟨rfl, hb9⟩
 clear out_
 replace Hout := Lib.hid (Hout.out.up hb9)
 replace HB := hbu HB hb9
 replace HZS := sz HZS hb9.size
 clear hb9
 have out_ := Hout.out.c2
 have f3_out := Hout.out.frozen
 have o3_out_ := out_; clear out_
 obtain ⟨w3, hq3, hg9, hz9, hx9⟩ := put2 Hout 0 (.string ⟨#[]⟩) 1 (.slice none 0 0) [.string ⟨#[]⟩, .slice none 0 0] rfl
 replace HB := hbg HB hg9 (by have g0 := HZS.out; omega)
 replace HZS := sz HZS hz9.out
 replace Hout := hx9
 clear hx9 hg9 hz9
 have out_ := Hout.out.c2
 go_wp2_with fail
 clear hq3 o3_out_ f3_out
 simp [bodyPost, results, Tryz.results23, go_sem, out_]
 exact proveR_none _ HB.out
theorem rSign_ok (k : Nat) (h1 : 1 ≤ k) (h3 : k ≤ 3) (x text seed : ByteArray) (ht : text.size < 140737488355328) (hsd : seed.size < 140737488355328) (hx : isSc (grp k).q.m (grp k).size x = true) (E : Nat) (C : ByteArray) (A : List ByteArray) (hE : prvE k [ownC (baseT k) (pubS k x)] [x] = E) (hC : (if E = 0 then prvC k (sgnT text) [ownC (baseT k) (pubS k x)] seed else ⟨#[]⟩) = C) (hA : (if E = 0 then prvA k (sgnT text) [ownC (baseT k) (pubS k x)] [x] seed else []) = A) (w : World) :
  Calls Tryz.prog 23 #[.int .i64 (k : Int), .string x, .string text, .string seed] w (ProveR (E : Int) C A w) := by
 have hP := fun w => rPub_yes k h1 h3 x hx w
 unfold Gives at hP
 have HPV := Lib.hid (fun ab ai ao ax w (hc : ClaimsAt w ao [ownA ab ai 1 1 (baseT k) (pubS k x)]) (hs : Sl w w.heap.size ax [.string x]) => rProve_any k (sgnT text) (by rw [sgnT_size]; decide) [ownA ab ai 1 1 (baseT k) (pubS k x)] ao 1 [x] ax 1 (by simp) seed hsd w hc hs)
 simp only [own_prvE, own_prvC, own_prvA, hE, hC, hA, List.length_singleton] at HPV
 have HTG := Lib.hid (fun a c w h => rtag1 ht a c w h)
 have HOW := Lib.hid (fun p w => rOwn_any k p w)
 rw [show rbaseT k = baseT k by unfold rbaseT; rw [if_pos (by omega)]] at HOW
 have HP := Lib.hid hP
 generalize baseT k = BT at *
 generalize pubS k x = PS at *
 generalize sgnT text = TT at *
 clear hP hE hC hA hx ht hsd
 go_enter Tryz.func23, Tryz.ntmps23
 go_wp2_with fail
 obtain ⟨w1, hq1, hb9, hz9, Hout⟩ := new1 w 25 [.string ⟨#[]⟩, .slice none 0 0]
 rw [hq1]
 clear hq1
 have HB := Lib.hid hb9
 have HZS := hz9
 clear hb9 hz9
 have out_ := Hout.out.c2
 go_wp2_with fail
 refine (HP.out w1).mono ?_
 rintro e w2 ⟨rfl, hb9⟩
 clear out_
 replace Hout := Lib.hid (Hout.out.up hb9)
 replace HB := hbu HB hb9
 replace HZS := sz HZS hb9.size
 clear hb9
 have out_ := Hout.out.c2
 have o3_out_ := out_; clear out_
 obtain ⟨w3, hq3, hb9, hz9, Hrt⟩ := new1 w2 9 [.string text]
 replace Hout := Lib.hid (Hout.out.up hb9)
 replace HB := hbu HB hb9
 replace HZS := sz HZS hz9.out
 clear hb9 hz9
 have out_ := Hout.out.c2
 have rt_ := Hrt.out.c1
 go_wp2_with fail
 clear hq3 o3_out_
 refine (HTG.out _ _ w3 (Sl.ofB Hrt.out)).mono ?_
 rintro e w4 ⟨rfl, hb9⟩
 clear out_
 replace Hout := Lib.hid (Hout.out.up hb9)
 clear rt_
 replace Hrt := Lib.hid (Hrt.out.up hb9)
 replace HB := hbu HB hb9
 replace HZS := sz HZS hb9.size
 clear hb9
 have out_ := Hout.out.c2
 have rt_ := Hrt.out.c1
 go_wp2_with fail
 refine (HOW.out PS w4).mono ?_
 rintro e w5 ⟨ab, ai, ao, rfl, hc9, hb9⟩
 clear out_
 replace Hout := Lib.hid (Hout.out.up hb9)
 clear rt_
 replace Hrt := Lib.hid (Hrt.out.up hb9)
 replace HB := hbu HB hb9
 replace HZS := sz HZS hb9.size
 have HC := Lib.hid hc9
 clear hc9 hb9
 have out_ := Hout.out.c2
 have rt_ := Hrt.out.c1
 have o6_out_ := out_; clear out_
 have o6_rt_ := rt_; clear rt_
 obtain ⟨w6, hq6, hb9, hz9, Hrs⟩ := new1 w5 9 [.string x]
 replace Hout := Lib.hid (Hout.out.up hb9)
 replace Hrt := Lib.hid (Hrt.out.up hb9)
 replace HC := Lib.hid (HC.out.up hb9)
 replace HB := hbu HB hb9
 replace HZS := sz HZS hz9.out
 clear hb9 hz9
 have out_ := Hout.out.c2
 have rt_ := Hrt.out.c1
 have rs_ := Hrs.out.c1
 go_wp2_with fail
 clear hq6 o6_rt_ o6_out_
 refine (HPV.out ab ai ao _ w6 HC.out (Sl.ofB Hrs.out)).mono ?_
 rintro e w7 ⟨hb9, a1, c1, rfl, hs1, hz1, hc1, hf1⟩
 clear out_
 replace Hout := Lib.hid (Hout.out.up hb9)
 clear rt_
 replace Hrt := Lib.hid (Hrt.out.up hb9)
 clear rs_
 replace Hrs := Lib.hid (Hrs.out.up hb9)
 replace HC := Lib.hid (HC.out.up hb9)
 replace HB := hbu HB hb9
 replace HZS := sz HZS hb9.size
 have HS1 := Lib.hid hs1
 clear hs1
 have HZ1 := Lib.hid hz1
 clear hz1
 have HC1 := Lib.hid hc1
 clear hc1
 have HF1 := Lib.hid hf1
 clear hf1 hb9
 have out_ := Hout.out.c2
 have rt_ := Hrt.out.c1
 have rs_ := Hrs.out.c1
 have HNO := Lib.hid (show ∀ y, a1 = some y → y.block ≠ w.heap.size from fun y hy e => by have g1 := HF1.out y hy; have g2 := HZS.out; omega)
 have HFW := Lib.hid (show ∀ y, a1 = some y → w.heap.size ≤ y.block from fun y hy => by have g1 := HF1.out y hy; have g2 := HZS.out; omega)
 clear HF1
 replace HS1 := Lib.hid (Sl.setO HS1.out HNO.out 0 (.string C))
 replace HS1 := Lib.hid (Sl.setO HS1.out HNO.out 1 (.slice a1 A.length c1))
 have HRP := Lib.hid (show ∀ W, Below w.heap.size w W → Sl W W.heap.size a1 (A.map Value.string) → ProveR (E : Int) C A w (.returned (.tuple #[.agg #[.string C, .slice a1 A.length c1], .int .i64 (E : Int)])) W from fun W h1 h2 => ⟨h1, a1, c1, rfl, h2, HZ1.out, HC1.out, HFW.out⟩)
 clear HC
 have f8_out := Hout.out.frozen
 have o8_out_ := out_; clear out_
 have o8_rt_ := rt_; clear rt_
 have o8_rs_ := rs_; clear rs_
 obtain ⟨w8, hq8, hg9, hz9, hx9⟩ := put2 Hout 0 (.string C) 1 (.slice a1 A.length c1) [.string C, .slice a1 A.length c1] rfl
 replace Hrt := Lib.hid (Hrt.out.grown hg9.out (sne (by have g0 := HZS.out; omega)))
 replace Hrs := Lib.hid (Hrs.out.grown hg9.out (sne (by have g0 := HZS.out; omega)))
 replace HB := hbg HB hg9 (by have g0 := HZS.out; omega)
 replace HZS := sz HZS hz9.out
 replace Hout := hx9
 clear hx9 hg9 hz9
 have out_ := Hout.out.c2
 have rt_ := Hrt.out.c1
 have rs_ := Hrs.out.c1
 rw [hq8] at HS1
 go_wp2_with fail
 clear hq8 o8_rs_ o8_rt_ o8_out_ f8_out
 simp [bodyPost, results, Tryz.results23, go_sem, out_]
 exact HRP.out _ HB.out HS1.out
theorem rSign_any (k : Int) (x text seed : ByteArray) (ht : text.size < 140737488355328) (hsd : seed.size < 140737488355328) (w : World) :
  Calls Tryz.prog 23 #[.int .i64 k, .string x, .string text, .string seed] w (ProveR (sgnE k x : Int) (sgnC k x text seed) (sgnA k x text seed) w) := by
 by_cases hk : 1 ≤ k ∧ k ≤ 3
 ·obtain ⟨j, rfl⟩ : ∃ j : Nat, k = (j : Int) := ⟨k.toNat, by omega⟩
  cases hx : isSc (grp j).q.m (grp j).size x with
  | true =>
   have h0 : pubE (j : Int) x = 0 := by unfold pubE; rw [if_pos hk, Int.toNat_natCast, if_pos hx]
   have h1 : sgnE (j : Int) x = prvE j [ownC (baseT j) (pubS j x)] [x] := by unfold sgnE; rw [if_pos h0]
   exact rSign_ok j (by omega) (by omega) x text seed ht hsd hx _ _ _ h1.symm rfl rfl w
  | false =>
   have h0 : pubE (j : Int) x = 6 := by unfold pubE; rw [if_pos hk, Int.toNat_natCast, hx]; rfl
   have h1 : sgnE (j : Int) x = 6 := by unfold sgnE; rw [if_neg (by rw [h0]; decide), h0]
   unfold sgnC sgnA
   rw [h1]
   exact rSign_er j 6 (by decide) x text seed (fun w => rPub_no j (by omega) (by omega) x hx w) w
 ·have h0 : pubE k x = 1 := by unfold pubE; rw [if_neg hk]
  have h1 : sgnE k x = 1 := by unfold sgnE; rw [if_neg (by rw [h0]; decide), h0]
  unfold sgnC sgnA
  rw [h1]
  exact rSign_er k 1 (by decide) x text seed (fun w => rPub_none k hk x w) w
theorem sgdK_ref (k : Int) (p text ch : ByteArray) (xs : List ByteArray) : verK k (sgnT text) [ownC (rbaseT k) p] ch xs = sgdK k p text ch xs := by
 unfold sgdK
 by_cases hk : 1 ≤ k ∧ k ≤ 3
 ·rw [decide_eq_true hk, Bool.true_and, show rbaseT k = baseT k by unfold rbaseT; rw [if_pos hk]]
 ·rw [decide_eq_false hk, Bool.false_and]
  have h1 : openK k [ownC (rbaseT k) p] xs = 1 := by unfold openK; rw [if_neg hk]
  unfold verK
  rw [h1]
  rfl
theorem rSigned_any (k : Int) (p text ch : ByteArray) (ht : text.size < 140737488355328) (xs : List ByteArray) (ax : Option Addr) (cx : Nat) (hn : xs.length ≤ 8796093022207) (w : World) (hS : Sl w w.heap.size ax (xs.map Value.string)) :
  Calls Tryz.prog 25 #[.int .i64 k, .string p, .string text, .agg #[.string ch, .slice ax xs.length cx]] w (Gives (.bool (sgdK k p text ch xs)) w) := by
 have HV := Lib.hid (fun ab ai ao w (hc : ClaimsAt w ao [ownA ab ai 1 1 (rbaseT k) p]) (hs : Sl w w.heap.size ax (xs.map Value.string)) => rVerify_any k (sgnT text) (by rw [sgnT_size]; decide) [ownA ab ai 1 1 (rbaseT k) p] ao 1 ch xs ax cx hn w hc hs)
 simp only [rverK_eq, own_verK, sgdK_ref, List.length_singleton] at HV
 have HTG := Lib.hid (fun a c w h => rtag1 ht a c w h)
 have HOW := Lib.hid (fun p w => rOwn_any k p w)
 have HS := Lib.hid hS
 generalize sgdK k p text ch xs = b at *
 generalize rbaseT k = BT at *
 generalize sgnT text = TT at *
 generalize xs.length = n at *
 clear ht hS hn
 unfold Gives
 go_enter Tryz.func25, Tryz.ntmps25
 go_wp2_with fail
 obtain ⟨w1, hq1, hb9, hz9, Hbp⟩ := new1 w 25 [.string ch, .slice ax n cx]
 rw [hq1]
 clear hq1
 have HB := Lib.hid hb9
 have HZS := hz9
 clear hb9 hz9
 have bp_ := Hbp.out.c2
 go_wp2_with fail
 have HS2 := Lib.hid (HS.out.up HB.out)
 have HT := Lib.hid (show Below w1.heap.size w1 w1.drew from (Below.refl _ _).drew)
 have hl_bp := Hbp.out.lt
 refine wp_region_tree (fun wq9 => ∃ E : Over w1, wq9 = E.w) ((.qs [0, 1, 4, 5, 7] (.a 2 (.a 3 (.a 6 (.a 8 (.qs [9] .done))))))) (by kernel_rfl) (by kernel_rfl) (fun _ _ d _ _ h => by cases d <;> exact h) ⟨⟨_, HT.out⟩, rfl⟩ ?_
 have hov_bp := fun (E : Over w1) o => E.cell (b := w.heap.size) o hl_bp
 simp only [Tree.qs]
 repeat (refine tree_q rfl rfl ?_; go_big_quiet_step (fail); refine wpQuiet_nil ?_)
 refine tree_a rfl (fun K hK => ?_)
 go_simp
 obtain ⟨w2, hq9, hb9, hz9, Hrt⟩ := new1D w1 9 [.string text]
 rw [hq9]
 clear hq9
 have HArt := Lib.hid HT.out.size
 replace HT := Lib.hid hb9
 replace HZS := sz HZS (show w1.heap.size ≤ w2.heap.size from HT.out.size)
 clear hb9 hz9
 refine hK _ _ ⟨⟨⟨w2, HT.out⟩, rfl⟩, ?_⟩
 clear hK K
 repeat (refine tree_q rfl rfl ?_; go_big_quiet_step (fail); refine wpQuiet_nil ?_)
 refine tree_a rfl (fun K hK => ?_)
 go_simp
 refine (HTG.out _ _ _ (Sl.ofB Hrt.out)).mono ?_
 rintro e w3 ⟨rfl, hb9⟩
 replace Hrt := Lib.hid (Hrt.out.up hb9)
 replace HT := Lib.hid (below_up HT.out hb9)
 replace HZS := sz HZS (show w1.heap.size ≤ w3.heap.size from HT.out.size)
 clear hb9
 refine hK _ _ ⟨⟨⟨w3, HT.out⟩, rfl⟩, ?_⟩
 clear hK K
 repeat (refine tree_q rfl rfl ?_; go_big_quiet_step (fail); refine wpQuiet_nil ?_)
 refine tree_a rfl (fun K hK => ?_)
 go_simp
 refine (HOW.out p _).mono ?_
 rintro e w4 ⟨ab, ai, ao, rfl, hc9, hb9⟩
 replace Hrt := Lib.hid (Hrt.out.up hb9)
 replace HT := Lib.hid (below_up HT.out hb9)
 replace HZS := sz HZS (show w1.heap.size ≤ w4.heap.size from HT.out.size)
 clear hb9
 have HC := Lib.hid hc9
 clear hc9
 refine hK _ _ ⟨⟨⟨w4, HT.out⟩, rfl⟩, ?_⟩
 clear hK K
 repeat (refine tree_q rfl rfl ?_; go_big_quiet_step (fail); refine wpQuiet_nil ?_)
 refine tree_a rfl (fun K hK => ?_)
 go_simp
 refine (HV.out ab ai ao _ HC.out (HS2.out.up HT.out)).mono ?_
 rintro e w5 ⟨rfl, hb9⟩
 replace Hrt := Lib.hid (Hrt.out.up hb9)
 replace HC := Lib.hid (HC.out.up hb9)
 replace HT := Lib.hid (below_up HT.out hb9)
 replace HZS := sz HZS (show w1.heap.size ≤ w5.heap.size from HT.out.size)
 clear hb9
 refine hK _ _ ⟨⟨⟨w5, HT.out⟩, rfl⟩, ?_⟩
 clear hK K
 repeat (refine tree_q rfl rfl ?_; go_big_quiet_step (fail); refine wpQuiet_nil ?_)
 refine tree_end ?_
 clear hov_bp hl_bp bp_
 replace Hbp := Lib.hid (Hbp.out.up HT.out)
 replace HB := hbu HB HT.out
 replace HZS := sz HZS HT.out.size
 clear HT
 have bp_ := Hbp.out.c2
 go_wp2_with fail
 go_ret
 exact ⟨rfl, HB.out⟩
end Go.Proofs.YtdlnnkbigeiilaaGreat
namespace Go.Proofs.YtdlnnkbigeiilaaGreat
open Go.RowKit
def pubP (k : Int) (x : ByteArray) : ByteArray := if pubE k x = 0 then pubS k x else ⟨#[]⟩
theorem sPub_any (k : Int) (x : ByteArray) (w : World) : Calls Tryz.prog 20 #[.int .i64 k, .string x] w (Gives (.tuple #[.string (pubP k x), .int .i64 (pubE k x : Int)]) w) := by
 by_cases hk : 1 ≤ k ∧ k ≤ 3
 ·obtain ⟨j, rfl⟩ : ∃ j : Nat, k = (j : Int) := ⟨k.toNat, by omega⟩
  cases hx : isSc (grp j).q.m (grp j).size x with
  | true =>
   have h0 : pubE (j : Int) x = 0 := by unfold pubE; rw [if_pos hk, Int.toNat_natCast, if_pos hx]
   unfold pubP
   rw [h0]
   have h := pub_some j (by omega) (by omega) x true hx w
   simp only [if_true] at h
   exact h
  | false =>
   have h0 : pubE (j : Int) x = 6 := by unfold pubE; rw [if_pos hk, Int.toNat_natCast, hx]; rfl
   unfold pubP
   rw [h0]
   have h := pub_some j (by omega) (by omega) x false hx w
   simp only [Bool.false_eq_true, if_false] at h
   exact h
 ·have h0 : pubE k x = 1 := by unfold pubE; rw [if_neg hk]
  unfold pubP
  rw [h0]
  exact pub_none k hk x w
theorem rPub_any (k : Int) (x : ByteArray) (w : World) : Calls Tryz.prog 21 #[.int .i64 k, .string x] w (Gives (.tuple #[.string (pubP k x), .int .i64 (pubE k x : Int)]) w) := by
 by_cases hk : 1 ≤ k ∧ k ≤ 3
 ·obtain ⟨j, rfl⟩ : ∃ j : Nat, k = (j : Int) := ⟨k.toNat, by omega⟩
  cases hx : isSc (grp j).q.m (grp j).size x with
  | true =>
   have h0 : pubE (j : Int) x = 0 := by unfold pubE; rw [if_pos hk, Int.toNat_natCast, if_pos hx]
   unfold pubP
   rw [h0]
   exact rPub_yes j (by omega) (by omega) x hx w
  | false =>
   have h0 : pubE (j : Int) x = 6 := by unfold pubE; rw [if_pos hk, Int.toNat_natCast, hx]; rfl
   unfold pubP
   rw [h0]
   exact rPub_no j (by omega) (by omega) x hx w
 ·have h0 : pubE k x = 1 := by unfold pubE; rw [if_neg hk]
  unfold pubP
  rw [h0]
  exact rPub_none k hk x w
end Go.Proofs.YtdlnnkbigeiilaaGreat
namespace Go.Proofs.YtdlnnkbigeiilaaGreat
open Go.RowKit
theorem good7_any (lo hi size : Int) (w : World) : Calls Tryz.prog 139 #[.int .i64 lo, .int .i64 hi, .int .i64 size] w fun e w' => e = .returned (.bool (decide (0 ≤ lo ∧ lo ≤ hi ∧ hi ≤ size))) ∧ w' = w := by
 by_cases h1 : 0 ≤ lo <;> by_cases h2 : lo ≤ hi <;> by_cases h3 : hi ≤ size <;>
  (go_enter Tryz.func139, Tryz.ntmps139
   go_wp2
   go_ret
   exact ⟨ret_bool (by simp [h1, h2, h3]), rfl⟩)
theorem four7_any (n : Nat) (hn : n < 9223372036854775808) (w : World) : Calls Tryz.prog 140 #[.int .i64 (n : Int)] w (Gives (.string (fourS n)) w) := by
 have hn0 : (0 : Int) ≤ (n : Int) := by omega
 unfold Gives
 go_enter Tryz.func140, Tryz.ntmps140
 obtain ⟨w1, hq1, hb9, hz9, Hr⟩ := new1 w 5 [.int .u8 ((n : Int) / 16777216 % 256), .int .u8 ((n : Int) / 65536 % 256), .int .u8 ((n : Int) / 256 % 256), .int .u8 ((n : Int) % 256)]
 have HB := Lib.hid hb9
 have HZS := hz9
 clear hb9 hz9
 have r_ := Hr.out.c4
 have hcv := run_convert_bytes_arg (P := Tryz.prog) w1 150 5 Tryz.underlying150 Tryz.underlying5 w.heap.size 0 4 4 [(n : Int) / 16777216 % 256, (n : Int) / 65536 % 256, (n : Int) / 256 % 256, (n : Int) % 256] rfl (fun i hi => by
  rcases (show i = 0 ∨ i = 1 ∨ i = 2 ∨ i = 3 by omega) with rfl | rfl | rfl | rfl
  ·exact Hr.out.cell (i := 0) rfl
  ·exact Hr.out.cell (i := 1) rfl
  ·exact Hr.out.cell (i := 2) rfl
  ·exact Hr.out.cell (i := 3) rfl) 9 Tryz.underlying9
 go_wp2_with fail
 clear hq1
 go_ret
 exact ⟨rfl, HB.out⟩
end Go.Proofs.YtdlnnkbigeiilaaGreat
namespace Go.Proofs.YtdlnnkbigeiilaaGreat
open Go.RowKit
abbrev stampB : ByteArray := ⟨#[115, 116, 97, 109, 112]⟩
def stmT (name : ByteArray) (n : Nat) (head : ByteArray) : ByteArray := tagS stampB [name, fourS n, head]
theorem stmT_size (name : ByteArray) (n : Nat) (head : ByteArray) : (stmT name n head).size = 32 := tagS_size _ _
def stmE (size : Int) (head : ByteArray) : Nat := if 0 ≤ size ∧ size ≤ 1048576 then (if head.size = 32 then 0 else 2) else 4
def stmS (name : ByteArray) (size : Int) (head : ByteArray) : ByteArray := if stmE size head = 0 then stmT name size.toNat head else ⟨#[]⟩
theorem tag3 (name head : ByteArray) (n : Nat) (h4 : (fourS n).size < 140737488355328) (hn : name.size < 140737488355328) (hh : head.size = 32) (a : Option Addr) (c : Nat) (w : World) (hX : Sl w w.heap.size a [.string name, .string (fourS n), .string head]) :
  Calls Tryz.prog 81 #[.string stampB, .slice a 3 c] w fun e w' => e = .returned (.string (stmT name n head)) ∧ Below w.heap.size w w' :=
 Tag_any stampB [name, fourS n, head] 3 rfl (join_small stampB [name, fourS n, head] 0 (by simp) (by intro p hp; simp only [List.mem_cons, List.not_mem_nil, or_false] at hp; rcases hp with rfl | rfl | rfl; exact hn; exact h4; omega) (by decide)) a c w hX
theorem stamped_range (name head : ByteArray) (size : Int) (h : ¬ (0 ≤ size ∧ size ≤ 1048576)) (w : World) : Calls Tryz.prog 89 #[.string name, .int .i64 size, .string head] w (Gives (strE 4) w) := by
 have hg := fun w => good7_any 0 size 1048576 w
 rw [decide_eq_false (show ¬ ((0 : Int) ≤ 0 ∧ 0 ≤ size ∧ size ≤ 1048576) by omega)] at hg
 have HG := Lib.hid (fun w => (hg w).mono fun e w' ⟨a, b⟩ => (⟨a, b.symm⟩ : _ ∧ w = w'))
 clear hg h
 unfold Gives strE
 go_enter Tryz.func89, Tryz.ntmps89
 go_wp2_with fail
 refine (HG.out _).mono ?_
 rintro e _ ⟨rfl, rfl⟩
 go_wp2_with fail
 go_ret2
 exact ⟨rfl, Below.refl _ _⟩
theorem stamped_form (name head : ByteArray) (size : Int) (h : 0 ≤ size ∧ size ≤ 1048576) (hh : head.size ≠ 32) (w : World) : Calls Tryz.prog 89 #[.string name, .int .i64 size, .string head] w (Gives (strE 2) w) := by
 have hg := fun w => good7_any 0 size 1048576 w
 rw [decide_eq_true (show ((0 : Int) ≤ 0 ∧ 0 ≤ size ∧ size ≤ 1048576) by omega)] at hg
 have HG := Lib.hid (fun w => (hg w).mono fun e w' ⟨a, b⟩ => (⟨a, b.symm⟩ : _ ∧ w = w'))
 have hd : ((head.size : Int) != 32) = true := by simp; omega
 clear hg h hh
 unfold Gives strE
 go_enter Tryz.func89, Tryz.ntmps89
 go_wp2_with fail
 refine (HG.out _).mono ?_
 rintro e _ ⟨rfl, rfl⟩
 go_wp2_with fail
 go_ret2
 exact ⟨rfl, Below.refl _ _⟩
theorem stamped_ok (name head : ByteArray) (n : Nat) (h : n ≤ 1048576) (hh : head.size = 32) (hn : name.size < 140737488355328) (w : World) : Calls Tryz.prog 89 #[.string name, .int .i64 (n : Int), .string head] w (Gives (.tuple #[.string (stmT name n head), .int .i64 0]) w) := by
 have hg := fun w => good7_any 0 (n : Int) 1048576 w
 rw [decide_eq_true (show ((0 : Int) ≤ 0 ∧ 0 ≤ (n : Int) ∧ (n : Int) ≤ 1048576) by omega)] at hg
 have HG := Lib.hid (fun w => (hg w).mono fun e w' ⟨a, b⟩ => (⟨a, b.symm⟩ : _ ∧ w = w'))
 have HF := Lib.hid (fun w => four7_any n (by omega) w)
 have HT := Lib.hid (fun a c w h => tag3 name head n (by have h4 : (fourS n).size = 4 := rfl; omega) hn hh a c w h)
 have hd : ((head.size : Int) != 32) = false := by simp; omega
 generalize fourS n = F at *
 generalize stmT name n head = TT at *
 clear hg h hh hn
 unfold Gives
 go_enter Tryz.func89, Tryz.ntmps89
 go_wp2_with fail
 refine (HG.out _).mono ?_
 rintro e _ ⟨rfl, rfl⟩
 go_wp2_with fail
 refine (HF.out w).mono ?_
 rintro e w1 ⟨rfl, hb9⟩
 have HB := Lib.hid hb9
 have HZS := Lib.hid hb9.size
 clear hb9
 obtain ⟨w2, hq2, hb9, hz9, Hrp⟩ := new1 w1 9 [.string name, .string F, .string head]
 replace HB := hbu HB hb9
 replace HZS := sz HZS hz9.out
 clear hb9 hz9
 have rp_ := Hrp.out.c3
 go_wp2_with fail
 clear hq2
 refine (HT.out _ _ w2 (Sl.ofB Hrp.out)).mono ?_
 rintro e w3 ⟨rfl, hb9⟩
 clear rp_
 replace Hrp := Lib.hid (Hrp.out.up hb9)
 replace HB := hbu HB hb9
 replace HZS := sz HZS hb9.size
 clear hb9
 have rp_ := Hrp.out.c3
 go_wp2_with fail
 go_ret2
 exact ⟨rfl, HB.out⟩
theorem stamped_any (name head : ByteArray) (size : Int) (hn : name.size < 140737488355328) (w : World) : Calls Tryz.prog 89 #[.string name, .int .i64 size, .string head] w (Gives (.tuple #[.string (stmS name size head), .int .i64 (stmE size head : Int)]) w) := by
 unfold stmS
 by_cases h : 0 ≤ size ∧ size ≤ 1048576
 ·by_cases hh : head.size = 32
  ·have e1 : stmE size head = 0 := by unfold stmE; rw [if_pos h, if_pos hh]
   obtain ⟨n, rfl⟩ : ∃ n : Nat, size = (n : Int) := ⟨size.toNat, by omega⟩
   rw [e1, if_pos rfl, Int.toNat_natCast]
   exact stamped_ok name head n (by omega) hh hn w
  ·have e1 : stmE size head = 2 := by unfold stmE; rw [if_pos h, if_neg hh]
   rw [e1]
   exact stamped_form name head size h hh w
 ·have e1 : stmE size head = 4 := by unfold stmE; rw [if_neg h]
  rw [e1]
  exact stamped_range name head size h w
end Go.Proofs.YtdlnnkbigeiilaaGreat
namespace Go.Proofs.YtdlnnkbigeiilaaGreat
open Go.RowKit
theorem stmS_size (name : ByteArray) (size : Int) (head : ByteArray) : (stmS name size head).size < 140737488355328 := by
 unfold stmS
 split
 ·rw [stmT_size]; decide
 ·decide
def bsgK (k : Int) (pub name : ByteArray) (size : Int) (head ch : ByteArray) (xs : List ByteArray) : Bool := decide (stmE size head = 0) && sgdK k pub (stmS name size head) ch xs
theorem bSigned_any (k : Int) (pub name : ByteArray) (hnm : name.size < 140737488355328) (size : Int) (head ch : ByteArray) (xs : List ByteArray) (ax : Option Addr) (cx : Nat) (hn : xs.length ≤ 8796093022207) (w : World) (hS : Sl w w.heap.size ax (xs.map Value.string)) :
  Calls Tryz.prog 32 #[.int .i64 k, .string pub, .string name, .agg #[.int .i64 size, .string head, .string ch, .slice ax xs.length cx]] w (Gives (.bool (bsgK k pub name size head ch xs)) w) := by
 have H1 := Lib.hid (fun w => stamped_any name head size hnm w)
 have H2 := Lib.hid (fun w1 (hb : Below w.heap.size w w1) => sSigned_any k pub (stmS name size head) ch (stmS_size name size head) xs ax cx hn w1 (hS.up hb))
 have he : bsgK k pub name size head ch xs = (decide (stmE size head = 0) && sgdK k pub (stmS name size head) ch xs) := rfl
 rw [he]
 unfold Gives at H1 H2 ⊢
 generalize sgdK k pub (stmS name size head) ch xs = b at *
 generalize stmS name size head = TT at *
 generalize stmE size head = E at *
 generalize xs.length = n at *
 obtain ⟨d, hd⟩ : ∃ d, decide (E = 0) = d := ⟨_, rfl⟩
 rw [hd]
 have hde : ((E : Int) == 0) = d := by rw [← hd]; by_cases g : E = 0 <;> simp [g]
 clear he hd hS hn hnm
 cases d
 ·go_enter Tryz.func32, Tryz.ntmps32
  go_wp2_with fail
  obtain ⟨w1, hq1, hb9, hz9, Hbp⟩ := new1 w 53 [.int .i64 size, .string head, .string ch, .slice ax n cx]
  rw [hq1]
  clear hq1
  have HB := Lib.hid hb9
  have HZS := hz9
  clear hb9 hz9
  have bp_ := Hbp.out.c4
  go_wp2_with fail
  refine (H1.out w1).mono ?_
  rintro e w2 ⟨rfl, hb9⟩
  clear bp_
  replace Hbp := Lib.hid (Hbp.out.up hb9)
  replace HB := hbu HB hb9
  replace HZS := sz HZS hb9.size
  clear hb9
  have bp_ := Hbp.out.c4
  go_wp2_with fail
  go_ret
  exact ⟨rfl, HB.out⟩
 ·go_enter Tryz.func32, Tryz.ntmps32
  go_wp2_with fail
  obtain ⟨w1, hq1, hb9, hz9, Hbp⟩ := new1 w 53 [.int .i64 size, .string head, .string ch, .slice ax n cx]
  rw [hq1]
  clear hq1
  have HB := Lib.hid hb9
  have HZS := hz9
  clear hb9 hz9
  have bp_ := Hbp.out.c4
  go_wp2_with fail
  refine (H1.out w1).mono ?_
  rintro e w2 ⟨rfl, hb9⟩
  clear bp_
  replace Hbp := Lib.hid (Hbp.out.up hb9)
  replace HB := hbu HB hb9
  replace HZS := sz HZS hb9.size
  clear hb9
  have bp_ := Hbp.out.c4
  go_wp2_with fail
  refine (H2.out w2 HB.out).mono ?_
  rintro e w3 ⟨rfl, hb9⟩
  clear bp_
  replace Hbp := Lib.hid (Hbp.out.up hb9)
  replace HB := hbu HB hb9
  replace HZS := sz HZS hb9.size
  clear hb9
  have bp_ := Hbp.out.c4
  go_wp2_with fail
  go_ret
  exact ⟨by simp, HB.out⟩
structure StampA where
 n : Int
 h : ByteArray
 c : ByteArray
 l : List ByteArray
 a : Option Addr
 r : Nat
def StampA.val (s : StampA) : Value := .agg #[.int .i64 s.n, .string s.h, .string s.c, .slice s.a s.l.length s.r]
def StampA.At (w : World) (s : StampA) : Prop := Sl w w.heap.size s.a (s.l.map Value.string) ∧ s.l.length ≤ 8796093022207
theorem StampA.At.up {w w' : World} {s : StampA} (h : s.At w) (hb : Below w.heap.size w w') : s.At w' := ⟨h.1.up hb, h.2⟩
def bsgA (k : Int) (pub name : ByteArray) (s : StampA) : Bool := bsgK k pub name s.n s.h s.c s.l
theorem bSigned_at (k : Int) (pub name : ByteArray) (hnm : name.size < 140737488355328) (s : StampA) (w : World) (h : s.At w) : Calls Tryz.prog 32 #[.int .i64 k, .string pub, .string name, s.val] w (Gives (.bool (bsgA k pub name s)) w) :=
 bSigned_any k pub name hnm s.n s.h s.c s.l s.a s.r h.2 w h.1
def bspK (k : Int) (pub name : ByteArray) (s t : StampA) : Bool := decide (s.n = t.n) && (!(s.h.toList == t.h.toList) && (bsgA k pub name s && bsgA k pub name t))
theorem bSplit_any (k : Int) (pub name : ByteArray) (hnm : name.size < 140737488355328) (s t : StampA) (w : World) (hs : s.At w) (ht : t.At w) :
  Calls Tryz.prog 34 #[.int .i64 k, .string pub, .string name, s.val, t.val] w (Gives (.bool (bspK k pub name s t)) w) := by
 have H1 := Lib.hid (fun w1 (hb : Below w.heap.size w w1) => bSigned_at k pub name hnm s w1 (hs.up hb))
 have H2 := Lib.hid (fun w1 (hb : Below w.heap.size w w1) => bSigned_at k pub name hnm t w1 (ht.up hb))
 have he : bspK k pub name s t = (decide (s.n = t.n) && (!(s.h.toList == t.h.toList) && (bsgA k pub name s && bsgA k pub name t))) := rfl
 rw [he]
 unfold Gives StampA.val at H1 H2
 unfold Gives StampA.val
 generalize bsgA k pub name s = b1 at *
 generalize bsgA k pub name t = b2 at *
 obtain ⟨n1, h1, c1, l1, a1, r1⟩ := s
 obtain ⟨n2, h2, c2, l2, a2, r2⟩ := t
 clear hs ht hnm he
 simp only at H1 H2 ⊢
 generalize l1.length = m1 at *
 generalize l2.length = m2 at *
 obtain ⟨d1, hd1⟩ : ∃ d, decide (n1 = n2) = d := ⟨_, rfl⟩
 obtain ⟨d2, hd2⟩ : ∃ d, (h1.toList == h2.toList) = d := ⟨_, rfl⟩
 rw [hd1, hd2]
 have hde : (n1 == n2) = d1 := by rw [← hd1]; by_cases g : n1 = n2 <;> simp [g]
 clear hd1
 cases d1
 ·go_enter Tryz.func34, Tryz.ntmps34
  go_wp2_with fail
  obtain ⟨w1, hq1, hb9, hz9, Hbp, Hbq⟩ := new2 w 53 [.int .i64 n1, .string h1, .string c1, .slice a1 m1 r1] 53 [.int .i64 n2, .string h2, .string c2, .slice a2 m2 r2]
  rw [hq1]
  clear hq1
  have HB := Lib.hid hb9
  have HZS := hz9
  clear hb9 hz9
  have bp_ := Hbp.out.c4
  have bq_ := Hbq.out.c4
  go_wp2_with fail
  go_ret
  exact ⟨rfl, HB.out⟩
 ·cases d2
  ·go_enter Tryz.func34, Tryz.ntmps34
   go_wp2_with fail
   obtain ⟨w1, hq1, hb9, hz9, Hbp, Hbq⟩ := new2 w 53 [.int .i64 n1, .string h1, .string c1, .slice a1 m1 r1] 53 [.int .i64 n2, .string h2, .string c2, .slice a2 m2 r2]
   rw [hq1]
   clear hq1
   have HB := Lib.hid hb9
   have HZS := hz9
   clear hb9 hz9
   have bp_ := Hbp.out.c4
   have bq_ := Hbq.out.c4
   go_wp2_with fail
   refine (H1.out w1 HB.out).mono ?_
   rintro e w2 ⟨rfl, hb9⟩
   clear bp_
   replace Hbp := Lib.hid (Hbp.out.up hb9)
   clear bq_
   replace Hbq := Lib.hid (Hbq.out.up hb9)
   replace HB := hbu HB hb9
   replace HZS := sz HZS hb9.size
   clear hb9
   have bp_ := Hbp.out.c4
   have bq_ := Hbq.out.c4
   cases b1
   ·go_wp2_with fail
    go_ret
    exact ⟨rfl, HB.out⟩
   ·go_wp2_with fail
    refine (H2.out w2 HB.out).mono ?_
    rintro e w3 ⟨rfl, hb9⟩
    clear bp_
    replace Hbp := Lib.hid (Hbp.out.up hb9)
    clear bq_
    replace Hbq := Lib.hid (Hbq.out.up hb9)
    replace HB := hbu HB hb9
    replace HZS := sz HZS hb9.size
    clear hb9
    have bp_ := Hbp.out.c4
    have bq_ := Hbq.out.c4
    go_wp2_with fail
    go_ret
    exact ⟨by simp, HB.out⟩
  ·go_enter Tryz.func34, Tryz.ntmps34
   go_wp2_with fail
   obtain ⟨w1, hq1, hb9, hz9, Hbp, Hbq⟩ := new2 w 53 [.int .i64 n1, .string h1, .string c1, .slice a1 m1 r1] 53 [.int .i64 n2, .string h2, .string c2, .slice a2 m2 r2]
   rw [hq1]
   clear hq1
   have HB := Lib.hid hb9
   have HZS := hz9
   clear hb9 hz9
   have bp_ := Hbp.out.c4
   have bq_ := Hbq.out.c4
   go_wp2_with fail
   go_ret
   exact ⟨rfl, HB.out⟩
end Go.Proofs.YtdlnnkbigeiilaaGreat
namespace Go.Proofs.YtdlnnkbigeiilaaGreat
open Go.RowKit
def StampR (er : Int) (n : Int) (h C : ByteArray) (A : List ByteArray) (w : World) (e : Ending) (w' : World) : Prop :=
 Below w.heap.size w w' ∧ ∃ a c, e = .returned (.tuple #[.agg #[.int .i64 n, .string h, .string C, .slice a A.length c], .int .i64 er]) ∧ Sl w' w'.heap.size a (A.map Value.string) ∧ ∀ y, a = some y → w.heap.size ≤ y.block
theorem stampR_none (er : Int) {w w' : World} (h : Below w.heap.size w w') : StampR er 0 ⟨#[]⟩ ⟨#[]⟩ [] w (.returned (.tuple #[.agg #[.int .i64 0, .string ⟨#[]⟩, .string ⟨#[]⟩, .slice none 0 0], .int .i64 er])) w' := ⟨h, none, 0, rfl, Or.inl rfl, fun _ h => nomatch h⟩
theorem bSign_pub (k : Int) (x name : ByteArray) (n : Int) (head seed P : ByteArray) (pe : Int) (hd : (pe != 0) = true) (hP : ∀ w, Calls Tryz.prog 20 #[.int .i64 k, .string x] w (Gives (.tuple #[.string P, .int .i64 pe]) w)) (w : World) :
  Calls Tryz.prog 29 #[.int .i64 k, .string x, .string name, .int .i64 n, .string head, .string seed] w (StampR pe 0 ⟨#[]⟩ ⟨#[]⟩ [] w) := by
 unfold Gives at hP
 have HP := Lib.hid hP
 clear hP
 go_enter Tryz.func29, Tryz.ntmps29
 go_wp2_with fail
 obtain ⟨w1, hq1, hb9, hz9, Hout⟩ := new1 w 53 [.int .i64 0, .string ⟨#[]⟩, .string ⟨#[]⟩, .slice none 0 0]
 rw [hq1]
 clear hq1
 have HB := Lib.hid hb9
 have HZS := hz9
 clear hb9 hz9
 have out_ := Hout.out.c4
 go_wp2_with fail
 refine (HP.out w1).mono ?_
 rintro e w2 ⟨rfl, hb9⟩
 clear out_
 replace Hout := Lib.hid (Hout.out.up hb9)
 replace HB := hbu HB hb9
 replace HZS := sz HZS hb9.size
 clear hb9
 have out_ := Hout.out.c4
 have f3_out := Hout.out.frozen
 have o3_out_ := out_; clear out_
 obtain ⟨w3, hq3, hg9, hz9, hx9⟩ := put4 Hout 0 (.int .i64 0) 1 (.string ⟨#[]⟩) 2 (.string ⟨#[]⟩) 3 (.slice none 0 0) [.int .i64 0, .string ⟨#[]⟩, .string ⟨#[]⟩, .slice none 0 0] rfl
 replace HB := hbg HB hg9 (by have g0 := HZS.out; omega)
 replace HZS := sz HZS hz9.out
 replace Hout := hx9
 clear hx9 hg9 hz9
 have out_ := Hout.out.c4
 go_wp2_with fail
 clear hq3 o3_out_ f3_out
 simp [bodyPost, results, Tryz.results29, go_sem, out_]
 exact stampR_none _ HB.out
theorem bSign_stm (k : Int) (x name : ByteArray) (n : Int) (head seed P T : ByteArray) (se : Int) (hd : (se != 0) = true) (hP : ∀ w, Calls Tryz.prog 20 #[.int .i64 k, .string x] w (Gives (.tuple #[.string P, .int .i64 0]) w)) (hS : ∀ w, Calls Tryz.prog 89 #[.string name, .int .i64 n, .string head] w (Gives (.tuple #[.string T, .int .i64 se]) w)) (w : World) :
  Calls Tryz.prog 29 #[.int .i64 k, .string x, .string name, .int .i64 n, .string head, .string seed] w (StampR se 0 ⟨#[]⟩ ⟨#[]⟩ [] w) := by
 unfold Gives at hP hS
 have HP := Lib.hid hP
 have HS := Lib.hid hS
 clear hP hS
 go_enter Tryz.func29, Tryz.ntmps29
 go_wp2_with fail
 obtain ⟨w1, hq1, hb9, hz9, Hout⟩ := new1 w 53 [.int .i64 0, .string ⟨#[]⟩, .string ⟨#[]⟩, .slice none 0 0]
 rw [hq1]
 clear hq1
 have HB := Lib.hid hb9
 have HZS := hz9
 clear hb9 hz9
 have out_ := Hout.out.c4
 go_wp2_with fail
 refine (HP.out w1).mono ?_
 rintro e w2 ⟨rfl, hb9⟩
 clear out_
 replace Hout := Lib.hid (Hout.out.up hb9)
 replace HB := hbu HB hb9
 replace HZS := sz HZS hb9.size
 clear hb9
 have out_ := Hout.out.c4
 go_wp2_with fail
 refine (HS.out w2).mono ?_
 rintro e w3 ⟨rfl, hb9⟩
 clear out_
 replace Hout := Lib.hid (Hout.out.up hb9)
 replace HB := hbu HB hb9
 replace HZS := sz HZS hb9.size
 clear hb9
 have out_ := Hout.out.c4
 have f4_out := Hout.out.frozen
 have o4_out_ := out_; clear out_
 obtain ⟨w4, hq4, hg9, hz9, hx9⟩ := put4 Hout 0 (.int .i64 0) 1 (.string ⟨#[]⟩) 2 (.string ⟨#[]⟩) 3 (.slice none 0 0) [.int .i64 0, .string ⟨#[]⟩, .string ⟨#[]⟩, .slice none 0 0] rfl
 replace HB := hbg HB hg9 (by have g0 := HZS.out; omega)
 replace HZS := sz HZS hz9.out
 replace Hout := hx9
 clear hx9 hg9 hz9
 have out_ := Hout.out.c4
 go_wp2_with fail
 clear hq4 o4_out_ f4_out
 simp [bodyPost, results, Tryz.results29, go_sem, out_]
 exact stampR_none _ HB.out
theorem bSign_yes (k : Int) (x name : ByteArray) (n : Int) (head seed P T : ByteArray) (ge : Int) (C : ByteArray) (A : List ByteArray) (hP : ∀ w, Calls Tryz.prog 20 #[.int .i64 k, .string x] w (Gives (.tuple #[.string P, .int .i64 0]) w)) (hS : ∀ w, Calls Tryz.prog 89 #[.string name, .int .i64 n, .string head] w (Gives (.tuple #[.string T, .int .i64 0]) w)) (hG : ∀ w, Calls Tryz.prog 22 #[.int .i64 k, .string x, .string T, .string seed] w (ProveR ge C A w)) (w : World) :
  Calls Tryz.prog 29 #[.int .i64 k, .string x, .string name, .int .i64 n, .string head, .string seed] w (StampR ge n head C A w) := by
 unfold Gives at hP hS
 have HP := Lib.hid hP
 have HS := Lib.hid hS
 have HG := Lib.hid hG
 clear hP hS hG
 go_enter Tryz.func29, Tryz.ntmps29
 go_wp2_with fail
 obtain ⟨w1, hq1, hb9, hz9, Hout⟩ := new1 w 53 [.int .i64 0, .string ⟨#[]⟩, .string ⟨#[]⟩, .slice none 0 0]
 rw [hq1]
 clear hq1
 have HB := Lib.hid hb9
 have HZS := hz9
 clear hb9 hz9
 have out_ := Hout.out.c4
 go_wp2_with fail
 refine (HP.out w1).mono ?_
 rintro e w2 ⟨rfl, hb9⟩
 clear out_
 replace Hout := Lib.hid (Hout.out.up hb9)
 replace HB := hbu HB hb9
 replace HZS := sz HZS hb9.size
 clear hb9
 have out_ := Hout.out.c4
 go_wp2_with fail
 refine (HS.out w2).mono ?_
 rintro e w3 ⟨rfl, hb9⟩
 clear out_
 replace Hout := Lib.hid (Hout.out.up hb9)
 replace HB := hbu HB hb9
 replace HZS := sz HZS hb9.size
 clear hb9
 have out_ := Hout.out.c4
 go_wp2_with fail
 refine (HG.out w3).mono ?_
 rintro e w4 ⟨hb9, a1, c1, rfl, hs1, hz1, hc1, hf1⟩
 clear out_
 replace Hout := Lib.hid (Hout.out.up hb9)
 replace HB := hbu HB hb9
 replace HZS := sz HZS hb9.size
 have HS1 := Lib.hid hs1
 clear hs1
 have HF1 := Lib.hid hf1
 clear hf1 hb9
 have out_ := Hout.out.c4
 clear hz1 hc1
 have HNO := Lib.hid (show ∀ y, a1 = some y → y.block ≠ w.heap.size from fun y hy e => by have g1 := HF1.out y hy; have g2 := HZS.out; omega)
 have HFW := Lib.hid (show ∀ y, a1 = some y → w.heap.size ≤ y.block from fun y hy => by have g1 := HF1.out y hy; have g2 := HZS.out; omega)
 clear HF1
 have BS := Lib.hid (Below.refl w4.heap.size w4)
 have o5_out_ := out_; clear out_
 obtain ⟨w5, hq5, hb9, hz9, Hbs⟩ := new1 w4 25 [.string C, .slice a1 A.length c1]
 replace Hout := Lib.hid (Hout.out.up hb9)
 replace BS := hbu BS hb9
 replace HB := hbu HB hb9
 replace HZS := sz HZS hz9.out
 clear hb9 hz9
 have out_ := Hout.out.c4
 have bs_ := Hbs.out.c2
 replace HS1 := Lib.hid (HS1.out.up BS.out)
 replace HS1 := Lib.hid (Sl.setO HS1.out HNO.out 0 (.int .i64 n))
 replace HS1 := Lib.hid (Sl.setO HS1.out HNO.out 1 (.string head))
 replace HS1 := Lib.hid (Sl.setO HS1.out HNO.out 2 (.string C))
 replace HS1 := Lib.hid (Sl.setO HS1.out HNO.out 3 (.slice a1 A.length c1))
 have HRP := Lib.hid (show ∀ W, Below w.heap.size w W → Sl W W.heap.size a1 (A.map Value.string) → StampR ge n head C A w (.returned (.tuple #[.agg #[.int .i64 n, .string head, .string C, .slice a1 A.length c1], .int .i64 ge])) W from fun W h1 h2 => ⟨h1, a1, c1, rfl, h2, HFW.out⟩)
 clear BS
 have f6_out := Hout.out.frozen
 have o6_out_ := out_; clear out_
 have o6_bs_ := bs_; clear bs_
 obtain ⟨w6, hq6, hg9, hz9, hx9⟩ := put4 Hout 0 (.int .i64 n) 1 (.string head) 2 (.string C) 3 (.slice a1 A.length c1) [.int .i64 n, .string head, .string C, .slice a1 A.length c1] rfl
 replace Hbs := Lib.hid (Hbs.out.grown hg9.out (sne (by have g0 := HZS.out; omega)))
 replace HB := hbg HB hg9 (by have g0 := HZS.out; omega)
 replace HZS := sz HZS hz9.out
 replace Hout := hx9
 clear hx9 hg9 hz9
 have out_ := Hout.out.c4
 have bs_ := Hbs.out.c2
 rw [hq6] at HS1
 go_wp2_with fail
 clear hq6 o6_bs_ o6_out_ f6_out hq5 o5_out_
 simp [bodyPost, results, Tryz.results29, go_sem, out_]
 exact HRP.out _ HB.out HS1.out
end Go.Proofs.YtdlnnkbigeiilaaGreat
namespace Go.Proofs.YtdlnnkbigeiilaaGreat
open Go.RowKit
theorem rtag3 (name head : ByteArray) (n : Nat) (hn : name.size < 140737488355328) (hh : head.size = 32) (a : Option Addr) (c : Nat) (w : World) (hX : Sl w w.heap.size a [.string name, .string (fourS n), .string head]) :
  Calls Tryz.prog 83 #[.string stampB, .slice a 3 c] w fun e w' => e = .returned (.string (stmT name n head)) ∧ Below w.heap.size w w' :=
 rTag_any stampB [name, fourS n, head] 3 rfl (join_small stampB [name, fourS n, head] 0 (by simp) (by intro p hp; simp only [List.mem_cons, List.not_mem_nil, or_false] at hp; rcases hp with rfl | rfl | rfl; exact hn; (have h4 : (fourS n).size = 4 := rfl; omega); omega) (by decide)) a c w hX
theorem rStamped_ok (name head : ByteArray) (n : Nat) (h : n ≤ 1048576) (hh : head.size = 32) (hn : name.size < 140737488355328) (w : World) : Calls Tryz.prog 90 #[.string name, .int .i64 (n : Int), .string head] w (Gives (.string (stmT name n head)) w) := by
 have HF := Lib.hid (fun w => Four_any n (by omega) w)
 have HT := Lib.hid (fun a c w h => rtag3 name head n hn hh a c w h)
 generalize fourS n = F at *
 generalize stmT name n head = TT at *
 clear h hh hn
 unfold Gives
 go_enter Tryz.func90, Tryz.ntmps90
 go_wp2_with fail
 refine (HF.out w).mono ?_
 rintro e w1 ⟨rfl, hb9⟩
 have HB := Lib.hid hb9
 have HZS := Lib.hid hb9.size
 clear hb9
 obtain ⟨w2, hq2, hb9, hz9, Hrp⟩ := new1 w1 9 [.string name, .string F, .string head]
 replace HB := hbu HB hb9
 replace HZS := sz HZS hz9.out
 clear hb9 hz9
 have rp_ := Hrp.out.c3
 go_wp2_with fail
 clear hq2
 refine (HT.out _ _ w2 (Sl.ofB Hrp.out)).mono ?_
 rintro e w3 ⟨rfl, hb9⟩
 clear rp_
 replace Hrp := Lib.hid (Hrp.out.up hb9)
 replace HB := hbu HB hb9
 replace HZS := sz HZS hb9.size
 clear hb9
 have rp_ := Hrp.out.c3
 go_wp2_with fail
 go_ret
 exact ⟨rfl, HB.out⟩
theorem rSign7_pub (k : Int) (x name : ByteArray) (n : Int) (head seed P : ByteArray) (pe : Int) (hd : (pe != 0) = true) (hP : ∀ w, Calls Tryz.prog 21 #[.int .i64 k, .string x] w (Gives (.tuple #[.string P, .int .i64 pe]) w)) (w : World) :
  Calls Tryz.prog 30 #[.int .i64 k, .string x, .string name, .int .i64 n, .string head, .string seed] w (StampR pe 0 ⟨#[]⟩ ⟨#[]⟩ [] w) := by
 unfold Gives at hP
 have HP := Lib.hid hP
 clear hP
 go_enter Tryz.func30, Tryz.ntmps30
 go_wp2_with fail
 obtain ⟨w1, hq1, hb9, hz9, Hout⟩ := new1 w 53 [.int .i64 0, .string ⟨#[]⟩, .string ⟨#[]⟩, .slice none 0 0]
 rw [hq1]
 clear hq1
 have HB := Lib.hid hb9
 have HZS := hz9
 clear hb9 hz9
 have out_ := Hout.out.c4
 go_wp2_with fail
 refine (HP.out w1).mono ?_
 rintro e w2 ⟨rfl, hb9⟩
 clear out_
 replace Hout := Lib.hid (Hout.out.up hb9)
 replace HB := hbu HB hb9
 replace HZS := sz HZS hb9.size
 clear hb9
 have out_ := Hout.out.c4
 have f3_out := Hout.out.frozen
 have o3_out_ := out_; clear out_
 obtain ⟨w3, hq3, hg9, hz9, hx9⟩ := put4 Hout 0 (.int .i64 0) 1 (.string ⟨#[]⟩) 2 (.string ⟨#[]⟩) 3 (.slice none 0 0) [.int .i64 0, .string ⟨#[]⟩, .string ⟨#[]⟩, .slice none 0 0] rfl
 replace HB := hbg HB hg9 (by have g0 := HZS.out; omega)
 replace HZS := sz HZS hz9.out
 replace Hout := hx9
 clear hx9 hg9 hz9
 have out_ := Hout.out.c4
 go_wp2_with fail
 clear hq3 o3_out_ f3_out
 simp [bodyPost, results, Tryz.results30, go_sem, out_]
 exact stampR_none _ HB.out
theorem rSign7_form (k : Int) (x name : ByteArray) (n : Int) (head seed P : ByteArray) (h0 : ¬ n < 0) (h1 : ¬ 1048576 < n) (hd : ((head.size : Int) != 32) = true) (hP : ∀ w, Calls Tryz.prog 21 #[.int .i64 k, .string x] w (Gives (.tuple #[.string P, .int .i64 0]) w)) (w : World) :
  Calls Tryz.prog 30 #[.int .i64 k, .string x, .string name, .int .i64 n, .string head, .string seed] w (StampR 2 0 ⟨#[]⟩ ⟨#[]⟩ [] w) := by
 unfold Gives at hP
 have HP := Lib.hid hP
 clear hP
 go_enter Tryz.func30, Tryz.ntmps30
 go_wp2_with fail
 obtain ⟨w1, hq1, hb9, hz9, Hout⟩ := new1 w 53 [.int .i64 0, .string ⟨#[]⟩, .string ⟨#[]⟩, .slice none 0 0]
 rw [hq1]
 clear hq1
 have HB := Lib.hid hb9
 have HZS := hz9
 clear hb9 hz9
 have out_ := Hout.out.c4
 go_wp2_with fail
 refine (HP.out w1).mono ?_
 rintro e w2 ⟨rfl, hb9⟩
 clear out_
 replace Hout := Lib.hid (Hout.out.up hb9)
 replace HB := hbu HB hb9
 replace HZS := sz HZS hb9.size
 clear hb9
 have out_ := Hout.out.c4
 have f3_out := Hout.out.frozen
 have o3_out_ := out_; clear out_
 obtain ⟨w3, hq3, hg9, hz9, hx9⟩ := put4 Hout 0 (.int .i64 0) 1 (.string ⟨#[]⟩) 2 (.string ⟨#[]⟩) 3 (.slice none 0 0) [.int .i64 0, .string ⟨#[]⟩, .string ⟨#[]⟩, .slice none 0 0] rfl
 replace HB := hbg HB hg9 (by have g0 := HZS.out; omega)
 replace HZS := sz HZS hz9.out
 replace Hout := hx9
 clear hx9 hg9 hz9
 have out_ := Hout.out.c4
 go_wp2_with fail
 clear hq3 o3_out_ f3_out
 simp [bodyPost, results, Tryz.results30, go_sem, out_]
 exact stampR_none _ HB.out
theorem rSign7_low (k : Int) (x name : ByteArray) (n : Int) (head seed P : ByteArray) (h0 : n < 0) (hP : ∀ w, Calls Tryz.prog 21 #[.int .i64 k, .string x] w (Gives (.tuple #[.string P, .int .i64 0]) w)) (w : World) :
  Calls Tryz.prog 30 #[.int .i64 k, .string x, .string name, .int .i64 n, .string head, .string seed] w (StampR 4 0 ⟨#[]⟩ ⟨#[]⟩ [] w) := by
 unfold Gives at hP
 have HP := Lib.hid hP
 clear hP
 go_enter Tryz.func30, Tryz.ntmps30
 go_wp2_with fail
 obtain ⟨w1, hq1, hb9, hz9, Hout⟩ := new1 w 53 [.int .i64 0, .string ⟨#[]⟩, .string ⟨#[]⟩, .slice none 0 0]
 rw [hq1]
 clear hq1
 have HB := Lib.hid hb9
 have HZS := hz9
 clear hb9 hz9
 have out_ := Hout.out.c4
 go_wp2_with fail
 refine (HP.out w1).mono ?_
 rintro e w2 ⟨rfl, hb9⟩
 clear out_
 replace Hout := Lib.hid (Hout.out.up hb9)
 replace HB := hbu HB hb9
 replace HZS := sz HZS hb9.size
 clear hb9
 have out_ := Hout.out.c4
 have f3_out := Hout.out.frozen
 have o3_out_ := out_; clear out_
 obtain ⟨w3, hq3, hg9, hz9, hx9⟩ := put4 Hout 0 (.int .i64 0) 1 (.string ⟨#[]⟩) 2 (.string ⟨#[]⟩) 3 (.slice none 0 0) [.int .i64 0, .string ⟨#[]⟩, .string ⟨#[]⟩, .slice none 0 0] rfl
 replace HB := hbg HB hg9 (by have g0 := HZS.out; omega)
 replace HZS := sz HZS hz9.out
 replace Hout := hx9
 clear hx9 hg9 hz9
 have out_ := Hout.out.c4
 go_wp2_with fail
 clear hq3 o3_out_ f3_out
 simp [bodyPost, results, Tryz.results30, go_sem, out_]
 exact stampR_none _ HB.out
theorem rSign7_high (k : Int) (x name : ByteArray) (n : Int) (head seed P : ByteArray) (h0 : ¬ n < 0) (h1 : 1048576 < n) (hP : ∀ w, Calls Tryz.prog 21 #[.int .i64 k, .string x] w (Gives (.tuple #[.string P, .int .i64 0]) w)) (w : World) :
  Calls Tryz.prog 30 #[.int .i64 k, .string x, .string name, .int .i64 n, .string head, .string seed] w (StampR 4 0 ⟨#[]⟩ ⟨#[]⟩ [] w) := by
 unfold Gives at hP
 have HP := Lib.hid hP
 clear hP
 go_enter Tryz.func30, Tryz.ntmps30
 go_wp2_with fail
 obtain ⟨w1, hq1, hb9, hz9, Hout⟩ := new1 w 53 [.int .i64 0, .string ⟨#[]⟩, .string ⟨#[]⟩, .slice none 0 0]
 rw [hq1]
 clear hq1
 have HB := Lib.hid hb9
 have HZS := hz9
 clear hb9 hz9
 have out_ := Hout.out.c4
 go_wp2_with fail
 refine (HP.out w1).mono ?_
 rintro e w2 ⟨rfl, hb9⟩
 clear out_
 replace Hout := Lib.hid (Hout.out.up hb9)
 replace HB := hbu HB hb9
 replace HZS := sz HZS hb9.size
 clear hb9
 have out_ := Hout.out.c4
 have f3_out := Hout.out.frozen
 have o3_out_ := out_; clear out_
 obtain ⟨w3, hq3, hg9, hz9, hx9⟩ := put4 Hout 0 (.int .i64 0) 1 (.string ⟨#[]⟩) 2 (.string ⟨#[]⟩) 3 (.slice none 0 0) [.int .i64 0, .string ⟨#[]⟩, .string ⟨#[]⟩, .slice none 0 0] rfl
 replace HB := hbg HB hg9 (by have g0 := HZS.out; omega)
 replace HZS := sz HZS hz9.out
 replace Hout := hx9
 clear hx9 hg9 hz9
 have out_ := Hout.out.c4
 go_wp2_with fail
 clear hq3 o3_out_ f3_out
 simp [bodyPost, results, Tryz.results30, go_sem, out_]
 exact stampR_none _ HB.out
theorem rSign7_yes (k : Int) (x name : ByteArray) (n : Int) (head seed P T : ByteArray) (ge : Int) (C : ByteArray) (A : List ByteArray) (h0 : ¬ n < 0) (h1 : ¬ 1048576 < n) (hd : ((head.size : Int) != 32) = false) (hP : ∀ w, Calls Tryz.prog 21 #[.int .i64 k, .string x] w (Gives (.tuple #[.string P, .int .i64 0]) w)) (hS : ∀ w, Calls Tryz.prog 90 #[.string name, .int .i64 n, .string head] w (Gives (.string T) w)) (hG : ∀ w, Calls Tryz.prog 23 #[.int .i64 k, .string x, .string T, .string seed] w (ProveR ge C A w)) (w : World) :
  Calls Tryz.prog 30 #[.int .i64 k, .string x, .string name, .int .i64 n, .string head, .string seed] w (StampR ge n head C A w) := by
 unfold Gives at hP hS
 have HP := Lib.hid hP
 have HS := Lib.hid hS
 have HG := Lib.hid hG
 clear hP hS hG
 go_enter Tryz.func30, Tryz.ntmps30
 go_wp2_with fail
 obtain ⟨w1, hq1, hb9, hz9, Hout⟩ := new1 w 53 [.int .i64 0, .string ⟨#[]⟩, .string ⟨#[]⟩, .slice none 0 0]
 rw [hq1]
 clear hq1
 have HB := Lib.hid hb9
 have HZS := hz9
 clear hb9 hz9
 have out_ := Hout.out.c4
 go_wp2_with fail
 refine (HP.out w1).mono ?_
 rintro e w2 ⟨rfl, hb9⟩
 clear out_
 replace Hout := Lib.hid (Hout.out.up hb9)
 replace HB := hbu HB hb9
 replace HZS := sz HZS hb9.size
 clear hb9
 have out_ := Hout.out.c4
 go_wp2_with fail
 refine (HS.out w2).mono ?_
 rintro e w3 ⟨rfl, hb9⟩
 clear out_
 replace Hout := Lib.hid (Hout.out.up hb9)
 replace HB := hbu HB hb9
 replace HZS := sz HZS hb9.size
 clear hb9
 have out_ := Hout.out.c4
 go_wp2_with fail
 refine (HG.out w3).mono ?_
 rintro e w4 ⟨hb9, a1, c1, rfl, hs1, hz1, hc1, hf1⟩
 clear out_
 replace Hout := Lib.hid (Hout.out.up hb9)
 replace HB := hbu HB hb9
 replace HZS := sz HZS hb9.size
 have HS1 := Lib.hid hs1
 clear hs1
 have HF1 := Lib.hid hf1
 clear hf1 hb9
 have out_ := Hout.out.c4
 clear hz1 hc1
 have HNO := Lib.hid (show ∀ y, a1 = some y → y.block ≠ w.heap.size from fun y hy e => by have g1 := HF1.out y hy; have g2 := HZS.out; omega)
 have HFW := Lib.hid (show ∀ y, a1 = some y → w.heap.size ≤ y.block from fun y hy => by have g1 := HF1.out y hy; have g2 := HZS.out; omega)
 clear HF1
 have BS := Lib.hid (Below.refl w4.heap.size w4)
 have o5_out_ := out_; clear out_
 obtain ⟨w5, hq5, hb9, hz9, Hbs⟩ := new1 w4 25 [.string C, .slice a1 A.length c1]
 replace Hout := Lib.hid (Hout.out.up hb9)
 replace BS := hbu BS hb9
 replace HB := hbu HB hb9
 replace HZS := sz HZS hz9.out
 clear hb9 hz9
 have out_ := Hout.out.c4
 have bs_ := Hbs.out.c2
 replace HS1 := Lib.hid (HS1.out.up BS.out)
 replace HS1 := Lib.hid (Sl.setO HS1.out HNO.out 0 (.int .i64 n))
 replace HS1 := Lib.hid (Sl.setO HS1.out HNO.out 1 (.string head))
 replace HS1 := Lib.hid (Sl.setO HS1.out HNO.out 2 (.string C))
 replace HS1 := Lib.hid (Sl.setO HS1.out HNO.out 3 (.slice a1 A.length c1))
 have HRP := Lib.hid (show ∀ W, Below w.heap.size w W → Sl W W.heap.size a1 (A.map Value.string) → StampR ge n head C A w (.returned (.tuple #[.agg #[.int .i64 n, .string head, .string C, .slice a1 A.length c1], .int .i64 ge])) W from fun W h1 h2 => ⟨h1, a1, c1, rfl, h2, HFW.out⟩)
 clear BS
 have f6_out := Hout.out.frozen
 have o6_out_ := out_; clear out_
 have o6_bs_ := bs_; clear bs_
 obtain ⟨w6, hq6, hg9, hz9, hx9⟩ := put4 Hout 0 (.int .i64 n) 1 (.string head) 2 (.string C) 3 (.slice a1 A.length c1) [.int .i64 n, .string head, .string C, .slice a1 A.length c1] rfl
 replace Hbs := Lib.hid (Hbs.out.grown hg9.out (sne (by have g0 := HZS.out; omega)))
 replace HB := hbg HB hg9 (by have g0 := HZS.out; omega)
 replace HZS := sz HZS hz9.out
 replace Hout := hx9
 clear hx9 hg9 hz9
 have out_ := Hout.out.c4
 have bs_ := Hbs.out.c2
 rw [hq6] at HS1
 go_wp2_with fail
 clear hq6 o6_bs_ o6_out_ f6_out hq5 o5_out_
 simp [bodyPost, results, Tryz.results30, go_sem, out_]
 exact HRP.out _ HB.out HS1.out
end Go.Proofs.YtdlnnkbigeiilaaGreat
namespace Go.Proofs.YtdlnnkbigeiilaaGreat
open Go.RowKit
theorem rSigned7_low (k : Int) (pub name : ByteArray) (n : Int) (head ch : ByteArray) (v : Value) (h0 : decide (0 ≤ n) = false) (w : World) :
  Calls Tryz.prog 33 #[.int .i64 k, .string pub, .string name, .agg #[.int .i64 n, .string head, .string ch, v]] w (Gives (.bool false) w) := by
 unfold Gives
 go_enter Tryz.func33, Tryz.ntmps33
 go_wp2_with fail
 obtain ⟨w1, hq1, hb9, hz9, Hbp⟩ := new1 w 53 [.int .i64 n, .string head, .string ch, v]
 rw [hq1]
 clear hq1
 have HB := Lib.hid hb9
 have HZS := hz9
 clear hb9 hz9
 have bp_ := Hbp.out.c4
 go_wp2_with fail
 have HT := Lib.hid (show Below w1.heap.size w1 w1.drew from (Below.refl _ _).drew)
 have hl_bp := Hbp.out.lt
 refine wp_region_tree (fun wq9 => ∃ E : Over w1, wq9 = E.w) ((.qs [0, 1, 2, 3, 4, 5, 6, 7, 8, 9, 10, 11, 12, 13, 14, 15, 16, 17, 18, 19, 20, 21, 23, 24] (.a 22 (.a 25 (.qs [26, 27] .done))))) (by kernel_rfl) (by kernel_rfl) (fun _ _ d _ _ h => by cases d <;> exact h) ⟨⟨_, HT.out⟩, rfl⟩ ?_
 have hov_bp := fun (E : Over w1) o => E.cell (b := w.heap.size) o hl_bp
 simp only [Tree.qs]
 repeat (refine tree_q rfl rfl ?_; go_big_quiet_step (fail); refine wpQuiet_nil ?_)
 refine tree_a rfl (fun K hK => ?_)
 go_simp
 refine hK _ _ ⟨⟨⟨_, HT.out⟩, rfl⟩, ?_⟩
 clear hK K
 repeat (refine tree_q rfl rfl ?_; go_big_quiet_step (fail); refine wpQuiet_nil ?_)
 refine tree_a rfl (fun K hK => ?_)
 go_simp
 refine hK _ _ ⟨⟨⟨_, HT.out⟩, rfl⟩, ?_⟩
 clear hK K
 repeat (refine tree_q rfl rfl ?_; go_big_quiet_step (fail); refine wpQuiet_nil ?_)
 refine tree_end ?_
 clear hov_bp hl_bp bp_
 replace Hbp := Lib.hid (Hbp.out.up HT.out)
 replace HB := hbu HB HT.out
 replace HZS := sz HZS HT.out.size
 clear HT
 have bp_ := Hbp.out.c4
 go_wp2_with fail
 go_ret
 exact ⟨rfl, HB.out⟩
theorem rSigned7_high (k : Int) (pub name : ByteArray) (n : Int) (head ch : ByteArray) (v : Value) (h0 : 0 ≤ n) (h1 : decide (n ≤ 1048576) = false) (w : World) :
  Calls Tryz.prog 33 #[.int .i64 k, .string pub, .string name, .agg #[.int .i64 n, .string head, .string ch, v]] w (Gives (.bool false) w) := by
 unfold Gives
 go_enter Tryz.func33, Tryz.ntmps33
 go_wp2_with fail
 obtain ⟨w1, hq1, hb9, hz9, Hbp⟩ := new1 w 53 [.int .i64 n, .string head, .string ch, v]
 rw [hq1]
 clear hq1
 have HB := Lib.hid hb9
 have HZS := hz9
 clear hb9 hz9
 have bp_ := Hbp.out.c4
 go_wp2_with fail
 have HT := Lib.hid (show Below w1.heap.size w1 w1.drew from (Below.refl _ _).drew)
 have hl_bp := Hbp.out.lt
 refine wp_region_tree (fun wq9 => ∃ E : Over w1, wq9 = E.w) ((.qs [0, 1, 2, 3, 4, 5, 6, 7, 8, 9, 10, 11, 12, 13, 14, 15, 16, 17, 18, 19, 20, 21, 23, 24] (.a 22 (.a 25 (.qs [26, 27] .done))))) (by kernel_rfl) (by kernel_rfl) (fun _ _ d _ _ h => by cases d <;> exact h) ⟨⟨_, HT.out⟩, rfl⟩ ?_
 have hov_bp := fun (E : Over w1) o => E.cell (b := w.heap.size) o hl_bp
 simp only [Tree.qs]
 repeat (refine tree_q rfl rfl ?_; go_big_quiet_step (fail); refine wpQuiet_nil ?_)
 refine tree_a rfl (fun K hK => ?_)
 go_simp
 refine hK _ _ ⟨⟨⟨_, HT.out⟩, rfl⟩, ?_⟩
 clear hK K
 repeat (refine tree_q rfl rfl ?_; go_big_quiet_step (fail); refine wpQuiet_nil ?_)
 refine tree_a rfl (fun K hK => ?_)
 go_simp
 refine hK _ _ ⟨⟨⟨_, HT.out⟩, rfl⟩, ?_⟩
 clear hK K
 repeat (refine tree_q rfl rfl ?_; go_big_quiet_step (fail); refine wpQuiet_nil ?_)
 refine tree_end ?_
 clear hov_bp hl_bp bp_
 replace Hbp := Lib.hid (Hbp.out.up HT.out)
 replace HB := hbu HB HT.out
 replace HZS := sz HZS HT.out.size
 clear HT
 have bp_ := Hbp.out.c4
 go_wp2_with fail
 go_ret
 exact ⟨rfl, HB.out⟩
theorem rSigned7_form (k : Int) (pub name : ByteArray) (n : Int) (head ch : ByteArray) (v : Value) (h0 : 0 ≤ n) (h1 : n ≤ 1048576) (hd : ((head.size : Int) == 32) = false) (w : World) :
  Calls Tryz.prog 33 #[.int .i64 k, .string pub, .string name, .agg #[.int .i64 n, .string head, .string ch, v]] w (Gives (.bool false) w) := by
 unfold Gives
 go_enter Tryz.func33, Tryz.ntmps33
 go_wp2_with fail
 obtain ⟨w1, hq1, hb9, hz9, Hbp⟩ := new1 w 53 [.int .i64 n, .string head, .string ch, v]
 rw [hq1]
 clear hq1
 have HB := Lib.hid hb9
 have HZS := hz9
 clear hb9 hz9
 have bp_ := Hbp.out.c4
 go_wp2_with fail
 have HT := Lib.hid (show Below w1.heap.size w1 w1.drew from (Below.refl _ _).drew)
 have hl_bp := Hbp.out.lt
 refine wp_region_tree (fun wq9 => ∃ E : Over w1, wq9 = E.w) ((.qs [0, 1, 2, 3, 4, 5, 6, 7, 8, 9, 10, 11, 12, 13, 14, 15, 16, 17, 18, 19, 20, 21, 23, 24] (.a 22 (.a 25 (.qs [26, 27] .done))))) (by kernel_rfl) (by kernel_rfl) (fun _ _ d _ _ h => by cases d <;> exact h) ⟨⟨_, HT.out⟩, rfl⟩ ?_
 have hov_bp := fun (E : Over w1) o => E.cell (b := w.heap.size) o hl_bp
 simp only [Tree.qs]
 repeat (refine tree_q rfl rfl ?_; go_big_quiet_step (fail); refine wpQuiet_nil ?_)
 refine tree_a rfl (fun K hK => ?_)
 go_simp
 refine hK _ _ ⟨⟨⟨_, HT.out⟩, rfl⟩, ?_⟩
 clear hK K
 repeat (refine tree_q rfl rfl ?_; go_big_quiet_step (fail); refine wpQuiet_nil ?_)
 refine tree_a rfl (fun K hK => ?_)
 go_simp
 refine hK _ _ ⟨⟨⟨_, HT.out⟩, rfl⟩, ?_⟩
 clear hK K
 repeat (refine tree_q rfl rfl ?_; go_big_quiet_step (fail); refine wpQuiet_nil ?_)
 refine tree_end ?_
 clear hov_bp hl_bp bp_
 replace Hbp := Lib.hid (Hbp.out.up HT.out)
 replace HB := hbu HB HT.out
 replace HZS := sz HZS HT.out.size
 clear HT
 have bp_ := Hbp.out.c4
 go_wp2_with fail
 go_ret
 exact ⟨rfl, HB.out⟩
theorem rSigned7_yes (k : Int) (pub name : ByteArray) (n : Int) (head ch T : ByteArray) (ax : Option Addr) (m cx : Nat) (b : Bool) (h0 : 0 ≤ n) (h1 : n ≤ 1048576) (hd : ((head.size : Int) == 32) = true) (w : World) (hS : ∀ w, Calls Tryz.prog 90 #[.string name, .int .i64 n, .string head] w (Gives (.string T) w)) (hG : ∀ w1, Below w.heap.size w w1 → Calls Tryz.prog 25 #[.int .i64 k, .string pub, .string T, .agg #[.string ch, .slice ax m cx]] w1 (Gives (.bool b) w1)) :
  Calls Tryz.prog 33 #[.int .i64 k, .string pub, .string name, .agg #[.int .i64 n, .string head, .string ch, .slice ax m cx]] w (Gives (.bool b) w) := by
 unfold Gives at hS hG
 have HS := Lib.hid hS
 have HG := Lib.hid hG
 clear hS hG
 unfold Gives
 go_enter Tryz.func33, Tryz.ntmps33
 go_wp2_with fail
 obtain ⟨w1, hq1, hb9, hz9, Hbp⟩ := new1 w 53 [.int .i64 n, .string head, .string ch, .slice ax m cx]
 rw [hq1]
 clear hq1
 have HB := Lib.hid hb9
 have HZS := hz9
 clear hb9 hz9
 have bp_ := Hbp.out.c4
 go_wp2_with fail
 have HW := Lib.hid HB.out
 have HT := Lib.hid (show Below w1.heap.size w1 w1.drew from (Below.refl _ _).drew)
 have hl_bp := Hbp.out.lt
 refine wp_region_tree (fun wq9 => ∃ E : Over w1, wq9 = E.w) ((.qs [0, 1, 2, 3, 4, 5, 6, 7, 8, 9, 10, 11, 12, 13, 14, 15, 16, 17, 18, 19, 20, 21, 23, 24] (.a 22 (.a 25 (.qs [26, 27] .done))))) (by kernel_rfl) (by kernel_rfl) (fun _ _ d _ _ h => by cases d <;> exact h) ⟨⟨_, HT.out⟩, rfl⟩ ?_
 have hov_bp := fun (E : Over w1) o => E.cell (b := w.heap.size) o hl_bp
 simp only [Tree.qs]
 repeat (refine tree_q rfl rfl ?_; go_big_quiet_step (fail); refine wpQuiet_nil ?_)
 refine tree_a rfl (fun K hK => ?_)
 go_simp
 refine (HS.out _).mono ?_
 rintro e w2 ⟨rfl, hb9⟩
 replace HT := Lib.hid (below_up HT.out hb9)
 replace HZS := sz HZS (show w1.heap.size ≤ w2.heap.size from HT.out.size)
 clear hb9
 refine hK _ _ ⟨⟨⟨w2, HT.out⟩, rfl⟩, ?_⟩
 clear hK K
 repeat (refine tree_q rfl rfl ?_; go_big_quiet_step (fail); refine wpQuiet_nil ?_)
 refine tree_a rfl (fun K hK => ?_)
 go_simp
 refine (HG.out _ (below_up HW.out HT.out)).mono ?_
 rintro e w3 ⟨rfl, hb9⟩
 replace HT := Lib.hid (below_up HT.out hb9)
 replace HZS := sz HZS (show w1.heap.size ≤ w3.heap.size from HT.out.size)
 clear hb9
 refine hK _ _ ⟨⟨⟨w3, HT.out⟩, rfl⟩, ?_⟩
 clear hK K
 repeat (refine tree_q rfl rfl ?_; go_big_quiet_step (fail); refine wpQuiet_nil ?_)
 refine tree_end ?_
 clear hov_bp hl_bp bp_
 replace Hbp := Lib.hid (Hbp.out.up HT.out)
 replace HB := hbu HB HT.out
 replace HZS := sz HZS HT.out.size
 clear HT
 have bp_ := Hbp.out.c4
 go_wp2_with fail
 go_ret
 exact ⟨rfl, HB.out⟩
end Go.Proofs.YtdlnnkbigeiilaaGreat
namespace Go.Proofs.YtdlnnkbigeiilaaGreat
open Go.RowKit
theorem rSplit_gen (k : Int) (pub name : ByteArray) (n1 n2 : Int) (h1 h2 c1 c2 : ByteArray) (v1 v2 : Value) (b1 b2 d1 d2 : Bool) (hde : (n1 == n2) = d1) (hd2 : (h1.toList == h2.toList) = d2) (w : World)
  (hA : ∀ w1, Below w.heap.size w w1 → Calls Tryz.prog 33 #[.int .i64 k, .string pub, .string name, .agg #[.int .i64 n1, .string h1, .string c1, v1]] w1 (Gives (.bool b1) w1))
  (hB : ∀ w1, Below w.heap.size w w1 → Calls Tryz.prog 33 #[.int .i64 k, .string pub, .string name, .agg #[.int .i64 n2, .string h2, .string c2, v2]] w1 (Gives (.bool b2) w1)) :
  Calls Tryz.prog 35 #[.int .i64 k, .string pub, .string name, .agg #[.int .i64 n1, .string h1, .string c1, v1], .agg #[.int .i64 n2, .string h2, .string c2, v2]] w (Gives (.bool (d1 && (!d2 && (b1 && b2)))) w) := by
 unfold Gives at hA hB
 have HA := Lib.hid hA
 have HC := Lib.hid hB
 clear hA hB
 unfold Gives
 cases b1
 ·go_enter Tryz.func35, Tryz.ntmps35
  go_wp2_with fail
  obtain ⟨w1, hq1, hb9, hz9, Hbp, Hbq⟩ := new2 w 53 [.int .i64 n1, .string h1, .string c1, v1] 53 [.int .i64 n2, .string h2, .string c2, v2]
  rw [hq1]
  clear hq1
  have HB := Lib.hid hb9
  have HZS := hz9
  clear hb9 hz9
  have bp_ := Hbp.out.c4
  have bq_ := Hbq.out.c4
  go_wp2_with fail
  refine (HA.out w1 HB.out).mono ?_
  rintro e w2 ⟨rfl, hb9⟩
  clear bp_
  replace Hbp := Lib.hid (Hbp.out.up hb9)
  clear bq_
  replace Hbq := Lib.hid (Hbq.out.up hb9)
  replace HB := hbu HB hb9
  replace HZS := sz HZS hb9.size
  clear hb9
  have bp_ := Hbp.out.c4
  have bq_ := Hbq.out.c4
  go_wp2_with fail
  go_ret
  exact ⟨by simp, HB.out⟩
 ·go_enter Tryz.func35, Tryz.ntmps35
  go_wp2_with fail
  obtain ⟨w1, hq1, hb9, hz9, Hbp, Hbq⟩ := new2 w 53 [.int .i64 n1, .string h1, .string c1, v1] 53 [.int .i64 n2, .string h2, .string c2, v2]
  rw [hq1]
  clear hq1
  have HB := Lib.hid hb9
  have HZS := hz9
  clear hb9 hz9
  have bp_ := Hbp.out.c4
  have bq_ := Hbq.out.c4
  go_wp2_with fail
  refine (HA.out w1 HB.out).mono ?_
  rintro e w2 ⟨rfl, hb9⟩
  clear bp_
  replace Hbp := Lib.hid (Hbp.out.up hb9)
  clear bq_
  replace Hbq := Lib.hid (Hbq.out.up hb9)
  replace HB := hbu HB hb9
  replace HZS := sz HZS hb9.size
  clear hb9
  have bp_ := Hbp.out.c4
  have bq_ := Hbq.out.c4
  go_wp2_with fail
  refine (HC.out w2 HB.out).mono ?_
  rintro e w3 ⟨rfl, hb9⟩
  clear bp_
  replace Hbp := Lib.hid (Hbp.out.up hb9)
  clear bq_
  replace Hbq := Lib.hid (Hbq.out.up hb9)
  replace HB := hbu HB hb9
  replace HZS := sz HZS hb9.size
  clear hb9
  have bp_ := Hbp.out.c4
  have bq_ := Hbq.out.c4
  cases b2
  ·go_wp2_with fail
   go_ret
   exact ⟨by simp, HB.out⟩
  ·cases d1
   ·go_wp2_with fail
    go_ret
    exact ⟨by simp, HB.out⟩
   ·cases d2
    ·go_wp2_with fail
     go_ret
     exact ⟨by simp, HB.out⟩
    ·go_wp2_with fail
     go_ret
     exact ⟨by simp, HB.out⟩
end Go.Proofs.YtdlnnkbigeiilaaGreat
namespace Go.Proofs.YtdlnnkbigeiilaaGreat
open Go.RowKit
def bsnE (k : Int) (x : ByteArray) (n : Int) (head : ByteArray) : Nat := if pubE k x ≠ 0 then pubE k x else if stmE n head ≠ 0 then stmE n head else sgnE k x
def bsnOk (k : Int) (x : ByteArray) (n : Int) (head : ByteArray) : Bool := decide (pubE k x = 0) && decide (stmE n head = 0)
def bsnN (k : Int) (x : ByteArray) (n : Int) (head : ByteArray) : Int := if bsnOk k x n head = true then n else 0
def bsnH (k : Int) (x : ByteArray) (n : Int) (head : ByteArray) : ByteArray := if bsnOk k x n head = true then head else ⟨#[]⟩
def bsnC (k : Int) (x name : ByteArray) (n : Int) (head seed : ByteArray) : ByteArray := if bsnOk k x n head = true then sgnC k x (stmT name n.toNat head) seed else ⟨#[]⟩
def bsnA (k : Int) (x name : ByteArray) (n : Int) (head seed : ByteArray) : List ByteArray := if bsnOk k x n head = true then sgnA k x (stmT name n.toNat head) seed else []
theorem bSign_any (k : Int) (x name : ByteArray) (hnm : name.size < 140737488355328) (n : Int) (head seed : ByteArray) (hsd : seed.size < 140737488355328) (w : World) :
  Calls Tryz.prog 29 #[.int .i64 k, .string x, .string name, .int .i64 n, .string head, .string seed] w (StampR (bsnE k x n head : Int) (bsnN k x n head) (bsnH k x n head) (bsnC k x name n head seed) (bsnA k x name n head seed) w) := by
 have hP := fun w => sPub_any k x w
 have hS := fun w => stamped_any name head n hnm w
 unfold bsnE bsnN bsnH bsnC bsnA bsnOk
 by_cases g : pubE k x = 0
 ·by_cases g2 : stmE n head = 0
  ·rw [decide_eq_true g, decide_eq_true g2, if_neg (by rw [g]; simp), if_neg (by rw [g2]; simp)]
   rw [g] at hP
   rw [g2] at hS
   have hT : stmS name n head = stmT name n.toNat head := by unfold stmS; rw [if_pos g2]
   rw [hT] at hS
   exact bSign_yes k x name n head seed _ _ _ _ _ hP hS (fun w => sSign_any k x _ seed (by rw [stmT_size]; decide) hsd w) w
  ·rw [decide_eq_true g, decide_eq_false g2, if_neg (by rw [g]; simp), if_pos g2]
   rw [g] at hP
   exact bSign_stm k x name n head seed _ _ _ (by simp [g2]) hP hS w
 ·rw [decide_eq_false g, if_pos g]
  exact bSign_pub k x name n head seed _ _ (by simp [g]) hP w
theorem rSign7_any (k : Int) (x name : ByteArray) (hnm : name.size < 140737488355328) (n : Int) (head seed : ByteArray) (hsd : seed.size < 140737488355328) (w : World) :
  Calls Tryz.prog 30 #[.int .i64 k, .string x, .string name, .int .i64 n, .string head, .string seed] w (StampR (bsnE k x n head : Int) (bsnN k x n head) (bsnH k x n head) (bsnC k x name n head seed) (bsnA k x name n head seed) w) := by
 have hP := fun w => rPub_any k x w
 unfold bsnE bsnN bsnH bsnC bsnA bsnOk
 by_cases g : pubE k x = 0
 ·rw [g] at hP
  by_cases hr : 0 ≤ n ∧ n ≤ 1048576
  ·by_cases hh : head.size = 32
   ·have g2 : stmE n head = 0 := by unfold stmE; rw [if_pos hr, if_pos hh]
    rw [decide_eq_true g, decide_eq_true g2, if_neg (by rw [g]; simp), if_neg (by rw [g2]; simp)]
    obtain ⟨m, rfl⟩ : ∃ m : Nat, n = (m : Int) := ⟨n.toNat, by omega⟩
    exact rSign7_yes k x name m head seed _ _ _ _ _ (by omega) (by omega) (by simp [hh]) hP (fun w => rStamped_ok name head m (by omega) hh hnm w) (fun w => rSign_any k x _ seed (by rw [stmT_size]; decide) hsd w) w
   ·have g2 : stmE n head = 2 := by unfold stmE; rw [if_pos hr, if_neg hh]
    rw [decide_eq_true g, g2, if_neg (by rw [g]; simp)]
    exact rSign7_form k x name n head seed _ (by omega) (by omega) (by simp; omega) hP w
  ·have g2 : stmE n head = 4 := by unfold stmE; rw [if_neg hr]
   rw [decide_eq_true g, g2, if_neg (by rw [g]; simp)]
   by_cases hl : n < 0
   ·exact rSign7_low k x name n head seed _ hl hP w
   ·exact rSign7_high k x name n head seed _ hl (by omega) hP w
 ·rw [decide_eq_false g, if_pos g]
  exact rSign7_pub k x name n head seed _ _ (by simp [g]) hP w
end Go.Proofs.YtdlnnkbigeiilaaGreat
namespace Go.Proofs.YtdlnnkbigeiilaaGreat
open Go.RowKit
theorem rSigned7_any (k : Int) (pub name : ByteArray) (hnm : name.size < 140737488355328) (s : StampA) (w : World) (h : s.At w) : Calls Tryz.prog 33 #[.int .i64 k, .string pub, .string name, s.val] w (Gives (.bool (bsgA k pub name s)) w) := by
 unfold StampA.val bsgA bsgK
 by_cases h0 : 0 ≤ s.n
 ·by_cases h1 : s.n ≤ 1048576
  ·by_cases hh : s.h.size = 32
   ·have g2 : stmE s.n s.h = 0 := by unfold stmE; rw [if_pos ⟨h0, h1⟩, if_pos hh]
    have hT : stmS name s.n s.h = stmT name s.n.toNat s.h := by unfold stmS; rw [if_pos g2]
    rw [decide_eq_true g2, Bool.true_and, hT]
    refine rSigned7_yes k pub name s.n s.h s.c (stmT name s.n.toNat s.h) s.a s.l.length s.r _ h0 h1 (by simp [hh]) w (fun w => ?_) (fun w1 hb => rSigned_any k pub _ s.c (by rw [stmT_size]; decide) s.l s.a s.r h.2 w1 (h.1.up hb))
    have h9 := rStamped_ok name s.h s.n.toNat (by omega) hh hnm w
    rwa [Int.toNat_of_nonneg h0] at h9
   ·have g2 : stmE s.n s.h = 2 := by unfold stmE; rw [if_pos ⟨h0, h1⟩, if_neg hh]
    rw [g2]
    exact rSigned7_form k pub name s.n s.h s.c _ h0 h1 (by simp; omega) w
  ·have g2 : stmE s.n s.h = 4 := by unfold stmE; rw [if_neg (by omega)]
   rw [g2]
   exact rSigned7_high k pub name s.n s.h s.c _ h0 (by simp; omega) w
 ·have g2 : stmE s.n s.h = 4 := by unfold stmE; rw [if_neg (by omega)]
  rw [g2]
  exact rSigned7_low k pub name s.n s.h s.c _ (by simp; omega) w
theorem rSplit_any (k : Int) (pub name : ByteArray) (hnm : name.size < 140737488355328) (s t : StampA) (w : World) (hs : s.At w) (ht : t.At w) :
  Calls Tryz.prog 35 #[.int .i64 k, .string pub, .string name, s.val, t.val] w (Gives (.bool (bspK k pub name s t)) w) := by
 unfold bspK
 exact rSplit_gen k pub name s.n t.n s.h t.h s.c t.c _ _ _ _ _ _ (by by_cases g : s.n = t.n <;> simp [g]) rfl w (fun w1 hb => rSigned7_any k pub name hnm s w1 (hs.up hb)) (fun w1 hb => rSigned7_any k pub name hnm t w1 (ht.up hb))
end Go.Proofs.YtdlnnkbigeiilaaGreat
namespace Go.Proofs.YtdlnnkbigeiilaaGreat
open Go.RowKit
theorem toList_bne7 {a b : ByteArray} (h : ¬ a = b) : (a.toList == b.toList) = false := beq_eq_false_iff_ne.2 (fun e => h (by
 have h9 : (a == b) = true := by rw [beq_toListBytes]; exact beq_iff_eq.2 e
 obtain ⟨x⟩ := a
 obtain ⟨y⟩ := b
 have h10 : (x == y) = true := h9
 rw [eq_of_beq h10]))
theorem Sl.atUp7 {w w1 : World} {a : Option Addr} {cs : List Value} (h : Sl w w.heap.size a cs) (hb : Below w.heap.size w w1) (i : Nat) (hi : i < cs.length) :
  ∃ b off, a = some ⟨b, off, none⟩ ∧ b < w.heap.size ∧ b < w1.heap.size ∧ w1.cell? ⟨b, off + i, none⟩ = some cs[i] := by
 obtain ⟨b, off, rfl, hl, hc⟩ := h.at i hi
 exact ⟨b, off, rfl, hl, Nat.lt_of_lt_of_le hl hb.size, (hb.cell (p := ⟨b, off + i, none⟩) hl).trans hc⟩
theorem take_eq_snoc7 {l m : List ByteArray} {j : Nat} (hl : j < l.length) (hm : j < m.length) (h : l.take j = m.take j) (h1 : l[j] = m[j]) : l.take (j + 1) = m.take (j + 1) := by
 rw [List.take_succ_eq_append_getElem hl, List.take_succ_eq_append_getElem hm, h, h1]
theorem same7_any (l m : List ByteArray) (al am : Option Addr) (cl cm : Nat) (hl : l.length ≤ 8796093022207) (b : Bool) (hb : decide (l = m) = b) (w : World) (hL : Sl w w.heap.size al (l.map Value.string)) (hM : Sl w w.heap.size am (m.map Value.string)) :
  Calls Tryz.prog 91 #[.slice al l.length cl, .slice am m.length cm] w (Gives (.bool b) w) := by
 have HL := Lib.hid hL
 have HM := Lib.hid hM
 have HBB := Lib.hid hb
 clear hL hM hb
 unfold Gives
 by_cases h1 : l.length = m.length
 ·have hd : ((l.length : Int) != (m.length : Int)) = false := by rw [bne_eq_false_iff_eq]; omega
  obtain ⟨n, hn⟩ : ∃ n, l.length = n := ⟨_, rfl⟩
  have hm : m.length = n := by omega
  have HNL := Lib.hid hn
  have HNM := Lib.hid hm
  rw [hn] at hd hl ⊢
  rw [hm] at hd ⊢
  clear h1 hn hm
  go_enter Tryz.func91, Tryz.ntmps91
  go_wp2_with fail
  go_loopw [13] (fun i wr => ∃ j : Nat, j ≤ n ∧ i = .int .i64 j ∧ Hid (Below w.heap.size w wr) ∧ Hid (l.take j = m.take j)) (fun i _ => n - (intOf i).toNat)
  case atStart => exact ⟨0, Nat.zero_le _, rfl, Below.refl _ _, rfl⟩
  case round =>
   obtain ⟨j, hj, rfl, HB, HT⟩ := hrel
   by_cases hjn : j < n
   ·skip
    have hjl : j < l.length := by rw [HNL.out]; exact hjn
    have hjm : j < m.length := by rw [HNM.out]; exact hjn
    obtain ⟨b1, o1, rfl, hb10, hb1, hc1⟩ := HL.out.atUp7 HB.out j (by simpa using hjl)
    obtain ⟨b2, o2, rfl, hb20, hb2, hc2⟩ := HM.out.atUp7 HB.out j (by simpa using hjm)
    rw [List.getElem_map] at hc1 hc2
    have HTS := Lib.hid (take_eq_snoc7 hjl hjm HT.out)
    have HNE := Lib.hid (fun (h : ¬ l[j] = m[j]) => (show ¬ l = m from fun e => h (by subst e; rfl)))
    generalize l[j] = x at *
    generalize m[j] = y at *
    by_cases hxy : x = y
    ·have HF := Lib.hid (HTS.out hxy)
     subst hxy
     go_wp2_with fail
     refine wp_region_over (by kernel_rfl) (by kernel_rfl) ?_
     have hov_b1 := fun (E : Over wr) o => E.cell (b := b1) o hb1
     have hov_b2 := fun (E : Over wr) o => E.cell (b := b2) o hb2
     repeat (go_big_quiet_step (first | fail))
     all_goals (try unfold elV limbV)
     repeat (go_big_quiet_step (first | fail))
     all_goals (try unfold elV limbV)
     repeat (go_big_quiet_step (first | fail))
     all_goals (try unfold ciphV)
     refine wpQuiet_nil ?_
     rintro _ ⟨E, rfl⟩
     clear hov_b1 hov_b2
     replace HB := hbu HB E.h
     have HZS := Lib.hid E.h.size
     obtain ⟨w1, hq9⟩ : ∃ W9 : World, E.w = W9 := ⟨_, rfl⟩
     rw [hq9] at HB HZS ⊢
     clear hq9 E
     go_wp2_with fail
     go_roundw
     case rel => exact ⟨j + 1, by omega, by go_num, HB, HF⟩
     case measure => simp [intOf]; omega
    ·obtain rfl : b = false := by rw [← HBB.out]; exact decide_eq_false (HNE.out hxy)
     have hcd := toList_bne7 hxy
     clear hxy
     go_wp2_with fail
     refine wp_region_over (by kernel_rfl) (by kernel_rfl) ?_
     have hov_b1 := fun (E : Over wr) o => E.cell (b := b1) o hb1
     have hov_b2 := fun (E : Over wr) o => E.cell (b := b2) o hb2
     repeat (go_big_quiet_step (first | fail))
     all_goals (try unfold elV limbV)
     repeat (go_big_quiet_step (first | fail))
     all_goals (try unfold elV limbV)
     repeat (go_big_quiet_step (first | fail))
     all_goals (try unfold ciphV)
     refine wpQuiet_nil ?_
     rintro _ ⟨E, rfl⟩
     clear hov_b1 hov_b2
     replace HB := hbu HB E.h
     have HZS := Lib.hid E.h.size
     obtain ⟨w1, hq9⟩ : ∃ W9 : World, E.w = W9 := ⟨_, rfl⟩
     rw [hq9] at HB HZS ⊢
     clear hq9 E
     go_wp2_with fail
     go_ret
     exact ⟨rfl, HB.out⟩
   ·have hjn' : j = n := by omega
    subst hjn'
    obtain rfl : b = true := by
     rw [← HBB.out]
     refine decide_eq_true ?_
     have h9 := HT.out
     rwa [List.take_of_length_le (by rw [HNL.out]; exact Nat.le_refl _), List.take_of_length_le (by rw [HNM.out]; exact Nat.le_refl _)] at h9
    go_wp2_with fail
    go_ret
    exact ⟨rfl, HB.out⟩
 ·have hd : ((l.length : Int) != (m.length : Int)) = true := by rw [bne_iff_ne]; omega
  obtain rfl : b = false := by rw [← HBB.out]; exact decide_eq_false (fun e => h1 (by rw [e]))
  clear h1
  go_enter Tryz.func91, Tryz.ntmps91
  go_wp2_with fail
  go_ret
  exact ⟨rfl, Below.refl _ _⟩
end Go.Proofs.YtdlnnkbigeiilaaGreat
namespace Go.Proofs.YtdlnnkbigeiilaaGreat
open Go.RowKit
theorem sameProof7_eq (C : ByteArray) (A : List ByteArray) (hA : A.length ≤ 8796093022207) (a1 a2 : Option Addr) (c1 c2 : Nat) (w : World) (h1 : Sl w w.heap.size a1 (A.map Value.string)) (h2 : Sl w w.heap.size a2 (A.map Value.string)) :
  Calls Tryz.prog 31 #[.agg #[.string C, .slice a1 A.length c1], .agg #[.string C, .slice a2 A.length c2]] w (Gives (.bool true) w) := by
 have H := Lib.hid (fun w1 (hb : Below w.heap.size w w1) => same7_any A A a1 a2 c1 c2 hA true (by simp) w1 (h1.up hb) (h2.up hb))
 generalize A.length = n at *
 clear h1 h2 hA
 unfold Gives
 go_enter Tryz.func31, Tryz.ntmps31
 go_wp2_with fail
 obtain ⟨w1, hq1, hb9, hz9, Hbp, Hbq⟩ := new2 w 25 [.string C, .slice a1 n c1] 25 [.string C, .slice a2 n c2]
 rw [hq1]
 clear hq1
 have HB := Lib.hid hb9
 have HZS := hz9
 clear hb9 hz9
 have bp_ := Hbp.out.c2
 have bq_ := Hbq.out.c2
 go_wp2_with fail
 refine (H.out w1 HB.out).mono ?_
 rintro e w2 ⟨rfl, hb9⟩
 clear bp_
 replace Hbp := Lib.hid (Hbp.out.up hb9)
 clear bq_
 replace Hbq := Lib.hid (Hbq.out.up hb9)
 replace HB := hbu HB hb9
 replace HZS := sz HZS hb9.size
 clear hb9
 have bp_ := Hbp.out.c2
 have bq_ := Hbq.out.c2
 go_wp2_with fail
 go_ret
 exact ⟨by simp, HB.out⟩
end Go.Proofs.YtdlnnkbigeiilaaGreat
namespace Go.Proofs.YtdlnnkbigeiilaaGreat
open Go.ChangeShapes Go.WideShapes Go.ChangeAt Go.RowKit
theorem flat_range (g : Nat → Value) (k len : Nat) : ((List.range len).map fun i => (List.range k).map fun j => g (i * k + j)).flatten = (List.range (len * k)).map g := by
 induction len with
 | zero => simp
 | succ m ih =>
  rw [List.range_succ, List.map_append, List.flatten_append, ih, Nat.succ_mul, List.range_add, List.map_append]
  simp [List.map_map, Function.comp_def]
section
variable {H : Type} {enc : TypeId × Value → H} {P : Program} {w : World}
theorem list_shapes {α : Type} (f : α → List Value) (R : α → Prop) : ∀ css : List (List Value), (∀ l ∈ css, ∃ x, l = f x ∧ R x) → ∃ xs : List α, xs.length = css.length ∧ css.flatten = xs.flatMap f ∧ ∀ x ∈ xs, R x
 | [], _ => ⟨[], rfl, rfl, by simp⟩
 | l :: css, h => by
  obtain ⟨x, rfl, hR⟩ := h l (by simp)
  obtain ⟨xs, h1, h2, h3⟩ := list_shapes f R css (fun c hc => h c (by simp [hc]))
  refine ⟨x :: xs, by simp [h1], by simp [h2], ?_⟩
  intro y hy
  rcases List.mem_cons.1 hy with rfl | hy
  ·exact hR
  ·exact h3 y hy
theorem list2 {cs : List Value} (h : cs.length = 2) : ∃ a b, cs = [a, b] := by
 match cs, h with
 | [a, b], _ => exact ⟨a, b, rfl⟩
theorem open_str {sp : Nat → Bool} {held : Bool} {t : TypeId} {fuel : Nat} {c : Value} {y : DataW H × List MemPlace} (ht : P.underlying t = some .string) (h : DataW.trod enc P w 0 sp held fuel t [c] = some y) : ∃ s : ByteArray, c = .string s := by
 obtain ⟨s, hs, _⟩ := DataW.trod_string ht h
 simp only [List.cons.injEq, and_true] at hs
 exact ⟨s, hs⟩
end
end Go.Proofs.YtdlnnkbigeiilaaGreat
namespace Go.Proofs.YtdlnnkbigeiilaaGreat
open Go.ChangeShapes Go.WideShapes Go.ChangeAt Go.RowKit
def Wt {H : Type} (P : Program) (t : TypeId) (d : DataW H) : Prop := ∀ n ∈ DataW.weights P t d, n ≤ reachBytes
theorem weightsAll_mem {H : Type} {P : Program} {e : TypeId} : ∀ {l : List (DataW H)} {d : DataW H}, d ∈ l → ∀ n ∈ DataW.weights P e d, n ∈ DataW.weightsAll P e l
 | x :: l, d, hd, n, hn => by
  simp only [DataW.weightsAll, List.mem_append]
  rcases List.mem_cons.1 hd with rfl | h
  ·exact Or.inl hn
  ·exact Or.inr (weightsAll_mem h n hn)
theorem Wt.slice {H : Type} {P : Program} {t e : TypeId} {elems spare : List (DataW H)} (ht : P.underlying t = some (.slice e)) (h : Wt P t (.slice elems spare)) : elems.length * P.bytesOf e ≤ reachBytes ∧ ∀ d ∈ elems, Wt P e d := by
 unfold Wt at h
 simp only [DataW.weights, ht, List.mem_cons, List.mem_append] at h
 refine ⟨Nat.le_trans (Nat.mul_le_mul_right _ (Nat.le_add_right _ _)) (h _ (Or.inl rfl)), fun d hd n hn => h n (Or.inr (Or.inl (weightsAll_mem hd n hn)))⟩
theorem Wt.agg {H : Type} {P : Program} {t : TypeId} {fs : Array Go.Field} {parts : List (DataW H)} (ht : P.underlying t = some (.struct fs)) (h : Wt P t (.agg parts)) : ∀ (j : Nat) (f : Go.Field) (d : DataW H), fs[j]? = some f → parts[j]? = some d → Wt P f.type d := by
 intro j f d hj hd n hn
 unfold Wt at h
 simp only [DataW.weights, ht] at h
 exact h n (DataW.weights_mem_each (ts := fs.toList.map (·.type)) (by rw [List.getElem?_map, Array.getElem?_toList, hj]; rfl) hd n hn)
theorem Wt.arg {H : Type} {P : Program} {ts : List TypeId} {ds : List (DataW H)} (h : (DataW.weightsEach P ts ds).all (· ≤ reachBytes) = true) {j : Nat} {t : TypeId} {d : DataW H} (ht : ts[j]? = some t) (hd : ds[j]? = some d) : Wt P t d :=
 fun n hn => of_decide_eq_true (List.all_eq_true.1 h _ (DataW.weights_mem_each ht hd n hn))
section
variable {H : Type} {enc : TypeId × Value → H} {P : Program} {w : World}
theorem open_flatW {sp : Nat → Bool} {held : Bool} {t e : TypeId} {k fuel : Nat} {c : Value} {y : DataW H × List MemPlace} (ht : P.underlying t = some (.slice e)) (hk : P.cellsOf e = k) (hk0 : 0 < k) (hW : Wt P t y.1)
  (h : DataW.trod enc P w 0 sp held fuel t [c] = some y) :
  ∃ (a : Option Addr) (cap : Nat) (css : List (List Value)), c = .slice a css.length cap ∧ css.length * P.bytesOf e ≤ reachBytes ∧ (a = none → cap = 0) ∧ (∀ l ∈ css, l.length = k) ∧ Sl w w.heap.size a css.flatten ∧
   ∀ l ∈ css, ∃ n y', Wt P e y'.1 ∧ DataW.trod enc P w 0 sp held n e l = some y' := by
 have hlt := DataW.trod_lt _ _ _ _ h
 rcases DataW.trod_slice ht h with ⟨hcs, _⟩ | ⟨x, len, cap, elems, rest, n, _, hcs, hx, hb, hl, hm, hlen, hel, _, _⟩
 ·simp only [List.cons.injEq, and_true] at hcs
  exact ⟨none, 0, [], hcs, by simp, fun _ => rfl, by simp, Or.inl rfl, by simp⟩
 simp only [List.cons.injEq, and_true] at hcs
 subst hcs
 by_cases h0 : len = 0
 ·subst h0
  exact ⟨some x, cap, [], rfl, by simp, by simp, by simp, Or.inl rfl, by simp⟩
 have hbk := Wt.slice (elems := elems.map (·.1)) (spare := rest.map (·.1)) ht (by rw [hx] at hW; exact hW)
 have each : ∀ i, i < len → ∃ l y', w.cells? 0 (x.add (i * k)) k = some l ∧ Wt P e y'.1 ∧ DataW.trod enc P w 0 sp held n e l = some y' := by
  intro i hi
  have h1 := hel i hi
  rw [hk, show elems[i]? = some (elems[i]'(by omega)) from List.getElem?_eq_getElem (by omega), Option.bind_eq_some_iff] at h1
  obtain ⟨l, hl, hy⟩ := h1
  exact ⟨l, _, hl, hbk.2 _ (List.mem_map.2 ⟨_, List.getElem_mem _, rfl⟩), hy⟩
 obtain ⟨b, off, spot⟩ := x
 have hspot : spot = none := by
  obtain ⟨l, _, h1, _⟩ := each 0 (by omega)
  obtain ⟨_, h2, h3⟩ := World.cells?_some h1
  have h4 := h3 0 hk0
  obtain ⟨v, hv⟩ : ∃ v, l[0]? = some v := ⟨_, List.getElem?_eq_getElem (by omega)⟩
  rw [hv, Deep.add_add, Nat.zero_mul, Nat.zero_add] at h4
  simpa [Addr.add] using World.cell?_spot h4
 subst hspot
 have hbW : b < w.heap.size := hlt (.cell b off) (by
  rw [hx]
  exact List.mem_append_left _ (MemPlace.mem_row.2 ⟨0, by rw [hk]; have : 0 < (elems.length + rest.length) * k := Nat.mul_pos (by omega) hk0; omega, by simp⟩))
 have hL : ∀ i, i < len → ((List.range k).map fun j => (w.cell? ⟨b, off + (i * k + j), none⟩).getD (.bool false)).length = k ∧
   (∀ j, j < k → w.cell? ⟨b, off + (i * k + j), none⟩ = some ((w.cell? ⟨b, off + (i * k + j), none⟩).getD (.bool false))) ∧
   ∃ y', Wt P e y'.1 ∧ DataW.trod enc P w 0 sp held n e ((List.range k).map fun j => (w.cell? ⟨b, off + (i * k + j), none⟩).getD (.bool false)) = some y' := by
  intro i hi
  obtain ⟨l, y', h1, h2b, h2⟩ := each i hi
  obtain ⟨_, h3, h4⟩ := World.cells?_some h1
  have h5 : ∀ j, j < k → w.cell? ⟨b, off + (i * k + j), none⟩ = l[j]? := by
   intro j hj
   have := h4 j hj
   rwa [Deep.add_add, add_plain] at this
  have e1 : (List.range k).map (fun j => (w.cell? ⟨b, off + (i * k + j), none⟩).getD (.bool false)) = l := by
   apply List.ext_getElem?
   intro j
   by_cases hj : j < k
   ·rw [List.getElem?_map, List.getElem?_range hj, Option.map_some, h5 j hj, List.getElem?_eq_getElem (show j < l.length by omega), Option.getD_some]
   ·rw [List.getElem?_eq_none (by simp; omega), List.getElem?_eq_none (by omega)]
  refine ⟨by simp, ?_, ?_⟩
  ·intro j hj
   rw [h5 j hj, List.getElem?_eq_getElem (show j < l.length by omega), Option.getD_some]
  ·rw [e1]; exact ⟨y', h2b, h2⟩
 refine ⟨some ⟨b, off, none⟩, cap, (List.range len).map fun i => (List.range k).map fun j => (w.cell? ⟨b, off + (i * k + j), none⟩).getD (.bool false), by simp, ?_, by simp, ?_, Or.inr ⟨b, off, rfl, hbW, ?_⟩, ?_⟩
 ·have := hbk.1; rw [List.length_map, hlen] at this; simpa using this
 ·intro l hl
  obtain ⟨i, _, rfl⟩ := List.mem_map.1 hl
  simp
 ·have hflat := flat_range (fun m => (w.cell? ⟨b, off + m, none⟩).getD (.bool false)) k len
  intro i v hv
  rw [hflat] at hv
  have hi : i < len * k := by have := (List.getElem?_eq_some_iff.1 hv).1; simpa using this
  have hq : i / k < len := Nat.div_lt_of_lt_mul (by rwa [Nat.mul_comm] at hi)
  have hc := (hL (i / k) hq).2.1 (i % k) (Nat.mod_lt _ hk0)
  rw [show i / k * k + i % k = i by rw [Nat.mul_comm]; exact Nat.div_add_mod i k] at hc
  rw [hc, ← hv, List.getElem?_map, List.getElem?_range hi, Option.map_some]
 ·intro l hl
  obtain ⟨i, hi, rfl⟩ := List.mem_map.1 hl
  obtain ⟨y', hyb, hy⟩ := (hL i (List.mem_range.1 hi)).2.2
  exact ⟨n, y', hyb, hy⟩
theorem open_elsW {α : Type} (f : α → List Value) (R : α → Prop) {sp : Nat → Bool} {held : Bool} {t e : TypeId} {k fuel : Nat} {c : Value} {y : DataW H × List MemPlace} (ht : P.underlying t = some (.slice e)) (hk : P.cellsOf e = k) (hk0 : 0 < k) (hW : Wt P t y.1)
  (hel : ∀ n l y', l.length = k → Wt P e y'.1 → DataW.trod enc P w 0 sp held n e l = some y' → ∃ x, l = f x ∧ R x) (h : DataW.trod enc P w 0 sp held fuel t [c] = some y) :
  ∃ (a : Option Addr) (cap : Nat) (xs : List α), c = .slice a xs.length cap ∧ xs.length * P.bytesOf e ≤ reachBytes ∧ (a = none → cap = 0) ∧ Sl w w.heap.size a (xs.flatMap f) ∧ ∀ x ∈ xs, R x := by
 obtain ⟨a, cap, css, rfl, hlB, hno, hl, hs, he⟩ := open_flatW ht hk hk0 hW h
 obtain ⟨xs, h1, h2, h3⟩ := list_shapes f R css (fun l hm => by
  obtain ⟨n, y', hyb, hy⟩ := he l hm
  exact hel n l y' (hl l hm) hyb hy)
 exact ⟨a, cap, xs, by rw [h1], by rw [h1]; exact hlB, hno, h2 ▸ hs, h3⟩
theorem open_cellsW {sp : Nat → Bool} {held : Bool} {t : TypeId} {fs : Array Go.Field} {fuel : Nat} {cs : List Value} {y : DataW H × List MemPlace} (hs : P.underlying t = some (.struct fs)) (hone : Go.Deep.oneCellFields P fs = true) (hC : P.cellsOf t = fs.size) (hW : Wt P t y.1)
  (h : DataW.trod enc P w 0 sp held fuel t cs = some y) :
  cs.length = fs.size ∧ ∀ (j : Nat) (f : Go.Field) (c : Value), fs[j]? = some f → cs[j]? = some c → ∃ n y', Wt P f.type y'.1 ∧ DataW.trod enc P w 0 sp held n f.type [c] = some y' := by
 obtain ⟨ys, n, _, hy, hcl, hlen, hg⟩ := DataW.trod_struct hs h
 have hbk := Wt.agg (parts := ys.map (·.1)) hs (by rw [hy] at hW; exact hW)
 refine ⟨by omega, fun j f c hj hc => ?_⟩
 obtain ⟨ho, hk⟩ := Go.Deep.hone_of hone j f hj
 have hjf : j < fs.size := (Array.getElem?_eq_some_iff.1 hj).1
 have h1 := hg j f hj
 have hjc := (List.getElem?_eq_some_iff.1 hc).1
 rw [ho, hk, List.drop_eq_getElem_cons hjc, List.take_succ_cons, List.take_zero, (List.getElem?_eq_some_iff.1 hc).2, List.getElem?_eq_getElem (show j < ys.length by omega)] at h1
 exact ⟨n, _, hbk j f _ hj (by rw [List.getElem?_map, List.getElem?_eq_getElem (show j < ys.length by omega)]; rfl), h1⟩
theorem open_strsW {sp : Nat → Bool} {held : Bool} {t e : TypeId} {fuel : Nat} {c : Value} {y : DataW H × List MemPlace} (ht : P.underlying t = some (.slice e)) (he : P.underlying e = some .string) (hk : P.cellsOf e = 1) (hW : Wt P t y.1) (h : DataW.trod enc P w 0 sp held fuel t [c] = some y) :
  ∃ (a : Option Addr) (cap : Nat) (bs : List ByteArray), c = .slice a bs.length cap ∧ bs.length * P.bytesOf e ≤ reachBytes ∧ (a = none → cap = 0) ∧ Sl w w.heap.size a (bs.map Value.string) := by
 obtain ⟨a, cap, xs, h1, hb, hno, h2, _⟩ := open_elsW (fun s : ByteArray => [Value.string s]) (fun _ => True) ht hk (by omega) hW (fun n l y' hl _ hy => by
  match l, hl with
  | [c'], _ =>
   obtain ⟨s, rfl⟩ := open_str he hy
   exact ⟨s, rfl, trivial⟩) h
 refine ⟨a, cap, xs, h1, hb, hno, ?_⟩
 rw [← List.flatMap_singleton' (xs.map Value.string), List.flatMap_map]
 exact h2
end
end Go.Proofs.YtdlnnkbigeiilaaGreat
namespace Go.Proofs.YtdlnnkbigeiilaaGreat
open Go.ChangeShapes Go.WideShapes Go.ChangeAt Go.RowKit
theorem proof_cells : Tryz.prog.cellsOf 25 = 2 := by kernel_rfl
theorem str_cells : Tryz.prog.cellsOf 9 = 1 := by kernel_rfl
theorem str_bytes : Tryz.prog.bytesOf 9 = 16 := by kernel_rfl
theorem reach16 {n : Nat} (h : n * 16 ≤ reachBytes) : n ≤ 8796093022206 := by unfold reachBytes at h; omega
end Go.Proofs.YtdlnnkbigeiilaaGreat
namespace Go.Proofs.YtdlnnkbigeiilaaGreat
open Go.ChangeShapes Go.WideShapes Go.ChangeAt Go.RowKit
section
variable {H : Type} {enc : TypeId × Value → H} {w : World}
theorem open_prf {sp : Nat → Bool} {held : Bool} (fuel : Nat) (cs : List Value) (y : DataW H × List MemPlace) (hW : Wt Tryz.prog 25 y.1) (h : DataW.trod enc Tryz.prog w 0 sp held fuel 25 cs = some y) :
  ∃ p : PrfA, cs = p.cells ∧ p.At w ∧ p.l.length ≤ 8796093022206 := by
 obtain ⟨h1, h2⟩ := open_cellsW Tryz.underlying25 (by kernel_rfl) proof_cells hW h
 obtain ⟨a, b, rfl⟩ := list2 h1
 obtain ⟨_, _, _, ha⟩ := h2 0 _ _ rfl rfl
 obtain ⟨_, _, hw, hb⟩ := h2 1 _ _ rfl rfl
 obtain ⟨s, rfl⟩ := open_str Tryz.underlying9 ha
 obtain ⟨al, cap, l, rfl, hn, hno, hs⟩ := open_strsW Tryz.underlying23 Tryz.underlying9 str_cells hw hb
 rw [str_bytes] at hn
 exact ⟨⟨s, al, cap, l⟩, rfl, ⟨hs, hno⟩, reach16 hn⟩
end
theorem agg_of {cs : Array Value} {l : List Value} (h : cs.toList = l) : Value.agg cs = .agg l.toArray := by rw [← h]
section
variable {H : Type} {enc : TypeId × Value → H} {w : World}
end
end Go.Proofs.YtdlnnkbigeiilaaGreat
namespace Go.Proofs.YtdlnnkbigeiilaaGreat
open Go.ChangeShapes Go.WideShapes Go.ChangeAt Go.RowKit
theorem Wt.str {H : Type} {enc : TypeId × Value → H} {P : Program} {w : World} {sp : Nat → Bool} {held : Bool} {t : TypeId} {fuel : Nat} {s : ByteArray} {y : DataW H × List MemPlace} (ht : P.underlying t = some .string) (hW : Wt P t y.1) (h : DataW.trod enc P w 0 sp held fuel t [.string s] = some y) : s.size ≤ reachBytes := by
 obtain ⟨s', hs, hy, _⟩ := DataW.trod_string ht h
 simp only [List.cons.injEq, and_true, Value.string.injEq] at hs
 subst hs
 rw [hy] at hW
 exact hW s.data.toList.length (by simp [DataW.weights])
theorem reach_lt : reachBytes < 140737488355328 := by decide
section
variable {H : Type} {enc : TypeId × Value → H} {w : World}
end
end Go.Proofs.YtdlnnkbigeiilaaGreat
namespace Go.Proofs.YtdlnnkbigeiilaaGreat
open Go.ChangeShapes Go.WideShapes Go.ChangeAt Go.RowKit
theorem list4 {cs : List Value} (h : cs.length = 4) : ∃ a b c d, cs = [a, b, c, d] := by
 match cs, h with
 | [a, b, c, d], _ => exact ⟨a, b, c, d, rfl⟩
section
variable {H : Type} {enc : TypeId × Value → H} {w : World}
theorem open_partW {P : Program} {sp : Nat → Bool} {held : Bool} {t : TypeId} {fs : Array Go.Field} {fuel : Nat} {cs : List Value} {y : DataW H × List MemPlace} (hs : P.underlying t = some (.struct fs)) (hW : Wt P t y.1)
  (h : DataW.trod enc P w 0 sp held fuel t cs = some y) :
  cs.length = P.cellsOf t ∧ ∀ (j : Nat) (f : Go.Field) (o k : Nat), fs[j]? = some f → f.offset = o → P.cellsOf f.type = k → ∃ n y', Wt P f.type y'.1 ∧ DataW.trod enc P w 0 sp held n f.type ((cs.drop o).take k) = some y' := by
 obtain ⟨ys, n, _, hy, hcl, hlen, hg⟩ := DataW.trod_struct hs h
 have hbk := Wt.agg (parts := ys.map (·.1)) hs (by rw [hy] at hW; exact hW)
 refine ⟨hcl, fun j f o k hj ho hk => ?_⟩
 subst ho
 subst hk
 have hjf : j < fs.size := (Array.getElem?_eq_some_iff.1 hj).1
 have h1 := hg j f hj
 rw [List.getElem?_eq_getElem (show j < ys.length by omega)] at h1
 exact ⟨n, _, hbk j f _ hj (by rw [List.getElem?_map, List.getElem?_eq_getElem (show j < ys.length by omega)]; rfl), h1⟩
theorem stamp_cells : Tryz.prog.cellsOf 53 = 4 := by kernel_rfl
theorem int_cells : Tryz.prog.cellsOf 3 = 1 := by kernel_rfl
theorem open_stamp {sp : Nat → Bool} {held : Bool} (fuel : Nat) (cs : List Value) (y : DataW H × List MemPlace) (hW : Wt Tryz.prog 53 y.1) (h : DataW.trod enc Tryz.prog w 0 sp held fuel 53 cs = some y) :
  ∃ s : StampA, cs = [.int .i64 s.n, .string s.h, .string s.c, .slice s.a s.l.length s.r] ∧ s.At w := by
 obtain ⟨h1, h2⟩ := open_partW Tryz.underlying53 hW h
 rw [stamp_cells] at h1
 obtain ⟨a, b, c, d, rfl⟩ := list4 h1
 obtain ⟨_, _, _, ha⟩ := h2 0 _ 0 1 rfl rfl int_cells
 obtain ⟨_, _, _, hb⟩ := h2 1 _ 1 1 rfl rfl str_cells
 obtain ⟨_, _, hw, hc⟩ := h2 2 _ 2 2 rfl rfl proof_cells
 obtain ⟨x, hx, _⟩ := DataW.trod_int Tryz.underlying3 ha
 obtain ⟨s, hs, _⟩ := DataW.trod_string Tryz.underlying9 hb
 obtain ⟨p, hp, hpa, hpl⟩ := open_prf _ _ _ hw hc
 simp only [List.drop_zero, List.take_succ_cons, List.take_zero, List.cons.injEq, and_true] at hx
 simp only [List.drop_succ_cons, List.drop_zero, List.take_succ_cons, List.take_zero, List.cons.injEq, and_true] at hs
 have hp2 : [c, d] = [.string p.c, .slice p.aa p.l.length p.ca] := hp
 simp only [List.cons.injEq, and_true] at hp2
 obtain ⟨rfl, rfl⟩ := hp2
 subst hx
 subst hs
 exact ⟨⟨x, s, p.c, p.l, p.aa, p.ca⟩, rfl, hpa.s, by show p.l.length ≤ _; omega⟩
end
end Go.Proofs.YtdlnnkbigeiilaaGreat
namespace Go.Proofs.YtdlnnkbigeiilaaGreat
open Go.ChangeShapes Go.WideShapes Go.ChangeAt Go.RowKit
theorem bsnA_len (k : Int) (x name : ByteArray) (n : Int) (head seed : ByteArray) : (bsnA k x name n head seed).length ≤ 8796093022207 := by
 unfold bsnA
 split
 ·unfold sgnA
  split
  ·unfold prvA ansL
   rw [List.length_zipWith]
   exact Nat.le_trans (Nat.min_le_right _ _) (by simp)
  ·exact Nat.zero_le _
 ·exact Nat.zero_le _
def StampA.cells (s : StampA) : List Value := [.int .i64 s.n, .string s.h, .string s.c, .slice s.a s.l.length s.r]
theorem three_at {W : World} {b : Nat} {s t u : StampA} (h : Bx W b 53 (s.cells ++ t.cells ++ u.cells)) (hs : s.At W) (ht : t.At W) (hu : u.At W) (j : Nat) (hj : j < 3) :
  ∃ r : StampA, r.At W ∧ W.cell? ⟨b, j * 4, none⟩ = some (.int .i64 r.n) ∧ W.cell? ⟨b, j * 4 + 1, none⟩ = some (.string r.h) ∧ W.cell? ⟨b, j * 4 + 2, none⟩ = some (.string r.c) ∧ W.cell? ⟨b, j * 4 + 3, none⟩ = some (.slice r.a r.l.length r.r) := by
 obtain rfl | rfl | rfl : j = 0 ∨ j = 1 ∨ j = 2 := by omega
 ·exact ⟨s, hs, h.cell rfl, h.cell rfl, h.cell rfl, h.cell rfl⟩
 ·exact ⟨t, ht, h.cell rfl, h.cell rfl, h.cell rfl, h.cell rfl⟩
 ·exact ⟨u, hu, h.cell rfl, h.cell rfl, h.cell rfl, h.cell rfl⟩
theorem boardStamps_any (k : Int) (x name : ByteArray) (n : Int) (head seed pub : ByteArray) (hnm : name.size < 140737488355328) (hsd : seed.size < 140737488355328) (s t : StampA) (w : World) (hs : s.At w) (ht : t.At w) :
  Calls Tryz.prog 9 #[.int .i64 k, .string x, .string name, .int .i64 n, .string head, .string seed, .string pub, s.val, t.val] w fun e w' => e = .returned (.bool true) ∧ Below w.heap.size w w' := by
 have H1 := Lib.hid (fun w => bSign_any k x name hnm n head seed hsd w)
 have H2 := Lib.hid (fun w => rSign7_any k x name hnm n head seed hsd w)
 have SG1 := Lib.hid (fun (r : StampA) w h => bSigned_at k pub name hnm r w h)
 have SG2 := Lib.hid (fun (r : StampA) w h => rSigned7_any k pub name hnm r w h)
 have SP1 := Lib.hid (fun (r q : StampA) w h g => bSplit_any k pub name hnm r q w h g)
 have SP2 := Lib.hid (fun (r q : StampA) w h g => rSplit_any k pub name hnm r q w h g)
 have HLL := Lib.hid (bsnA_len k x name n head seed)
 have HS := Lib.hid hs
 have HT := Lib.hid ht
 unfold StampR at H1 H2
 generalize bsnE k x n head = E at *
 generalize bsnN k x n head = N at *
 generalize bsnH k x n head = HD at *
 generalize bsnC k x name n head seed = C at *
 generalize bsnA k x name n head seed = A at *
 have HSM := Lib.hid (fun a1 a2 c1 c2 w h1 h2 => sameProof7_eq C A HLL.out a1 a2 c1 c2 w h1 h2)
 unfold Gives StampA.val at SG1 SG2 SP1 SP2
 unfold Gives at HSM
 unfold StampA.val
 obtain ⟨q, hq⟩ : ∃ q, A.length = q := ⟨_, rfl⟩
 have HQ := Lib.hid hq
 have hd2 : (N != N) = false := by simp
 have hd3 : (HD.toList != HD.toList) = false := by simp
 clear hs ht hnm hsd hq
 have hd1 : ((E : Int) != (E : Int)) = false := by simp
 go_enter Tryz.func9, Tryz.ntmps9
 go_wp2_with fail
 obtain ⟨w1, hq1, hb9, hz9, Hba, Hbb⟩ := new2 w 53 [.int .i64 s.n, .string s.h, .string s.c, .slice s.a s.l.length s.r] 53 [.int .i64 t.n, .string t.h, .string t.c, .slice t.a t.l.length t.r]
 rw [hq1]
 clear hq1
 have HB := Lib.hid hb9
 have HZS := hz9
 clear hb9 hz9
 have ba_ := Hba.out.c4
 have bb_ := Hbb.out.c4
 go_wp2_with fail
 refine (H1.out w1).mono ?_
 rintro e w2 ⟨hb9, a1, c1, rfl, hs1, _⟩
 clear ba_
 replace Hba := Lib.hid (Hba.out.up hb9)
 clear bb_
 replace Hbb := Lib.hid (Hbb.out.up hb9)
 replace HB := hbu HB hb9
 replace HZS := sz HZS hb9.size
 have HS1 := Lib.hid hs1
 clear hs1 hb9
 have ba_ := Hba.out.c4
 have bb_ := Hbb.out.c4
 have BS1 := Lib.hid (Below.refl w2.heap.size w2)
 rw [HQ.out]
 have o3_ba_ := ba_; clear ba_
 have o3_bb_ := bb_; clear bb_
 obtain ⟨w3, hq3, hb9, hz9, Hbs⟩ := new1 w2 53 [.int .i64 N, .string HD, .string C, .slice a1 q c1]
 replace Hba := Lib.hid (Hba.out.up hb9)
 replace Hbb := Lib.hid (Hbb.out.up hb9)
 replace BS1 := hbu BS1 hb9
 replace HB := hbu HB hb9
 replace HZS := sz HZS hz9.out
 clear hb9 hz9
 have ba_ := Hba.out.c4
 have bb_ := Hbb.out.c4
 have bs_ := Hbs.out.c4
 go_wp2_with fail
 clear hq3 o3_bb_ o3_ba_
 refine (H2.out w3).mono ?_
 rintro e w4 ⟨hb9, a2, c2, rfl, hs2, _⟩
 clear ba_
 replace Hba := Lib.hid (Hba.out.up hb9)
 clear bb_
 replace Hbb := Lib.hid (Hbb.out.up hb9)
 clear bs_
 replace Hbs := Lib.hid (Hbs.out.up hb9)
 replace BS1 := hbu BS1 hb9
 replace HB := hbu HB hb9
 replace HZS := sz HZS hb9.size
 have HS2 := Lib.hid hs2
 clear hs2 hb9
 have ba_ := Hba.out.c4
 have bb_ := Hbb.out.c4
 have bs_ := Hbs.out.c4
 have BS2 := Lib.hid (Below.refl w4.heap.size w4)
 rw [HQ.out]
 have o5_ba_ := ba_; clear ba_
 have o5_bb_ := bb_; clear bb_
 have o5_bs_ := bs_; clear bs_
 obtain ⟨w5, hq5, hb9, hz9, Hbt⟩ := new1 w4 53 [.int .i64 N, .string HD, .string C, .slice a2 q c2]
 replace Hba := Lib.hid (Hba.out.up hb9)
 replace Hbb := Lib.hid (Hbb.out.up hb9)
 replace Hbs := Lib.hid (Hbs.out.up hb9)
 replace BS1 := hbu BS1 hb9
 replace BS2 := hbu BS2 hb9
 replace HB := hbu HB hb9
 replace HZS := sz HZS hz9.out
 clear hb9 hz9
 have ba_ := Hba.out.c4
 have bb_ := Hbb.out.c4
 have bs_ := Hbs.out.c4
 have bt_ := Hbt.out.c4
 go_wp2_with fail
 clear hq5 o5_bs_ o5_bb_ o5_ba_
 rw [← HQ.out]
 refine (HSM.out a1 a2 c1 c2 w5 (HS1.out.up BS1.out) (HS2.out.up BS2.out)).mono ?_
 rintro e w6 ⟨rfl, hb9⟩
 clear ba_
 replace Hba := Lib.hid (Hba.out.up hb9)
 clear bb_
 replace Hbb := Lib.hid (Hbb.out.up hb9)
 clear bs_
 replace Hbs := Lib.hid (Hbs.out.up hb9)
 clear bt_
 replace Hbt := Lib.hid (Hbt.out.up hb9)
 replace BS1 := hbu BS1 hb9
 replace BS2 := hbu BS2 hb9
 replace HB := hbu HB hb9
 replace HZS := sz HZS hb9.size
 clear hb9
 have ba_ := Hba.out.c4
 have bb_ := Hbb.out.c4
 have bs_ := Hbs.out.c4
 have bt_ := Hbt.out.c4
 rw [HQ.out]
 have o7_ba_ := ba_; clear ba_
 have o7_bb_ := bb_; clear bb_
 have o7_bs_ := bs_; clear bs_
 have o7_bt_ := bt_; clear bt_
 obtain ⟨w7, hq7, hb9, hz9, Hbl⟩ := new1 w6 53 [.int .i64 s.n, .string s.h, .string s.c, .slice s.a s.l.length s.r, .int .i64 t.n, .string t.h, .string t.c, .slice t.a t.l.length t.r, .int .i64 N, .string HD, .string C, .slice a2 q c2]
 replace Hba := Lib.hid (Hba.out.up hb9)
 replace Hbb := Lib.hid (Hbb.out.up hb9)
 replace Hbs := Lib.hid (Hbs.out.up hb9)
 replace Hbt := Lib.hid (Hbt.out.up hb9)
 replace BS1 := hbu BS1 hb9
 replace BS2 := hbu BS2 hb9
 replace HB := hbu HB hb9
 replace HZS := sz HZS hz9.out
 clear hb9 hz9
 have ba_ := Hba.out.c4
 have bb_ := Hbb.out.c4
 have bs_ := Hbs.out.c4
 have bt_ := Hbt.out.c4
 have bl_0 := Hbl.out.cell (i := 0) rfl
 have bl_1 := Hbl.out.cell (i := 1) rfl
 have bl_2 := Hbl.out.cell (i := 2) rfl
 have bl_3 := Hbl.out.cell (i := 3) rfl
 have bl_4 := Hbl.out.cell (i := 4) rfl
 have bl_5 := Hbl.out.cell (i := 5) rfl
 have bl_6 := Hbl.out.cell (i := 6) rfl
 have bl_7 := Hbl.out.cell (i := 7) rfl
 have bl_8 := Hbl.out.cell (i := 8) rfl
 have bl_9 := Hbl.out.cell (i := 9) rfl
 have bl_10 := Hbl.out.cell (i := 10) rfl
 have bl_11 := Hbl.out.cell (i := 11) rfl
 have HU := Lib.hid (show StampA.At w7 ⟨N, HD, C, A, a2, c2⟩ from ⟨(HS2.out.up BS2.out), HLL.out⟩)
 have HP3 := Lib.hid (fun w h g => SP1.out s ⟨N, HD, C, A, a2, c2⟩ w h g)
 have HP4 := Lib.hid (fun w h g => SP2.out s ⟨N, HD, C, A, a2, c2⟩ w h g)
 have HP1 := Lib.hid (fun w h g => SP1.out s t w h g)
 have HP2 := Lib.hid (fun w h g => SP2.out s t w h g)
 dsimp only at HP3 HP4
 rw [HQ.out] at HP3 HP4
 clear SP1 SP2
 generalize bspK k pub name s t = p1 at *
 generalize bspK k pub name s ⟨N, HD, C, A, a2, c2⟩ = p2 at *
 have hd5 : (p1 == p1) = true := by simp
 have hd6 : (p2 == p2) = true := by simp
 clear HSM HS1 HS2 BS1 BS2
 have BL := Lib.hid (Below.refl w7.heap.size w7)
 go_wp2_with fail
 clear hq7 o7_bt_ o7_bs_ o7_bb_ o7_ba_
 go_loopw [75] (fun i wr => ∃ j : Nat, j ≤ 3 ∧ i = .int .i64 j ∧ Hid (Below w7.heap.size w7 wr)) (fun i _ => 3 - (intOf i).toNat)
 case atStart => exact ⟨0, by omega, rfl, BL⟩
 case round =>
  obtain ⟨j, hj, rfl, HL9⟩ := hrel
  have hb9 := HL9.out
  clear HL9 ba_
  replace Hba := Lib.hid (Hba.out.up hb9)
  clear bb_
  replace Hbb := Lib.hid (Hbb.out.up hb9)
  clear bs_
  replace Hbs := Lib.hid (Hbs.out.up hb9)
  clear bt_
  replace Hbt := Lib.hid (Hbt.out.up hb9)
  clear bl_0 bl_1 bl_2 bl_3 bl_4 bl_5 bl_6 bl_7 bl_8 bl_9 bl_10 bl_11
  replace Hbl := Lib.hid (Hbl.out.up hb9)
  replace BL := hbu BL hb9
  replace HB := hbu HB hb9
  replace HZS := sz HZS hb9.size
  clear hb9
  have ba_ := Hba.out.c4
  have bb_ := Hbb.out.c4
  have bs_ := Hbs.out.c4
  have bt_ := Hbt.out.c4
  have bl_0 := Hbl.out.cell (i := 0) rfl
  have bl_1 := Hbl.out.cell (i := 1) rfl
  have bl_2 := Hbl.out.cell (i := 2) rfl
  have bl_3 := Hbl.out.cell (i := 3) rfl
  have bl_4 := Hbl.out.cell (i := 4) rfl
  have bl_5 := Hbl.out.cell (i := 5) rfl
  have bl_6 := Hbl.out.cell (i := 6) rfl
  have bl_7 := Hbl.out.cell (i := 7) rfl
  have bl_8 := Hbl.out.cell (i := 8) rfl
  have bl_9 := Hbl.out.cell (i := 9) rfl
  have bl_10 := Hbl.out.cell (i := 10) rfl
  have bl_11 := Hbl.out.cell (i := 11) rfl
  by_cases hjn : j < 3
  ·have hbl := Hbl.out
   rw [← HQ.out] at hbl
   obtain ⟨r, hr, hc0, hc1, hc2, hc3⟩ := three_at (u := ⟨N, HD, C, A, a2, c2⟩) hbl (HS.out.up HB.out) (HT.out.up HB.out) (HU.out.up BL.out) j hjn
   have HR := Lib.hid hr
   clear hr hbl
   have SGA := Lib.hid (fun w h => SG1.out r w h)
   have SGB := Lib.hid (fun w h => SG2.out r w h)
   generalize bsgA k pub name r = b9 at *
   have hd7 : (b9 != b9) = false := by simp
   clear SG1 SG2 HP1 HP2 HP3 HP4 hd1 hd2 hd3 hd5 hd6 ba_ bb_ bs_ bt_ bl_0 bl_1 bl_2 bl_3 bl_4 bl_5 bl_6 bl_7 bl_8 bl_9 bl_10 bl_11
   obtain ⟨w8, hq8, hb9, hz9, Hbx⟩ := new1 wr 53 [.int .i64 r.n, .string r.h, .string r.c, .slice r.a r.l.length r.r]
   replace Hba := Lib.hid (Hba.out.up hb9)
   replace Hbb := Lib.hid (Hbb.out.up hb9)
   replace Hbs := Lib.hid (Hbs.out.up hb9)
   replace Hbt := Lib.hid (Hbt.out.up hb9)
   replace Hbl := Lib.hid (Hbl.out.up hb9)
   replace HR := Lib.hid (HR.out.up hb9)
   replace BL := hbu BL hb9
   replace HB := hbu HB hb9
   replace HZS := sz HZS hz9.out
   clear hb9 hz9
   have bx_ := Hbx.out.c4
   go_wp2_with fail
   clear hq8
   have hl_bx := Hbx.out.lt
   refine wp_region_over (by kernel_rfl) (by kernel_rfl) ?_
   have hov_bx := fun (E : Over w8) o => E.cell (b := wr.heap.size) o hl_bx
   repeat (go_big_quiet_step (first | (go_at_call 32; exact calls_over (SGA.out _ (HR.out.up (Over.h _)))) | (go_at_call 33; exact calls_over (SGB.out _ (HR.out.up (Over.h _))))))
   all_goals (try unfold elV limbV)
   repeat (go_big_quiet_step (first | (go_at_call 32; exact calls_over (SGA.out _ (HR.out.up (Over.h _)))) | (go_at_call 33; exact calls_over (SGB.out _ (HR.out.up (Over.h _))))))
   all_goals (try unfold elV limbV)
   repeat (go_big_quiet_step (first | (go_at_call 32; exact calls_over (SGA.out _ (HR.out.up (Over.h _)))) | (go_at_call 33; exact calls_over (SGB.out _ (HR.out.up (Over.h _))))))
   all_goals (try unfold ciphV)
   refine wpQuiet_nil ?_
   rintro _ ⟨E, rfl⟩
   clear hov_bx hl_bx
   replace Hba := Lib.hid (Hba.out.up E.h)
   replace Hbb := Lib.hid (Hbb.out.up E.h)
   replace Hbs := Lib.hid (Hbs.out.up E.h)
   replace Hbt := Lib.hid (Hbt.out.up E.h)
   replace Hbl := Lib.hid (Hbl.out.up E.h)
   clear bx_
   replace Hbx := Lib.hid (Hbx.out.up E.h)
   replace HR := Lib.hid (HR.out.up E.h)
   replace BL := hbu BL E.h
   replace HB := hbu HB E.h
   replace HZS := sz HZS E.h.size
   obtain ⟨w9, hq9⟩ : ∃ W9 : World, E.w = W9 := ⟨_, rfl⟩
   rw [hq9] at Hba Hbb Hbs Hbt Hbl Hbx HR BL HB HZS ⊢
   clear hq9 E
   have bx_ := Hbx.out.c4
   go_wp2_with fail
   go_roundw
   case rel => exact ⟨j + 1, by omega, by go_num, BL⟩
   case measure => simp [intOf]; omega
  ·obtain rfl : j = 3 := by omega
   clear hjn
   go_wp2_with fail
   clear bs_ bl_0 bl_1 bl_2 bl_3 bl_4 bl_5 bl_6 bl_7 bl_8 bl_9 bl_10 bl_11
   have hl_ba := Hba.out.lt
   have hl_bb := Hbb.out.lt
   have hl_bt := Hbt.out.lt
   refine wp_region_over (by kernel_rfl) (by kernel_rfl) ?_
   have hov_ba := fun (E : Over wr) o => E.cell (b := w.heap.size) o hl_ba
   have hov_bb := fun (E : Over wr) o => E.cell (b := w.heap.size + 1) o hl_bb
   have hov_bt := fun (E : Over wr) o => E.cell (b := w4.heap.size) o hl_bt
   repeat (go_big_quiet_step (first | (go_at_call 34; with_reducible exact calls_over (HP1.out _ (HS.out.up (below_up HB.out (Over.h _))) (HT.out.up (below_up HB.out (Over.h _))))) | (go_at_call 34; with_reducible exact calls_over (HP3.out _ (HS.out.up (below_up HB.out (Over.h _))) (HU.out.up (below_up BL.out (Over.h _))))) | (go_at_call 35; with_reducible exact calls_over (HP2.out _ (HS.out.up (below_up HB.out (Over.h _))) (HT.out.up (below_up HB.out (Over.h _))))) | (go_at_call 35; with_reducible exact calls_over (HP4.out _ (HS.out.up (below_up HB.out (Over.h _))) (HU.out.up (below_up BL.out (Over.h _)))))))
   all_goals (try unfold elV limbV)
   repeat (go_big_quiet_step (first | (go_at_call 34; with_reducible exact calls_over (HP1.out _ (HS.out.up (below_up HB.out (Over.h _))) (HT.out.up (below_up HB.out (Over.h _))))) | (go_at_call 34; with_reducible exact calls_over (HP3.out _ (HS.out.up (below_up HB.out (Over.h _))) (HU.out.up (below_up BL.out (Over.h _))))) | (go_at_call 35; with_reducible exact calls_over (HP2.out _ (HS.out.up (below_up HB.out (Over.h _))) (HT.out.up (below_up HB.out (Over.h _))))) | (go_at_call 35; with_reducible exact calls_over (HP4.out _ (HS.out.up (below_up HB.out (Over.h _))) (HU.out.up (below_up BL.out (Over.h _)))))))
   all_goals (try unfold elV limbV)
   repeat (go_big_quiet_step (first | (go_at_call 34; with_reducible exact calls_over (HP1.out _ (HS.out.up (below_up HB.out (Over.h _))) (HT.out.up (below_up HB.out (Over.h _))))) | (go_at_call 34; with_reducible exact calls_over (HP3.out _ (HS.out.up (below_up HB.out (Over.h _))) (HU.out.up (below_up BL.out (Over.h _))))) | (go_at_call 35; with_reducible exact calls_over (HP2.out _ (HS.out.up (below_up HB.out (Over.h _))) (HT.out.up (below_up HB.out (Over.h _))))) | (go_at_call 35; with_reducible exact calls_over (HP4.out _ (HS.out.up (below_up HB.out (Over.h _))) (HU.out.up (below_up BL.out (Over.h _)))))))
   all_goals (try unfold ciphV)
   refine wpQuiet_nil ?_
   rintro _ ⟨E, rfl⟩
   clear hov_ba hl_ba hov_bb hl_bb hov_bt hl_bt ba_
   replace Hba := Lib.hid (Hba.out.up E.h)
   clear bb_
   replace Hbb := Lib.hid (Hbb.out.up E.h)
   replace Hbs := Lib.hid (Hbs.out.up E.h)
   clear bt_
   replace Hbt := Lib.hid (Hbt.out.up E.h)
   replace Hbl := Lib.hid (Hbl.out.up E.h)
   replace BL := hbu BL E.h
   replace HB := hbu HB E.h
   replace HZS := sz HZS E.h.size
   obtain ⟨w8, hq9⟩ : ∃ W9 : World, E.w = W9 := ⟨_, rfl⟩
   rw [hq9] at Hba Hbb Hbs Hbt Hbl BL HB HZS ⊢
   clear hq9 E
   have ba_ := Hba.out.c4
   have bb_ := Hbb.out.c4
   have bt_ := Hbt.out.c4
   go_wp2_with fail
   go_ret
   exact ⟨rfl, HB.out⟩
theorem boardStamps_calls {H : Type} (enc : TypeId × Value → H) (W : World) (base : Nat) {v0 v1 v2 v3 v4 v5 v6 v7 v8 : Value} {d0 d1 d2 d3 d4 d5 d6 d7 d8 : DataW H} {p0 p1 p2 p3 p4 p5 p6 p7 p8 : List MemPlace}
  (h0 : DataW.Trod enc Tryz.prog W 0 (fun _ => true) true 3 v0 d0 p0) (h1 : DataW.Trod enc Tryz.prog W 0 (fun _ => true) true 9 v1 d1 p1) (h2 : DataW.Trod enc Tryz.prog W 0 (fun _ => true) true 9 v2 d2 p2) (h3 : DataW.Trod enc Tryz.prog W 0 (fun _ => true) true 3 v3 d3 p3) (h4 : DataW.Trod enc Tryz.prog W 0 (fun _ => true) true 9 v4 d4 p4) (h5 : DataW.Trod enc Tryz.prog W 0 (fun _ => true) true 9 v5 d5 p5) (h6 : DataW.Trod enc Tryz.prog W 0 (fun _ => true) true 9 v6 d6 p6) (h7 : DataW.Trod enc Tryz.prog W 0 (fun _ => true) true 53 v7 d7 p7) (h8 : DataW.Trod enc Tryz.prog W 0 (fun _ => true) true 53 v8 d8 p8)
  (k0 : Value.okWide Tryz.prog W .any base 3 v0) (k1 : Value.okWide Tryz.prog W .any base 9 v1) (k2 : Value.okWide Tryz.prog W .any base 9 v2) (k3 : Value.okWide Tryz.prog W .any base 3 v3) (k4 : Value.okWide Tryz.prog W .any base 9 v4) (k5 : Value.okWide Tryz.prog W .any base 9 v5) (k6 : Value.okWide Tryz.prog W .any base 9 v6) (k7 : Value.okWide Tryz.prog W .any base 53 v7) (k8 : Value.okWide Tryz.prog W .any base 53 v8)
  (_lt0 : ∀ x ∈ p0, x.block < W.heap.size) (_lt1 : ∀ x ∈ p1, x.block < W.heap.size) (_lt2 : ∀ x ∈ p2, x.block < W.heap.size) (_lt3 : ∀ x ∈ p3, x.block < W.heap.size) (_lt4 : ∀ x ∈ p4, x.block < W.heap.size) (_lt5 : ∀ x ∈ p5, x.block < W.heap.size) (_lt6 : ∀ x ∈ p6, x.block < W.heap.size) (_lt7 : ∀ x ∈ p7, x.block < W.heap.size) (_lt8 : ∀ x ∈ p8, x.block < W.heap.size)
  (hsz : (DataW.weightsEach Tryz.prog ([3, 9, 9, 3, 9, 9, 9, 53, 53] ++ Rows.boardStampsSpec.plain.varTypes Tryz.prog) ([d0, d1, d2, d3, d4, d5, d6, d7, d8] ++ [])).all (· ≤ reachBytes) = true) :
  Calls Tryz.prog 9 #[v0, v1, v2, v3, v4, v5, v6, v7, v8] W fun e w' => e = .returned (.bool true) ∧ Below W.heap.size W w' := by
 obtain ⟨k, rfl, _, _, _⟩ := open_int Tryz.underlying3 k0 h0
 obtain ⟨n, rfl, _, _, _⟩ := open_int Tryz.underlying3 k3 h3
 obtain ⟨c7, rfl, _⟩ := okWide_struct Tryz.underlying53 k7
 obtain ⟨c8, rfl, _⟩ := okWide_struct Tryz.underlying53 k8
 obtain ⟨f1, h1⟩ := h1
 obtain ⟨f2, h2⟩ := h2
 obtain ⟨f4, h4⟩ := h4
 obtain ⟨f5, h5⟩ := h5
 obtain ⟨f6, h6⟩ := h6
 obtain ⟨f7, h7⟩ := h7
 obtain ⟨f8, h8⟩ := h8
 obtain ⟨x, rfl, _⟩ := Go.ChangeMaps.open_string Tryz.underlying9 k1 ⟨f1, h1⟩
 obtain ⟨name, rfl, _⟩ := Go.ChangeMaps.open_string Tryz.underlying9 k2 ⟨f2, h2⟩
 obtain ⟨head, rfl, _⟩ := Go.ChangeMaps.open_string Tryz.underlying9 k4 ⟨f4, h4⟩
 obtain ⟨seed, rfl, _⟩ := Go.ChangeMaps.open_string Tryz.underlying9 k5 ⟨f5, h5⟩
 obtain ⟨pub, rfl, _⟩ := Go.ChangeMaps.open_string Tryz.underlying9 k6 ⟨f6, h6⟩
 obtain ⟨s, hs, hsa⟩ := open_stamp f7 _ _ (Wt.arg hsz (j := 7) rfl rfl) h7
 obtain ⟨t, ht, hta⟩ := open_stamp f8 _ _ (Wt.arg hsz (j := 8) rfl rfl) h8
 rw [agg_of (show c7.toList = _ from hs), agg_of (show c8.toList = _ from ht)]
 exact boardStamps_any k x name n head seed pub (Nat.lt_of_le_of_lt (Wt.str Tryz.underlying9 (Wt.arg hsz (j := 2) rfl rfl) h2) reach_lt) (Nat.lt_of_le_of_lt (Wt.str Tryz.underlying9 (Wt.arg hsz (j := 5) rfl rfl) h5) reach_lt) s t W hsa hta
theorem boardStamps_lifted (os : Os) (started : os.Started) (H : Type) (enc : TypeId × Value → H) :
  ReturnsInHanded {} Tryz.checked os 9 .any (Rows.boardStampsSpec.pre6 enc Tryz.prog Tryz.f9 Rows.boardStampsRow.domain false) (Rows.boardStampsSpec.post enc Tryz.prog Tryz.f9 false true false false) := by
 refine returnsInHanded_of_change_sized (C := Tryz.checked) law_own started (by kernel_rfl) Tryz.func9
  (ChangeSpec.witness6 (enc := enc) (C := Tryz.checked) false ⟨#[], #[.int .i64 0, .string ⟨#[]⟩, .string ⟨#[]⟩, .int .i64 0, .string ⟨#[]⟩, .string ⟨#[]⟩, .string ⟨#[]⟩, .agg #[.int .i64 0, .string ⟨#[]⟩, .string ⟨#[]⟩, .slice none 0 0], .agg #[.int .i64 0, .string ⟨#[]⟩, .string ⟨#[]⟩, .slice none 0 0]], []⟩ 8 (by kernel_rfl) (by kernel_rfl) (by kernel_rfl) (by kernel_rfl)) ?_
 intro W base args ds gs before hval0 hW _ hsz0 _
 have hsz : (DataW.weightsEach Tryz.prog (Tryz.f9.params.toList ++ Rows.boardStampsSpec.plain.varTypes Tryz.prog) (ds ++ gs)).all (· ≤ reachBytes) = true := hsz0
 clear hsz0
 have hval : ∀ (j : Nat) t v, Tryz.f9.params[j]? = some t → args[j]? = some v → Value.okWide Tryz.prog W .any base t v := hval0
 have hW' := hW
 obtain ⟨p, q, hA0, hV, rfl, _, _⟩ := hW
 have hA : DataW.TrodAll enc Tryz.prog W 0 (fun _ => true) true Tryz.f9.params.toList args.toList ds p := hA0
 rw [Tryz.params9] at hA hval hsz
 obtain ⟨v0, vs0, d0, ds0, p0, q0, hargs, rfl, rfl, h0, r0⟩ := trodAll_cons hA
 obtain ⟨v1, vs1, d1, ds1, p1, q1, rfl, rfl, rfl, h1, r1⟩ := trodAll_cons r0
 obtain ⟨v2, vs2, d2, ds2, p2, q2, rfl, rfl, rfl, h2, r2⟩ := trodAll_cons r1
 obtain ⟨v3, vs3, d3, ds3, p3, q3, rfl, rfl, rfl, h3, r3⟩ := trodAll_cons r2
 obtain ⟨v4, vs4, d4, ds4, p4, q4, rfl, rfl, rfl, h4, r4⟩ := trodAll_cons r3
 obtain ⟨v5, vs5, d5, ds5, p5, q5, rfl, rfl, rfl, h5, r5⟩ := trodAll_cons r4
 obtain ⟨v6, vs6, d6, ds6, p6, q6, rfl, rfl, rfl, h6, r6⟩ := trodAll_cons r5
 obtain ⟨v7, vs7, d7, ds7, p7, q7, rfl, rfl, rfl, h7, r7⟩ := trodAll_cons r6
 obtain ⟨v8, vs8, d8, ds8, p8, q8, rfl, rfl, rfl, h8, r8⟩ := trodAll_cons r7
 obtain ⟨rfl, rfl, rfl⟩ := trodAll_nil r8
 obtain rfl : args = #[v0, v1, v2, v3, v4, v5, v6, v7, v8] := by cases args; simp_all
 obtain ⟨rfl, rfl⟩ := trodVars_none hV
 have lt0 : ∀ x ∈ p0, x.block < W.heap.size := by obtain ⟨m, hm⟩ := h0; exact DataW.trod_lt m _ _ _ hm
 have lt1 : ∀ x ∈ p1, x.block < W.heap.size := by obtain ⟨m, hm⟩ := h1; exact DataW.trod_lt m _ _ _ hm
 have lt2 : ∀ x ∈ p2, x.block < W.heap.size := by obtain ⟨m, hm⟩ := h2; exact DataW.trod_lt m _ _ _ hm
 have lt3 : ∀ x ∈ p3, x.block < W.heap.size := by obtain ⟨m, hm⟩ := h3; exact DataW.trod_lt m _ _ _ hm
 have lt4 : ∀ x ∈ p4, x.block < W.heap.size := by obtain ⟨m, hm⟩ := h4; exact DataW.trod_lt m _ _ _ hm
 have lt5 : ∀ x ∈ p5, x.block < W.heap.size := by obtain ⟨m, hm⟩ := h5; exact DataW.trod_lt m _ _ _ hm
 have lt6 : ∀ x ∈ p6, x.block < W.heap.size := by obtain ⟨m, hm⟩ := h6; exact DataW.trod_lt m _ _ _ hm
 have lt7 : ∀ x ∈ p7, x.block < W.heap.size := by obtain ⟨m, hm⟩ := h7; exact DataW.trod_lt m _ _ _ hm
 have lt8 : ∀ x ∈ p8, x.block < W.heap.size := by obtain ⟨m, hm⟩ := h8; exact DataW.trod_lt m _ _ _ hm
 clear hA0 hval0
 refine (boardStamps_calls enc W base h0 h1 h2 h3 h4 h5 h6 h7 h8 (hval 0 3 v0 rfl rfl) (hval 1 9 v1 rfl rfl) (hval 2 9 v2 rfl rfl) (hval 3 3 v3 rfl rfl) (hval 4 9 v4 rfl rfl) (hval 5 9 v5 rfl rfl) (hval 6 9 v6 rfl rfl) (hval 7 53 v7 rfl rfl) (hval 8 53 v8 rfl rfl) lt0 lt1 lt2 lt3 lt4 lt5 lt6 lt7 lt8 hsz).mono fun e W' ⟨he, bel⟩ => ?_
 subst he
 exact ⟨_, rfl, _, _, _, [], _, [], hW', trodAll_mk1 (shut_bool Tryz.underlying4 _), (trodAll_cons_mk (Below.trod law_laidOut (by kernel_rfl) (of_decide_eq_true (by kernel_rfl)) h0 bel lt0) (trodAll_cons_mk (Below.trod law_laidOut (by kernel_rfl) (of_decide_eq_true (by kernel_rfl)) h1 bel lt1) (trodAll_cons_mk (Below.trod law_laidOut (by kernel_rfl) (of_decide_eq_true (by kernel_rfl)) h2 bel lt2) (trodAll_cons_mk (Below.trod law_laidOut (by kernel_rfl) (of_decide_eq_true (by kernel_rfl)) h3 bel lt3) (trodAll_cons_mk (Below.trod law_laidOut (by kernel_rfl) (of_decide_eq_true (by kernel_rfl)) h4 bel lt4) (trodAll_cons_mk (Below.trod law_laidOut (by kernel_rfl) (of_decide_eq_true (by kernel_rfl)) h5 bel lt5) (trodAll_cons_mk (Below.trod law_laidOut (by kernel_rfl) (of_decide_eq_true (by kernel_rfl)) h6 bel lt6) (trodAll_cons_mk (Below.trod law_laidOut (by kernel_rfl) (of_decide_eq_true (by kernel_rfl)) h7 bel lt7) (trodAll_cons_mk (Below.trod law_laidOut (by kernel_rfl) (of_decide_eq_true (by kernel_rfl)) h8 bel lt8) trodAll_mk0))))))))), rfl, bel.frame _, fun h => by cases h⟩
theorem boardStamps_holds : Rows.BoardStampsSaid :=
 OpenClaim.holds_of_wide 9 Tryz.f9 rfl rfl rfl rfl rfl rfl rfl ⟨rfl, rfl, rfl, rfl, rfl⟩ rfl rfl rfl rfl rfl (by kernel_rfl) Tryz.func9 (by kernel_rfl)
  (of_decide_eq_true (by kernel_rfl)) (by unfold Func.isWrapper; first | (rw [if_pos (by decide +kernel)]; kernel_rfl) | (rw [if_neg (by decide +kernel)]; exact ⟨rfl, rfl⟩))
  (fun os started H enc _ => boardStamps_lifted os started H enc)
#print axioms boardStamps_holds
end Go.Proofs.YtdlnnkbigeiilaaGreat
