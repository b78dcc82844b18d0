/- TrustJoins: Weights, Through and Together of anything answer what the document says. No condition. -/
import Derived.Test.YtjmeakfjfpnciaaZTrustJoins3
import Derived.Test.YtjmeakfjfpnciaaRows
import Derived.ProofKit
import Derived.SizedLaws
import Derived.Lib.SmallJoins
import Derived.Deep.Slices
import Derived.Deep.Fields
import Derived.ChangeMaps

set_option maxRecDepth 100000
set_option maxHeartbeats 4000000
set_option linter.unusedVariables false
set_option linter.unusedSimpArgs false
namespace Go.Proofs.Ytjmeakfjfpnciaa
open Go.RowKit
theorem pl_zero {l : List Int} (h : placesE l = 0) : l.length ≤ 16 ∧ l.length ≠ 0 ∧ OkP l ∧ l.Nodup := by
 unfold placesE at h
 by_cases h1 : 16 < l.length
 ·rw [if_pos h1] at h; cases h
 rw [if_neg h1] at h
 by_cases h2 : l.length = 0
 ·rw [if_pos h2] at h; cases h
 rw [if_neg h2] at h
 by_cases h3 : l.any outP = true
 ·rw [if_pos h3] at h; cases h
 rw [if_neg h3] at h
 by_cases h4 : l.Nodup
 ·refine ⟨by omega, h2, fun b hb => ?_, h4⟩
  exact outP_false (by simpa using (List.any_eq_false.1 (Bool.eq_false_iff.2 h3)) b hb)
 ·rw [if_neg h4] at h; cases h
theorem readE_zero {f : ByteArray → Bool} {bad : Nat} (hb : bad ≠ 0) {l : List Int} {xs : List ByteArray} (h : readE f bad l xs = 0) : placesE l = 0 ∧ l.length = xs.length ∧ xs.all f = true := by
 unfold readE at h
 by_cases h1 : placesE l ≠ 0
 ·rw [if_pos h1] at h; exact absurd h h1
 rw [if_neg h1] at h
 by_cases h2 : l.length = xs.length
 ·rw [if_pos h2] at h
  by_cases h3 : xs.all f = true
  ·exact ⟨by omega, h2, h3⟩
  ·rw [if_neg h3] at h; exact absurd h hb
 ·rw [if_neg h2] at h; cases h
def valN (xs : List ByteArray) (i : Nat) : Nat := numOf (xs.getD i ⟨#[]⟩)
theorem valN_here {xs : List ByteArray} {i : Nat} (h : i < xs.length) : valN xs i = numOf xs[i] := by unfold valN; rw [List.getD_eq_getElem?_getD, List.getElem?_eq_getElem h]; rfl
def wtS (G : GP) (l : List Int) (n : Nat) : List ByteArray := (List.range n).map fun i => textS (wtQ G.q.m l i 0) G.size
def thrE (G : GP) (l : List Int) (xs : List ByteArray) (x : Int) : Nat := if readE (isSc G.q.m G.size) 6 l xs ≠ 0 then readE (isSc G.q.m G.size) 6 l xs else if outP x = true then 4 else 0
def thrS (G : GP) (l : List Int) (xs : List ByteArray) (x : Int) : ByteArray := if thrE G l xs x = 0 then textS (thQ G.q.m l (valN xs) x l.length) G.size else ⟨#[]⟩
def tgU (q : Nat) (l : List Int) (v : Nat → Nat) : Nat → Nat
 | 0 => 1
 | i + 1 => tgU q l v i * v i ^ (wtN q l i 0 % q)
def togE (G : GP) (l : List Int) (xs : List ByteArray) : Nat := readE (isEl G.q.m G.size) 7 l xs
def togS (G : GP) (l : List Int) (xs : List ByteArray) : ByteArray := if togE G l xs = 0 then textS (lowN G (tgU G.q.m l (valN xs) l.length)) G.size else ⟨#[]⟩
theorem wtS_snoc (G : GP) (l : List Int) (n : Nat) : (wtS G l (n + 1)).map Value.string = (wtS G l n).map Value.string ++ [.string (textS (wtQ G.q.m l n 0) G.size)] := by
 unfold wtS
 rw [List.range_succ, List.map_append, List.map_append]
 rfl
theorem wtS_len (G : GP) (l : List Int) (n : Nat) : (wtS G l n).length = n := by unfold wtS; simp
theorem mont_zero8 (m : Nat) : mont m 0 = 0 := by unfold mont; simp
theorem dig_zero8 (i : Nat) : dig 0 i = 0 := by unfold dig; simp
theorem grp_odd (k : Nat) (h1 : 1 ≤ k) (h3 : k ≤ 3) : (grp k).q.m % 2 = 1 := by
 obtain rfl | rfl | rfl : k = 1 ∨ k = 2 ∨ k = 3 := by omega
 all_goals decide +kernel
theorem through_none (k : Int) (hk : ¬ (1 ≤ k ∧ k ≤ 3)) (v1 v2 : Value) (x : Int) (w : World) :
  Calls Try.prog 16 #[.int .i64 k, v1, v2, .int .i64 x] w (Gives (.tuple #[.string ⟨#[]⟩, .int .i64 1]) w) := by
 unfold Gives
 go_enter Try.func16, Try.ntmps16
 go_wp2_with fail
 refine (readSc_none k hk v1 v2 6 (grp 1) 0 [] w).mono ?_
 rintro e w1 ⟨hb9, p, v, rfl, _⟩
 have HB := Lib.hid hb9
 have HZS := Lib.hid hb9.size
 clear hb9
 go_wp2_with fail
 go_ret2
 exact ⟨rfl, HB.out⟩
theorem through_some (k : Nat) (h1 : 1 ≤ k) (h3 : k ≤ 3) (l : List Int) (n : Nat) (hn : l.length = n) (hnm : n ≤ 1152921504606846975) (xs : List ByteArray) (m : Nat) (hm : xs.length = m) (x : Int) (al ax : Option Addr) (cl cx : Nat) (w : World) (hL : Sl w w.heap.size al (l.map intV)) (hX : Sl w w.heap.size ax (xs.map Value.string)) :
  Calls Try.prog 16 #[.int .i64 (k : Int), .slice al n cl, .slice ax m cx, .int .i64 x] w (Gives (.tuple #[.string (thrS (grp k) l xs x), .int .i64 (thrE (grp k) l xs x : Int)]) w) := by
 unfold Gives
 have OK := Lib.hid (grp_ok k h1 h3)
 have HOD := Lib.hid (grp_odd k h1 h3)
 have HL := Lib.hid hL
 have HRD := Lib.hid (fun W h g => readSc_some k h1 h3 l n hn hnm xs m hm 6 (by decide) al ax cl cx W h g)
 have HX := Lib.hid hX
 obtain ⟨z, hz⟩ : ∃ z, readE (isSc (grp k).q.m (grp k).size) 6 l xs = z := ⟨_, rfl⟩
 obtain ⟨er, her⟩ : ∃ z, thrE (grp k) l xs x = z := ⟨_, rfl⟩
 obtain ⟨sr, hsr⟩ : ∃ z, thrS (grp k) l xs x = z := ⟨_, rfl⟩
 have hR0 := readE_zero (f := isSc (grp k).q.m (grp k).size) (bad := 6) (by decide) (l := l) (xs := xs)
 rw [hz] at hR0 HRD
 rw [her, hsr]
 unfold thrS at hsr
 rw [her] at hsr
 unfold thrE at her
 rw [hz] at her
 unfold ReadQ at HRD
 clear hz hL hX h1 h3
 by_cases hz0 : z = 0
 case neg =>
  have hd : ((z : Int) != 0) = true := by simp; omega
  obtain rfl : er = z := by rw [← her, if_pos hz0]
  obtain rfl : sr = ⟨#[]⟩ := by rw [← hsr, if_neg hz0]
  clear hz0 her hsr hR0 hn hm hnm
  go_enter Try.func16, Try.ntmps16
  go_wp2_with fail
  refine (HRD.out w HL.out HX.out).mono ?_
  rintro e w1 ⟨hb9, p, v, rfl, hx9⟩
  have HB := Lib.hid hb9
  have HZS := Lib.hid hb9.size
  clear hb9
  go_wp2_with fail
  go_ret2
  exact ⟨rfl, HB.out⟩
 subst hz0
 have hd : ((((0 : Nat) : Int)) != 0) = false := by simp
 rw [if_neg (by decide)] at her
 by_cases hx : outP x = true
 case pos =>
  obtain rfl : er = 4 := by rw [← her, if_pos hx]
  obtain rfl : sr = ⟨#[]⟩ := by rw [← hsr, if_neg (by decide)]
  have hdx : (x < 0) ∨ (255 < x ∧ ¬ x < 0) := by rcases outP_cases x with h | h | ⟨k9, rfl, _, h⟩; exact Or.inl h.1; exact Or.inr ⟨h.1, h.2.1⟩; rw [h] at hx; cases hx
  clear her hsr hR0 hn hm hnm hx
  rcases hdx with h1 | ⟨h2, h1⟩
  ·have hd1 : decide (x < 0) = true := decide_eq_true h1
   clear h1
   go_enter Try.func16, Try.ntmps16
   go_wp2_with fail
   refine (HRD.out w HL.out HX.out).mono ?_
   rintro e w1 ⟨hb9, p, v, rfl, hx9⟩
   have HB := Lib.hid hb9
   have HZS := Lib.hid hb9.size
   clear hb9
   go_wp2_with fail
   go_ret2
   exact ⟨rfl, HB.out⟩
  ·have hd1 : decide (x < 0) = false := decide_eq_false h1
   have hd2 : decide (x > 255) = true := decide_eq_true h2
   clear h1 h2
   go_enter Try.func16, Try.ntmps16
   go_wp2_with fail
   refine (HRD.out w HL.out HX.out).mono ?_
   rintro e w1 ⟨hb9, p, v, rfl, hx9⟩
   have HB := Lib.hid hb9
   have HZS := Lib.hid hb9.size
   clear hb9
   go_wp2_with fail
   go_ret2
   exact ⟨rfl, HB.out⟩
 have hxo := outP_false (Bool.eq_false_iff.2 hx)
 obtain rfl : er = 0 := by rw [← her, if_neg hx]
 rw [if_pos rfl] at hsr
 obtain ⟨hpl, hlm, hall⟩ := hR0 rfl
 obtain ⟨h16, h0, hok, hnd⟩ := pl_zero hpl
 have hth := th_eq (grp k).q.m (by have := OK.out.odd; omega) HOD.out l hok (valN xs) x hxo l.length (Nat.le_refl _)
 rw [← hth] at hsr
 obtain rfl : m = n := by omega
 have HW := Lib.hid (fun gb a c W h g => weights_any (grp k) OK.out gb l m hn (by omega) hok x hxo a c W h g)
 unfold WtR at HW
 rw [hn] at HW hsr
 have HVN := Lib.hid (fun i (hi : i < xs.length) => valN_here hi)
 have HM := Lib.hid hm
 have HSR := Lib.hid hsr
 have hd1 : decide (x < 0) = false := decide_eq_false (by omega)
 have hd2 : decide (x > 255) = false := decide_eq_false (by omega)
 have hm16 : m ≤ 16 := by omega
 clear her hsr hn hm hnm hx hxo hpl hlm hall h16 h0 hok hnd hth hR0
 go_enter Try.func16, Try.ntmps16
 go_wp2_with fail
 refine (HRD.out w HL.out HX.out).mono ?_
 rintro e w1 ⟨hb9, p, v, rfl, hx9⟩
 have HB := Lib.hid hb9
 have HZS := Lib.hid hb9.size
 have HRK := Lib.hid hx9
 clear hx9 hb9
 obtain ⟨gb, a, c, rfl, rfl, hg9, hs9, _⟩ := HRK.out (by simp)
 rw [HM.out]
 have HG := Lib.hid hg9
 have HS := Lib.hid hs9
 clear hg9 hs9 HRK
 have BS := Lib.hid (Below.refl w1.heap.size w1)
 have HGL := Lib.hid HG.out.lt
 replace HZS := sz HZS HGL.out
 obtain ⟨w2, hq2, hb9, hz9, Hsm⟩ := new1 w1 98 ([.int .u64 0, .int .u64 0, .int .u64 0, .int .u64 0])
 replace HG := Lib.hid (HG.out.up hb9)
 replace BS := hbu BS hb9
 replace HB := hbu HB hb9
 replace HZS := sz HZS hz9.out
 clear hb9 hz9
 go_wp2_with fail
 clear hq2
 refine (HW.out gb al cl w2 HG.out (HL.out.up HB.out)).mono ?_
 rintro e w3 ⟨hb9, aw, cw, rfl, hx9, hf9⟩
 replace Hsm := Lib.hid (Hsm.out.up hb9)
 replace HG := Lib.hid (HG.out.up hb9)
 replace BS := hbu BS hb9
 replace HB := hbu HB hb9
 replace HZS := sz HZS hb9.size
 have HWS := Lib.hid hx9
 clear hx9
 have HWF := Lib.hid hf9
 clear hf9 hb9
 have HSX := Lib.hid (HS.out.up BS.out)
 have HSL := Lib.hid (fun y (hy : a = some y) (hne : xs.flatMap (limC (grp k).q.m) ≠ []) => HS.out.lt hne y hy)
 clear BS HS
 have HKS := Lib.hid (Kept.refl (fun q9 => q9 = w1.heap.size) w3)
 have HB0 := HB
 have HG0 := HG
 have HZK := HZS
 go_wp2_with fail
 go_loopw [40] (fun i wr => ∃ j : Nat, j ≤ m ∧ i = .int .i64 j ∧ Hid (Kept (fun q9 => q9 = w1.heap.size) w3 wr) ∧ Hid (Bx wr w1.heap.size 98 (lim4 (grp k).q.m (thU (grp k).q.m l (valN xs) x j)))) (fun i _ => m - (intOf i).toNat)
 case atStart => exact ⟨0, Nat.zero_le _, rfl, HKS, Lib.hid (show Bx w3 w1.heap.size 98 (lim4 (grp k).q.m 0) by unfold lim4; rw [mont_zero8]; simp only [dig_zero8]; exact Hsm.out)⟩
 case round =>
  clear Hsm HB HG HZS HKS
  obtain ⟨j, hj, rfl, HK, Hsm⟩ := hrel
  have HSZ := Lib.hid (show w.heap.size ≤ w1.heap.size ∧ w1.heap.size < w3.heap.size ∧ w3.heap.size ≤ wr.heap.size ∧ gb < w1.heap.size ∧ w1.heap.size < w2.heap.size from ⟨by have := HZK.out; omega, by have := HZK.out; omega, HK.out.size, HGL.out, by have := HZK.out; omega⟩)
  have HB := Lib.hid (Below.keptP HB0.out HK.out (by have := HSZ.out; omega) (fun q9 h9 => (show w.heap.size ≤ _ by subst h9; have := HSZ.out; omega)))
  have HGP := Lib.hid (HG0.out.keptP HK.out (show ¬ (gb = w1.heap.size) by have := HSZ.out; omega))
  have HW1 := Lib.hid (HWS.out.kept HK.out (fun y hy hq => by have := HWF.out y hy; have := HSZ.out; have hq : y.block = w1.heap.size := hq; omega))
  by_cases hjm : j < m
  ·have hjx : j < xs.length := by rw [HM.out]; exact hjm
   have HX1 := Lib.hid (HSX.out.kept HK.out (fun y hy hq => by have := HSL.out y hy (flat_ne (limC_len _) (by omega) (by rw [← List.length_pos_iff]; omega)); have hq : y.block = w1.heap.size := hq; omega))
   have HW2 := Lib.hid (show Sl wr wr.heap.size aw ((List.range m).flatMap fun i => lim4 (grp k).q.m (wtN (grp k).q.m l i x)) from HW1.out)
   obtain ⟨bw, ow, rfl, hbw⟩ := HW2.out.adr (flat_ne (fun i => lim4_len _ _) (by omega) (by rw [← List.length_pos_iff, List.length_range]; omega))
   obtain ⟨bv, ov, rfl, hbv⟩ := HX1.out.adr (flat_ne (limC_len _) (by omega) (by rw [← List.length_pos_iff]; omega))
   have hcw := (HW2.out.elemS (fun i => lim4_len _ _) (by omega) j (by simpa using hjm)).2
   rw [List.getElem_range] at hcw
   have hcv := (HX1.out.elemS (limC_len _) (by omega) j hjx).2
   have hcw_0 := hcw 0 _ rfl
   rw [Nat.add_zero] at hcw_0
   have hcw_1 := hcw 1 _ rfl
   have hcw_2 := hcw 2 _ rfl
   have hcw_3 := hcw 3 _ rfl
   clear hcw
   have hcv_0 := hcv 0 _ rfl
   rw [Nat.add_zero] at hcv_0
   have hcv_1 := hcv 1 _ rfl
   have hcv_2 := hcv 2 _ rfl
   have hcv_3 := hcv 3 _ rfl
   clear hcv
   have HVJ := Lib.hid (HVN.out j hjx)
   generalize xs[j] = v at *
   have HTS := Lib.hid (show thU (grp k).q.m l (valN xs) x (j + 1) = thU (grp k).q.m l (valN xs) x j + wtN (grp k).q.m l j x * numOf v by rw [← HVJ.out]; rfl)
   generalize thU (grp k).q.m l (valN xs) x j = th at *
   generalize wtN (grp k).q.m l j x = wt at *
   have HBV := Lib.hid hbv
   replace Hsm := Lib.hid (show Bx wr w1.heap.size 98 [.int .u64 (dig (mont (grp k).q.m th) 0 : Int), .int .u64 (dig (mont (grp k).q.m th) 1 : Int), .int .u64 (dig (mont (grp k).q.m th) 2 : Int), .int .u64 (dig (mont (grp k).q.m th) 3 : Int)] from Hsm.out)
   have HZS := HSZ
   replace HZS := sz HZS HBV.out
   have sm_ := Hsm.out.c4
   have HCV := Lib.hid (fun (W : World) (h : Below wr.heap.size wr W) => And.intro ((h.cell (p := ⟨bv, ov + j * 4, none⟩) hbv).trans hcv_0) (And.intro ((h.cell (p := ⟨bv, ov + j * 4 + 1, none⟩) hbv).trans hcv_1) (And.intro ((h.cell (p := ⟨bv, ov + j * 4 + 2, none⟩) hbv).trans hcv_2) ((h.cell (p := ⟨bv, ov + j * 4 + 3, none⟩) hbv).trans hcv_3))))
   clear hcv_0 hcv_1 hcv_2 hcv_3 hbv
   have BV := Lib.hid (Below.refl wr.heap.size wr)
   have o4_sm_ := sm_; clear sm_
   obtain ⟨w4, hq4, hb9, hz9, Hwb⟩ := new1 wr 98 [.int .u64 (dig (mont (grp k).q.m wt) 0 : Int), .int .u64 (dig (mont (grp k).q.m wt) 1 : Int), .int .u64 (dig (mont (grp k).q.m wt) 2 : Int), .int .u64 (dig (mont (grp k).q.m wt) 3 : Int)]
   replace Hsm := Lib.hid (Hsm.out.up hb9)
   replace HGP := Lib.hid (HGP.out.up hb9)
   replace BV := hbu BV hb9
   replace HK := Lib.hid (Kept.up HK.out hb9)
   replace HB := hbu HB hb9
   replace HZS := sz HZS hz9.out
   clear hb9 hz9
   have sm_ := Hsm.out.c4
   have wb_ := Hwb.out.c4
   go_wp2_with fail
   clear hq4 o4_sm_ hcw_0 hcw_1 hcw_2 hcw_3 hbw
   have hcv := HCV.out _ BV.out
   have hbv := Nat.lt_of_lt_of_le HBV.out BV.out.size
   have HT := Lib.hid (show Below w4.heap.size w4 w4.drew from (Below.refl _ _).drew)
   have hl_sm := Hsm.out.lt
   have hl_wb := Hwb.out.lt
   refine wp_region_treek (fun wq9 => ∃ E : Over w4, wq9 = E.w) 10 ((.qs [0] (.e 1 [] (.qs [2] (.e 3 [] (.qs [4, 5, 6] (.e 7 [] (.a 8 (.a 9 (.a 10 .done)))))))))) (by kernel_rfl) (by kernel_rfl) (fun _ _ d _ _ h => by cases d <;> exact h) ⟨⟨_, HT.out⟩, rfl⟩ ?_
   have hov_sm := fun (E : Over w4) o => E.cell (b := w1.heap.size) o hl_sm
   have hov_wb := fun (E : Over w4) o => E.cell (b := wr.heap.size) o hl_wb
   have hov_bv := fun (E : Over w4) o => E.cell (b := bv) o hbv
   simp only [TreeK.qs]
   repeat (first | (refine treek_q rfl rfl ?_; go_big_quiet_step (fail); refine wpQuiet_nil ?_) | (refine treek_e rfl rfl ?_; go_big_quiet_step (fail); refine wpQuiet_nil ?_))
   refine treek_a rfl (fun K hK => ?_)
   go_simp
   refine (gMul_any (grp k) OK.out gb wt (numOf v) _ (HGP.out.up HT.out)).mono ?_
   rintro e w5 ⟨rfl, hb9⟩
   replace HT := Lib.hid (below_up HT.out hb9)
   replace HZS := sz HZS (show w4.heap.size ≤ w5.heap.size from HT.out.size)
   clear hb9
   refine hK _ _ ⟨fun _ => ⟨⟨w5, HT.out⟩, rfl⟩, ?_⟩
   clear hK K
   repeat (first | (refine treek_q rfl rfl ?_; go_big_quiet_step (fail); refine wpQuiet_nil ?_) | (refine treek_e rfl rfl ?_; go_big_quiet_step (fail); refine wpQuiet_nil ?_))
   refine treek_a rfl (fun K hK => ?_)
   go_simp
   refine (gAdd_any (grp k) OK.out gb th (wt * numOf v) _ (HGP.out.up HT.out)).mono ?_
   rintro e w6 ⟨rfl, hb9⟩
   replace HT := Lib.hid (below_up HT.out hb9)
   replace HZS := sz HZS (show w4.heap.size ≤ w6.heap.size from HT.out.size)
   clear hb9
   unfold scV limbV
   refine hK _ _ ⟨fun _ => ⟨⟨w6, HT.out⟩, rfl⟩, ?_⟩
   clear hK K
   repeat (first | (refine treek_q rfl rfl ?_; go_big_quiet_step (fail); refine wpQuiet_nil ?_) | (refine treek_e rfl rfl ?_; go_big_quiet_step (fail); refine wpQuiet_nil ?_))
   clear hov_sm hl_sm hov_wb hl_wb hov_bv
   refine treek_a rfl (fun K hK => ?_)
   clear sm_
   replace Hsm := Lib.hid (Hsm.out.up HT.out)
   clear wb_
   replace Hwb := Lib.hid (Hwb.out.up HT.out)
   replace HGP := Lib.hid (HGP.out.up HT.out)
   replace HK := Lib.hid (Kept.up HK.out HT.out)
   replace HB := hbu HB HT.out
   replace HZS := sz HZS HT.out.size
   clear HT
   have sm_ := Hsm.out.c4
   have wb_ := Hwb.out.c4
   have f7_sm := Hsm.out.frozen
   have o7_sm_ := sm_; clear sm_
   have o7_wb_ := wb_; clear wb_
   obtain ⟨w7, hq7, hg9, hz9, hx9⟩ := put4 Hsm 0 (.int .u64 (dig (mont (grp k).q.m (th + wt * numOf v)) 0 : Int)) 1 (.int .u64 (dig (mont (grp k).q.m (th + wt * numOf v)) 1 : Int)) 2 (.int .u64 (dig (mont (grp k).q.m (th + wt * numOf v)) 2 : Int)) 3 (.int .u64 (dig (mont (grp k).q.m (th + wt * numOf v)) 3 : Int)) [.int .u64 (dig (mont (grp k).q.m (th + wt * numOf v)) 0 : Int), .int .u64 (dig (mont (grp k).q.m (th + wt * numOf v)) 1 : Int), .int .u64 (dig (mont (grp k).q.m (th + wt * numOf v)) 2 : Int), .int .u64 (dig (mont (grp k).q.m (th + wt * numOf v)) 3 : Int)] rfl
   replace Hwb := Lib.hid (Hwb.out.grown hg9.out (sne (by have g0 := HZS.out; omega)))
   replace HGP := Lib.hid (HGP.out.grown hg9.out (sne (by have g0 := HZS.out; omega)))
   replace HK := Lib.hid (Kept.grown HK.out hg9.out (fun q9 e9 => by obtain rfl := Option.some.inj e9; exact Or.inr (rfl)))
   replace HB := hbg HB hg9 (by have g0 := HZS.out; omega)
   replace HZS := sz HZS hz9.out
   replace Hsm := hx9
   clear hx9 hg9 hz9
   have sm_ := Hsm.out.c4
   have wb_ := Hwb.out.c4
   go_simp
   try rw [hq7]
   refine hK _ _ ⟨fun h9 => absurd rfl h9, ?_⟩
   clear hK K hq7 o7_wb_ o7_sm_ f7_sm
   repeat (first | (refine treek_q rfl rfl ?_; go_big_quiet_step (fail); refine wpQuiet_nil ?_) | (refine treek_e rfl rfl ?_; go_big_quiet_step (fail); refine wpQuiet_nil ?_))
   refine treek_end ?_
   go_wp2_with fail
   go_roundw
   case rel => exact ⟨j + 1, by omega, by go_num, HK, by rw [HTS.out]; exact Hsm⟩
   case measure => simp [intOf]; omega
  ·have hjm' : j = m := by omega
   subst hjm'
   have hsm := HSR.out
   generalize thU (grp k).q.m l (valN xs) x j = th at *
   replace Hsm := Lib.hid (show Bx wr w1.heap.size 98 [.int .u64 (dig (mont (grp k).q.m th) 0 : Int), .int .u64 (dig (mont (grp k).q.m th) 1 : Int), .int .u64 (dig (mont (grp k).q.m th) 2 : Int), .int .u64 (dig (mont (grp k).q.m th) 3 : Int)] from Hsm.out)
   have HZS := HSZ
   have sm_ := Hsm.out.c4
   go_wp2_with fail
   refine (gPut_any (grp k) OK.out gb th wr HGP.out).mono ?_
   rintro e w4 ⟨rfl, hb9⟩
   clear sm_
   replace Hsm := Lib.hid (Hsm.out.up hb9)
   replace HGP := Lib.hid (HGP.out.up hb9)
   replace HB := hbu HB hb9
   replace HZS := sz HZS hb9.size
   clear hb9
   have sm_ := Hsm.out.c4
   rw [hsm]
   go_wp2_with fail
   go_ret2
   exact ⟨rfl, HB.out⟩
end Go.Proofs.Ytjmeakfjfpnciaa
namespace Go.Proofs.Ytjmeakfjfpnciaa
open Go.RowKit
theorem together_none (k : Int) (hk : ¬ (1 ≤ k ∧ k ≤ 3)) (v1 v2 : Value) (w : World) :
  Calls Try.prog 21 #[.int .i64 k, v1, v2] w (Gives (.tuple #[.string ⟨#[]⟩, .int .i64 1]) w) := by
 unfold Gives
 go_enter Try.func21, Try.ntmps21
 go_wp2_with fail
 refine (readEl_none k hk v1 v2 7 (grp 1) 0 [] w).mono ?_
 rintro e w1 ⟨hb9, p, v, rfl, _⟩
 have HB := Lib.hid hb9
 have HZS := Lib.hid hb9.size
 clear hb9
 go_wp2_with fail
 go_ret2
 exact ⟨rfl, HB.out⟩
theorem together_some (k : Nat) (h1 : 1 ≤ k) (h3 : k ≤ 3) (l : List Int) (n : Nat) (hn : l.length = n) (hnm : n ≤ 1152921504606846975) (xs : List ByteArray) (m : Nat) (hm : xs.length = m) (al ax : Option Addr) (cl cx : Nat) (w : World) (hL : Sl w w.heap.size al (l.map intV)) (hX : Sl w w.heap.size ax (xs.map Value.string)) :
  Calls Try.prog 21 #[.int .i64 (k : Int), .slice al n cl, .slice ax m cx] w (Gives (.tuple #[.string (togS (grp k) l xs), .int .i64 (togE (grp k) l xs : Int)]) w) := by
 unfold Gives
 have OK := Lib.hid (grp_ok k h1 h3)
 have HL := Lib.hid hL
 have HRD := Lib.hid (fun W h g => readEl_some k h1 h3 l n hn hnm xs m hm 7 (by decide) al ax cl cx W h g)
 have HX := Lib.hid hX
 obtain ⟨er, hz⟩ : ∃ z, togE (grp k) l xs = z := ⟨_, rfl⟩
 obtain ⟨sr, hsr⟩ : ∃ z, togS (grp k) l xs = z := ⟨_, rfl⟩
 rw [hz, hsr]
 unfold togS at hsr
 rw [hz] at hsr
 unfold togE at hz
 have hR0 := readE_zero (f := isEl (grp k).q.m (grp k).size) (bad := 7) (by decide) (l := l) (xs := xs)
 rw [hz] at hR0 HRD
 unfold ReadQ at HRD
 clear hz hL hX h1 h3
 by_cases hz0 : er = 0
 case neg =>
  have hd : ((er : Int) != 0) = true := by simp; omega
  obtain rfl : sr = ⟨#[]⟩ := by rw [← hsr, if_neg hz0]
  clear hz0 hsr hR0 hn hm hnm
  go_enter Try.func21, Try.ntmps21
  go_wp2_with fail
  refine (HRD.out w HL.out HX.out).mono ?_
  rintro e w1 ⟨hb9, p, v, rfl, hx9⟩
  have HB := Lib.hid hb9
  have HZS := Lib.hid hb9.size
  clear hb9
  go_wp2_with fail
  go_ret2
  exact ⟨rfl, HB.out⟩
 subst hz0
 have hd : ((((0 : Nat) : Int)) != 0) = false := by simp
 rw [if_pos rfl] at hsr
 obtain ⟨hpl, hlm, hall⟩ := hR0 rfl
 obtain ⟨h16, h0, hok, hnd⟩ := pl_zero hpl
 obtain rfl : m = n := by omega
 have HW := Lib.hid (fun gb a c W h g => weights_any (grp k) OK.out gb l m hn (by omega) hok 0 (by decide) a c W h g)
 unfold WtR at HW
 rw [hn] at HW hsr
 have HVN := Lib.hid (fun i (hi : i < xs.length) => valN_here hi)
 have HM := Lib.hid hm
 have HSR := Lib.hid hsr
 have hm16 : m ≤ 16 := by omega
 clear hsr hn hm hnm hpl hlm hall h16 h0 hok hnd hR0
 go_enter Try.func21, Try.ntmps21
 go_wp2_with fail
 refine (HRD.out w HL.out HX.out).mono ?_
 rintro e w1 ⟨hb9, p, v, rfl, hx9⟩
 have HB := Lib.hid hb9
 have HZS := Lib.hid hb9.size
 have HRK := Lib.hid hx9
 clear hx9 hb9
 obtain ⟨gb, a, c, rfl, rfl, hg9, hs9, _⟩ := HRK.out (by simp)
 rw [HM.out]
 have HG := Lib.hid hg9
 have HS := Lib.hid hs9
 clear hg9 hs9 HRK
 have BS := Lib.hid (Below.refl w1.heap.size w1)
 have HGL := Lib.hid HG.out.lt
 replace HZS := sz HZS HGL.out
 go_wp2_with fail
 refine (gOne_any (grp k) OK.out gb w1 HG.out).mono ?_
 rintro e w2 ⟨rfl, hb9⟩
 replace HG := Lib.hid (HG.out.up hb9)
 replace BS := hbu BS hb9
 replace HB := hbu HB hb9
 replace HZS := sz HZS hb9.size
 clear hb9
 unfold elV limbV
 obtain ⟨w3, hq3, hb9, hz9, Hsm⟩ := new1 w2 117 [.int .u64 (dig (mont (grp k).p.m 1) 0 : Int), .int .u64 (dig (mont (grp k).p.m 1) 1 : Int), .int .u64 (dig (mont (grp k).p.m 1) 2 : Int), .int .u64 (dig (mont (grp k).p.m 1) 3 : Int)]
 replace HG := Lib.hid (HG.out.up hb9)
 replace BS := hbu BS hb9
 replace HB := hbu HB hb9
 replace HZS := sz HZS hz9.out
 clear hb9 hz9
 have sm_ := Hsm.out.c4
 go_wp2_with fail
 clear hq3
 refine (HW.out gb al cl w3 HG.out (HL.out.up HB.out)).mono ?_
 rintro e w4 ⟨hb9, aw, cw, rfl, hx9, hf9⟩
 clear sm_
 replace Hsm := Lib.hid (Hsm.out.up hb9)
 replace HG := Lib.hid (HG.out.up hb9)
 replace BS := hbu BS hb9
 replace HB := hbu HB hb9
 replace HZS := sz HZS hb9.size
 have HWS := Lib.hid hx9
 clear hx9
 have HWF := Lib.hid hf9
 clear hf9 hb9
 have sm_ := Hsm.out.c4
 have HSX := Lib.hid (HS.out.up BS.out)
 have HSL := Lib.hid (fun y (hy : a = some y) (hne : xs.flatMap (limC (grp k).p.m) ≠ []) => HS.out.lt hne y hy)
 clear BS HS
 have HKS := Lib.hid (Kept.refl (fun q9 => q9 = w2.heap.size) w4)
 have HB0 := HB
 have HG0 := HG
 have HZK := HZS
 go_wp2_with fail
 go_loopw [31] (fun i wr => ∃ j : Nat, j ≤ m ∧ i = .int .i64 j ∧ Hid (Kept (fun q9 => q9 = w2.heap.size) w4 wr) ∧ Hid (Bx wr w2.heap.size 117 (lim4 (grp k).p.m (tgU (grp k).q.m l (valN xs) j)))) (fun i _ => m - (intOf i).toNat)
 case atStart => exact ⟨0, Nat.zero_le _, rfl, HKS, Hsm⟩
 case round =>
  clear Hsm HB HG HZS HKS
  obtain ⟨j, hj, rfl, HK, Hsm⟩ := hrel
  have HSZ := Lib.hid (show w.heap.size ≤ w2.heap.size ∧ w2.heap.size < w4.heap.size ∧ w4.heap.size ≤ wr.heap.size ∧ gb < w1.heap.size ∧ w2.heap.size < w3.heap.size ∧ w1.heap.size ≤ w2.heap.size from ⟨by have := HZK.out; omega, by have := HZK.out; omega, HK.out.size, HGL.out, by have := HZK.out; omega, by have := HZK.out; omega⟩)
  have HB := Lib.hid (Below.keptP HB0.out HK.out (by have := HSZ.out; omega) (fun q9 h9 => (show w.heap.size ≤ _ by subst h9; have := HSZ.out; omega)))
  have HGP := Lib.hid (HG0.out.keptP HK.out (show ¬ (gb = w2.heap.size) by have := HSZ.out; omega))
  have HW1 := Lib.hid (HWS.out.kept HK.out (fun y hy hq => by have := HWF.out y hy; have := HSZ.out; have hq : y.block = w2.heap.size := hq; omega))
  by_cases hjm : j < m
  ·have hjx : j < xs.length := by rw [HM.out]; exact hjm
   have HX1 := Lib.hid (HSX.out.kept HK.out (fun y hy hq => by have := HSL.out y hy (flat_ne (limC_len _) (by omega) (by rw [← List.length_pos_iff]; omega)); have hs := HSZ.out; have hq : y.block = w2.heap.size := hq; omega))
   have HW2 := Lib.hid (show Sl wr wr.heap.size aw ((List.range m).flatMap fun i => lim4 (grp k).q.m (wtN (grp k).q.m l i 0)) from HW1.out)
   obtain ⟨bw, ow, rfl, hbw⟩ := HW2.out.adr (flat_ne (fun i => lim4_len _ _) (by omega) (by rw [← List.length_pos_iff, List.length_range]; omega))
   obtain ⟨bv, ov, rfl, hbv⟩ := HX1.out.adr (flat_ne (limC_len _) (by omega) (by rw [← List.length_pos_iff]; omega))
   have hcw := (HW2.out.elemS (fun i => lim4_len _ _) (by omega) j (by simpa using hjm)).2
   rw [List.getElem_range] at hcw
   have hcv := (HX1.out.elemS (limC_len _) (by omega) j hjx).2
   have hcw_0 := hcw 0 _ rfl
   rw [Nat.add_zero] at hcw_0
   have hcw_1 := hcw 1 _ rfl
   have hcw_2 := hcw 2 _ rfl
   have hcw_3 := hcw 3 _ rfl
   clear hcw
   have hcv_0 := hcv 0 _ rfl
   rw [Nat.add_zero] at hcv_0
   have hcv_1 := hcv 1 _ rfl
   have hcv_2 := hcv 2 _ rfl
   have hcv_3 := hcv 3 _ rfl
   clear hcv
   have HVJ := Lib.hid (HVN.out j hjx)
   generalize xs[j] = v at *
   have HTS := Lib.hid (show tgU (grp k).q.m l (valN xs) (j + 1) = tgU (grp k).q.m l (valN xs) j * numOf v ^ (wtN (grp k).q.m l j 0 % (grp k).q.m) by rw [← HVJ.out]; rfl)
   generalize tgU (grp k).q.m l (valN xs) j = th at *
   generalize wtN (grp k).q.m l j 0 = wt at *
   have HBV := Lib.hid hbv
   replace Hsm := Lib.hid (show Bx wr w2.heap.size 117 [.int .u64 (dig (mont (grp k).p.m th) 0 : Int), .int .u64 (dig (mont (grp k).p.m th) 1 : Int), .int .u64 (dig (mont (grp k).p.m th) 2 : Int), .int .u64 (dig (mont (grp k).p.m th) 3 : Int)] from Hsm.out)
   have HZS := HSZ
   replace HZS := sz HZS HBV.out
   have sm_ := Hsm.out.c4
   have HCV := Lib.hid (fun (W : World) (h : Below wr.heap.size wr W) => And.intro ((h.cell (p := ⟨bv, ov + j * 4, none⟩) hbv).trans hcv_0) (And.intro ((h.cell (p := ⟨bv, ov + j * 4 + 1, none⟩) hbv).trans hcv_1) (And.intro ((h.cell (p := ⟨bv, ov + j * 4 + 2, none⟩) hbv).trans hcv_2) ((h.cell (p := ⟨bv, ov + j * 4 + 3, none⟩) hbv).trans hcv_3))))
   clear hcv_0 hcv_1 hcv_2 hcv_3 hbv
   have BV := Lib.hid (Below.refl wr.heap.size wr)
   have o5_sm_ := sm_; clear sm_
   obtain ⟨w5, hq5, hb9, hz9, Hwb⟩ := new1 wr 98 [.int .u64 (dig (mont (grp k).q.m wt) 0 : Int), .int .u64 (dig (mont (grp k).q.m wt) 1 : Int), .int .u64 (dig (mont (grp k).q.m wt) 2 : Int), .int .u64 (dig (mont (grp k).q.m wt) 3 : Int)]
   replace Hsm := Lib.hid (Hsm.out.up hb9)
   replace HGP := Lib.hid (HGP.out.up hb9)
   replace BV := hbu BV hb9
   replace HK := Lib.hid (Kept.up HK.out hb9)
   replace HB := hbu HB hb9
   replace HZS := sz HZS hz9.out
   clear hb9 hz9
   have sm_ := Hsm.out.c4
   have wb_ := Hwb.out.c4
   go_wp2_with fail
   clear hq5 o5_sm_ hcw_0 hcw_1 hcw_2 hcw_3 hbw
   have hcv := HCV.out _ BV.out
   have hbv := Nat.lt_of_lt_of_le HBV.out BV.out.size
   have HT := Lib.hid (show Below w5.heap.size w5 w5.drew from (Below.refl _ _).drew)
   have hl_sm := Hsm.out.lt
   have hl_wb := Hwb.out.lt
   refine wp_region_treek (fun wq9 => ∃ E : Over w5, wq9 = E.w) 10 ((.qs [0] (.e 1 [] (.qs [2, 3, 4, 5] (.e 6 [] (.e 7 [] (.a 8 (.a 9 (.a 10 .done))))))))) (by kernel_rfl) (by kernel_rfl) (fun _ _ d _ _ h => by cases d <;> exact h) ⟨⟨_, HT.out⟩, rfl⟩ ?_
   have hov_sm := fun (E : Over w5) o => E.cell (b := w2.heap.size) o hl_sm
   have hov_wb := fun (E : Over w5) o => E.cell (b := wr.heap.size) o hl_wb
   have hov_bv := fun (E : Over w5) o => E.cell (b := bv) o hbv
   simp only [TreeK.qs]
   repeat (first | (refine treek_q rfl rfl ?_; go_big_quiet_step (fail); refine wpQuiet_nil ?_) | (refine treek_e rfl rfl ?_; go_big_quiet_step (fail); refine wpQuiet_nil ?_))
   refine treek_a rfl (fun K hK => ?_)
   go_simp
   refine (gPower_any (grp k) OK.out gb (numOf v) wt _ (HGP.out.up HT.out)).mono ?_
   rintro e w6 ⟨rfl, hb9⟩
   replace HT := Lib.hid (below_up HT.out hb9)
   replace HZS := sz HZS (show w5.heap.size ≤ w6.heap.size from HT.out.size)
   clear hb9
   refine hK _ _ ⟨fun _ => ⟨⟨w6, HT.out⟩, rfl⟩, ?_⟩
   clear hK K
   repeat (first | (refine treek_q rfl rfl ?_; go_big_quiet_step (fail); refine wpQuiet_nil ?_) | (refine treek_e rfl rfl ?_; go_big_quiet_step (fail); refine wpQuiet_nil ?_))
   refine treek_a rfl (fun K hK => ?_)
   go_simp
   refine (gTimes_any (grp k) OK.out gb th (numOf v ^ (wt % (grp k).q.m)) _ (HGP.out.up HT.out)).mono ?_
   rintro e w7 ⟨rfl, hb9⟩
   replace HT := Lib.hid (below_up HT.out hb9)
   replace HZS := sz HZS (show w5.heap.size ≤ w7.heap.size from HT.out.size)
   clear hb9
   unfold elV limbV
   refine hK _ _ ⟨fun _ => ⟨⟨w7, HT.out⟩, rfl⟩, ?_⟩
   clear hK K
   repeat (first | (refine treek_q rfl rfl ?_; go_big_quiet_step (fail); refine wpQuiet_nil ?_) | (refine treek_e rfl rfl ?_; go_big_quiet_step (fail); refine wpQuiet_nil ?_))
   clear hov_sm hl_sm hov_wb hl_wb hov_bv
   refine treek_a rfl (fun K hK => ?_)
   clear sm_
   replace Hsm := Lib.hid (Hsm.out.up HT.out)
   clear wb_
   replace Hwb := Lib.hid (Hwb.out.up HT.out)
   replace HGP := Lib.hid (HGP.out.up HT.out)
   replace HK := Lib.hid (Kept.up HK.out HT.out)
   replace HB := hbu HB HT.out
   replace HZS := sz HZS HT.out.size
   clear HT
   have sm_ := Hsm.out.c4
   have wb_ := Hwb.out.c4
   have f8_sm := Hsm.out.frozen
   have o8_sm_ := sm_; clear sm_
   have o8_wb_ := wb_; clear wb_
   obtain ⟨w8, hq8, hg9, hz9, hx9⟩ := put4 Hsm 0 (.int .u64 (dig (mont (grp k).p.m (th * numOf v ^ (wt % (grp k).q.m))) 0 : Int)) 1 (.int .u64 (dig (mont (grp k).p.m (th * numOf v ^ (wt % (grp k).q.m))) 1 : Int)) 2 (.int .u64 (dig (mont (grp k).p.m (th * numOf v ^ (wt % (grp k).q.m))) 2 : Int)) 3 (.int .u64 (dig (mont (grp k).p.m (th * numOf v ^ (wt % (grp k).q.m))) 3 : Int)) [.int .u64 (dig (mont (grp k).p.m (th * numOf v ^ (wt % (grp k).q.m))) 0 : Int), .int .u64 (dig (mont (grp k).p.m (th * numOf v ^ (wt % (grp k).q.m))) 1 : Int), .int .u64 (dig (mont (grp k).p.m (th * numOf v ^ (wt % (grp k).q.m))) 2 : Int), .int .u64 (dig (mont (grp k).p.m (th * numOf v ^ (wt % (grp k).q.m))) 3 : Int)] rfl
   replace Hwb := Lib.hid (Hwb.out.grown hg9.out (sne (by have g0 := HZS.out; omega)))
   replace HGP := Lib.hid (HGP.out.grown hg9.out (sne (by have g0 := HZS.out; omega)))
   replace HK := Lib.hid (Kept.grown HK.out hg9.out (fun q9 e9 => by obtain rfl := Option.some.inj e9; exact Or.inr (rfl)))
   replace HB := hbg HB hg9 (by have g0 := HZS.out; omega)
   replace HZS := sz HZS hz9.out
   replace Hsm := hx9
   clear hx9 hg9 hz9
   have sm_ := Hsm.out.c4
   have wb_ := Hwb.out.c4
   go_simp
   try rw [hq8]
   refine hK _ _ ⟨fun h9 => absurd rfl h9, ?_⟩
   clear hK K hq8 o8_wb_ o8_sm_ f8_sm
   repeat (first | (refine treek_q rfl rfl ?_; go_big_quiet_step (fail); refine wpQuiet_nil ?_) | (refine treek_e rfl rfl ?_; go_big_quiet_step (fail); refine wpQuiet_nil ?_))
   refine treek_end ?_
   go_wp2_with fail
   go_roundw
   case rel => exact ⟨j + 1, by omega, by go_num, HK, by rw [HTS.out]; exact Hsm⟩
   case measure => simp [intOf]; omega
  ·have hjm' : j = m := by omega
   subst hjm'
   have hsm := HSR.out
   generalize tgU (grp k).q.m l (valN xs) j = th at *
   replace Hsm := Lib.hid (show Bx wr w2.heap.size 117 [.int .u64 (dig (mont (grp k).p.m th) 0 : Int), .int .u64 (dig (mont (grp k).p.m th) 1 : Int), .int .u64 (dig (mont (grp k).p.m th) 2 : Int), .int .u64 (dig (mont (grp k).p.m th) 3 : Int)] from Hsm.out)
   have HZS := HSZ
   have sm_ := Hsm.out.c4
   go_wp2_with fail
   refine (gText_any (grp k) OK.out gb th wr HGP.out).mono ?_
   rintro e w5 ⟨rfl, hb9⟩
   clear sm_
   replace Hsm := Lib.hid (Hsm.out.up hb9)
   replace HGP := Lib.hid (HGP.out.up hb9)
   replace HB := hbu HB hb9
   replace HZS := sz HZS hb9.size
   clear hb9
   have sm_ := Hsm.out.c4
   rw [hsm]
   go_wp2_with fail
   go_ret2
   exact ⟨rfl, HB.out⟩
end Go.Proofs.Ytjmeakfjfpnciaa
namespace Go.Proofs.Ytjmeakfjfpnciaa
open Go.RowKit
end Go.Proofs.Ytjmeakfjfpnciaa
namespace Go.Proofs.Ytjmeakfjfpnciaa
open Go.ChangeShapes Go.WideShapes Go.ChangeAt Go.RowKit
theorem law_own : ownKnob Try.prog.godebug = none := by kernel_rfl
theorem law_laidOut : laidOutB Try.prog = true := by kernel_rfl
section
variable {H : Type} {enc : TypeId × Value → H} {P : Program} {w : World}
theorem add_plain (b off i : Nat) : (⟨b, off, none⟩ : Addr).add i = ⟨b, off + i, none⟩ := by unfold Addr.add; split <;> simp_all
end
end Go.Proofs.Ytjmeakfjfpnciaa
namespace Go.Proofs.Ytjmeakfjfpnciaa
open Go.RowKit
def scE (G : GP) (n : Nat) (l : List ByteArray) : Nat := if l.length = n then if l.all (isSc G.q.m G.size) = true then 0 else 6 else 2
end Go.Proofs.Ytjmeakfjfpnciaa
namespace Go.Proofs.Ytjmeakfjfpnciaa
open Go.RowKit
end Go.Proofs.Ytjmeakfjfpnciaa
namespace Go.Proofs.Ytjmeakfjfpnciaa
open Go.RowKit
section
variable {G : GP} {aq ap : Option Addr} {cq cp : Nat}
theorem rIsSc_b (ok : G.Ok) (s : ByteArray) (b : Bool) (hb : isSc G.q.m G.size s = b) (w : World) (hG : RG w G aq ap) :
  Calls Try.prog 124 #[.agg #[.int .i64 (G.size : Int), .slice aq (dl G.q.m) cq, .slice ap (dl G.p.m) cp], .string s] w (Gives (.bool b) w) := by
 subst hb
 exact rIsSc ok s w hG
theorem rIsEl_b (ok : G.Ok) (s : ByteArray) (b : Bool) (hb : isEl G.q.m G.size s = b) (w : World) (hG : RG w G aq ap) :
  Calls Try.prog 72 #[.agg #[.int .i64 (G.size : Int), .slice aq (dl G.q.m) cq, .slice ap (dl G.p.m) cp], .string s] w (Gives (.bool b) w) := by
 subst hb
 exact rIsEl ok s w hG
theorem rWrongSc (ok : G.Ok) (n : Nat) (l : List ByteArray) (al : Option Addr) (cl : Nat) (hlen : l.length ≤ 8796093022207) (w : World) (hG : RG w G aq ap) (hS : Sl w w.heap.size al (l.map Value.string)) :
  Calls Try.prog 63 #[.agg #[.int .i64 (G.size : Int), .slice aq (dl G.q.m) cq, .slice ap (dl G.p.m) cp], .int .i64 (n : Int), .slice al l.length cl] w (Gives (.int .i64 (scE G n l : Int)) w) := by
 have OK := Lib.hid ok
 have HG := Lib.hid hG
 have HS := Lib.hid hS
 clear ok hG hS
 obtain ⟨z, hz⟩ : ∃ z, scE G n l = z := ⟨_, rfl⟩
 have hzz : z = if l.length = n then if l.all (isSc G.q.m G.size) = true then 0 else 6 else 2 := hz.symm
 rw [hz]
 clear hz
 unfold Gives
 by_cases h1 : l.length = n
 ·have hd : ((l.length : Int) != (n : Int)) = false := by simp; omega
  rw [if_pos h1] at hzz
  have HZZ := Lib.hid hzz
  clear hzz h1
  go_enter Try.func63, Try.ntmps63
  go_wp2_with fail
  obtain ⟨w1, hq1, hb9, hz9, Hbg⟩ := new1 w 108 [.int .i64 (G.size : Int), .slice aq (dl G.q.m) cq, .slice ap (dl G.p.m) cp]
  rw [hq1]
  clear hq1
  have HB := Lib.hid hb9
  have HZS := hz9
  clear hb9 hz9
  have bg_ := Hbg.out.c3
  go_wp2_with fail
  go_loopw [15] (fun i wr => ∃ j : Nat, j ≤ l.length ∧ i = .int .i64 j ∧ Hid (Below w1.heap.size w1 wr) ∧ Hid ((l.take j).all (isSc G.q.m G.size) = true)) (fun i _ => l.length - (intOf i).toNat)
  case atStart => exact ⟨0, Nat.zero_le _, rfl, Below.refl _ _, rfl⟩
  case round =>
   obtain ⟨j, hj, rfl, HL9, HAL⟩ := hrel
   have hb9 := HL9.out
   clear HL9
   have BL := Lib.hid (Below.refl w1.heap.size w1)
   clear bg_
   replace Hbg := Lib.hid (Hbg.out.up hb9)
   replace BL := hbu BL hb9
   replace HB := hbu HB hb9
   replace HZS := sz HZS hb9.size
   clear hb9
   have bg_ := Hbg.out.c3
   by_cases hjl : j < l.length
   ·obtain ⟨bl, ol, rfl, hbl, hc⟩ := (HS.out.up HB.out).at j (by simpa using hjl)
    rw [List.getElem_map] at hc
    obtain ⟨bj, hbj⟩ : ∃ x, isSc G.q.m G.size l[j] = x := ⟨_, rfl⟩
    have HBJ := Lib.hid hbj
    clear hbj
    go_wp2_with fail
    refine (rIsSc_b OK.out l[j] bj HBJ.out wr (HG.out.up HB.out)).mono ?_
    rintro e w2 ⟨rfl, hb9⟩
    clear bg_
    replace Hbg := Lib.hid (Hbg.out.up hb9)
    replace BL := hbu BL hb9
    replace HB := hbu HB hb9
    replace HZS := sz HZS hb9.size
    clear hb9
    have bg_ := Hbg.out.c3
    cases bj
    ·go_wp2_with fail
     go_ret
     exact ⟨by rw [HZZ.out, if_neg (by rw [all_not hjl HBJ.out]; decide)]; rfl, HB.out⟩
    ·go_wp2_with fail
     go_roundw
     case rel => exact ⟨j + 1, by omega, by go_num, BL, all_snoc hjl HAL.out HBJ.out⟩
     case measure => simp [intOf]; omega
   ·have hjn : j = l.length := by omega
    subst hjn
    go_wp2_with fail
    go_ret
    exact ⟨by rw [HZZ.out, if_pos (all_take_true HAL.out)]; rfl, HB.out⟩
 ·have hd : ((l.length : Int) != (n : Int)) = true := by simp; omega
  obtain rfl : z = 2 := by rw [hzz, if_neg h1]
  clear hzz h1
  go_enter Try.func63, Try.ntmps63
  go_wp2_with fail
  obtain ⟨w1, hq1, hb9, hz9, Hbg⟩ := new1 w 108 [.int .i64 (G.size : Int), .slice aq (dl G.q.m) cq, .slice ap (dl G.p.m) cp]
  rw [hq1]
  clear hq1
  have HB := Lib.hid hb9
  have HZS := hz9
  clear hb9 hz9
  have bg_ := Hbg.out.c3
  go_wp2_with fail
  go_ret
  exact ⟨rfl, HB.out⟩
end
theorem size_n0 (k : Nat) (h1 : 1 ≤ k) (h3 : k ≤ 3) : (((grp k).size : Int) == 0) = false := by
 obtain rfl | rfl | rfl : k = 1 ∨ k = 2 ∨ k = 3 := by omega
 all_goals rfl
theorem sc_len {G : GP} (ok : G.Ok) {s : ByteArray} (h : isSc G.q.m G.size s = true) : s.size ≤ 32 := by rw [isSc_size h]; exact ok.size_le
theorem el_len {G : GP} (ok : G.Ok) {s : ByteArray} (h : isEl G.q.m G.size s = true) : s.size ≤ 32 := by rw [isEl_size h]; exact ok.size_le
def mulQ (G : GP) (a b : Nat) : Nat := a * b % G.q.m
def addQ (G : GP) (a b : Nat) : Nat := (a + b) % G.q.m
def subQ (G : GP) (a b : Nat) : Nat := (a + (G.q.m - b)) % G.q.m
def invQ (G : GP) (a : Nat) : Nat := a ^ (G.q.m - 2) % G.q.m
section
variable {G : GP} {aq ap : Option Addr} {cq cp : Nat}
theorem mulQ_lt (ok : G.Ok) (a b : Nat) : mulQ G a b < G.q.m := Nat.mod_lt _ ok.q.pos
theorem subQ_lt (ok : G.Ok) (a b : Nat) : subQ G a b < G.q.m := Nat.mod_lt _ ok.q.pos
theorem invQ_lt (ok : G.Ok) (a : Nat) : invQ G a < G.q.m := Nat.mod_lt _ ok.q.pos
theorem q_16 (ok : G.Ok) {x : Nat} (h : x < G.q.m) : x < DD ^ 16 := Nat.lt_trans h ok.q.lt4
theorem rMulQ (ok : G.Ok) {a b : Nat} {aa ab : Option Addr} {ca cb : Nat} (ha : a < DD ^ 16) (hb : b < DD ^ 16) (w : World) (hG : RG w G aq ap) (hA : NumAt w aa a) (hB : NumAt w ab b) :
  Calls Try.prog 121 #[.agg #[.int .i64 (G.size : Int), .slice aq (dl G.q.m) cq, .slice ap (dl G.p.m) cp], .slice aa (dl a) ca, .slice ab (dl b) cb] w fun e w' => NumR w e w' (mulQ G a b) := rMul ok ha hb w hG hA hB
theorem rAddQ (ok : G.Ok) {a b : Nat} {aa ab : Option Addr} {ca cb : Nat} (ha : a < DD ^ 16) (hb : b < DD ^ 16) (w : World) (hG : RG w G aq ap) (hA : NumAt w aa a) (hB : NumAt w ab b) :
  Calls Try.prog 125 #[.agg #[.int .i64 (G.size : Int), .slice aq (dl G.q.m) cq, .slice ap (dl G.p.m) cp], .slice aa (dl a) ca, .slice ab (dl b) cb] w fun e w' => NumR w e w' (addQ G a b) := rAdd ok ha hb w hG hA hB
theorem rSubQ (ok : G.Ok) {a b : Nat} {aa ab : Option Addr} {ca cb : Nat} (ha : a < DD ^ 16) (hb : b ≤ G.q.m) (w : World) (hG : RG w G aq ap) (hA : NumAt w aa a) (hB : NumAt w ab b) :
  Calls Try.prog 122 #[.agg #[.int .i64 (G.size : Int), .slice aq (dl G.q.m) cq, .slice ap (dl G.p.m) cp], .slice aa (dl a) ca, .slice ab (dl b) cb] w fun e w' => NumR w e w' (subQ G a b) := rSub ok ha hb w hG hA hB
theorem rInvQ (ok : G.Ok) (h2 : 2 ≤ G.q.m) {a : Nat} {aa : Option Addr} {ca : Nat} (ha : a < DD ^ 16) (w : World) (hG : RG w G aq ap) (hA : NumAt w aa a) :
  Calls Try.prog 123 #[.agg #[.int .i64 (G.size : Int), .slice aq (dl G.q.m) cq, .slice ap (dl G.p.m) cp], .slice aa (dl a) ca] w fun e w' => NumR w e w' (invQ G a) := rInv ok h2 ha w hG hA
theorem rTextQ (ok : G.Ok) {x : Nat} {an : Option Addr} {cn : Nat} (hx : x < G.q.m) (w : World) (hN : NumAt w an x) :
  Calls Try.prog 61 #[.slice an (dl x) cn, .int .i64 (G.size : Int)] w fun e w' => e = .returned (.string (textS x G.size)) ∧ Below w.heap.size w w' :=
 rText ok (q_16 ok hx) w hN
end
end Go.Proofs.Ytjmeakfjfpnciaa
namespace Go.Proofs.Ytjmeakfjfpnciaa
open Go.RowKit
theorem nodup_take {l : List Int} (j : Nat) (h : l.Nodup) : (l.take j).Nodup := h.sublist (List.take_sublist j l)
theorem in_take_succ {l : List Int} {t : Nat} (ht : t < l.length) {x : Int} (h : x ∉ l.take t) (h1 : ¬ l[t] = x) : x ∉ l.take (t + 1) := by
 rw [List.take_succ_eq_append_getElem ht]
 simp only [List.mem_append, List.mem_singleton, not_or]
 exact ⟨h, fun e => h1 e.symm⟩
theorem dup_here {l : List Int} {j t : Nat} (hj : j < l.length) (ht : t < j) (h : l[t]'(by omega) = l[j]) : ¬ l.Nodup := fun hn => by
 have h1 := nodup_take (j + 1) hn
 rw [List.take_succ_eq_append_getElem hj, nodup_snoc] at h1
 refine h1.2 ?_
 rw [← h]
 exact List.mem_iff_getElem.2 ⟨t, by rw [List.length_take]; omega, by rw [List.getElem_take]⟩
theorem rplaces_any (l : List Int) (n : Nat) (hn : l.length = n) (a : Option Addr) (c : Nat) (w : World) (hX : Sl w w.heap.size a (l.map intV)) :
  Calls Try.prog 60 #[.slice a n c] w fun e w' => e = .returned (.int .i64 (placesE l : Int)) ∧ Below w.heap.size w w' := by
 have HN := Lib.hid hn
 have HX := Lib.hid hX
 obtain ⟨z, hz⟩ : ∃ z, placesE l = z := ⟨_, rfl⟩
 rw [hz]
 by_cases h16 : 16 < n
 ·obtain rfl : z = 3 := by rw [← hz]; unfold placesE; rw [if_pos (by omega)]
  have hd : decide ((n : Int) > 16) = true := by simp; omega
  clear hn hX hz h16
  go_enter Try.func60, Try.ntmps60
  go_wp2_with fail
  go_ret
  exact ⟨rfl, Below.refl _ _⟩
 have hd : decide ((n : Int) > 16) = false := by simp; omega
 by_cases h0 : n = 0
 ·obtain rfl : z = 2 := by rw [← hz]; unfold placesE; rw [if_neg (by omega), if_pos (by omega)]
  have hd0 : ((n : Int) == 0) = true := by simp; omega
  clear hn hX hz h16 h0
  go_enter Try.func60, Try.ntmps60
  go_wp2_with fail
  go_ret
  exact ⟨rfl, Below.refl _ _⟩
 have hd0 : ((n : Int) == 0) = false := by simp; omega
 have HP := Lib.hid (fun (j : Nat) (hj : j < l.length) (h : outP l[j] = true) => (show z = 4 from hz ▸ pl_out (by omega) hj h))
 have HE := Lib.hid (fun (h : (l.take l.length).any outP = false) => (show z = if l.Nodup then 0 else 10 from hz ▸ pl_end (by omega) (by omega) h))
 have hn16 : n ≤ 16 := by omega
 clear hn hX hz h16 h0
 go_enter Try.func60, Try.ntmps60
 go_wp2_with fail
 clear hd hd0
 go_loopw [16] (fun i wr => ∃ j : Nat, j ≤ n ∧ i = .int .i64 j ∧ Hid (Below w.heap.size w wr) ∧ Hid ((l.take j).any outP = false)) (fun i _ => n - (intOf i).toNat)
 case atStart => exact ⟨0, Nat.zero_le _, rfl, Below.refl _ _, rfl⟩
 case round =>
  obtain ⟨j, hj, rfl, HB, HAL⟩ := hrel
  by_cases hjn : j < n
  ·have hjl : j < l.length := by rw [HN.out]; exact hjn
   obtain ⟨bl, ol, rfl, hbl, hc⟩ := (HX.out.up HB.out).at j (by rw [List.length_map]; exact hjl)
   rw [List.getElem_map] at hc
   unfold intV at hc
   have HSN := Lib.hid (any_snocP hjl HAL.out)
   have HPJ := Lib.hid (HP.out j hjl)
   generalize l[j] = x at *
   rcases outP_cases x with ⟨h1, h2⟩ | ⟨h1, h1', h2⟩ | ⟨k, rfl, hk, h2⟩
   ·obtain rfl : z = 4 := HPJ.out h2
    clear h2
    go_wp2_with fail
    go_ret
    exact ⟨rfl, HB.out⟩
   ·obtain rfl : z = 4 := HPJ.out h2
    have h1'' : decide (x < 0) = false := decide_eq_false h1'
    have h1''' : decide (x > 255) = true := decide_eq_true h1
    clear h2 h1 h1'
    go_wp2_with fail
    go_ret
    exact ⟨rfl, HB.out⟩
   ·replace HSN := Lib.hid (HSN.out h2)
    have hd1 : decide ((k : Int) < 0) = false := by simp
    have hd2 : decide ((k : Int) > 255) = false := by simp; omega
    clear h2
    go_wp2_with fail
    go_roundw
    case rel => exact ⟨j + 1, by omega, by go_num, HB, HSN⟩
    case measure => simp [intOf]; omega
  ·have hjn' : j = n := by omega
   subst hjn'
   have hz := HE.out (by rw [HN.out]; exact HAL.out)
   have HNT := Lib.hid (fun (h : ¬ l.Nodup) => show z = 10 by rw [hz, if_neg h])
   have HNF := Lib.hid (fun (h : l.Nodup) => show z = 0 by rw [hz, if_pos h])
   clear hz HE HP HAL hjn
   generalize j = n at *
   obtain ⟨wo, rfl⟩ : ∃ wo : World, wo = wr := ⟨_, rfl⟩
   have BL := Lib.hid (Below.refl wo.heap.size wo)
   go_wp2_with fail
   go_loopw [29] (fun i wr => ∃ j : Nat, j ≤ n ∧ i = .int .i64 j ∧ Hid (Below wo.heap.size wo wr) ∧ Hid ((l.take j).Nodup)) (fun i _ => n - (intOf i).toNat)
   case atStart => exact ⟨0, Nat.zero_le _, rfl, BL, List.nodup_nil⟩
   case round =>
    obtain ⟨j, hj, rfl, HL9, HND⟩ := hrel
    have hb9 := HL9.out
    clear HL9
    replace BL := hbu BL hb9
    replace HB := hbu HB hb9
    have HZS := Lib.hid hb9.size
    clear hb9
    by_cases hjn : j < n
    ·have hjl : j < l.length := by rw [HN.out]; exact hjn
     obtain ⟨bl, ol, rfl, hbl, hc⟩ := (HX.out.up HB.out).at j (by rw [List.length_map]; exact hjl)
     rw [List.getElem_map] at hc
     unfold intV at hc
     have HSJ := Lib.hid (fun (h : l[j] ∉ l.take j) => (show (l.take (j + 1)).Nodup by rw [List.take_succ_eq_append_getElem hjl, nodup_snoc]; exact ⟨HND.out, h⟩))
     have HDU := Lib.hid (fun (t : Nat) (ht : t < j) (h : l[t]'(by omega) = l[j]) => HNT.out (dup_here hjl ht h))
     obtain ⟨x, hx⟩ : ∃ x, l[j] = x := ⟨_, rfl⟩
     rw [hx] at HSJ hc
     simp only [hx] at HDU
     clear hx
     obtain ⟨wo2, rfl⟩ : ∃ wo2 : World, wo2 = wr := ⟨_, rfl⟩
     have BM := Lib.hid (Below.refl wo2.heap.size wo2)
     go_wp2_with fail
     go_loopw [7] (fun i wr => ∃ t : Nat, t ≤ j ∧ i = .int .i64 t ∧ Hid (Below wo2.heap.size wo2 wr) ∧ Hid (x ∉ l.take t)) (fun i _ => j - (intOf i).toNat)
     case atStart => exact ⟨0, Nat.zero_le _, rfl, BM, List.not_mem_nil⟩
     case round =>
      obtain ⟨t, ht, rfl, HL9, HNI⟩ := hrel
      have hb9 := HL9.out
      clear HL9
      replace BL := hbu BL hb9
      replace BM := hbu BM hb9
      replace HB := hbu HB hb9
      replace HZS := sz HZS hb9.size
      clear hb9
      by_cases htj : t < j
      ·have htl : t < l.length := by omega
       obtain ⟨_, _, e9, hbl2, hc2⟩ := (HX.out.up HB.out).at t (by rw [List.length_map]; exact htl)
       cases e9
       rw [List.getElem_map] at hc2
       unfold intV at hc2
       have HNS := Lib.hid (in_take_succ htl HNI.out)
       by_cases hy : l[t] = x
       ·obtain rfl : z = 10 := HDU.out t htj hy
        rw [hy] at hc2
        clear hy
        go_wp2_with fail
        go_ret
        exact ⟨rfl, HB.out⟩
       ·have hy2 : (l[t] == x) = false := by simp [hy]
        replace HNS := Lib.hid (HNS.out hy)
        clear hy
        generalize l[t] = y at *
        go_wp2_with fail
        go_roundw
        case rel => exact ⟨t + 1, by omega, by go_num, BM, HNS⟩
        case measure => simp [intOf]; omega
      ·have htj' : t = j := by omega
       subst htj'
       have HNX := Lib.hid (HSJ.out HNI.out)
       go_wp2_with fail
       go_roundw
       case rel => exact ⟨t + 1, by omega, by go_num, BL, HNX⟩
       case measure => simp [intOf]; omega
    ·have hjn' : j = n := by omega
     subst hjn'
     obtain rfl : z = 0 := HNF.out (by have h9 := HND.out; rwa [List.take_of_length_le (by rw [HN.out]; exact Nat.le_refl _)] at h9)
     go_wp2_with fail
     go_ret
     exact ⟨rfl, HB.out⟩
end Go.Proofs.Ytjmeakfjfpnciaa
namespace Go.Proofs.Ytjmeakfjfpnciaa
open Go.RowKit
theorem rOfI (y : Int) (h : 0 ≤ y ∧ y ≤ 255) (w : World) : Calls Try.prog 71 #[.int .i64 y] w fun e w' => NumR w e w' y.toNat := by
 obtain ⟨k, rfl⟩ : ∃ k : Nat, y = k := ⟨y.toNat, by omega⟩
 rw [Int.toNat_natCast]
 exact refOf_any k (by omega) w
theorem rOf1 (w : World) : Calls Try.prog 71 #[.int .i64 1] w fun e w' => NumR w e w' 1 := refOf_any 1 (by decide) w
theorem prQ_lt {q : Nat} (hq : 1 < q) (f : Int → Nat) (l : List Int) (i : Nat) : ∀ j, prQ q f l i j < q
 | 0 => hq
 | j + 1 => by
  unfold prQ
  split
  ·exact prQ_lt hq f l i j
  ·exact Nat.mod_lt _ (by omega)
theorem prQ_succ {G : GP} (f : Int → Nat) (l : List Int) {i j : Nat} (h : ¬ i = j) : prQ G.q.m f l i (j + 1) = mulQ G (prQ G.q.m f l i j) (f (l.getD j 0)) := if_neg h
theorem prQ_same {q : Nat} (f : Int → Nat) (l : List Int) {i j : Nat} (h : i = j) : prQ q f l i (j + 1) = prQ q f l i j := if_pos h
section
variable {G : GP} {aq ap : Option Addr} {cq cp : Nat}
theorem rweight_any (ok : G.Ok) (l : List Int) (n : Nat) (hn : l.length = n) (hn16 : n ≤ 16) (hl : OkP l) (i : Nat) (hi : i < n) (x : Int) (hx : 0 ≤ x ∧ x ≤ 255) (a : Option Addr) (c : Nat) (w : World) (hG : RG w G aq ap) (hX : Sl w w.heap.size a (l.map intV)) :
  Calls Try.prog 62 #[.agg #[.int .i64 (G.size : Int), .slice aq (dl G.q.m) cq, .slice ap (dl G.p.m) cp], .slice a n c, .int .i64 (i : Int), .int .i64 x] w fun e w' => NumR w e w' (wtQ G.q.m l i x) := by
 have OK := Lib.hid ok
 have HRG := Lib.hid hG
 have HX := Lib.hid hX
 have HN := Lib.hid hn
 have HL := Lib.hid hl
 have HXX := Lib.hid hx
 have HI := Lib.hid hi
 have HQ := Lib.hid (show 256 < G.q.m from ok.odd)
 have HP1 := Lib.hid (prQ_lt (show 1 < G.q.m by have := ok.odd; omega) (sbN G.q.m x) l i)
 have HAI := Lib.hid (hl _ (List.getElem_mem (show i < l.length by rw [hn]; exact hi)))
 have HGI := Lib.hid (getD_here (show i < l.length by rw [hn]; exact hi))
 obtain ⟨bi, oi, rfl, hbi, hci⟩ := hX.at i (by rw [List.length_map, hn]; exact hi)
 rw [List.getElem_map] at hci
 unfold intV at hci
 obtain ⟨ai, hai⟩ : ∃ v, l[i]'(by rw [hn]; exact hi) = v := ⟨_, rfl⟩
 rw [hai] at HAI HGI hci
 have HP2 := Lib.hid (prQ_lt (show 1 < G.q.m by have := ok.odd; omega) (sbN G.q.m ai) l i)
 have HWT := Lib.hid (show wtQ G.q.m l i x = mulQ G (prQ G.q.m (sbN G.q.m x) l i l.length) (invQ G (prQ G.q.m (sbN G.q.m ai) l i l.length)) by unfold wtQ wtV; rw [HGI.out]; rfl)
 have HCI := Lib.hid (fun (W : World) (h : Below w.heap.size w W) => (h.cell (p := ⟨bi, oi + i, none⟩) hbi).trans hci)
 have HBI := Lib.hid hbi
 rw [HWT.out, HN.out]
 clear ok hG hX hn hl hx hi hai hci hbi HWT
 go_enter Try.func62, Try.ntmps62
 go_wp2_with fail
 obtain ⟨w1, hq1, hb9, hz9, Hbg⟩ := new1 w 108 [.int .i64 (G.size : Int), .slice aq (dl G.q.m) cq, .slice ap (dl G.p.m) cp]
 rw [hq1]
 clear hq1
 have HB := Lib.hid hb9
 have HZS := hz9
 clear hb9 hz9
 have bg_ := Hbg.out.c3
 go_wp2_with fail
 refine (rOf1 w1).mono ?_
 rintro e w2 ⟨au, cu, rfl, hn9, hb9⟩
 clear bg_
 replace Hbg := Lib.hid (Hbg.out.up hb9)
 replace HB := hbu HB hb9
 replace HZS := sz HZS hb9.size
 have HN1 := Lib.hid hn9
 clear hn9 hb9
 have bg_ := Hbg.out.c3
 go_wp2_with fail
 refine (rOf1 w2).mono ?_
 rintro e w3 ⟨ad, cd, rfl, hn9, hb9⟩
 clear bg_
 replace Hbg := Lib.hid (Hbg.out.up hb9)
 replace HN1 := Lib.hid (HN1.out.up hb9)
 replace HB := hbu HB hb9
 replace HZS := sz HZS hb9.size
 have HN2 := Lib.hid hn9
 clear hn9 hb9
 have bg_ := Hbg.out.c3
 go_wp2_with fail
 have HU := HN1
 have HD := HN2
 clear HN1 HN2
 have BL := Lib.hid (Below.refl w3.heap.size w3)
 go_loopw [17, 9, 10] (fun j u d wr => ∃ (t : Nat) (au : Option Addr) (cu : Nat) (ad : Option Addr) (cd : Nat), t ≤ n ∧ j = .int .i64 t ∧ u = .slice au (dl (prQ G.q.m (sbN G.q.m x) l i t)) cu ∧ d = .slice ad (dl (prQ G.q.m (sbN G.q.m ai) l i t)) cd ∧ Hid (Below w3.heap.size w3 wr) ∧ Hid (NumAt wr au (prQ G.q.m (sbN G.q.m x) l i t)) ∧ Hid (NumAt wr ad (prQ G.q.m (sbN G.q.m ai) l i t))) (fun j _ _ _ => n - (intOf j).toNat)
 case atStart => exact ⟨0, au, cu, ad, cd, Nat.zero_le _, rfl, rfl, rfl, BL, HU, HD⟩
 case round =>
  clear HU HD
  obtain ⟨t, au, cu, ad, cd, ht, rfl, rfl, rfl, HL9, HU, HD⟩ := hrel
  have hb9 := HL9.out
  clear HL9 bg_
  replace Hbg := Lib.hid (Hbg.out.up hb9)
  replace BL := hbu BL hb9
  replace HB := hbu HB hb9
  replace HZS := sz HZS hb9.size
  clear hb9
  have bg_ := Hbg.out.c3
  by_cases htn : t < n
  ·have htl : t < l.length := by rw [HN.out]; exact htn
   obtain ⟨_, _, e9, hbl, hc⟩ := (HX.out.up HB.out).at t (by rw [List.length_map]; exact htl)
   cases e9
   rw [List.getElem_map] at hc
   unfold intV at hc
   have hci := HCI.out _ HB.out
   have HAT := Lib.hid (HL.out _ (List.getElem_mem htl))
   have HGT := Lib.hid (getD_here htl)
   generalize l[t] = y at *
   by_cases hit : i = t
   ·have hd : ((t : Int) != (i : Int)) = false := by simp; omega
    have HE1 := Lib.hid (prQ_same (q := G.q.m) (sbN G.q.m x) l hit)
    have HE2 := Lib.hid (prQ_same (q := G.q.m) (sbN G.q.m ai) l hit)
    clear hit hci
    go_wp2_with fail
    go_roundw
    case rel => exact ⟨t + 1, au, cu, ad, cd, by omega, by go_num, by rw [HE1.out], by rw [HE2.out], BL, by rw [HE1.out]; exact HU, by rw [HE2.out]; exact HD⟩
    case measure => simp [intOf]; omega
   ·have hd : ((t : Int) != (i : Int)) = true := by simp; omega
    have HE1 := Lib.hid (prQ_succ (G := G) (sbN G.q.m x) l hit)
    have HE2 := Lib.hid (prQ_succ (G := G) (sbN G.q.m ai) l hit)
    rw [HGT.out] at HE1 HE2
    have HS1 := Lib.hid (show sbN G.q.m x y = subQ G y.toNat x.toNat from rfl)
    have HS2 := Lib.hid (show sbN G.q.m ai y = subQ G y.toNat ai.toNat from rfl)
    rw [HS1.out] at HE1
    rw [HS2.out] at HE2
    have HU16 := Lib.hid (q_16 OK.out (HP1.out t))
    have HD16 := Lib.hid (q_16 OK.out (HP2.out t))
    have HYN := Lib.hid (show y.toNat < DD ^ 16 from q_16 OK.out (by have h1 := HAT.out; have h2 := HQ.out; omega))
    have HXN := Lib.hid (show x.toNat ≤ G.q.m by have h1 := HXX.out; have h2 := HQ.out; omega)
    have HAN := Lib.hid (show ai.toNat ≤ G.q.m by have h1 := HAI.out; have h2 := HQ.out; omega)
    clear hit HS1 HS2
    generalize prQ G.q.m (sbN G.q.m x) l i t = pu at *
    generalize prQ G.q.m (sbN G.q.m ai) l i t = pd at *
    go_upto_region 6 with fail
    have HT := Lib.hid (show Below wr.heap.size wr wr.drew from (Below.refl _ _).drew)
    have hl_bg := Hbg.out.lt
    refine wp_region_tree (fun wq9 => ∃ E : Over wr, wq9 = E.w) ((.qs [0, 1, 2, 3, 5] (.a 4 (.a 6 (.a 7 (.a 8 (.qs [9] .done))))))) (by kernel_rfl) (by kernel_rfl) (fun _ _ d _ _ h => by cases d <;> exact h) ⟨⟨_, HT.out⟩, rfl⟩ ?_
    have hov_bg := fun (E : Over wr) o => E.cell (b := w.heap.size) o hl_bg
    simp only [Tree.qs]
    repeat (refine tree_q rfl rfl ?_; go_big_quiet_step (fail); refine wpQuiet_nil ?_)
    refine tree_a rfl (fun K hK => ?_)
    go_simp
    refine (rOfI y HAT.out _).mono ?_
    rintro e w4 ⟨a3, c3, rfl, hn9, hb9⟩
    replace HT := Lib.hid (below_up HT.out hb9)
    replace HZS := sz HZS (show wr.heap.size ≤ w4.heap.size from HT.out.size)
    clear hb9
    have HN3 := Lib.hid hn9
    clear hn9
    refine hK _ _ ⟨⟨⟨w4, HT.out⟩, rfl⟩, ?_⟩
    clear hK K
    repeat (refine tree_q rfl rfl ?_; go_big_quiet_step (fail); refine wpQuiet_nil ?_)
    refine tree_a rfl (fun K hK => ?_)
    go_simp
    refine (rOfI x HXX.out _).mono ?_
    rintro e w5 ⟨a4, c4, rfl, hn9, hb9⟩
    replace HN3 := Lib.hid (HN3.out.up hb9)
    replace HT := Lib.hid (below_up HT.out hb9)
    replace HZS := sz HZS (show wr.heap.size ≤ w5.heap.size from HT.out.size)
    clear hb9
    have HN4 := Lib.hid hn9
    clear hn9
    refine hK _ _ ⟨⟨⟨w5, HT.out⟩, rfl⟩, ?_⟩
    clear hK K
    repeat (refine tree_q rfl rfl ?_; go_big_quiet_step (fail); refine wpQuiet_nil ?_)
    refine tree_a rfl (fun K hK => ?_)
    go_simp
    refine (rSubQ OK.out HYN.out HXN.out _ (HRG.out.up (below_up HB.out HT.out)) HN3.out HN4.out).mono ?_
    rintro e w6 ⟨a5, c5, rfl, hn9, hb9⟩
    replace HN3 := Lib.hid (HN3.out.up hb9)
    replace HN4 := Lib.hid (HN4.out.up hb9)
    replace HT := Lib.hid (below_up HT.out hb9)
    replace HZS := sz HZS (show wr.heap.size ≤ w6.heap.size from HT.out.size)
    clear hb9
    have HN5 := Lib.hid hn9
    clear hn9
    refine hK _ _ ⟨⟨⟨w6, HT.out⟩, rfl⟩, ?_⟩
    clear hK K
    repeat (refine tree_q rfl rfl ?_; go_big_quiet_step (fail); refine wpQuiet_nil ?_)
    refine tree_a rfl (fun K hK => ?_)
    go_simp
    refine (rMulQ OK.out HU16.out (q_16 OK.out (subQ_lt OK.out _ _)) _ (HRG.out.up (below_up HB.out HT.out)) (HU.out.up HT.out) HN5.out).mono ?_
    rintro e w7 ⟨a6, c6, rfl, hn9, hb9⟩
    replace HN3 := Lib.hid (HN3.out.up hb9)
    replace HN4 := Lib.hid (HN4.out.up hb9)
    replace HN5 := Lib.hid (HN5.out.up hb9)
    replace HT := Lib.hid (below_up HT.out hb9)
    replace HZS := sz HZS (show wr.heap.size ≤ w7.heap.size from HT.out.size)
    clear hb9
    have HN6 := Lib.hid hn9
    clear hn9
    refine hK _ _ ⟨⟨⟨w7, HT.out⟩, rfl⟩, ?_⟩
    clear hK K
    repeat (refine tree_q rfl rfl ?_; go_big_quiet_step (fail); refine wpQuiet_nil ?_)
    refine tree_end ?_
    clear hov_bg hl_bg bg_
    replace Hbg := Lib.hid (Hbg.out.up HT.out)
    replace HU := Lib.hid (HU.out.up HT.out)
    replace HD := Lib.hid (HD.out.up HT.out)
    replace BL := hbu BL HT.out
    replace HB := hbu HB HT.out
    replace HZS := sz HZS HT.out.size
    clear HT
    have bg_ := Hbg.out.c3
    have HU2 := HN6
    clear HN6 HU HN3 HN4 HN5
    have hci := HCI.out _ HB.out
    have hbi := Nat.lt_of_lt_of_le HBI.out HB.out.size
    clear hc
    have hin := HI.out
    go_wp2_with fail
    have HT := Lib.hid (show Below w7.heap.size w7 w7.drew from (Below.refl _ _).drew)
    have hl_bg := Hbg.out.lt
    refine wp_region_tree (fun wq9 => ∃ E : Over w7, wq9 = E.w) ((.qs [0, 1, 2, 3, 5, 6, 7, 8] (.a 4 (.a 9 (.a 10 (.a 11 (.qs [12] .done))))))) (by kernel_rfl) (by kernel_rfl) (fun _ _ d _ _ h => by cases d <;> exact h) ⟨⟨_, HT.out⟩, rfl⟩ ?_
    have hov_bg := fun (E : Over w7) o => E.cell (b := w.heap.size) o hl_bg
    have hov_bi := fun (E : Over w7) o => E.cell (b := bi) o hbi
    simp only [Tree.qs]
    repeat (refine tree_q rfl rfl ?_; go_big_quiet_step (fail); refine wpQuiet_nil ?_)
    refine tree_a rfl (fun K hK => ?_)
    go_simp
    refine (rOfI y HAT.out _).mono ?_
    rintro e w8 ⟨a7, c7, rfl, hn9, hb9⟩
    replace HT := Lib.hid (below_up HT.out hb9)
    replace HZS := sz HZS (show w7.heap.size ≤ w8.heap.size from HT.out.size)
    clear hb9
    have HN7 := Lib.hid hn9
    clear hn9
    refine hK _ _ ⟨⟨⟨w8, HT.out⟩, rfl⟩, ?_⟩
    clear hK K
    repeat (refine tree_q rfl rfl ?_; go_big_quiet_step (fail); refine wpQuiet_nil ?_)
    refine tree_a rfl (fun K hK => ?_)
    go_simp
    refine (rOfI ai HAI.out _).mono ?_
    rintro e w9 ⟨a8, c8, rfl, hn9, hb9⟩
    replace HN7 := Lib.hid (HN7.out.up hb9)
    replace HT := Lib.hid (below_up HT.out hb9)
    replace HZS := sz HZS (show w7.heap.size ≤ w9.heap.size from HT.out.size)
    clear hb9
    have HN8 := Lib.hid hn9
    clear hn9
    refine hK _ _ ⟨⟨⟨w9, HT.out⟩, rfl⟩, ?_⟩
    clear hK K
    repeat (refine tree_q rfl rfl ?_; go_big_quiet_step (fail); refine wpQuiet_nil ?_)
    refine tree_a rfl (fun K hK => ?_)
    go_simp
    refine (rSubQ OK.out HYN.out HAN.out _ (HRG.out.up (below_up HB.out HT.out)) HN7.out HN8.out).mono ?_
    rintro e w10 ⟨a9, c9, rfl, hn9, hb9⟩
    replace HN7 := Lib.hid (HN7.out.up hb9)
    replace HN8 := Lib.hid (HN8.out.up hb9)
    replace HT := Lib.hid (below_up HT.out hb9)
    replace HZS := sz HZS (show w7.heap.size ≤ w10.heap.size from HT.out.size)
    clear hb9
    have HN9 := Lib.hid hn9
    clear hn9
    refine hK _ _ ⟨⟨⟨w10, HT.out⟩, rfl⟩, ?_⟩
    clear hK K
    repeat (refine tree_q rfl rfl ?_; go_big_quiet_step (fail); refine wpQuiet_nil ?_)
    refine tree_a rfl (fun K hK => ?_)
    go_simp
    refine (rMulQ OK.out HD16.out (q_16 OK.out (subQ_lt OK.out _ _)) _ (HRG.out.up (below_up HB.out HT.out)) (HD.out.up HT.out) HN9.out).mono ?_
    rintro e w11 ⟨a1, c1, rfl, hn9, hb9⟩
    replace HN7 := Lib.hid (HN7.out.up hb9)
    replace HN8 := Lib.hid (HN8.out.up hb9)
    replace HN9 := Lib.hid (HN9.out.up hb9)
    replace HT := Lib.hid (below_up HT.out hb9)
    replace HZS := sz HZS (show w7.heap.size ≤ w11.heap.size from HT.out.size)
    clear hb9
    have HN1 := Lib.hid hn9
    clear hn9
    refine hK _ _ ⟨⟨⟨w11, HT.out⟩, rfl⟩, ?_⟩
    clear hK K
    repeat (refine tree_q rfl rfl ?_; go_big_quiet_step (fail); refine wpQuiet_nil ?_)
    refine tree_end ?_
    clear hov_bg hl_bg hov_bi bg_
    replace Hbg := Lib.hid (Hbg.out.up HT.out)
    replace HD := Lib.hid (HD.out.up HT.out)
    replace HU2 := Lib.hid (HU2.out.up HT.out)
    replace BL := hbu BL HT.out
    replace HB := hbu HB HT.out
    replace HZS := sz HZS HT.out.size
    clear HT
    have bg_ := Hbg.out.c3
    clear hci
    go_wp2_with fail
    go_roundw
    case rel => exact ⟨t + 1, a6, c6, a1, c1, by omega, by go_num, by rw [HE1.out], by rw [HE2.out], BL, by rw [HE1.out]; exact HU2, by rw [HE2.out]; exact HN1⟩
    case measure => simp [intOf]; omega
  ·have htn' : t = n := by omega
   subst htn'
   have HU16 := Lib.hid (q_16 OK.out (HP1.out t))
   have HD16 := Lib.hid (q_16 OK.out (HP2.out t))
   obtain ⟨pu, hpu⟩ : ∃ v, prQ G.q.m (sbN G.q.m x) l i t = v := ⟨_, rfl⟩
   obtain ⟨pd, hpd⟩ : ∃ v, prQ G.q.m (sbN G.q.m ai) l i t = v := ⟨_, rfl⟩
   rw [hpu] at HU HU16 ⊢
   rw [hpd] at HD HD16 ⊢
   have HPU := Lib.hid hpu
   have HPD := Lib.hid hpd
   clear hpu hpd
   go_wp2_with fail
   have HT := Lib.hid (show Below wr.heap.size wr wr.drew from (Below.refl _ _).drew)
   have hl_bg := Hbg.out.lt
   refine wp_region_tree (fun wq9 => ∃ E : Over wr, wq9 = E.w) ((.qs [0, 1, 2, 3] (.a 4 (.a 5 (.qs [6] .done))))) (by kernel_rfl) (by kernel_rfl) (fun _ _ d _ _ h => by cases d <;> exact h) ⟨⟨_, HT.out⟩, rfl⟩ ?_
   have hov_bg := fun (E : Over wr) o => E.cell (b := w.heap.size) o hl_bg
   simp only [Tree.qs]
   repeat (refine tree_q rfl rfl ?_; go_big_quiet_step (fail); refine wpQuiet_nil ?_)
   refine tree_a rfl (fun K hK => ?_)
   go_simp
   refine (rInvQ OK.out (by have := HQ.out; omega) HD16.out _ (HRG.out.up (below_up HB.out HT.out)) (HD.out.up HT.out)).mono ?_
   rintro e w4 ⟨a7, c7, rfl, hn9, hb9⟩
   replace HT := Lib.hid (below_up HT.out hb9)
   replace HZS := sz HZS (show wr.heap.size ≤ w4.heap.size from HT.out.size)
   clear hb9
   have HN7 := Lib.hid hn9
   clear hn9
   refine hK _ _ ⟨⟨⟨w4, HT.out⟩, rfl⟩, ?_⟩
   clear hK K
   repeat (refine tree_q rfl rfl ?_; go_big_quiet_step (fail); refine wpQuiet_nil ?_)
   refine tree_a rfl (fun K hK => ?_)
   go_simp
   refine (rMulQ OK.out HU16.out (q_16 OK.out (invQ_lt OK.out _)) _ (HRG.out.up (below_up HB.out HT.out)) (HU.out.up HT.out) HN7.out).mono ?_
   rintro e w5 ⟨a8, c8, rfl, hn9, hb9⟩
   replace HN7 := Lib.hid (HN7.out.up hb9)
   replace HT := Lib.hid (below_up HT.out hb9)
   replace HZS := sz HZS (show wr.heap.size ≤ w5.heap.size from HT.out.size)
   clear hb9
   have HN8 := Lib.hid hn9
   clear hn9
   refine hK _ _ ⟨⟨⟨w5, HT.out⟩, rfl⟩, ?_⟩
   clear hK K
   repeat (refine tree_q rfl rfl ?_; go_big_quiet_step (fail); refine wpQuiet_nil ?_)
   refine tree_end ?_
   clear hov_bg hl_bg bg_
   replace Hbg := Lib.hid (Hbg.out.up HT.out)
   replace HU := Lib.hid (HU.out.up HT.out)
   replace HD := Lib.hid (HD.out.up HT.out)
   replace BL := hbu BL HT.out
   replace HB := hbu HB HT.out
   replace HZS := sz HZS HT.out.size
   clear HT
   have bg_ := Hbg.out.c3
   go_wp2_with fail
   go_ret
   exact ⟨a8, c8, by rw [HPU.out, HPD.out]; rfl, by rw [HPU.out, HPD.out]; exact HN8.out, HB.out⟩
end
end Go.Proofs.Ytjmeakfjfpnciaa
namespace Go.Proofs.Ytjmeakfjfpnciaa
open Go.RowKit
def StrsR (er : Nat) (L : List ByteArray) (w : World) (e : Ending) (w' : World) : Prop :=
 Below w.heap.size w w' ∧ ∃ a c, e = .returned (.tuple #[.slice a L.length c, .int .i64 (er : Int)]) ∧ Sl w' w'.heap.size a (L.map Value.string)
theorem strsR_none (er : Nat) {w w' : World} (h : Below w.heap.size w w') : StrsR er [] w (.returned (.tuple #[.slice none 0 0, .int .i64 (er : Int)])) w' := ⟨h, none, 0, rfl, Or.inl rfl⟩
def wtsL (G : GP) (l : List Int) : List ByteArray := if placesE l = 0 then wtS G l l.length else []
theorem tWeights_none (k : Int) (hk : ¬ (1 ≤ k ∧ k ≤ 3)) (v1 : Value) (w : World) :
  Calls Try.prog 17 #[.int .i64 k, v1] w (StrsR 1 [] w) := by
 go_enter Try.func17, Try.ntmps17
 go_wp2_with fail
 refine (of_none k hk _).mono ?_
 rintro e w2 ⟨rfl, rfl⟩
 go_wp2_with fail
 go_ret2
 exact strsR_none 1 (Below.refl _ _)
theorem tWeights_some (k : Nat) (h1 : 1 ≤ k) (h3 : k ≤ 3) (l : List Int) (n : Nat) (hn : l.length = n) (hnm : n ≤ 1152921504606846975) (al : Option Addr) (cl : Nat) (w : World) (hL : Sl w w.heap.size al (l.map intV)) :
  Calls Try.prog 17 #[.int .i64 (k : Int), .slice al n cl] w (StrsR (placesE l) (wtsL (grp k) l) w) := by
 have OK := Lib.hid (grp_ok k h1 h3)
 have HOD := Lib.hid (grp_odd k h1 h3)
 have HL := Lib.hid hL
 have HPC := Lib.hid (fun W h => places_any l n hn hnm al cl W h)
 obtain ⟨z, hz⟩ : ∃ z, placesE l = z := ⟨_, rfl⟩
 obtain ⟨L, hLL⟩ : ∃ L, wtsL (grp k) l = L := ⟨_, rfl⟩
 have hp0 := pl_zero (l := l)
 rw [hLL, hz]
 unfold wtsL at hLL
 rw [hz] at hLL HPC hp0
 clear hz hL
 by_cases hz0 : z = 0
 case neg =>
  have hd : ((z : Int) != 0) = true := by simp; omega
  obtain rfl : L = [] := by rw [← hLL, if_neg hz0]
  clear hz0 hLL hp0 hn hnm
  go_enter Try.func17, Try.ntmps17
  go_wp2_with fail
  refine (of_some k h1 h3 w).mono ?_
  rintro e w1 ⟨rfl, hg9, hb9⟩
  have HB := Lib.hid hb9
  have HZS := Lib.hid hb9.size
  have HG := Lib.hid hg9
  clear hg9 hb9
  go_wp2_with fail
  refine (HPC.out w1 (HL.out.up HB.out)).mono ?_
  rintro e w2 ⟨rfl, hb9⟩
  replace HG := Lib.hid (HG.out.up hb9)
  replace HB := hbu HB hb9
  replace HZS := sz HZS hb9.size
  clear hb9
  go_wp2_with fail
  go_ret2
  exact strsR_none z HB.out
 subst hz0
 have hd : ((((0 : Nat) : Int)) != 0) = false := by simp
 rw [if_pos rfl] at hLL
 obtain ⟨h16, h0, hok, hnd⟩ := hp0 rfl
 have HW := Lib.hid (fun gb a c W h g => weights_any (grp k) OK.out gb l n hn (by omega) hok 0 (by decide) a c W h g)
 unfold WtR at HW
 rw [hn] at HW hLL
 have HWQ := Lib.hid (fun i (hi : i < n) => wt_eq (grp k).q.m (by have := OK.out.odd; omega) HOD.out l hok i (by omega) 0 (by decide))
 subst hLL
 have hn16 : n ≤ 16 := by omega
 have HLN := Lib.hid (wtS_len (grp k) l n)
 clear hn hnm h16 h0 hok hnd
 go_enter Try.func17, Try.ntmps17
 go_wp2_with fail
 refine (of_some k h1 h3 w).mono ?_
 rintro e w1 ⟨rfl, hg9, hb9⟩
 have HB := Lib.hid hb9
 have HZS := Lib.hid hb9.size
 have HG := Lib.hid hg9
 clear hg9 hb9
 have HsG := Lib.hid HG.out.lt
 replace HZS := sz HZS HsG.out
 go_wp2_with fail
 refine (HPC.out w1 (HL.out.up HB.out)).mono ?_
 rintro e w2 ⟨rfl, hb9⟩
 replace HG := Lib.hid (HG.out.up hb9)
 replace HB := hbu HB hb9
 replace HZS := sz HZS hb9.size
 clear hb9
 go_wp2_with fail
 refine (HW.out _ al cl w2 HG.out (HL.out.up HB.out)).mono ?_
 rintro e w3 ⟨hb9, aw, cw, rfl, hx9, hf9⟩
 replace HG := Lib.hid (HG.out.up hb9)
 replace HB := hbu HB hb9
 replace HZS := sz HZS hb9.size
 have HWS := Lib.hid hx9
 clear hx9 hb9
 have BL := Lib.hid (Below.refl w3.heap.size w3)
 clear hf9
 go_wp2_with fail
 go_loopw [24, 8] (fun i v wr => ∃ (j : Nat) (g : Option Addr) (c9 : Nat), j ≤ n ∧ i = .int .i64 j ∧ v = .slice g j c9 ∧ Hid (Below w3.heap.size w3 wr) ∧ Hid (RowO w3.heap.size wr 9 1 (.slice g j c9) j ((wtS (grp k) l j).map Value.string))) (fun i _ _ => n - (intOf i).toNat)
 case atStart => exact ⟨0, none, 0, Nat.zero_le _, rfl, rfl, BL, RowO.nil⟩
 case round =>
  obtain ⟨j, g, c9, hj, rfl, rfl, HL9, Hr⟩ := hrel
  have hb9 := HL9.out
  have HW1 := Lib.hid (HWS.out.up HL9.out)
  clear HL9
  replace HG := Lib.hid (HG.out.up hb9)
  replace BL := hbu BL hb9
  replace HB := hbu HB hb9
  replace HZS := sz HZS hb9.size
  clear hb9
  by_cases hjn : j < n
  ·have HW2 := Lib.hid (show Sl wr wr.heap.size aw ((List.range n).flatMap fun i => lim4 (grp k).q.m (wtN (grp k).q.m l i 0)) from HW1.out)
   obtain ⟨bw, ow, rfl, hbw⟩ := HW2.out.adr (flat_ne (fun i => lim4_len _ _) (by omega) (by rw [← List.length_pos_iff, List.length_range]; omega))
   have hcw := (HW2.out.elemS (fun i => lim4_len _ _) (by omega) j (by simpa using hjn)).2
   rw [List.getElem_range] at hcw
   have hcw_0 := hcw 0 _ rfl
   rw [Nat.add_zero] at hcw_0
   have hcw_1 := hcw 1 _ rfl
   have hcw_2 := hcw 2 _ rfl
   have hcw_3 := hcw 3 _ rfl
   clear hcw
   have HWJ := Lib.hid (HWQ.out j hjn)
   have HSN := Lib.hid (wtS_snoc (grp k) l j)
   generalize wtN (grp k).q.m l j 0 = wt at *
   obtain ⟨w4, hq4, hb9, hz9, Hwb⟩ := new1 wr 98 [.int .u64 (dig (mont (grp k).q.m wt) 0 : Int), .int .u64 (dig (mont (grp k).q.m wt) 1 : Int), .int .u64 (dig (mont (grp k).q.m wt) 2 : Int), .int .u64 (dig (mont (grp k).q.m wt) 3 : Int)]
   replace HG := Lib.hid (HG.out.up hb9)
   replace Hr := Lib.hid (Hr.out.up hb9)
   replace BL := hbu BL hb9
   replace HB := hbu HB hb9
   replace HZS := sz HZS hz9.out
   clear hb9 hz9
   have wb_ := Hwb.out.c4
   go_wp2_with fail
   clear hq4 hcw_0 hcw_1 hcw_2 hcw_3 hbw
   refine (gPut_any (grp k) OK.out _ wt w4 HG.out).mono ?_
   rintro e w5 ⟨rfl, hb9⟩
   clear wb_
   replace Hwb := Lib.hid (Hwb.out.up hb9)
   replace HG := Lib.hid (HG.out.up hb9)
   replace Hr := Lib.hid (Hr.out.up hb9)
   replace BL := hbu BL hb9
   replace HB := hbu HB hb9
   replace HZS := sz HZS hb9.size
   clear hb9
   have wb_ := Hwb.out.c4
   rw [HWJ.out]
   clear wb_ Hwb
   obtain ⟨i9, hi9, hz90, hz91, hz92⟩ := info_parts infoStr
   go_wp2_with (at_builtin; refine wpList_pushR (w3.heap.size) w5 (by have g0 := HZS.out; omega) rfl _ _ 22 rfl 9 i9 _ 1 16 Try.underlying22 hi9 hz90 hz91 hz92 rfl (by omega) ((.slice g j c9)) (j) (((wtS (grp k) l j).map Value.string)) rfl Hr.out _ _ _ rfl rfl rfl (by simp [Value.oneCell']) (by omega) (by unfold maxLen; omega) ?_)
   intro g6 c6 w6 hown9 hg9
   have hb9 := Below.grown HB.out hg9 (by have g0 := HZS.out; omega) (fun q hq => Nat.le_trans (show w.heap.size ≤ w3.heap.size by have g0 := HZS.out; omega) (Hr.out.lt q hq).1)
   replace HG := Lib.hid (HG.out.grown hg9 (fun e9 => by have a1 := Hr.out.lt _ e9; have g0 := HZS.out; omega))
   replace BL := Lib.hid (Below.grown BL.out hg9 (by have g0 := HZS.out; omega) (fun q hq => Nat.le_trans (show w3.heap.size ≤ w3.heap.size by have g0 := HZS.out; omega) (Hr.out.lt q hq).1))
   replace HZS := sz HZS hg9.size
   clear Hr HB
   have Hr := Lib.hid hown9
   have HB := Lib.hid hb9
   clear hb9 hown9 hg9 hi9 hz90 hz91 hz92
   go_wp2_with fail
   go_roundw
   case rel => exact ⟨j + 1, _, _, by omega, by go_num, rfl, BL, Hr.out.eq HSN.out.symm rfl⟩
   case measure => simp [intOf]; omega
  ·have hjn' : j = n := by omega
   subst hjn'
   go_wp2_with fail
   go_ret2
   exact ⟨HB.out, g, c9, by rw [HLN.out]; rfl, Hr.out.sl⟩
end Go.Proofs.Ytjmeakfjfpnciaa
namespace Go.Proofs.Ytjmeakfjfpnciaa
open Go.RowKit
end Go.Proofs.Ytjmeakfjfpnciaa
namespace Go.Proofs.Ytjmeakfjfpnciaa
open Go.RowKit
theorem thQ_lt {q : Nat} (hq : 0 < q) (l : List Int) (v : Nat → Nat) (x : Int) : ∀ i, thQ q l v x i < q
 | 0 => hq
 | i + 1 => Nat.mod_lt _ hq
theorem wtQ_lt {q : Nat} (hq : 0 < q) (l : List Int) (i : Nat) (x : Int) : wtQ q l i x < q := Nat.mod_lt _ hq
theorem readE_sc (G : GP) (l : List Int) (xs : List ByteArray) : readE (isSc G.q.m G.size) 6 l xs = if placesE l ≠ 0 then placesE l else scE G l.length xs := by
 unfold readE scE
 by_cases h1 : placesE l ≠ 0
 ·rw [if_pos h1, if_pos h1]
 ·rw [if_neg h1, if_neg h1]
  by_cases h2 : l.length = xs.length
  ·rw [if_pos h2, if_pos h2.symm]
  ·rw [if_neg h2, if_neg (fun e => h2 e.symm)]
section
variable {G : GP} {aq ap : Option Addr} {cq cp : Nat}
theorem rValue_any (ok : G.Ok) (l : List Int) (n : Nat) (hn : l.length = n) (hn16 : n ≤ 16) (hl : OkP l) (xs : List ByteArray) (hxs : xs.length = n) (hsc : xs.all (isSc G.q.m G.size) = true) (x : Int) (hx : 0 ≤ x ∧ x ≤ 255) (a ax : Option Addr) (c cx : Nat) (w : World) (hG : RG w G aq ap) (hX : Sl w w.heap.size a (l.map intV)) (hV : Sl w w.heap.size ax (xs.map Value.string)) :
  Calls Try.prog 64 #[.agg #[.int .i64 (G.size : Int), .slice aq (dl G.q.m) cq, .slice ap (dl G.p.m) cp], .slice a n c, .slice ax n cx, .int .i64 x] w fun e w' => NumR w e w' (thQ G.q.m l (valN xs) x n) := by
 have OK := Lib.hid ok
 have HRG := Lib.hid hG
 have HX := Lib.hid hX
 have HV := Lib.hid hV
 have HXS := Lib.hid hxs
 have HWT := Lib.hid (fun i (hi : i < n) w9 h g => rweight_any (aq := aq) (ap := ap) (cq := cq) (cp := cp) ok l n hn hn16 hl i hi x hx a c w9 h g)
 have HSC := Lib.hid (fun s (hs : s ∈ xs) => List.all_eq_true.1 hsc s hs)
 have HVN := Lib.hid (fun i (hi : i < xs.length) => valN_here hi)
 have HTL := Lib.hid (thQ_lt ok.q.pos l (valN xs) x)
 clear ok hG hX hV hn hl hxs hsc hx
 go_enter Try.func64, Try.ntmps64
 go_wp2_with fail
 obtain ⟨w1, hq1, hb9, hz9, Hbg⟩ := new1 w 108 [.int .i64 (G.size : Int), .slice aq (dl G.q.m) cq, .slice ap (dl G.p.m) cp]
 rw [hq1]
 clear hq1
 have HB := Lib.hid hb9
 have HZS := hz9
 clear hb9 hz9
 have bg_ := Hbg.out.c3
 go_wp2_with fail
 refine (refOf_any 0 (by decide) w1).mono ?_
 rintro e w2 ⟨as0, cs0, rfl, hn9, hb9⟩
 clear bg_
 replace Hbg := Lib.hid (Hbg.out.up hb9)
 replace HB := hbu HB hb9
 replace HZS := sz HZS hb9.size
 have HS := Lib.hid hn9
 clear hn9 hb9
 have bg_ := Hbg.out.c3
 go_wp2_with fail
 have BL := Lib.hid (Below.refl w2.heap.size w2)
 go_loopw [14, 9] (fun j u wr => ∃ (t : Nat) (au : Option Addr) (cu : Nat), t ≤ n ∧ j = .int .i64 t ∧ u = .slice au (dl (thQ G.q.m l (valN xs) x t)) cu ∧ Hid (Below w2.heap.size w2 wr) ∧ Hid (NumAt wr au (thQ G.q.m l (valN xs) x t))) (fun j _ _ => n - (intOf j).toNat)
 case atStart => exact ⟨0, as0, cs0, Nat.zero_le _, rfl, rfl, BL, HS⟩
 case round =>
  clear HS
  obtain ⟨t, au, cu, ht, rfl, rfl, HL9, HS⟩ := hrel
  have hb9 := HL9.out
  clear HL9 bg_
  replace Hbg := Lib.hid (Hbg.out.up hb9)
  replace BL := hbu BL hb9
  replace HB := hbu HB hb9
  replace HZS := sz HZS hb9.size
  clear hb9
  have bg_ := Hbg.out.c3
  by_cases htn : t < n
  ·have htx : t < xs.length := by rw [HXS.out]; exact htn
   obtain ⟨bv, ov, rfl, hbv, hcv⟩ := (HV.out.up HB.out).at t (by rw [List.length_map]; exact htx)
   rw [List.getElem_map] at hcv
   have HSI := Lib.hid (HSC.out _ (List.getElem_mem htx))
   have HVI := Lib.hid (HVN.out t htx)
   generalize xs[t] = v at *
   have HV32 := Lib.hid (sc_len OK.out HSI.out)
   have HT1 := Lib.hid (show thQ G.q.m l (valN xs) x (t + 1) = addQ G (thQ G.q.m l (valN xs) x t) (mulQ G (wtQ G.q.m l t x) (numOf v)) by rw [← HVI.out]; rfl)
   have HT16 := Lib.hid (q_16 OK.out (HTL.out t))
   have HW16 := Lib.hid (q_16 OK.out (wtQ_lt OK.out.q.pos l t x))
   obtain ⟨th, hth⟩ : ∃ v, thQ G.q.m l (valN xs) x t = v := ⟨_, rfl⟩
   rw [hth] at HS HT1 HT16 ⊢
   clear hth
   have HWC := Lib.hid (HWT.out t htn)
   generalize wtQ G.q.m l t x = wt at *
   go_wp2_with fail
   have HT := Lib.hid (show Below wr.heap.size wr wr.drew from (Below.refl _ _).drew)
   have hl_bg := Hbg.out.lt
   refine wp_region_tree (fun wq9 => ∃ E : Over wr, wq9 = E.w) ((.qs [0, 1, 2, 3, 4, 5, 6, 8, 9, 10, 11] (.a 7 (.a 12 (.a 13 (.a 14 (.qs [15] .done))))))) (by kernel_rfl) (by kernel_rfl) (fun _ _ d _ _ h => by cases d <;> exact h) ⟨⟨_, HT.out⟩, rfl⟩ ?_
   have hov_bg := fun (E : Over wr) o => E.cell (b := w.heap.size) o hl_bg
   have hov_bv := fun (E : Over wr) o => E.cell (b := bv) o hbv
   simp only [Tree.qs]
   repeat (refine tree_q rfl rfl ?_; go_big_quiet_step (fail); refine wpQuiet_nil ?_)
   refine tree_a rfl (fun K hK => ?_)
   go_simp
   refine (HWC.out _ (HRG.out.up (below_up HB.out HT.out)) (HX.out.up (below_up HB.out HT.out))).mono ?_
   rintro e w3 ⟨a1, c1, rfl, hn9, hb9⟩
   replace HT := Lib.hid (below_up HT.out hb9)
   replace HZS := sz HZS (show wr.heap.size ≤ w3.heap.size from HT.out.size)
   clear hb9
   have HN1 := Lib.hid hn9
   clear hn9
   refine hK _ _ ⟨⟨⟨w3, HT.out⟩, rfl⟩, ?_⟩
   clear hK K
   repeat (refine tree_q rfl rfl ?_; go_big_quiet_step (fail); refine wpQuiet_nil ?_)
   refine tree_a rfl (fun K hK => ?_)
   go_simp
   refine (refRead_any v (Nat.le_trans HV32.out (by decide)) _).mono ?_
   rintro e w4 ⟨a2, c2, rfl, hn9, hb9⟩
   replace HN1 := Lib.hid (HN1.out.up hb9)
   replace HT := Lib.hid (below_up HT.out hb9)
   replace HZS := sz HZS (show wr.heap.size ≤ w4.heap.size from HT.out.size)
   clear hb9
   have HN2 := Lib.hid hn9
   clear hn9
   refine hK _ _ ⟨⟨⟨w4, HT.out⟩, rfl⟩, ?_⟩
   clear hK K
   repeat (refine tree_q rfl rfl ?_; go_big_quiet_step (fail); refine wpQuiet_nil ?_)
   refine tree_a rfl (fun K hK => ?_)
   go_simp
   refine (rMulQ OK.out HW16.out (numOf_16 v HV32.out) _ (HRG.out.up (below_up HB.out HT.out)) HN1.out HN2.out).mono ?_
   rintro e w5 ⟨a3, c3, rfl, hn9, hb9⟩
   replace HN1 := Lib.hid (HN1.out.up hb9)
   replace HN2 := Lib.hid (HN2.out.up hb9)
   replace HT := Lib.hid (below_up HT.out hb9)
   replace HZS := sz HZS (show wr.heap.size ≤ w5.heap.size from HT.out.size)
   clear hb9
   have HN3 := Lib.hid hn9
   clear hn9
   refine hK _ _ ⟨⟨⟨w5, HT.out⟩, rfl⟩, ?_⟩
   clear hK K
   repeat (refine tree_q rfl rfl ?_; go_big_quiet_step (fail); refine wpQuiet_nil ?_)
   refine tree_a rfl (fun K hK => ?_)
   go_simp
   refine (rAddQ OK.out HT16.out (q_16 OK.out (mulQ_lt OK.out _ _)) _ (HRG.out.up (below_up HB.out HT.out)) (HS.out.up HT.out) HN3.out).mono ?_
   rintro e w6 ⟨a4, c4, rfl, hn9, hb9⟩
   replace HN1 := Lib.hid (HN1.out.up hb9)
   replace HN2 := Lib.hid (HN2.out.up hb9)
   replace HN3 := Lib.hid (HN3.out.up hb9)
   replace HT := Lib.hid (below_up HT.out hb9)
   replace HZS := sz HZS (show wr.heap.size ≤ w6.heap.size from HT.out.size)
   clear hb9
   have HN4 := Lib.hid hn9
   clear hn9
   refine hK _ _ ⟨⟨⟨w6, HT.out⟩, rfl⟩, ?_⟩
   clear hK K
   repeat (refine tree_q rfl rfl ?_; go_big_quiet_step (fail); refine wpQuiet_nil ?_)
   refine tree_end ?_
   clear hov_bg hl_bg hov_bv bg_
   replace Hbg := Lib.hid (Hbg.out.up HT.out)
   replace HS := Lib.hid (HS.out.up HT.out)
   replace BL := hbu BL HT.out
   replace HB := hbu HB HT.out
   replace HZS := sz HZS HT.out.size
   clear HT
   have bg_ := Hbg.out.c3
   go_wp2_with fail
   go_roundw
   case rel => exact ⟨t + 1, a4, c4, by omega, by go_num, by rw [HT1.out], BL, by rw [HT1.out]; exact HN4⟩
   case measure => simp [intOf]; omega
  ·have htn' : t = n := by omega
   subst htn'
   go_wp2_with fail
   go_ret
   exact ⟨au, cu, rfl, HS.out, HB.out⟩
end
theorem rThrough_none (k : Int) (hk : ¬ (1 ≤ k ∧ k ≤ 3)) (v1 v2 : Value) (x : Int) (w : World) :
  Calls Try.prog 20 #[.int .i64 k, v1, v2, .int .i64 x] w (Gives (.tuple #[.string ⟨#[]⟩, .int .i64 1]) w) := by
 unfold Gives
 go_enter Try.func20, Try.ntmps20
 go_wp2_with fail
 refine (refKind_none k hk w).mono ?_
 rintro e w1 ⟨rfl, hb9⟩
 have HB := Lib.hid hb9
 have HZS := Lib.hid hb9.size
 clear hb9
 obtain ⟨w2, hq2, hb9, hz9, Hbg⟩ := new1 w1 108 [.int .i64 0, .slice none 0 0, .slice none 0 0]
 replace HB := hbu HB hb9
 replace HZS := sz HZS hz9.out
 clear hb9 hz9
 have bg_ := Hbg.out.c3
 have f3_bg := Hbg.out.frozen
 have o3_bg_ := bg_; clear bg_
 obtain ⟨w3, hq3, hg9, hz9, hx9⟩ := put3 Hbg 0 (.int .i64 0) 1 (.slice none 0 0) 2 (.slice none 0 0) [.int .i64 0, .slice none 0 0, .slice none 0 0] rfl
 replace HB := hbg HB hg9 (by have g0 := HZS.out; omega)
 replace HZS := sz HZS hz9.out
 replace Hbg := hx9
 clear hx9 hg9 hz9
 have bg_ := Hbg.out.c3
 go_wp2_with fail
 clear hq3 o3_bg_ f3_bg hq2
 go_ret2
 exact ⟨rfl, HB.out⟩
theorem rThrough_some (k : Nat) (h1 : 1 ≤ k) (h3 : k ≤ 3) (l : List Int) (n : Nat) (hn : l.length = n) (hnm : n ≤ 1152921504606846975) (xs : List ByteArray) (m : Nat) (hm : xs.length = m) (hmm : m ≤ 8796093022207) (x : Int) (al ax : Option Addr) (cl cx : Nat) (w : World) (hL : Sl w w.heap.size al (l.map intV)) (hX : Sl w w.heap.size ax (xs.map Value.string)) :
  Calls Try.prog 20 #[.int .i64 (k : Int), .slice al n cl, .slice ax m cx, .int .i64 x] w (Gives (.tuple #[.string (thrS (grp k) l xs x), .int .i64 (thrE (grp k) l xs x : Int)]) w) := by
 unfold Gives
 have OK := Lib.hid (grp_ok k h1 h3)
 have hs0 := size_n0 k h1 h3
 have HL := Lib.hid hL
 have HX := Lib.hid hX
 have HPC := Lib.hid (fun W h => rplaces_any l n hn al cl W h)
 have HWC := Lib.hid (fun aq ap cq cp w9 h g => rWrongSc (aq := aq) (ap := ap) (cq := cq) (cp := cp) OK.out n xs ax cx (by omega) w9 h g)
 unfold Gives at HWC
 rw [hm] at HWC
 obtain ⟨er, her⟩ : ∃ z, thrE (grp k) l xs x = z := ⟨_, rfl⟩
 obtain ⟨sr, hsr⟩ : ∃ z, thrS (grp k) l xs x = z := ⟨_, rfl⟩
 have hR0 := readE_zero (f := isSc (grp k).q.m (grp k).size) (bad := 6) (by decide) (l := l) (xs := xs)
 rw [her, hsr]
 unfold thrS at hsr
 rw [her] at hsr
 unfold thrE at her
 rw [readE_sc, hn] at her
 rw [readE_sc, hn] at hR0
 obtain ⟨z, hz⟩ : ∃ z, placesE l = z := ⟨_, rfl⟩
 have hp0 := pl_zero (l := l)
 rw [hz] at her HPC hR0 hp0
 obtain ⟨y, hy⟩ : ∃ z, scE (grp k) n xs = z := ⟨_, rfl⟩
 rw [hy] at her HWC hR0
 clear hz hL hX hy
 by_cases hz0 : z = 0
 case neg =>
  have hd : ((z : Int) != 0) = true := by simp; omega
  obtain rfl : er = z := by rw [← her, if_pos hz0, if_pos hz0]
  obtain rfl : sr = ⟨#[]⟩ := by rw [← hsr, if_neg hz0]
  clear hz0 her hsr hR0 hp0 hn hm hnm hmm
  go_enter Try.func20, Try.ntmps20
  go_wp2_with fail
  refine (refKind_some k h1 h3 w).mono ?_
  rintro e w1 ⟨aq, cq, ap, cp, rfl, hq9, hp9, hb9⟩
  have HB := Lib.hid hb9
  have HZS := Lib.hid hb9.size
  have HRG := Lib.hid (RG.mk (G := grp k) hq9 hp9)
  clear hq9 hp9 hb9
  have HK := Lib.hid (Below.refl w1.heap.size w1)
  obtain ⟨w2, hq2, hb9, hz9, Hbg⟩ := new1 w1 108 [.int .i64 ((grp k).size : Int), .slice aq (dl (grp k).q.m) cq, .slice ap (dl (grp k).p.m) cp]
  replace HK := hbu HK hb9
  replace HB := hbu HB hb9
  replace HZS := sz HZS hz9.out
  clear hb9 hz9
  have bg_ := Hbg.out.c3
  go_wp2_with fail
  clear hq2
  refine (HPC.out w2 (HL.out.up HB.out)).mono ?_
  rintro e w3 ⟨rfl, hb9⟩
  clear bg_
  replace Hbg := Lib.hid (Hbg.out.up hb9)
  replace HK := hbu HK hb9
  replace HB := hbu HB hb9
  replace HZS := sz HZS hb9.size
  clear hb9
  have bg_ := Hbg.out.c3
  go_wp2_with fail
  go_ret2
  exact ⟨rfl, HB.out⟩
 subst hz0
 have hd : ((((0 : Nat) : Int)) != 0) = false := by simp
 by_cases hy0 : y = 0
 case neg =>
  have hd2 : ((y : Int) != 0) = true := by simp; omega
  obtain rfl : er = y := by rw [← her, if_neg (by decide : ¬ (0 ≠ 0)), if_pos hy0]
  obtain rfl : sr = ⟨#[]⟩ := by rw [← hsr, if_neg hy0]
  clear hy0 her hsr hR0 hp0 hn hm hnm hmm
  go_enter Try.func20, Try.ntmps20
  go_wp2_with fail
  refine (refKind_some k h1 h3 w).mono ?_
  rintro e w1 ⟨aq, cq, ap, cp, rfl, hq9, hp9, hb9⟩
  have HB := Lib.hid hb9
  have HZS := Lib.hid hb9.size
  have HRG := Lib.hid (RG.mk (G := grp k) hq9 hp9)
  clear hq9 hp9 hb9
  have HK := Lib.hid (Below.refl w1.heap.size w1)
  obtain ⟨w2, hq2, hb9, hz9, Hbg⟩ := new1 w1 108 [.int .i64 ((grp k).size : Int), .slice aq (dl (grp k).q.m) cq, .slice ap (dl (grp k).p.m) cp]
  replace HK := hbu HK hb9
  replace HB := hbu HB hb9
  replace HZS := sz HZS hz9.out
  clear hb9 hz9
  have bg_ := Hbg.out.c3
  go_wp2_with fail
  clear hq2
  refine (HPC.out w2 (HL.out.up HB.out)).mono ?_
  rintro e w3 ⟨rfl, hb9⟩
  clear bg_
  replace Hbg := Lib.hid (Hbg.out.up hb9)
  replace HK := hbu HK hb9
  replace HB := hbu HB hb9
  replace HZS := sz HZS hb9.size
  clear hb9
  have bg_ := Hbg.out.c3
  go_wp2_with fail
  refine (HWC.out aq ap cq cp w3 (HRG.out.up HK.out) (HX.out.up HB.out)).mono ?_
  rintro e w4 ⟨rfl, hb9⟩
  clear bg_
  replace Hbg := Lib.hid (Hbg.out.up hb9)
  replace HK := hbu HK hb9
  replace HB := hbu HB hb9
  replace HZS := sz HZS hb9.size
  clear hb9
  have bg_ := Hbg.out.c3
  go_wp2_with fail
  go_ret2
  exact ⟨rfl, HB.out⟩
 subst hy0
 rw [if_neg (by decide : ¬ (0 ≠ 0)), if_neg (by decide : ¬ (0 ≠ 0))] at her
 by_cases hx : outP x = true
 case pos =>
  obtain rfl : er = 4 := by rw [← her, if_pos hx]
  obtain rfl : sr = ⟨#[]⟩ := by rw [← hsr, if_neg (by decide)]
  have hdx : (x < 0) ∨ (255 < x ∧ ¬ x < 0) := by rcases outP_cases x with h | h | ⟨k9, rfl, _, h⟩; exact Or.inl h.1; exact Or.inr ⟨h.1, h.2.1⟩; rw [h] at hx; cases hx
  clear her hsr hR0 hp0 hn hm hnm hmm hx
  rcases hdx with h4 | ⟨h5, h4⟩
  ·have hd1 : decide (x < 0) = true := decide_eq_true h4
   clear h4
   go_enter Try.func20, Try.ntmps20
   go_wp2_with fail
   refine (refKind_some k h1 h3 w).mono ?_
   rintro e w1 ⟨aq, cq, ap, cp, rfl, hq9, hp9, hb9⟩
   have HB := Lib.hid hb9
   have HZS := Lib.hid hb9.size
   have HRG := Lib.hid (RG.mk (G := grp k) hq9 hp9)
   clear hq9 hp9 hb9
   have HK := Lib.hid (Below.refl w1.heap.size w1)
   obtain ⟨w2, hq2, hb9, hz9, Hbg⟩ := new1 w1 108 [.int .i64 ((grp k).size : Int), .slice aq (dl (grp k).q.m) cq, .slice ap (dl (grp k).p.m) cp]
   replace HK := hbu HK hb9
   replace HB := hbu HB hb9
   replace HZS := sz HZS hz9.out
   clear hb9 hz9
   have bg_ := Hbg.out.c3
   go_wp2_with fail
   clear hq2
   refine (HPC.out w2 (HL.out.up HB.out)).mono ?_
   rintro e w3 ⟨rfl, hb9⟩
   clear bg_
   replace Hbg := Lib.hid (Hbg.out.up hb9)
   replace HK := hbu HK hb9
   replace HB := hbu HB hb9
   replace HZS := sz HZS hb9.size
   clear hb9
   have bg_ := Hbg.out.c3
   go_wp2_with fail
   refine (HWC.out aq ap cq cp w3 (HRG.out.up HK.out) (HX.out.up HB.out)).mono ?_
   rintro e w4 ⟨rfl, hb9⟩
   clear bg_
   replace Hbg := Lib.hid (Hbg.out.up hb9)
   replace HK := hbu HK hb9
   replace HB := hbu HB hb9
   replace HZS := sz HZS hb9.size
   clear hb9
   have bg_ := Hbg.out.c3
   go_wp2_with fail
   go_ret2
   exact ⟨rfl, HB.out⟩
  ·have hd1 : decide (x < 0) = false := decide_eq_false h4
   have hd2 : decide (x > 255) = true := decide_eq_true h5
   clear h4 h5
   go_enter Try.func20, Try.ntmps20
   go_wp2_with fail
   refine (refKind_some k h1 h3 w).mono ?_
   rintro e w1 ⟨aq, cq, ap, cp, rfl, hq9, hp9, hb9⟩
   have HB := Lib.hid hb9
   have HZS := Lib.hid hb9.size
   have HRG := Lib.hid (RG.mk (G := grp k) hq9 hp9)
   clear hq9 hp9 hb9
   have HK := Lib.hid (Below.refl w1.heap.size w1)
   obtain ⟨w2, hq2, hb9, hz9, Hbg⟩ := new1 w1 108 [.int .i64 ((grp k).size : Int), .slice aq (dl (grp k).q.m) cq, .slice ap (dl (grp k).p.m) cp]
   replace HK := hbu HK hb9
   replace HB := hbu HB hb9
   replace HZS := sz HZS hz9.out
   clear hb9 hz9
   have bg_ := Hbg.out.c3
   go_wp2_with fail
   clear hq2
   refine (HPC.out w2 (HL.out.up HB.out)).mono ?_
   rintro e w3 ⟨rfl, hb9⟩
   clear bg_
   replace Hbg := Lib.hid (Hbg.out.up hb9)
   replace HK := hbu HK hb9
   replace HB := hbu HB hb9
   replace HZS := sz HZS hb9.size
   clear hb9
   have bg_ := Hbg.out.c3
   go_wp2_with fail
   refine (HWC.out aq ap cq cp w3 (HRG.out.up HK.out) (HX.out.up HB.out)).mono ?_
   rintro e w4 ⟨rfl, hb9⟩
   clear bg_
   replace Hbg := Lib.hid (Hbg.out.up hb9)
   replace HK := hbu HK hb9
   replace HB := hbu HB hb9
   replace HZS := sz HZS hb9.size
   clear hb9
   have bg_ := Hbg.out.c3
   go_wp2_with fail
   go_ret2
   exact ⟨rfl, HB.out⟩
 have hxo := outP_false (Bool.eq_false_iff.2 hx)
 obtain rfl : er = 0 := by rw [← her, if_neg hx]
 rw [if_pos rfl, hn] at hsr
 obtain ⟨_, hlm, hall⟩ := hR0 (by rw [if_neg (by decide : ¬ (0 ≠ 0))])
 obtain ⟨h16, h0, hok, hnd⟩ := hp0 rfl
 obtain rfl : m = n := by omega
 have HVC := Lib.hid (fun aq ap cq cp w9 h g g2 => rValue_any (aq := aq) (ap := ap) (cq := cq) (cp := cp) OK.out l m hn (by omega) hok xs hm hall x hxo al ax cl cx w9 h g g2)
 have HTQ := Lib.hid (thQ_lt OK.out.q.pos l (valN xs) x m)
 have hd1 : decide (x < 0) = false := decide_eq_false (by omega)
 have hd2 : decide (x > 255) = false := decide_eq_false (by omega)
 obtain ⟨th, hth⟩ : ∃ v, thQ (grp k).q.m l (valN xs) x m = v := ⟨_, rfl⟩
 rw [hth] at hsr HVC HTQ
 subst hsr
 clear her hm hnm hmm hx hxo hlm hall h16 h0 hok hnd hR0 hp0 hth
 go_enter Try.func20, Try.ntmps20
 go_wp2_with fail
 refine (refKind_some k h1 h3 w).mono ?_
 rintro e w1 ⟨aq, cq, ap, cp, rfl, hq9, hp9, hb9⟩
 have HB := Lib.hid hb9
 have HZS := Lib.hid hb9.size
 have HRG := Lib.hid (RG.mk (G := grp k) hq9 hp9)
 clear hq9 hp9 hb9
 have HK := Lib.hid (Below.refl w1.heap.size w1)
 obtain ⟨w2, hq2, hb9, hz9, Hbg⟩ := new1 w1 108 [.int .i64 ((grp k).size : Int), .slice aq (dl (grp k).q.m) cq, .slice ap (dl (grp k).p.m) cp]
 replace HK := hbu HK hb9
 replace HB := hbu HB hb9
 replace HZS := sz HZS hz9.out
 clear hb9 hz9
 have bg_ := Hbg.out.c3
 go_wp2_with fail
 clear hq2
 refine (HPC.out w2 (HL.out.up HB.out)).mono ?_
 rintro e w3 ⟨rfl, hb9⟩
 clear bg_
 replace Hbg := Lib.hid (Hbg.out.up hb9)
 replace HK := hbu HK hb9
 replace HB := hbu HB hb9
 replace HZS := sz HZS hb9.size
 clear hb9
 have bg_ := Hbg.out.c3
 go_wp2_with fail
 refine (HWC.out aq ap cq cp w3 (HRG.out.up HK.out) (HX.out.up HB.out)).mono ?_
 rintro e w4 ⟨rfl, hb9⟩
 clear bg_
 replace Hbg := Lib.hid (Hbg.out.up hb9)
 replace HK := hbu HK hb9
 replace HB := hbu HB hb9
 replace HZS := sz HZS hb9.size
 clear hb9
 have bg_ := Hbg.out.c3
 go_upto_region 12 with fail
 have HT := Lib.hid (show Below w4.heap.size w4 w4.drew from (Below.refl _ _).drew)
 have hl_bg := Hbg.out.lt
 refine wp_region_tree (fun wq9 => ∃ E : Over w4, wq9 = E.w) ((.qs [0, 1, 2, 3, 5, 6] (.a 4 (.a 7 (.qs [8, 9] .done))))) (by kernel_rfl) (by kernel_rfl) (fun _ _ d _ _ h => by cases d <;> exact h) ⟨⟨_, HT.out⟩, rfl⟩ ?_
 have hov_bg := fun (E : Over w4) o => E.cell (b := w1.heap.size) o hl_bg
 simp only [Tree.qs]
 repeat (refine tree_q rfl rfl ?_; go_big_quiet_step (fail); refine wpQuiet_nil ?_)
 refine tree_a rfl (fun K hK => ?_)
 go_simp
 refine (HVC.out aq ap cq cp _ (HRG.out.up (below_up HK.out HT.out)) (HL.out.up (below_up HB.out HT.out)) (HX.out.up (below_up HB.out HT.out))).mono ?_
 rintro e w5 ⟨a1, c1, rfl, hn9, hb9⟩
 replace HT := Lib.hid (below_up HT.out hb9)
 replace HZS := sz HZS (show w4.heap.size ≤ w5.heap.size from HT.out.size)
 clear hb9
 have HN1 := Lib.hid hn9
 clear hn9
 refine hK _ _ ⟨⟨⟨w5, HT.out⟩, rfl⟩, ?_⟩
 clear hK K
 repeat (refine tree_q rfl rfl ?_; go_big_quiet_step (fail); refine wpQuiet_nil ?_)
 refine tree_a rfl (fun K hK => ?_)
 go_simp
 refine (rTextQ OK.out HTQ.out _ HN1.out).mono ?_
 rintro e w6 ⟨rfl, hb9⟩
 replace HN1 := Lib.hid (HN1.out.up hb9)
 replace HT := Lib.hid (below_up HT.out hb9)
 replace HZS := sz HZS (show w4.heap.size ≤ w6.heap.size from HT.out.size)
 clear hb9
 refine hK _ _ ⟨⟨⟨w6, HT.out⟩, rfl⟩, ?_⟩
 clear hK K
 repeat (refine tree_q rfl rfl ?_; go_big_quiet_step (fail); refine wpQuiet_nil ?_)
 refine tree_end ?_
 clear hov_bg hl_bg bg_
 replace Hbg := Lib.hid (Hbg.out.up HT.out)
 replace HK := hbu HK HT.out
 replace HB := hbu HB HT.out
 replace HZS := sz HZS HT.out.size
 clear HT
 have bg_ := Hbg.out.c3
 go_wp2_with fail
 go_ret2
 exact ⟨rfl, HB.out⟩
end Go.Proofs.Ytjmeakfjfpnciaa
namespace Go.Proofs.Ytjmeakfjfpnciaa
open Go.RowKit
def tgQ (G : GP) (l : List Int) (v : Nat → Nat) : Nat → Nat
 | 0 => 1
 | i + 1 => lowN G (tgQ G l v i * lowN G (v i ^ wtQ G.q.m l i 0))
theorem tgQ_le {G : GP} (ok : G.Ok) (l : List Int) (v : Nat → Nat) : ∀ i, tgQ G l v i ≤ G.q.m
 | 0 => by have := ok.odd; show 1 ≤ _; omega
 | _ + 1 => lowN_le ok _
theorem tgQ_eq {G : GP} (ok : G.Ok) (ho : G.q.m % 2 = 1) {l : List Int} (hl : OkP l) (v : Nat → Nat) : ∀ i, i ≤ l.length → tgQ G l v i = lowN G (tgU G.q.m l v i)
 | 0, _ => (lowN_fix ok (show 1 ≤ _ by have := ok.odd; omega)).symm
 | i + 1, h => by
  show lowN G (tgQ G l v i * lowN G (v i ^ wtQ G.q.m l i 0)) = lowN G (tgU G.q.m l v i * v i ^ (wtN G.q.m l i 0 % G.q.m))
  rw [tgQ_eq ok ho hl v i (by omega), lowN_mul ok, wt_eq G.q.m (by have := ok.odd; omega) ho l hl i (by omega) 0 (by decide)]
theorem rTogether_none (k : Int) (hk : ¬ (1 ≤ k ∧ k ≤ 3)) (v1 v2 : Value) (w : World) :
  Calls Try.prog 22 #[.int .i64 k, v1, v2] w (Gives (.tuple #[.string ⟨#[]⟩, .int .i64 1]) w) := by
 unfold Gives
 go_enter Try.func22, Try.ntmps22
 go_wp2_with fail
 refine (refKind_none k hk w).mono ?_
 rintro e w1 ⟨rfl, hb9⟩
 have HB := Lib.hid hb9
 have HZS := Lib.hid hb9.size
 clear hb9
 obtain ⟨w2, hq2, hb9, hz9, Hbg⟩ := new1 w1 108 [.int .i64 0, .slice none 0 0, .slice none 0 0]
 replace HB := hbu HB hb9
 replace HZS := sz HZS hz9.out
 clear hb9 hz9
 have bg_ := Hbg.out.c3
 have f3_bg := Hbg.out.frozen
 have o3_bg_ := bg_; clear bg_
 obtain ⟨w3, hq3, hg9, hz9, hx9⟩ := put3 Hbg 0 (.int .i64 0) 1 (.slice none 0 0) 2 (.slice none 0 0) [.int .i64 0, .slice none 0 0, .slice none 0 0] rfl
 replace HB := hbg HB hg9 (by have g0 := HZS.out; omega)
 replace HZS := sz HZS hz9.out
 replace Hbg := hx9
 clear hx9 hg9 hz9
 have bg_ := Hbg.out.c3
 go_wp2_with fail
 clear hq3 o3_bg_ f3_bg hq2
 go_ret2
 exact ⟨rfl, HB.out⟩
theorem rTogether_some (k : Nat) (h1 : 1 ≤ k) (h3 : k ≤ 3) (l : List Int) (n : Nat) (hn : l.length = n) (hnm : n ≤ 1152921504606846975) (xs : List ByteArray) (m : Nat) (hm : xs.length = m) (al ax : Option Addr) (cl cx : Nat) (w : World) (hL : Sl w w.heap.size al (l.map intV)) (hX : Sl w w.heap.size ax (xs.map Value.string)) :
  Calls Try.prog 22 #[.int .i64 (k : Int), .slice al n cl, .slice ax m cx] w (Gives (.tuple #[.string (togS (grp k) l xs), .int .i64 (togE (grp k) l xs : Int)]) w) := by
 unfold Gives
 have OK := Lib.hid (grp_ok k h1 h3)
 have HOD := Lib.hid (grp_odd k h1 h3)
 have hs0 := size_n0 k h1 h3
 have HL := Lib.hid hL
 have HX := Lib.hid hX
 have HM := Lib.hid hm
 have HPC := Lib.hid (fun W h => rplaces_any l n hn al cl W h)
 obtain ⟨er, her⟩ : ∃ z, togE (grp k) l xs = z := ⟨_, rfl⟩
 obtain ⟨sr, hsr⟩ : ∃ z, togS (grp k) l xs = z := ⟨_, rfl⟩
 rw [her, hsr]
 unfold togS at hsr
 rw [her] at hsr
 unfold togE readE at her
 rw [hn, hm] at her
 obtain ⟨z, hz⟩ : ∃ z, placesE l = z := ⟨_, rfl⟩
 have hp0 := pl_zero (l := l)
 rw [hz] at her HPC hp0
 clear hz hL hX
 by_cases hz0 : z = 0
 case neg =>
  have hd : ((z : Int) != 0) = true := by simp; omega
  obtain rfl : er = z := by rw [← her, if_pos hz0]
  obtain rfl : sr = ⟨#[]⟩ := by rw [← hsr, if_neg hz0]
  clear hz0 her hsr hp0 hn hm hnm
  go_enter Try.func22, Try.ntmps22
  go_wp2_with fail
  refine (refKind_some k h1 h3 w).mono ?_
  rintro e w1 ⟨aq, cq, ap, cp, rfl, hq9, hp9, hb9⟩
  have HB := Lib.hid hb9
  have HZS := Lib.hid hb9.size
  have HRG := Lib.hid (RG.mk (G := grp k) hq9 hp9)
  clear hq9 hp9 hb9
  have HK := Lib.hid (Below.refl w1.heap.size w1)
  obtain ⟨w2, hq2, hb9, hz9, Hbg⟩ := new1 w1 108 [.int .i64 ((grp k).size : Int), .slice aq (dl (grp k).q.m) cq, .slice ap (dl (grp k).p.m) cp]
  replace HK := hbu HK hb9
  replace HB := hbu HB hb9
  replace HZS := sz HZS hz9.out
  clear hb9 hz9
  have bg_ := Hbg.out.c3
  go_wp2_with fail
  clear hq2
  refine (HPC.out w2 (HL.out.up HB.out)).mono ?_
  rintro e w3 ⟨rfl, hb9⟩
  clear bg_
  replace Hbg := Lib.hid (Hbg.out.up hb9)
  replace HK := hbu HK hb9
  replace HB := hbu HB hb9
  replace HZS := sz HZS hb9.size
  clear hb9
  have bg_ := Hbg.out.c3
  go_wp2_with fail
  go_ret2
  exact ⟨rfl, HB.out⟩
 subst hz0
 have hd : ((((0 : Nat) : Int)) != 0) = false := by simp
 rw [if_neg (by decide : ¬ (0 ≠ 0))] at her
 by_cases hnm2 : n = m
 case neg =>
  have hd2 : ((m : Int) != (n : Int)) = true := by simp; omega
  obtain rfl : er = 2 := by rw [← her, if_neg hnm2]
  obtain rfl : sr = ⟨#[]⟩ := by rw [← hsr, if_neg (by decide)]
  clear her hsr hp0 hn hm hnm hnm2
  go_enter Try.func22, Try.ntmps22
  go_wp2_with fail
  refine (refKind_some k h1 h3 w).mono ?_
  rintro e w1 ⟨aq, cq, ap, cp, rfl, hq9, hp9, hb9⟩
  have HB := Lib.hid hb9
  have HZS := Lib.hid hb9.size
  have HRG := Lib.hid (RG.mk (G := grp k) hq9 hp9)
  clear hq9 hp9 hb9
  have HK := Lib.hid (Below.refl w1.heap.size w1)
  obtain ⟨w2, hq2, hb9, hz9, Hbg⟩ := new1 w1 108 [.int .i64 ((grp k).size : Int), .slice aq (dl (grp k).q.m) cq, .slice ap (dl (grp k).p.m) cp]
  replace HK := hbu HK hb9
  replace HB := hbu HB hb9
  replace HZS := sz HZS hz9.out
  clear hb9 hz9
  have bg_ := Hbg.out.c3
  go_wp2_with fail
  clear hq2
  refine (HPC.out w2 (HL.out.up HB.out)).mono ?_
  rintro e w3 ⟨rfl, hb9⟩
  clear bg_
  replace Hbg := Lib.hid (Hbg.out.up hb9)
  replace HK := hbu HK hb9
  replace HB := hbu HB hb9
  replace HZS := sz HZS hb9.size
  clear hb9
  have bg_ := Hbg.out.c3
  go_wp2_with fail
  go_ret2
  exact ⟨rfl, HB.out⟩
 subst hnm2
 rw [if_pos rfl] at her
 have hd2 : ((n : Int) != (n : Int)) = false := by simp
 obtain ⟨h16, h0, hok, hnd⟩ := hp0 rfl
 have hn16 : n ≤ 16 := by omega
 have HW := Lib.hid (fun aq ap cq cp i (hi : i < n) w9 h g => rweight_any (aq := aq) (ap := ap) (cq := cq) (cp := cp) OK.out l n hn hn16 hok i hi 0 (by decide) al cl w9 h g)
 have HVN := Lib.hid (fun i (hi : i < xs.length) => valN_here hi)
 have HNO := Lib.hid (fun (h : ¬ xs.all (isEl (grp k).q.m (grp k).size) = true) => show er = 7 ∧ sr = ⟨#[]⟩ by
  have e : er = 7 := by rw [← her, if_neg h]
  exact ⟨e, by rw [← hsr, if_neg (by omega)]⟩)
 have HYES := Lib.hid (fun (h : xs.all (isEl (grp k).q.m (grp k).size) = true) => show er = 0 ∧ sr = textS (lowN (grp k) (tgU (grp k).q.m l (valN xs) n)) (grp k).size by
  have e : er = 0 := by rw [← her, if_pos h]
  exact ⟨e, by rw [← hsr, if_pos e, hn]⟩)
 have HTE := Lib.hid (tgQ_eq OK.out HOD.out hok (valN xs) l.length (Nat.le_refl _))
 rw [hn] at HTE
 have HTL := Lib.hid (tgQ_le OK.out l (valN xs))
 clear her hsr hp0 hn hm hnm h16 h0 hok hnd
 go_enter Try.func22, Try.ntmps22
 go_wp2_with fail
 refine (refKind_some k h1 h3 w).mono ?_
 rintro e w1 ⟨aq, cq, ap, cp, rfl, hq9, hp9, hb9⟩
 have HB := Lib.hid hb9
 have HZS := Lib.hid hb9.size
 have HRG := Lib.hid (RG.mk (G := grp k) hq9 hp9)
 clear hq9 hp9 hb9
 have HK := Lib.hid (Below.refl w1.heap.size w1)
 obtain ⟨w2, hq2, hb9, hz9, Hbg⟩ := new1 w1 108 [.int .i64 ((grp k).size : Int), .slice aq (dl (grp k).q.m) cq, .slice ap (dl (grp k).p.m) cp]
 replace HK := hbu HK hb9
 replace HB := hbu HB hb9
 replace HZS := sz HZS hz9.out
 clear hb9 hz9
 have bg_ := Hbg.out.c3
 go_wp2_with fail
 clear hq2
 refine (HPC.out w2 (HL.out.up HB.out)).mono ?_
 rintro e w3 ⟨rfl, hb9⟩
 clear bg_
 replace Hbg := Lib.hid (Hbg.out.up hb9)
 replace HK := hbu HK hb9
 replace HB := hbu HB hb9
 replace HZS := sz HZS hb9.size
 clear hb9
 have bg_ := Hbg.out.c3
 go_wp2_with fail
 refine (rOf1 w3).mono ?_
 rintro e w4 ⟨ao, co, rfl, hn9, hb9⟩
 clear bg_
 replace Hbg := Lib.hid (Hbg.out.up hb9)
 replace HK := hbu HK hb9
 replace HB := hbu HB hb9
 replace HZS := sz HZS hb9.size
 have HS := Lib.hid hn9
 clear hn9 hb9
 have bg_ := Hbg.out.c3
 go_wp2_with fail
 clear hd hd2
 have BL := Lib.hid (Below.refl w4.heap.size w4)
 go_loopw [31, 10] (fun j u wr => ∃ (t : Nat) (au : Option Addr) (cu : Nat), t ≤ n ∧ j = .int .i64 t ∧ u = .slice au (dl (tgQ (grp k) l (valN xs) t)) cu ∧ Hid (Below w4.heap.size w4 wr) ∧ Hid (NumAt wr au (tgQ (grp k) l (valN xs) t)) ∧ Hid ((xs.take t).all (isEl (grp k).q.m (grp k).size) = true)) (fun j _ _ => n - (intOf j).toNat)
 case atStart => exact ⟨0, ao, co, Nat.zero_le _, rfl, rfl, BL, HS, rfl⟩
 case round =>
  clear HS
  obtain ⟨t, au, cu, ht, rfl, rfl, HL9, HS, HAL⟩ := hrel
  have hb9 := HL9.out
  clear HL9 bg_
  replace Hbg := Lib.hid (Hbg.out.up hb9)
  replace HK := hbu HK hb9
  replace BL := hbu BL hb9
  replace HB := hbu HB hb9
  replace HZS := sz HZS hb9.size
  clear hb9
  have bg_ := Hbg.out.c3
  by_cases htn : t < n
  ·have htx : t < xs.length := by rw [HM.out]; exact htn
   obtain ⟨bv, ov, rfl, hbv, hcv⟩ := (HX.out.up HB.out).at t (by rw [List.length_map]; exact htx)
   rw [List.getElem_map] at hcv
   have HAN := Lib.hid (fun h => all_not (f := isEl (grp k).q.m (grp k).size) htx h)
   have HAS := Lib.hid (fun h => all_snoc (f := isEl (grp k).q.m (grp k).size) htx HAL.out h)
   have HVI := Lib.hid (HVN.out t htx)
   generalize xs[t] = v at *
   obtain ⟨bj, hbj⟩ : ∃ x, isEl (grp k).q.m (grp k).size v = x := ⟨_, rfl⟩
   rw [hbj] at HAN HAS
   have HBJ := Lib.hid hbj
   clear hbj
   go_wp2_with fail
   refine (rIsEl_b OK.out v bj HBJ.out wr (HRG.out.up HK.out)).mono ?_
   rintro e w5 ⟨rfl, hb9⟩
   clear bg_
   replace Hbg := Lib.hid (Hbg.out.up hb9)
   replace HS := Lib.hid (HS.out.up hb9)
   replace HK := hbu HK hb9
   replace BL := hbu BL hb9
   replace HB := hbu HB hb9
   replace HZS := sz HZS hb9.size
   clear hb9
   have bg_ := Hbg.out.c3
   cases bj
   ·obtain ⟨rfl, rfl⟩ := HNO.out (by rw [HAN.out rfl]; decide)
    clear hcv hbv
    go_wp2_with fail
    go_ret2
    exact ⟨rfl, HB.out⟩
   ·have HV32 := Lib.hid (el_len OK.out HBJ.out)
    have HT1 := Lib.hid (show tgQ (grp k) l (valN xs) (t + 1) = lowN (grp k) (tgQ (grp k) l (valN xs) t * lowN (grp k) (numOf v ^ wtQ (grp k).q.m l t 0)) by rw [← HVI.out]; rfl)
    have HT16 := Lib.hid (Nat.lt_of_le_of_lt (HTL.out t) OK.out.q.lt4)
    have HWD := Lib.hid (q_dl OK.out (Nat.le_of_lt (wtQ_lt OK.out.q.pos l t 0)))
    have HWC := Lib.hid (fun aq ap cq cp => HW.out aq ap cq cp t htn)
    obtain ⟨tg, htg⟩ : ∃ v, tgQ (grp k) l (valN xs) t = v := ⟨_, rfl⟩
    rw [htg] at HS HT1 HT16 ⊢
    clear htg
    generalize wtQ (grp k).q.m l t 0 = wt at *
    clear hcv hbv
    go_upto_region 15 with fail
    have HT := Lib.hid (show Below w5.heap.size w5 w5.drew from (Below.refl _ _).drew)
    have hl_bg := Hbg.out.lt
    refine wp_region_tree (fun wq9 => ∃ E : Over w5, wq9 = E.w) ((.qs [0, 1, 2, 3, 5, 6, 7] (.a 4 (.a 8 (.a 9 (.a 10 (.qs [11] .done))))))) (by kernel_rfl) (by kernel_rfl) (fun _ _ d _ _ h => by cases d <;> exact h) ⟨⟨_, HT.out⟩, rfl⟩ ?_
    have hov_bg := fun (E : Over w5) o => E.cell (b := w1.heap.size) o hl_bg
    simp only [Tree.qs]
    repeat (refine tree_q rfl rfl ?_; go_big_quiet_step (fail); refine wpQuiet_nil ?_)
    refine tree_a rfl (fun K hK => ?_)
    go_simp
    refine (refRead_any v (Nat.le_trans HV32.out (by decide)) _).mono ?_
    rintro e w6 ⟨a1, c1, rfl, hn9, hb9⟩
    replace HT := Lib.hid (below_up HT.out hb9)
    replace HZS := sz HZS (show w5.heap.size ≤ w6.heap.size from HT.out.size)
    clear hb9
    have HN1 := Lib.hid hn9
    clear hn9
    refine hK _ _ ⟨⟨⟨w6, HT.out⟩, rfl⟩, ?_⟩
    clear hK K
    repeat (refine tree_q rfl rfl ?_; go_big_quiet_step (fail); refine wpQuiet_nil ?_)
    refine tree_a rfl (fun K hK => ?_)
    go_simp
    refine (HWC.out aq ap cq cp _ (HRG.out.up (below_up HK.out HT.out)) (HL.out.up (below_up HB.out HT.out))).mono ?_
    rintro e w7 ⟨a2, c2, rfl, hn9, hb9⟩
    replace HN1 := Lib.hid (HN1.out.up hb9)
    replace HT := Lib.hid (below_up HT.out hb9)
    replace HZS := sz HZS (show w5.heap.size ≤ w7.heap.size from HT.out.size)
    clear hb9
    have HN2 := Lib.hid hn9
    clear hn9
    refine hK _ _ ⟨⟨⟨w7, HT.out⟩, rfl⟩, ?_⟩
    clear hK K
    repeat (refine tree_q rfl rfl ?_; go_big_quiet_step (fail); refine wpQuiet_nil ?_)
    refine tree_a rfl (fun K hK => ?_)
    go_simp
    refine (rPow OK.out (numOf_16 v HV32.out) HWD.out _ (HRG.out.up (below_up HK.out HT.out)) HN1.out HN2.out).mono ?_
    rintro e w8 ⟨a3, c3, rfl, hn9, hb9⟩
    replace HN1 := Lib.hid (HN1.out.up hb9)
    replace HN2 := Lib.hid (HN2.out.up hb9)
    replace HT := Lib.hid (below_up HT.out hb9)
    replace HZS := sz HZS (show w5.heap.size ≤ w8.heap.size from HT.out.size)
    clear hb9
    have HN3 := Lib.hid hn9
    clear hn9
    refine hK _ _ ⟨⟨⟨w8, HT.out⟩, rfl⟩, ?_⟩
    clear hK K
    repeat (refine tree_q rfl rfl ?_; go_big_quiet_step (fail); refine wpQuiet_nil ?_)
    refine tree_a rfl (fun K hK => ?_)
    go_simp
    refine (rProd OK.out HT16.out (lowN_16 OK.out _) _ (HRG.out.up (below_up HK.out HT.out)) (HS.out.up HT.out) HN3.out).mono ?_
    rintro e w9 ⟨a4, c4, rfl, hn9, hb9⟩
    replace HN1 := Lib.hid (HN1.out.up hb9)
    replace HN2 := Lib.hid (HN2.out.up hb9)
    replace HN3 := Lib.hid (HN3.out.up hb9)
    replace HT := Lib.hid (below_up HT.out hb9)
    replace HZS := sz HZS (show w5.heap.size ≤ w9.heap.size from HT.out.size)
    clear hb9
    have HN4 := Lib.hid hn9
    clear hn9
    refine hK _ _ ⟨⟨⟨w9, HT.out⟩, rfl⟩, ?_⟩
    clear hK K
    repeat (refine tree_q rfl rfl ?_; go_big_quiet_step (fail); refine wpQuiet_nil ?_)
    refine tree_end ?_
    clear hov_bg hl_bg bg_
    replace Hbg := Lib.hid (Hbg.out.up HT.out)
    replace HS := Lib.hid (HS.out.up HT.out)
    replace HK := hbu HK HT.out
    replace BL := hbu BL HT.out
    replace HB := hbu HB HT.out
    replace HZS := sz HZS HT.out.size
    clear HT
    have bg_ := Hbg.out.c3
    go_wp2_with fail
    go_roundw
    case rel => exact ⟨t + 1, a4, c4, by omega, by go_num, by rw [HT1.out], BL, by rw [HT1.out]; exact HN4, HAS.out (by simp)⟩
    case measure => simp [intOf]; omega
  ·have htn' : t = n := by omega
   subst htn'
   obtain ⟨rfl, rfl⟩ := HYES.out (by rw [← HM.out] at HAL; exact all_take_true HAL.out)
   have HT16 := Lib.hid (Nat.lt_of_le_of_lt (HTL.out t) OK.out.q.lt4)
   obtain ⟨tg, htg⟩ : ∃ v, tgQ (grp k) l (valN xs) t = v := ⟨_, rfl⟩
   have HTG := Lib.hid htg
   rw [htg] at HS HT16 ⊢
   clear htg
   go_wp2_with fail
   refine (rText OK.out HT16.out wr HS.out).mono ?_
   rintro e w5 ⟨rfl, hb9⟩
   clear bg_
   replace Hbg := Lib.hid (Hbg.out.up hb9)
   replace HS := Lib.hid (HS.out.up hb9)
   replace HK := hbu HK hb9
   replace BL := hbu BL hb9
   replace HB := hbu HB hb9
   replace HZS := sz HZS hb9.size
   clear hb9
   have bg_ := Hbg.out.c3
   go_wp2_with fail
   go_ret2
   rw [← HTE.out, HTG.out]
   exact ⟨rfl, HB.out⟩
theorem rWeights_none (k : Int) (hk : ¬ (1 ≤ k ∧ k ≤ 3)) (v1 : Value) (w : World) :
  Calls Try.prog 18 #[.int .i64 k, v1] w (StrsR 1 [] w) := by
 go_enter Try.func18, Try.ntmps18
 go_wp2_with fail
 refine (refKind_none k hk w).mono ?_
 rintro e w1 ⟨rfl, hb9⟩
 have HB := Lib.hid hb9
 have HZS := Lib.hid hb9.size
 clear hb9
 obtain ⟨w2, hq2, hb9, hz9, Hbg⟩ := new1 w1 108 [.int .i64 0, .slice none 0 0, .slice none 0 0]
 replace HB := hbu HB hb9
 replace HZS := sz HZS hz9.out
 clear hb9 hz9
 have bg_ := Hbg.out.c3
 have f3_bg := Hbg.out.frozen
 have o3_bg_ := bg_; clear bg_
 obtain ⟨w3, hq3, hg9, hz9, hx9⟩ := put3 Hbg 0 (.int .i64 0) 1 (.slice none 0 0) 2 (.slice none 0 0) [.int .i64 0, .slice none 0 0, .slice none 0 0] rfl
 replace HB := hbg HB hg9 (by have g0 := HZS.out; omega)
 replace HZS := sz HZS hz9.out
 replace Hbg := hx9
 clear hx9 hg9 hz9
 have bg_ := Hbg.out.c3
 go_wp2_with fail
 clear hq3 o3_bg_ f3_bg hq2
 go_ret2
 exact strsR_none 1 HB.out
theorem rWeights_some (k : Nat) (h1 : 1 ≤ k) (h3 : k ≤ 3) (l : List Int) (n : Nat) (hn : l.length = n) (hnm : n ≤ 1152921504606846975) (al : Option Addr) (cl : Nat) (w : World) (hL : Sl w w.heap.size al (l.map intV)) :
  Calls Try.prog 18 #[.int .i64 (k : Int), .slice al n cl] w (StrsR (placesE l) (wtsL (grp k) l) w) := by
 have OK := Lib.hid (grp_ok k h1 h3)
 have hs0 := size_n0 k h1 h3
 have HL := Lib.hid hL
 have HPC := Lib.hid (fun W h => rplaces_any l n hn al cl W h)
 obtain ⟨z, hz⟩ : ∃ z, placesE l = z := ⟨_, rfl⟩
 obtain ⟨L, hLL⟩ : ∃ L, wtsL (grp k) l = L := ⟨_, rfl⟩
 have hp0 := pl_zero (l := l)
 rw [hLL, hz]
 unfold wtsL at hLL
 rw [hz] at hLL HPC hp0
 clear hz hL
 by_cases hz0 : z = 0
 case neg =>
  have hd : ((z : Int) != 0) = true := by simp; omega
  obtain rfl : L = [] := by rw [← hLL, if_neg hz0]
  clear hz0 hLL hp0 hn hnm
  go_enter Try.func18, Try.ntmps18
  go_wp2_with fail
  refine (refKind_some k h1 h3 w).mono ?_
  rintro e w1 ⟨aq, cq, ap, cp, rfl, hq9, hp9, hb9⟩
  have HB := Lib.hid hb9
  have HZS := Lib.hid hb9.size
  have HRG := Lib.hid (RG.mk (G := grp k) hq9 hp9)
  clear hq9 hp9 hb9
  have HK := Lib.hid (Below.refl w1.heap.size w1)
  obtain ⟨w2, hq2, hb9, hz9, Hbg⟩ := new1 w1 108 [.int .i64 ((grp k).size : Int), .slice aq (dl (grp k).q.m) cq, .slice ap (dl (grp k).p.m) cp]
  replace HK := hbu HK hb9
  replace HB := hbu HB hb9
  replace HZS := sz HZS hz9.out
  clear hb9 hz9
  have bg_ := Hbg.out.c3
  go_wp2_with fail
  clear hq2
  refine (HPC.out w2 (HL.out.up HB.out)).mono ?_
  rintro e w3 ⟨rfl, hb9⟩
  clear bg_
  replace Hbg := Lib.hid (Hbg.out.up hb9)
  replace HK := hbu HK hb9
  replace HB := hbu HB hb9
  replace HZS := sz HZS hb9.size
  clear hb9
  have bg_ := Hbg.out.c3
  go_wp2_with fail
  go_ret2
  exact strsR_none z HB.out
 subst hz0
 have hd : ((((0 : Nat) : Int)) != 0) = false := by simp
 rw [if_pos rfl, hn] at hLL
 obtain ⟨h16, h0, hok, hnd⟩ := hp0 rfl
 have hn16 : n ≤ 16 := by omega
 have HW := Lib.hid (fun aq ap cq cp i (hi : i < n) w9 h g => rweight_any (aq := aq) (ap := ap) (cq := cq) (cp := cp) OK.out l n hn hn16 hok i hi 0 (by decide) al cl w9 h g)
 subst hLL
 have HLN := Lib.hid (wtS_len (grp k) l n)
 clear hn hnm h16 h0 hok hnd hp0
 go_enter Try.func18, Try.ntmps18
 go_wp2_with fail
 refine (refKind_some k h1 h3 w).mono ?_
 rintro e w1 ⟨aq, cq, ap, cp, rfl, hq9, hp9, hb9⟩
 have HB := Lib.hid hb9
 have HZS := Lib.hid hb9.size
 have HRG := Lib.hid (RG.mk (G := grp k) hq9 hp9)
 clear hq9 hp9 hb9
 have HK := Lib.hid (Below.refl w1.heap.size w1)
 obtain ⟨w2, hq2, hb9, hz9, Hbg⟩ := new1 w1 108 [.int .i64 ((grp k).size : Int), .slice aq (dl (grp k).q.m) cq, .slice ap (dl (grp k).p.m) cp]
 replace HK := hbu HK hb9
 replace HB := hbu HB hb9
 replace HZS := sz HZS hz9.out
 clear hb9 hz9
 have bg_ := Hbg.out.c3
 go_wp2_with fail
 clear hq2
 refine (HPC.out w2 (HL.out.up HB.out)).mono ?_
 rintro e w3 ⟨rfl, hb9⟩
 clear bg_
 replace Hbg := Lib.hid (Hbg.out.up hb9)
 replace HK := hbu HK hb9
 replace HB := hbu HB hb9
 replace HZS := sz HZS hb9.size
 clear hb9
 have bg_ := Hbg.out.c3
 go_wp2_with fail
 clear hd
 have BL := Lib.hid (Below.refl w3.heap.size w3)
 go_loopw [22, 8] (fun i v wr => ∃ (j : Nat) (g : Option Addr) (c9 : Nat), j ≤ n ∧ i = .int .i64 j ∧ v = .slice g j c9 ∧ Hid (Below w3.heap.size w3 wr) ∧ Hid (RowO w3.heap.size wr 9 1 (.slice g j c9) j ((wtS (grp k) l j).map Value.string))) (fun i _ _ => n - (intOf i).toNat)
 case atStart => exact ⟨0, none, 0, Nat.zero_le _, rfl, rfl, BL, RowO.nil⟩
 case round =>
  obtain ⟨j, g, c9, hj, rfl, rfl, HL9, Hr⟩ := hrel
  have hb9 := HL9.out
  clear HL9 bg_
  replace Hbg := Lib.hid (Hbg.out.up hb9)
  replace HK := hbu HK hb9
  replace BL := hbu BL hb9
  replace HB := hbu HB hb9
  replace HZS := sz HZS hb9.size
  clear hb9
  have bg_ := Hbg.out.c3
  by_cases hjn : j < n
  ·have HSN := Lib.hid (wtS_snoc (grp k) l j)
   have HWL := Lib.hid (wtQ_lt OK.out.q.pos l j 0)
   have HWC := Lib.hid (fun aq ap cq cp => HW.out aq ap cq cp j hjn)
   generalize wtQ (grp k).q.m l j 0 = wt at *
   go_wp2_with fail
   have HT := Lib.hid (show Below wr.heap.size wr wr.drew from (Below.refl _ _).drew)
   have hl_bg := Hbg.out.lt
   refine wp_region_tree (fun wq9 => ∃ E : But wr (Value.ownBlock (.slice g j c9)), wq9 = E.w) ((.qs [0, 1, 2, 3, 5, 6] (.a 4 (.a 7 (.a 8 (.a 9 (.qs [10] .done))))))) (by kernel_rfl) (by kernel_rfl) (fun _ _ d _ _ h => by cases d <;> exact h) ⟨⟨_, ((below_grown HT.out).but _)⟩, rfl⟩ ?_
   have hov_bg := fun (E : But wr (Value.ownBlock (.slice g j c9))) o => E.cell (b := w1.heap.size) o hl_bg (by intro e9; have a1 := Hr.out.lt _ e9; have g0 := HZS.out; omega)
   simp only [Tree.qs]
   repeat (refine tree_q rfl rfl ?_; go_big_quiet_step (fail); refine wpQuiet_nil ?_)
   refine tree_a rfl (fun K hK => ?_)
   go_simp
   refine (HWC.out aq ap cq cp _ (HRG.out.up (below_up HK.out HT.out)) (HL.out.up (below_up HB.out HT.out))).mono ?_
   rintro e w4 ⟨a1, c1, rfl, hn9, hb9⟩
   replace HT := Lib.hid (below_up HT.out hb9)
   replace HZS := sz HZS (show wr.heap.size ≤ w4.heap.size from HT.out.size)
   clear hb9
   have HN1 := Lib.hid hn9
   clear hn9
   refine hK _ _ ⟨⟨⟨w4, ((below_grown HT.out).but _)⟩, rfl⟩, ?_⟩
   clear hK K
   repeat (refine tree_q rfl rfl ?_; go_big_quiet_step (fail); refine wpQuiet_nil ?_)
   refine tree_a rfl (fun K hK => ?_)
   go_simp
   refine (rTextQ OK.out HWL.out _ HN1.out).mono ?_
   rintro e w5 ⟨rfl, hb9⟩
   replace HN1 := Lib.hid (HN1.out.up hb9)
   replace HT := Lib.hid (below_up HT.out hb9)
   replace HZS := sz HZS (show wr.heap.size ≤ w5.heap.size from HT.out.size)
   clear hb9
   refine hK _ _ ⟨⟨⟨w5, ((below_grown HT.out).but _)⟩, rfl⟩, ?_⟩
   clear hK K
   repeat (refine tree_q rfl rfl ?_; go_big_quiet_step (fail); refine wpQuiet_nil ?_)
   clear hov_bg hl_bg
   refine tree_a rfl (fun K hK => ?_)
   go_simp
   refine hK _ _ ⟨⟨⟨_, (below_grown (HT.out.alloc HT.out.size _)).but _⟩, rfl⟩, ?_⟩
   clear hK K
   obtain ⟨i9, hi9, hz90, hz91, hz92⟩ := info_parts infoStr
   have HG1 := Lib.hid ((below_grown HT.out).but (Value.ownBlock (.slice g j c9)))
   clear bg_
   replace Hbg := Lib.hid (Hbg.out.up HT.out)
   replace Hr := Lib.hid (Hr.out.up HT.out)
   replace HK := hbu HK HT.out
   replace BL := hbu BL HT.out
   replace HB := hbu HB HT.out
   replace HZS := sz HZS HT.out.size
   refine tree_a rfl (fun K hK => ?_)
   refine step_pushR (w3.heap.size) w5 (by have g0 := HZS.out; omega) rfl _ _ 22 rfl 9 i9 _ 1 16 Try.underlying22 hi9 hz90 hz91 hz92 rfl (by omega) ((.slice g j c9)) (j) (((wtS (grp k) l j).map Value.string)) rfl Hr.out _ _ _ rfl rfl rfl (by simp [Value.oneCell']) (by omega) (by unfold maxLen; omega) ?_
   intro g6 c6 w6 hown9 hg9
   have HGR := Lib.hid (HG1.out.trans hg9)
   have hb9 := Below.grown HB.out hg9 (by have g0 := HZS.out; omega) (fun q hq => Nat.le_trans (show w.heap.size ≤ w3.heap.size by have g0 := HZS.out; omega) (Hr.out.lt q hq).1)
   replace Hbg := Lib.hid (Hbg.out.grown hg9 (fun e9 => by have a1 := Hr.out.lt _ e9; have g0 := HZS.out; omega))
   clear HN1
   replace HK := Lib.hid (Below.grown HK.out hg9 (by have g0 := HZS.out; omega) (fun q hq => Nat.le_trans (show w1.heap.size ≤ w3.heap.size by have g0 := HZS.out; omega) (Hr.out.lt q hq).1))
   replace BL := Lib.hid (Below.grown BL.out hg9 (by have g0 := HZS.out; omega) (fun q hq => Nat.le_trans (show w3.heap.size ≤ w3.heap.size by have g0 := HZS.out; omega) (Hr.out.lt q hq).1))
   replace HZS := sz HZS hg9.size
   clear Hr HB HT HG1
   have Hr := Lib.hid hown9
   have HB := Lib.hid hb9
   clear hb9 hown9 hg9 hi9 hz90 hz91 hz92
   refine hK _ _ ⟨⟨⟨w6, HGR.out⟩, rfl⟩, ?_⟩
   clear hK K HGR
   have bg_ := Hbg.out.c3
   try simp only [Act.put, List.setIfInBounds_toArray, List.set_cons_succ, List.set_cons_zero]
   repeat (refine tree_q rfl rfl ?_; go_big_quiet_step (fail); refine wpQuiet_nil ?_)
   refine tree_end ?_
   go_wp2_with fail
   go_roundw
   case rel => exact ⟨j + 1, _, _, by omega, by go_num, rfl, BL, Hr.out.eq HSN.out.symm rfl⟩
   case measure => simp [intOf]; omega
  ·have hjn' : j = n := by omega
   subst hjn'
   go_wp2_with fail
   go_ret2
   exact ⟨HB.out, g, c9, by rw [HLN.out]; rfl, Hr.out.sl⟩
end Go.Proofs.Ytjmeakfjfpnciaa
namespace Go.Proofs.Ytjmeakfjfpnciaa
open Go.RowKit
theorem toList_bne6 {a b : ByteArray} (h : ¬ a = b) : (a.toList == b.toList) = false := beq_eq_false_iff_ne.2 (fun e => h (by
 have h9 : (a == b) = true := by rw [beq_toListBytes]; exact beq_iff_eq.2 e
 obtain ⟨x⟩ := a
 obtain ⟨y⟩ := b
 have h10 : (x == y) = true := h9
 rw [eq_of_beq h10]))
theorem Sl.atUp6 {w w1 : World} {a : Option Addr} {cs : List Value} (h : Sl w w.heap.size a cs) (hb : Below w.heap.size w w1) (i : Nat) (hi : i < cs.length) :
  ∃ b off, a = some ⟨b, off, none⟩ ∧ b < w.heap.size ∧ b < w1.heap.size ∧ w1.cell? ⟨b, off + i, none⟩ = some cs[i] := by
 obtain ⟨b, off, rfl, hl, hc⟩ := h.at i hi
 exact ⟨b, off, rfl, hl, Nat.lt_of_lt_of_le hl hb.size, (hb.cell (p := ⟨b, off + i, none⟩) hl).trans hc⟩
theorem take_eq_snoc6 {l m : List ByteArray} {j : Nat} (hl : j < l.length) (hm : j < m.length) (h : l.take j = m.take j) (h1 : l[j] = m[j]) : l.take (j + 1) = m.take (j + 1) := by
 rw [List.take_succ_eq_append_getElem hl, List.take_succ_eq_append_getElem hm, h, h1]
theorem same6_any (l m : List ByteArray) (al am : Option Addr) (cl cm : Nat) (hl : l.length ≤ 8796093022207) (b : Bool) (hb : decide (l = m) = b) (w : World) (hL : Sl w w.heap.size al (l.map Value.string)) (hM : Sl w w.heap.size am (m.map Value.string)) :
  Calls Try.prog 19 #[.slice al l.length cl, .slice am m.length cm] w (Gives (.bool b) w) := by
 have HL := Lib.hid hL
 have HM := Lib.hid hM
 have HBB := Lib.hid hb
 clear hL hM hb
 unfold Gives
 by_cases h1 : l.length = m.length
 ·have hd : ((l.length : Int) != (m.length : Int)) = false := by rw [bne_eq_false_iff_eq]; omega
  obtain ⟨n, hn⟩ : ∃ n, l.length = n := ⟨_, rfl⟩
  have hm : m.length = n := by omega
  have HNL := Lib.hid hn
  have HNM := Lib.hid hm
  rw [hn] at hd hl ⊢
  rw [hm] at hd ⊢
  clear h1 hn hm
  go_enter Try.func19, Try.ntmps19
  go_wp2_with fail
  go_loopw [13] (fun i wr => ∃ j : Nat, j ≤ n ∧ i = .int .i64 j ∧ Hid (Below w.heap.size w wr) ∧ Hid (l.take j = m.take j)) (fun i _ => n - (intOf i).toNat)
  case atStart => exact ⟨0, Nat.zero_le _, rfl, Below.refl _ _, rfl⟩
  case round =>
   obtain ⟨j, hj, rfl, HB, HT⟩ := hrel
   by_cases hjn : j < n
   ·skip
    have hjl : j < l.length := by rw [HNL.out]; exact hjn
    have hjm : j < m.length := by rw [HNM.out]; exact hjn
    obtain ⟨b1, o1, rfl, hb10, hb1, hc1⟩ := HL.out.atUp6 HB.out j (by simpa using hjl)
    obtain ⟨b2, o2, rfl, hb20, hb2, hc2⟩ := HM.out.atUp6 HB.out j (by simpa using hjm)
    rw [List.getElem_map] at hc1 hc2
    have HTS := Lib.hid (take_eq_snoc6 hjl hjm HT.out)
    have HNE := Lib.hid (fun (h : ¬ l[j] = m[j]) => (show ¬ l = m from fun e => h (by subst e; rfl)))
    generalize l[j] = x at *
    generalize m[j] = y at *
    by_cases hxy : x = y
    ·have HF := Lib.hid (HTS.out hxy)
     subst hxy
     go_wp2_with fail
     refine wp_region_over (by kernel_rfl) (by kernel_rfl) ?_
     have hov_b1 := fun (E : Over wr) o => E.cell (b := b1) o hb1
     have hov_b2 := fun (E : Over wr) o => E.cell (b := b2) o hb2
     repeat (go_big_quiet_step (first | fail))
     all_goals (try unfold elV limbV)
     repeat (go_big_quiet_step (first | fail))
     all_goals (try unfold elV limbV)
     repeat (go_big_quiet_step (first | fail))
     all_goals (try unfold ciphV)
     refine wpQuiet_nil ?_
     rintro _ ⟨E, rfl⟩
     clear hov_b1 hov_b2
     replace HB := hbu HB E.h
     have HZS := Lib.hid E.h.size
     obtain ⟨w1, hq9⟩ : ∃ W9 : World, E.w = W9 := ⟨_, rfl⟩
     rw [hq9] at HB HZS ⊢
     clear hq9 E
     go_wp2_with fail
     go_roundw
     case rel => exact ⟨j + 1, by omega, by go_num, HB, HF⟩
     case measure => simp [intOf]; omega
    ·obtain rfl : b = false := by rw [← HBB.out]; exact decide_eq_false (HNE.out hxy)
     have hcd := toList_bne6 hxy
     clear hxy
     go_wp2_with fail
     refine wp_region_over (by kernel_rfl) (by kernel_rfl) ?_
     have hov_b1 := fun (E : Over wr) o => E.cell (b := b1) o hb1
     have hov_b2 := fun (E : Over wr) o => E.cell (b := b2) o hb2
     repeat (go_big_quiet_step (first | fail))
     all_goals (try unfold elV limbV)
     repeat (go_big_quiet_step (first | fail))
     all_goals (try unfold elV limbV)
     repeat (go_big_quiet_step (first | fail))
     all_goals (try unfold ciphV)
     refine wpQuiet_nil ?_
     rintro _ ⟨E, rfl⟩
     clear hov_b1 hov_b2
     replace HB := hbu HB E.h
     have HZS := Lib.hid E.h.size
     obtain ⟨w1, hq9⟩ : ∃ W9 : World, E.w = W9 := ⟨_, rfl⟩
     rw [hq9] at HB HZS ⊢
     clear hq9 E
     go_wp2_with fail
     go_ret
     exact ⟨rfl, HB.out⟩
   ·have hjn' : j = n := by omega
    subst hjn'
    obtain rfl : b = true := by
     rw [← HBB.out]
     refine decide_eq_true ?_
     have h9 := HT.out
     rwa [List.take_of_length_le (by rw [HNL.out]; exact Nat.le_refl _), List.take_of_length_le (by rw [HNM.out]; exact Nat.le_refl _)] at h9
    go_wp2_with fail
    go_ret
    exact ⟨rfl, HB.out⟩
 ·have hd : ((l.length : Int) != (m.length : Int)) = true := by rw [bne_iff_ne]; omega
  obtain rfl : b = false := by rw [← HBB.out]; exact decide_eq_false (fun e => h1 (by rw [e]))
  clear h1
  go_enter Try.func19, Try.ntmps19
  go_wp2_with fail
  go_ret
  exact ⟨rfl, Below.refl _ _⟩
end Go.Proofs.Ytjmeakfjfpnciaa
namespace Go.Proofs.Ytjmeakfjfpnciaa
open Go.ChangeShapes Go.WideShapes Go.ChangeAt Go.RowKit
theorem flat_range (g : Nat → Value) (k len : Nat) : ((List.range len).map fun i => (List.range k).map fun j => g (i * k + j)).flatten = (List.range (len * k)).map g := by
 induction len with
 | zero => simp
 | succ m ih =>
  rw [List.range_succ, List.map_append, List.flatten_append, ih, Nat.succ_mul, List.range_add, List.map_append]
  simp [List.map_map, Function.comp_def]
section
variable {H : Type} {enc : TypeId × Value → H} {P : Program} {w : World}
theorem list_shapes {α : Type} (f : α → List Value) (R : α → Prop) : ∀ css : List (List Value), (∀ l ∈ css, ∃ x, l = f x ∧ R x) → ∃ xs : List α, xs.length = css.length ∧ css.flatten = xs.flatMap f ∧ ∀ x ∈ xs, R x
 | [], _ => ⟨[], rfl, rfl, by simp⟩
 | l :: css, h => by
  obtain ⟨x, rfl, hR⟩ := h l (by simp)
  obtain ⟨xs, h1, h2, h3⟩ := list_shapes f R css (fun c hc => h c (by simp [hc]))
  refine ⟨x :: xs, by simp [h1], by simp [h2], ?_⟩
  intro y hy
  rcases List.mem_cons.1 hy with rfl | hy
  ·exact hR
  ·exact h3 y hy
theorem open_str {sp : Nat → Bool} {held : Bool} {t : TypeId} {fuel : Nat} {c : Value} {y : DataW H × List MemPlace} (ht : P.underlying t = some .string) (h : DataW.trod enc P w 0 sp held fuel t [c] = some y) : ∃ s : ByteArray, c = .string s := by
 obtain ⟨s, hs, _⟩ := DataW.trod_string ht h
 simp only [List.cons.injEq, and_true] at hs
 exact ⟨s, hs⟩
end
end Go.Proofs.Ytjmeakfjfpnciaa
namespace Go.Proofs.Ytjmeakfjfpnciaa
open Go.ChangeShapes Go.WideShapes Go.ChangeAt Go.RowKit
def Wt {H : Type} (P : Program) (t : TypeId) (d : DataW H) : Prop := ∀ n ∈ DataW.weights P t d, n ≤ reachBytes
theorem weightsAll_mem {H : Type} {P : Program} {e : TypeId} : ∀ {l : List (DataW H)} {d : DataW H}, d ∈ l → ∀ n ∈ DataW.weights P e d, n ∈ DataW.weightsAll P e l
 | x :: l, d, hd, n, hn => by
  simp only [DataW.weightsAll, List.mem_append]
  rcases List.mem_cons.1 hd with rfl | h
  ·exact Or.inl hn
  ·exact Or.inr (weightsAll_mem h n hn)
theorem Wt.slice {H : Type} {P : Program} {t e : TypeId} {elems spare : List (DataW H)} (ht : P.underlying t = some (.slice e)) (h : Wt P t (.slice elems spare)) : elems.length * P.bytesOf e ≤ reachBytes ∧ ∀ d ∈ elems, Wt P e d := by
 unfold Wt at h
 simp only [DataW.weights, ht, List.mem_cons, List.mem_append] at h
 refine ⟨Nat.le_trans (Nat.mul_le_mul_right _ (Nat.le_add_right _ _)) (h _ (Or.inl rfl)), fun d hd n hn => h n (Or.inr (Or.inl (weightsAll_mem hd n hn)))⟩
theorem Wt.arg {H : Type} {P : Program} {ts : List TypeId} {ds : List (DataW H)} (h : (DataW.weightsEach P ts ds).all (· ≤ reachBytes) = true) {j : Nat} {t : TypeId} {d : DataW H} (ht : ts[j]? = some t) (hd : ds[j]? = some d) : Wt P t d :=
 fun n hn => of_decide_eq_true (List.all_eq_true.1 h _ (DataW.weights_mem_each ht hd n hn))
section
variable {H : Type} {enc : TypeId × Value → H} {P : Program} {w : World}
theorem open_flatW {sp : Nat → Bool} {held : Bool} {t e : TypeId} {k fuel : Nat} {c : Value} {y : DataW H × List MemPlace} (ht : P.underlying t = some (.slice e)) (hk : P.cellsOf e = k) (hk0 : 0 < k) (hW : Wt P t y.1)
  (h : DataW.trod enc P w 0 sp held fuel t [c] = some y) :
  ∃ (a : Option Addr) (cap : Nat) (css : List (List Value)), c = .slice a css.length cap ∧ css.length * P.bytesOf e ≤ reachBytes ∧ (a = none → cap = 0) ∧ (∀ l ∈ css, l.length = k) ∧ Sl w w.heap.size a css.flatten ∧
   ∀ l ∈ css, ∃ n y', Wt P e y'.1 ∧ DataW.trod enc P w 0 sp held n e l = some y' := by
 have hlt := DataW.trod_lt _ _ _ _ h
 rcases DataW.trod_slice ht h with ⟨hcs, _⟩ | ⟨x, len, cap, elems, rest, n, _, hcs, hx, hb, hl, hm, hlen, hel, _, _⟩
 ·simp only [List.cons.injEq, and_true] at hcs
  exact ⟨none, 0, [], hcs, by simp, fun _ => rfl, by simp, Or.inl rfl, by simp⟩
 simp only [List.cons.injEq, and_true] at hcs
 subst hcs
 by_cases h0 : len = 0
 ·subst h0
  exact ⟨some x, cap, [], rfl, by simp, by simp, by simp, Or.inl rfl, by simp⟩
 have hbk := Wt.slice (elems := elems.map (·.1)) (spare := rest.map (·.1)) ht (by rw [hx] at hW; exact hW)
 have each : ∀ i, i < len → ∃ l y', w.cells? 0 (x.add (i * k)) k = some l ∧ Wt P e y'.1 ∧ DataW.trod enc P w 0 sp held n e l = some y' := by
  intro i hi
  have h1 := hel i hi
  rw [hk, show elems[i]? = some (elems[i]'(by omega)) from List.getElem?_eq_getElem (by omega), Option.bind_eq_some_iff] at h1
  obtain ⟨l, hl, hy⟩ := h1
  exact ⟨l, _, hl, hbk.2 _ (List.mem_map.2 ⟨_, List.getElem_mem _, rfl⟩), hy⟩
 obtain ⟨b, off, spot⟩ := x
 have hspot : spot = none := by
  obtain ⟨l, _, h1, _⟩ := each 0 (by omega)
  obtain ⟨_, h2, h3⟩ := World.cells?_some h1
  have h4 := h3 0 hk0
  obtain ⟨v, hv⟩ : ∃ v, l[0]? = some v := ⟨_, List.getElem?_eq_getElem (by omega)⟩
  rw [hv, Deep.add_add, Nat.zero_mul, Nat.zero_add] at h4
  simpa [Addr.add] using World.cell?_spot h4
 subst hspot
 have hbW : b < w.heap.size := hlt (.cell b off) (by
  rw [hx]
  exact List.mem_append_left _ (MemPlace.mem_row.2 ⟨0, by rw [hk]; have : 0 < (elems.length + rest.length) * k := Nat.mul_pos (by omega) hk0; omega, by simp⟩))
 have hL : ∀ i, i < len → ((List.range k).map fun j => (w.cell? ⟨b, off + (i * k + j), none⟩).getD (.bool false)).length = k ∧
   (∀ j, j < k → w.cell? ⟨b, off + (i * k + j), none⟩ = some ((w.cell? ⟨b, off + (i * k + j), none⟩).getD (.bool false))) ∧
   ∃ y', Wt P e y'.1 ∧ DataW.trod enc P w 0 sp held n e ((List.range k).map fun j => (w.cell? ⟨b, off + (i * k + j), none⟩).getD (.bool false)) = some y' := by
  intro i hi
  obtain ⟨l, y', h1, h2b, h2⟩ := each i hi
  obtain ⟨_, h3, h4⟩ := World.cells?_some h1
  have h5 : ∀ j, j < k → w.cell? ⟨b, off + (i * k + j), none⟩ = l[j]? := by
   intro j hj
   have := h4 j hj
   rwa [Deep.add_add, add_plain] at this
  have e1 : (List.range k).map (fun j => (w.cell? ⟨b, off + (i * k + j), none⟩).getD (.bool false)) = l := by
   apply List.ext_getElem?
   intro j
   by_cases hj : j < k
   ·rw [List.getElem?_map, List.getElem?_range hj, Option.map_some, h5 j hj, List.getElem?_eq_getElem (show j < l.length by omega), Option.getD_some]
   ·rw [List.getElem?_eq_none (by simp; omega), List.getElem?_eq_none (by omega)]
  refine ⟨by simp, ?_, ?_⟩
  ·intro j hj
   rw [h5 j hj, List.getElem?_eq_getElem (show j < l.length by omega), Option.getD_some]
  ·rw [e1]; exact ⟨y', h2b, h2⟩
 refine ⟨some ⟨b, off, none⟩, cap, (List.range len).map fun i => (List.range k).map fun j => (w.cell? ⟨b, off + (i * k + j), none⟩).getD (.bool false), by simp, ?_, by simp, ?_, Or.inr ⟨b, off, rfl, hbW, ?_⟩, ?_⟩
 ·have := hbk.1; rw [List.length_map, hlen] at this; simpa using this
 ·intro l hl
  obtain ⟨i, _, rfl⟩ := List.mem_map.1 hl
  simp
 ·have hflat := flat_range (fun m => (w.cell? ⟨b, off + m, none⟩).getD (.bool false)) k len
  intro i v hv
  rw [hflat] at hv
  have hi : i < len * k := by have := (List.getElem?_eq_some_iff.1 hv).1; simpa using this
  have hq : i / k < len := Nat.div_lt_of_lt_mul (by rwa [Nat.mul_comm] at hi)
  have hc := (hL (i / k) hq).2.1 (i % k) (Nat.mod_lt _ hk0)
  rw [show i / k * k + i % k = i by rw [Nat.mul_comm]; exact Nat.div_add_mod i k] at hc
  rw [hc, ← hv, List.getElem?_map, List.getElem?_range hi, Option.map_some]
 ·intro l hl
  obtain ⟨i, hi, rfl⟩ := List.mem_map.1 hl
  obtain ⟨y', hyb, hy⟩ := (hL i (List.mem_range.1 hi)).2.2
  exact ⟨n, y', hyb, hy⟩
theorem open_elsW {α : Type} (f : α → List Value) (R : α → Prop) {sp : Nat → Bool} {held : Bool} {t e : TypeId} {k fuel : Nat} {c : Value} {y : DataW H × List MemPlace} (ht : P.underlying t = some (.slice e)) (hk : P.cellsOf e = k) (hk0 : 0 < k) (hW : Wt P t y.1)
  (hel : ∀ n l y', l.length = k → Wt P e y'.1 → DataW.trod enc P w 0 sp held n e l = some y' → ∃ x, l = f x ∧ R x) (h : DataW.trod enc P w 0 sp held fuel t [c] = some y) :
  ∃ (a : Option Addr) (cap : Nat) (xs : List α), c = .slice a xs.length cap ∧ xs.length * P.bytesOf e ≤ reachBytes ∧ (a = none → cap = 0) ∧ Sl w w.heap.size a (xs.flatMap f) ∧ ∀ x ∈ xs, R x := by
 obtain ⟨a, cap, css, rfl, hlB, hno, hl, hs, he⟩ := open_flatW ht hk hk0 hW h
 obtain ⟨xs, h1, h2, h3⟩ := list_shapes f R css (fun l hm => by
  obtain ⟨n, y', hyb, hy⟩ := he l hm
  exact hel n l y' (hl l hm) hyb hy)
 exact ⟨a, cap, xs, by rw [h1], by rw [h1]; exact hlB, hno, h2 ▸ hs, h3⟩
end
end Go.Proofs.Ytjmeakfjfpnciaa
namespace Go.Proofs.Ytjmeakfjfpnciaa
open Go.ChangeShapes Go.WideShapes Go.ChangeAt Go.RowKit
theorem Wt.str7 {H : Type} {enc : TypeId × Value → H} {P : Program} {w : World} {sp : Nat → Bool} {held : Bool} {t : TypeId} {fuel : Nat} {s : ByteArray} {y : DataW H × List MemPlace} (ht : P.underlying t = some .string) (hW : Wt P t y.1) (h : DataW.trod enc P w 0 sp held fuel t [.string s] = some y) : s.size ≤ reachBytes := by
 obtain ⟨s', hs, hy, _⟩ := DataW.trod_string ht h
 simp only [List.cons.injEq, and_true, Value.string.injEq] at hs
 subst hs
 rw [hy] at hW
 exact hW s.data.toList.length (by simp [DataW.weights])
theorem open_strsC {H : Type} {enc : TypeId × Value → H} {P : Program} {w : World} {sp : Nat → Bool} {held : Bool} {t e : TypeId} {fuel : Nat} {c : Value} {y : DataW H × List MemPlace} (ht : P.underlying t = some (.slice e)) (he : P.underlying e = some .string) (hk : P.cellsOf e = 1) (hW : Wt P t y.1) (h : DataW.trod enc P w 0 sp held fuel t [c] = some y) :
  ∃ (a : Option Addr) (cap : Nat) (bs : List ByteArray), c = .slice a bs.length cap ∧ bs.length * P.bytesOf e ≤ reachBytes ∧ Sl w w.heap.size a (bs.map Value.string) ∧ (∀ x ∈ bs, x.size ≤ reachBytes) ∧ bs.length ≤ cap ∧ (a = none → cap = 0) := by
 obtain ⟨a, cap, xs, h1, hb, hno, h2, h3⟩ := open_elsW (fun s : ByteArray => [Value.string s]) (fun s => s.size ≤ reachBytes) ht hk (by omega) hW (fun n l y' hl hw hy => by
  match l, hl with
  | [c'], _ =>
   obtain ⟨s, rfl⟩ := open_str he hy
   exact ⟨s, rfl, Wt.str7 he hw hy⟩) h
 refine ⟨a, cap, xs, h1, hb, ?_, h3, ?_, hno⟩
 ·rw [← List.flatMap_singleton' (xs.map Value.string), List.flatMap_map]
  exact h2
 ·rw [h1] at h
  rcases DataW.trod_slice ht h with ⟨hcs, _⟩ | ⟨x, len, cap', elems, rest, n', _, hcs, hx, hb, hl, hm, hlen, hel, _, _⟩
  ·simp only [List.cons.injEq, Value.slice.injEq, and_true] at hcs
   omega
  ·simp only [List.cons.injEq, Value.slice.injEq, and_true] at hcs
   omega
theorem str7_cells : Try.prog.cellsOf 9 = 1 := by kernel_rfl
theorem str7_bytes : Try.prog.bytesOf 9 = 16 := by kernel_rfl
theorem reach7_lt : reachBytes < 140737488355328 := by decide
end Go.Proofs.Ytjmeakfjfpnciaa
namespace Go.Proofs.Ytjmeakfjfpnciaa
open Go.ChangeShapes Go.WideShapes Go.ChangeAt Go.RowKit
theorem ints6_cells : Try.prog.cellsOf 3 = 1 := by kernel_rfl
theorem ints6_bytes : Try.prog.bytesOf 3 = 8 := by kernel_rfl
theorem open_intsC {H : Type} {enc : TypeId × Value → H} {w : World} {sp : Nat → Bool} {held : Bool} {fuel : Nat} {c : Value} {y : DataW H × List MemPlace} (hW : Wt Try.prog 32 y.1) (h : DataW.trod enc Try.prog w 0 sp held fuel 32 [c] = some y) :
  ∃ (a : Option Addr) (cap : Nat) (xs : List Int), c = .slice a xs.length cap ∧ xs.length ≤ 140737488355328 ∧ Sl w w.heap.size a (xs.map fun x => Value.int .i64 x) ∧ ∀ x ∈ xs, -9223372036854775808 ≤ x ∧ x ≤ 9223372036854775807 := by
 obtain ⟨a, cap, xs, h1, hb, hno, h2, h3⟩ := open_elsW (fun x : Int => [Value.int .i64 x]) (fun x => -9223372036854775808 ≤ x ∧ x ≤ 9223372036854775807) Try.underlying32 ints6_cells (by omega) hW (fun n l y' hl hw hy => by
  match l, hl with
  | [c'], _ =>
   obtain ⟨x, hc9, _, hx⟩ := DataW.trod_int Try.underlying3 hy
   refine ⟨x, hc9, ?_⟩
   simp only [Lit.wf, Bool.and_eq_true, decide_eq_true_eq] at hx
   exact hx) h
 rw [ints6_bytes] at hb
 refine ⟨a, cap, xs, h1, by have := reach7_lt; omega, ?_, h3⟩
 rw [← List.flatMap_singleton' (xs.map fun x => Value.int .i64 x), List.flatMap_map]
 exact h2
end Go.Proofs.Ytjmeakfjfpnciaa
namespace Go.Proofs.Ytjmeakfjfpnciaa
open Go.ChangeShapes Go.WideShapes Go.ChangeAt Go.RowKit
theorem wtsL_len (G : GP) (l : List Int) (h : placesE l = 0 → l.length ≤ 16) : (wtsL G l).length ≤ 16 := by
 unfold wtsL
 by_cases h0 : placesE l = 0
 ·rw [if_pos h0, wtS_len]; exact h h0
 ·rw [if_neg h0]; exact Nat.zero_le _
theorem trustJoins_any (kind x : Int) (l : List Int) (xs es : List ByteArray) (hl : l.length ≤ 140737488355328) (hxs : xs.length ≤ 8796093022207) (al ax ae : Option Addr) (cl cx ce : Nat) (w : World) (hL : Sl w w.heap.size al (l.map intV)) (hX : Sl w w.heap.size ax (xs.map Value.string)) (hE : Sl w w.heap.size ae (es.map Value.string)) :
  Calls Try.prog 6 #[.int .i64 kind, .slice al l.length cl, .slice ax xs.length cx, .slice ae es.length ce, .int .i64 x] w fun e w' => e = .returned (.bool true) ∧ Below w.heap.size w w' := by
 obtain ⟨e1, L, hLL, H1, H2⟩ : ∃ (er : Nat) (L : List ByteArray), L.length ≤ 16 ∧ (∀ w, Sl w w.heap.size al (l.map intV) → Calls Try.prog 17 #[.int .i64 kind, .slice al l.length cl] w (StrsR er L w)) ∧ (∀ w, Sl w w.heap.size al (l.map intV) → Calls Try.prog 18 #[.int .i64 kind, .slice al l.length cl] w (StrsR er L w)) := by
  by_cases hk : 1 ≤ kind ∧ kind ≤ 3
  ·obtain ⟨k, rfl⟩ : ∃ k : Nat, kind = k := ⟨kind.toNat, by omega⟩
   exact ⟨_, _, wtsL_len (grp k) l (fun h => (pl_zero h).1), fun w h => tWeights_some k (by omega) (by omega) l _ rfl (by omega) al cl w h, fun w h => rWeights_some k (by omega) (by omega) l _ rfl (by omega) al cl w h⟩
  ·exact ⟨1, [], Nat.zero_le _, fun w _ => tWeights_none kind hk _ w, fun w _ => rWeights_none kind hk _ w⟩
 obtain ⟨e2, s2, H3, H4⟩ : ∃ (er : Nat) (s : ByteArray), (∀ w, Sl w w.heap.size al (l.map intV) → Sl w w.heap.size ax (xs.map Value.string) → Calls Try.prog 16 #[.int .i64 kind, .slice al l.length cl, .slice ax xs.length cx, .int .i64 x] w (Gives (.tuple #[.string s, .int .i64 (er : Int)]) w)) ∧ (∀ w, Sl w w.heap.size al (l.map intV) → Sl w w.heap.size ax (xs.map Value.string) → Calls Try.prog 20 #[.int .i64 kind, .slice al l.length cl, .slice ax xs.length cx, .int .i64 x] w (Gives (.tuple #[.string s, .int .i64 (er : Int)]) w)) := by
  by_cases hk : 1 ≤ kind ∧ kind ≤ 3
  ·obtain ⟨k, rfl⟩ : ∃ k : Nat, kind = k := ⟨kind.toNat, by omega⟩
   exact ⟨_, _, fun w h g => through_some k (by omega) (by omega) l _ rfl (by omega) xs _ rfl x al ax cl cx w h g, fun w h g => rThrough_some k (by omega) (by omega) l _ rfl (by omega) xs _ rfl (by omega) x al ax cl cx w h g⟩
  ·exact ⟨1, _, fun w _ _ => through_none kind hk _ _ x w, fun w _ _ => rThrough_none kind hk _ _ x w⟩
 obtain ⟨e3, s3, H5, H6⟩ : ∃ (er : Nat) (s : ByteArray), (∀ w, Sl w w.heap.size al (l.map intV) → Sl w w.heap.size ae (es.map Value.string) → Calls Try.prog 21 #[.int .i64 kind, .slice al l.length cl, .slice ae es.length ce] w (Gives (.tuple #[.string s, .int .i64 (er : Int)]) w)) ∧ (∀ w, Sl w w.heap.size al (l.map intV) → Sl w w.heap.size ae (es.map Value.string) → Calls Try.prog 22 #[.int .i64 kind, .slice al l.length cl, .slice ae es.length ce] w (Gives (.tuple #[.string s, .int .i64 (er : Int)]) w)) := by
  by_cases hk : 1 ≤ kind ∧ kind ≤ 3
  ·obtain ⟨k, rfl⟩ : ∃ k : Nat, kind = k := ⟨kind.toNat, by omega⟩
   exact ⟨_, _, fun w h g => together_some k (by omega) (by omega) l _ rfl (by omega) es _ rfl al ae cl ce w h g, fun w h g => rTogether_some k (by omega) (by omega) l _ rfl (by omega) es _ rfl al ae cl ce w h g⟩
  ·exact ⟨1, _, fun w _ _ => together_none kind hk _ _ w, fun w _ _ => rTogether_none kind hk _ _ w⟩
 have HH1 := Lib.hid H1
 have HH2 := Lib.hid H2
 have HH3 := Lib.hid H3
 have HH4 := Lib.hid H4
 have HH5 := Lib.hid H5
 have HH6 := Lib.hid H6
 unfold StrsR at HH1 HH2
 unfold Gives at HH3 HH4 HH5 HH6
 have HL := Lib.hid hL
 have HX := Lib.hid hX
 have HE := Lib.hid hE
 have HSM := Lib.hid (fun a1 a2 c1 c2 w h1 h2 => same6_any L L a1 a2 c1 c2 (by omega) true (by simp) w h1 h2)
 unfold Gives at HSM
 obtain ⟨m, hm⟩ : ∃ k, L.length = k := ⟨_, rfl⟩
 rw [hm] at HH1 HH2 HSM
 generalize l.length = nl at *
 generalize xs.length = nx at *
 generalize es.length = ne at *
 have hd1 : ((e1 : Int) != (e1 : Int)) = false := by simp
 have hd2 : ((e2 : Int) != (e2 : Int)) = false := by simp
 have hd3 : ((e3 : Int) == (e3 : Int)) = true := by simp
 have hd4 : (s2.toList == s2.toList) = true := by simp
 have hd5 : (s3.toList == s3.toList) = true := by simp
 clear H1 H2 H3 H4 H5 H6 hL hX hE hLL hl hxs hm
 go_enter Try.func6, Try.ntmps6
 go_wp2_with fail
 refine (HH1.out w HL.out).mono ?_
 rintro e w1 ⟨hb9, a1, c1, rfl, hs9⟩
 have HB := Lib.hid hb9
 have HZS := Lib.hid hb9.size
 have HS1 := Lib.hid hs9
 clear hs9 hb9
 have B1 := Lib.hid (Below.refl w1.heap.size w1)
 go_wp2_with fail
 refine (HH2.out w1 (HL.out.up HB.out)).mono ?_
 rintro e w2 ⟨hb9, a2, c2, rfl, hs9⟩
 replace B1 := hbu B1 hb9
 replace HB := hbu HB hb9
 replace HZS := sz HZS hb9.size
 have HS2 := Lib.hid hs9
 clear hs9 hb9
 go_wp2_with fail
 refine (HSM.out a1 a2 c1 c2 w2 (HS1.out.up B1.out) HS2.out).mono ?_
 rintro e w3 ⟨rfl, hb9⟩
 replace B1 := hbu B1 hb9
 replace HB := hbu HB hb9
 replace HZS := sz HZS hb9.size
 clear hb9
 go_wp2_with fail
 refine (HH3.out w3 (HL.out.up HB.out) (HX.out.up HB.out)).mono ?_
 rintro e w4 ⟨rfl, hb9⟩
 replace B1 := hbu B1 hb9
 replace HB := hbu HB hb9
 replace HZS := sz HZS hb9.size
 clear hb9
 go_wp2_with fail
 refine (HH4.out w4 (HL.out.up HB.out) (HX.out.up HB.out)).mono ?_
 rintro e w5 ⟨rfl, hb9⟩
 replace B1 := hbu B1 hb9
 replace HB := hbu HB hb9
 replace HZS := sz HZS hb9.size
 clear hb9
 go_wp2_with fail
 refine (HH5.out w5 (HL.out.up HB.out) (HE.out.up HB.out)).mono ?_
 rintro e w6 ⟨rfl, hb9⟩
 replace B1 := hbu B1 hb9
 replace HB := hbu HB hb9
 replace HZS := sz HZS hb9.size
 clear hb9
 go_wp2_with fail
 refine (HH6.out w6 (HL.out.up HB.out) (HE.out.up HB.out)).mono ?_
 rintro e w7 ⟨rfl, hb9⟩
 replace B1 := hbu B1 hb9
 replace HB := hbu HB hb9
 replace HZS := sz HZS hb9.size
 clear hb9
 go_wp2_with fail
 go_ret
 exact ⟨rfl, HB.out⟩
theorem trustJoins_calls {H : Type} (enc : TypeId × Value → H) (W : World) (base : Nat) {v0 v1 v2 v3 v4 : Value} {d0 d1 d2 d3 d4 : DataW H} {p0 p1 p2 p3 p4 : List MemPlace}
  (h0 : DataW.Trod enc Try.prog W 0 (fun _ => true) true 3 v0 d0 p0) (h1 : DataW.Trod enc Try.prog W 0 (fun _ => true) true 32 v1 d1 p1) (h2 : DataW.Trod enc Try.prog W 0 (fun _ => true) true 22 v2 d2 p2) (h3 : DataW.Trod enc Try.prog W 0 (fun _ => true) true 22 v3 d3 p3) (h4 : DataW.Trod enc Try.prog W 0 (fun _ => true) true 3 v4 d4 p4)
  (k0 : Value.okWide Try.prog W .any base 3 v0) (k1 : Value.okWide Try.prog W .any base 32 v1) (k2 : Value.okWide Try.prog W .any base 22 v2) (k3 : Value.okWide Try.prog W .any base 22 v3) (k4 : Value.okWide Try.prog W .any base 3 v4)
  (_lt0 : ∀ x ∈ p0, x.block < W.heap.size) (_lt1 : ∀ x ∈ p1, x.block < W.heap.size) (_lt2 : ∀ x ∈ p2, x.block < W.heap.size) (_lt3 : ∀ x ∈ p3, x.block < W.heap.size) (_lt4 : ∀ x ∈ p4, x.block < W.heap.size)
  (hsz : (DataW.weightsEach Try.prog ([3, 32, 22, 22, 3] ++ Rows.trustJoinsSpec.plain.varTypes Try.prog) ([d0, d1, d2, d3, d4] ++ [])).all (· ≤ reachBytes) = true) :
  Calls Try.prog 6 #[v0, v1, v2, v3, v4] W fun e w' => e = .returned (.bool true) ∧ Below W.heap.size W w' := by
 obtain ⟨kind, rfl, _, _, _⟩ := open_int Try.underlying3 k0 h0
 obtain ⟨x, rfl, _, _, _⟩ := open_int Try.underlying3 k4 h4
 obtain ⟨b1, n1, m1, rfl⟩ := okWide_slice Try.underlying32 k1
 obtain ⟨b2, n2, m2, rfl⟩ := okWide_slice Try.underlying22 k2
 obtain ⟨b3, n3, m3, rfl⟩ := okWide_slice Try.underlying22 k3
 obtain ⟨f1, h1⟩ := h1
 obtain ⟨f2, h2⟩ := h2
 obtain ⟨f3, h3⟩ := h3
 obtain ⟨al, cl, ls, e1, hl, hS1, _⟩ := open_intsC (Wt.arg hsz (j := 1) rfl rfl) h1
 obtain ⟨ax, cx, xs, e2, hx, hS2, _, _, _⟩ := open_strsC Try.underlying22 Try.underlying9 str7_cells (Wt.arg hsz (j := 2) rfl rfl) h2
 obtain ⟨ae, ce, es, e3, he, hS3, _, _, _⟩ := open_strsC Try.underlying22 Try.underlying9 str7_cells (Wt.arg hsz (j := 3) rfl rfl) h3
 rw [str7_bytes] at hx he
 rw [e1, e2, e3]
 have h9 := reach7_lt
 exact trustJoins_any kind x ls xs es hl (by omega) al ax ae cl cx ce W hS1 hS2 hS3
theorem trustJoins_lifted (os : Os) (started : os.Started) (H : Type) (enc : TypeId × Value → H) :
  ReturnsInHanded {} Try.checked os 6 .any (Rows.trustJoinsSpec.pre6 enc Try.prog Try.f6 Rows.trustJoinsRow.domain false) (Rows.trustJoinsSpec.post enc Try.prog Try.f6 false true false false) := by
 refine returnsInHanded_of_change_sized (C := Try.checked) law_own started (by kernel_rfl) Try.func6
  (ChangeSpec.witness6 (enc := enc) (C := Try.checked) false ⟨#[], #[.int .i64 0, .slice none 0 0, .slice none 0 0, .slice none 0 0, .int .i64 0], []⟩ 8 (by kernel_rfl) (by kernel_rfl) (by kernel_rfl) (by kernel_rfl)) ?_
 intro W base args ds gs before hval0 hW _ hsz0 _
 have hsz : (DataW.weightsEach Try.prog (Try.f6.params.toList ++ Rows.trustJoinsSpec.plain.varTypes Try.prog) (ds ++ gs)).all (· ≤ reachBytes) = true := hsz0
 clear hsz0
 have hval : ∀ (j : Nat) t v, Try.f6.params[j]? = some t → args[j]? = some v → Value.okWide Try.prog W .any base t v := hval0
 have hW' := hW
 obtain ⟨p, q, hA0, hV, rfl, _, _⟩ := hW
 have hA : DataW.TrodAll enc Try.prog W 0 (fun _ => true) true Try.f6.params.toList args.toList ds p := hA0
 rw [Try.params6] at hA hval hsz
 obtain ⟨v0, vs0, d0, ds0, p0, q0, hargs, rfl, rfl, h0, r0⟩ := trodAll_cons hA
 obtain ⟨v1, vs1, d1, ds1, p1, q1, rfl, rfl, rfl, h1, r1⟩ := trodAll_cons r0
 obtain ⟨v2, vs2, d2, ds2, p2, q2, rfl, rfl, rfl, h2, r2⟩ := trodAll_cons r1
 obtain ⟨v3, vs3, d3, ds3, p3, q3, rfl, rfl, rfl, h3, r3⟩ := trodAll_cons r2
 obtain ⟨v4, vs4, d4, ds4, p4, q4, rfl, rfl, rfl, h4, r4⟩ := trodAll_cons r3
 obtain ⟨rfl, rfl, rfl⟩ := trodAll_nil r4
 obtain rfl : args = #[v0, v1, v2, v3, v4] := by cases args; simp_all
 obtain ⟨rfl, rfl⟩ := trodVars_none hV
 have lt0 : ∀ x ∈ p0, x.block < W.heap.size := by obtain ⟨m, hm⟩ := h0; exact DataW.trod_lt m _ _ _ hm
 have lt1 : ∀ x ∈ p1, x.block < W.heap.size := by obtain ⟨m, hm⟩ := h1; exact DataW.trod_lt m _ _ _ hm
 have lt2 : ∀ x ∈ p2, x.block < W.heap.size := by obtain ⟨m, hm⟩ := h2; exact DataW.trod_lt m _ _ _ hm
 have lt3 : ∀ x ∈ p3, x.block < W.heap.size := by obtain ⟨m, hm⟩ := h3; exact DataW.trod_lt m _ _ _ hm
 have lt4 : ∀ x ∈ p4, x.block < W.heap.size := by obtain ⟨m, hm⟩ := h4; exact DataW.trod_lt m _ _ _ hm
 clear hA0 hval0
 refine (trustJoins_calls enc W base h0 h1 h2 h3 h4 (hval 0 3 v0 rfl rfl) (hval 1 32 v1 rfl rfl) (hval 2 22 v2 rfl rfl) (hval 3 22 v3 rfl rfl) (hval 4 3 v4 rfl rfl) lt0 lt1 lt2 lt3 lt4 hsz).mono fun e W' ⟨he, bel⟩ => ?_
 subst he
 exact ⟨_, rfl, _, _, _, [], _, [], hW', trodAll_mk1 (shut_bool Try.underlying4 _), (trodAll_cons_mk (Below.trod law_laidOut (by kernel_rfl) (of_decide_eq_true (by kernel_rfl)) h0 bel lt0) (trodAll_cons_mk (Below.trod law_laidOut (by kernel_rfl) (of_decide_eq_true (by kernel_rfl)) h1 bel lt1) (trodAll_cons_mk (Below.trod law_laidOut (by kernel_rfl) (of_decide_eq_true (by kernel_rfl)) h2 bel lt2) (trodAll_cons_mk (Below.trod law_laidOut (by kernel_rfl) (of_decide_eq_true (by kernel_rfl)) h3 bel lt3) (trodAll_cons_mk (Below.trod law_laidOut (by kernel_rfl) (of_decide_eq_true (by kernel_rfl)) h4 bel lt4) trodAll_mk0))))), rfl, bel.frame _, fun h => by cases h⟩
theorem trustJoins_holds : Rows.TrustJoinsSaid :=
 OpenClaim.holds_of_wide 6 Try.f6 rfl rfl rfl rfl rfl rfl rfl ⟨rfl, rfl, rfl, rfl, rfl⟩ rfl rfl rfl rfl rfl (by kernel_rfl) Try.func6 (by kernel_rfl)
  (of_decide_eq_true (by kernel_rfl)) (by unfold Func.isWrapper; first | (rw [if_pos (by decide +kernel)]; kernel_rfl) | (rw [if_neg (by decide +kernel)]; exact ⟨rfl, rfl⟩))
  (fun os started H enc _ => trustJoins_lifted os started H enc)
#print axioms trustJoins_holds
end Go.Proofs.Ytjmeakfjfpnciaa
