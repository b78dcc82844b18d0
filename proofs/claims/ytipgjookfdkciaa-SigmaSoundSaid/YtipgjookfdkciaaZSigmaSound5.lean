/- SigmaSound: two answers to two challenges behind the same firsts give the secrets. No condition. -/
import Derived.Test.YtipgjookfdkciaaZSigmaSound4

set_option maxRecDepth 100000
set_option maxHeartbeats 4000000
set_option linter.unusedVariables false
set_option linter.unusedSimpArgs false
namespace Go.Proofs.Ytipgjookfdkciaa
open Go.RowKit
def rhold2 (G : GP) (x : ByteArray) (b m : ByteArray) : Bool := decide (textS (lowN G (numOf b ^ numOf x)) G.size = m)
def rhold1 (G : GP) (k : ClaimA) (x : ByteArray) : Bool := (List.zipWith (rhold2 G x) k.bases k.images).all id
def rholdP (G : GP) (l : List ClaimA) (xs : List ByteArray) : Bool := (List.zipWith (rhold1 G) l xs).all id
structure RSh (G : GP) (l : List ClaimA) (xs : List ByteArray) : Prop where
 n64 : l.length ≤ 64
 len : ∀ c ∈ l, c.bases.length ≤ 8 ∧ c.images.length = c.bases.length
 bs : ∀ c ∈ l, ∀ s ∈ c.bases, s.size ≤ 32
 ims : ∀ c ∈ l, ∀ s ∈ c.images, s.size ≤ 32
 xl : xs.length = l.length
 xs : ∀ s ∈ xs, s.size ≤ 32
section
variable {G : GP} {aq ap : Option Addr} {cq cp : Nat}
theorem rHold (ok : G.Ok) (l : List ClaimA) (xs : List ByteArray) (sh : RSh G l xs) (n : Nat) (hn : l.length = n) (b : Bool) (hb : rholdP G l xs = b) (al ax : Option Addr) (cl cx : Nat) (w : World) (hG : RG w G aq ap) (hC : ClaimsAt w al l) (hX : Sl w w.heap.size ax (xs.map Value.string)) :
  Calls Try.prog 115 #[.agg #[.int .i64 (G.size : Int), .slice aq (dl G.q.m) cq, .slice ap (dl G.p.m) cp], .slice al n cl, .slice ax n cx] w (Gives (.bool b) w) := by
 have OK := Lib.hid ok
 have HG := Lib.hid hG
 have HC := Lib.hid hC
 have HX := Lib.hid hX
 have HN := Lib.hid hn
 have HBB := Lib.hid hb
 have HSH := Lib.hid sh
 have HXN := Lib.hid (show xs.length = n by rw [sh.xl, hn])
 have hn64 : n ≤ 64 := by rw [← hn]; exact sh.n64
 clear ok hG hC hX hn hb sh
 unfold Gives
 go_enter Try.func115, Try.ntmps115
 go_wp2_with fail
 obtain ⟨w1, hq1, hb9, hz9, Hbg⟩ := new1 w 98 [.int .i64 (G.size : Int), .slice aq (dl G.q.m) cq, .slice ap (dl G.p.m) cp]
 rw [hq1]
 clear hq1
 have HB := Lib.hid hb9
 have HZS := hz9
 clear hb9 hz9
 have bg_ := Hbg.out.c3
 have BL := Lib.hid (Below.refl w1.heap.size w1)
 go_wp2_with fail
 go_loopw [12] (fun i wr => ∃ j : Nat, j ≤ n ∧ i = .int .i64 j ∧ Hid (Below w1.heap.size w1 wr) ∧ Hid (((List.zipWith (rhold1 G) l xs).take j).all id = true)) (fun i _ => n - (intOf i).toNat)
 case atStart => exact ⟨0, Nat.zero_le _, rfl, BL, rfl⟩
 case round =>
  obtain ⟨j, hj, rfl, HL9, HAL⟩ := hrel
  have hb9 := HL9.out
  clear HL9 bg_
  replace Hbg := Lib.hid (Hbg.out.up hb9)
  replace BL := hbu BL hb9
  replace HB := hbu HB hb9
  replace HZS := sz HZS hb9.size
  clear hb9
  have bg_ := Hbg.out.c3
  by_cases hjn : j < n
  ·have hjl : j < l.length := by rw [HN.out]; exact hjn
   have hjx : j < xs.length := by rw [HXN.out]; exact hjn
   obtain ⟨bl, ol, rfl, hbl0, hc⟩ := (HC.out.s.up HB.out).elem ClaimA.cells_len (by omega) j hjl
   have hc_0 := hc 0 _ rfl
   rw [Nat.add_zero] at hc_0
   have hc_1 := hc 1 _ rfl
   clear hc
   obtain ⟨bx, ox, rfl, hbx, hcx⟩ := (HX.out.up HB.out).at j (by simpa using hjx)
   rw [List.getElem_map] at hcx
   have HAT := Lib.hid ((HC.out.up HB.out).one j hjl)
   have HSJ := Lib.hid (HSH.out.len _ (List.getElem_mem hjl))
   have HBJ := Lib.hid (HSH.out.bs _ (List.getElem_mem hjl))
   have HXJ := Lib.hid (HSH.out.xs _ (List.getElem_mem hjx))
   have HSN := Lib.hid (zalls_snoc (f := rhold1 G) hjl hjx HAL.out)
   have HNO := Lib.hid (zalls_not (f := rhold1 G) hjl hjx)
   generalize l[j] = c at *
   generalize xs[j] = x at *
   have HAB := Lib.hid HAT.out.b
   have HAJ := Lib.hid HAT.out.i
   have HSN2 := Lib.hid (show (List.zipWith (rhold2 G x) c.bases c.images).all id = true → _ from HSN.out)
   have HNO2 := Lib.hid (show (List.zipWith (rhold2 G x) c.bases c.images).all id = false → _ from HNO.out)
   clear HAT HSN HNO
   generalize c.bases = bs at *
   generalize c.images = ims at *
   generalize c.ab = ab at *
   generalize c.ai = ai at *
   generalize c.cb = cb at *
   generalize c.ci = ci at *
   have hm8 := HSJ.out.1
   have HCX := Lib.hid hcx
   clear hcx
   have BR := Lib.hid (Below.refl wr.heap.size wr)
   have o2_bg_ := bg_; clear bg_
   obtain ⟨w2, hq2, hb9, hz9, Hbc⟩ := new1 wr 70 [.slice ab bs.length cb, .slice ai ims.length ci]
   replace Hbg := Lib.hid (Hbg.out.up hb9)
   replace BL := hbu BL hb9
   replace BR := hbu BR hb9
   replace HB := hbu HB hb9
   replace HZS := sz HZS hz9.out
   clear hb9 hz9
   have bg_ := Hbg.out.c3
   have bc_ := Hbc.out.c2
   obtain ⟨wo, rfl⟩ : ∃ wo : World, wo = wr := ⟨_, rfl⟩
   have BI := Lib.hid (Below.refl w2.heap.size w2)
   go_wp2_with fail
   clear hq2 o2_bg_
   go_loopw [9] (fun i wr => ∃ t : Nat, t ≤ bs.length ∧ i = .int .i64 t ∧ Hid (Below w2.heap.size w2 wr) ∧ Hid (((List.zipWith (rhold2 G x) bs ims).take t).all id = true)) (fun i _ => bs.length - (intOf i).toNat)
   case atStart => exact ⟨0, Nat.zero_le _, rfl, BI, rfl⟩
   case round =>
    obtain ⟨t, ht, rfl, HL9, HAI⟩ := hrel
    have hb9 := HL9.out
    clear HL9 bg_
    replace Hbg := Lib.hid (Hbg.out.up hb9)
    clear bc_
    replace Hbc := Lib.hid (Hbc.out.up hb9)
    replace BL := hbu BL hb9
    replace BR := hbu BR hb9
    replace BI := hbu BI hb9
    replace HB := hbu HB hb9
    replace HZS := sz HZS hb9.size
    clear hb9
    have bg_ := Hbg.out.c3
    have bc_ := Hbc.out.c2
    by_cases htm : t < bs.length
    ·have hti : t < ims.length := by rw [HSJ.out.2]; exact htm
     obtain ⟨b1, o1, rfl, hb1, hc1⟩ := (HAB.out.up BR.out).at t (by simpa using htm)
     obtain ⟨b2, o2, rfl, hb2, hc2⟩ := (HAJ.out.up BR.out).at t (by simpa using hti)
     rw [List.getElem_map] at hc1 hc2
     have HTN := Lib.hid (zalls_snoc (f := rhold2 G x) htm hti HAI.out)
     have HTO := Lib.hid (zalls_not (f := rhold2 G x) htm hti)
     have HBT := Lib.hid (HBJ.out _ (List.getElem_mem htm))
     have hcx := (BR.out.cell (p := ⟨bx, ox + j, none⟩) hbx).trans HCX.out
     have hbx' := Nat.lt_of_lt_of_le hbx BR.out.size
     generalize bs[t] = y at *
     generalize ims[t] = m at *
     obtain ⟨q, hq⟩ : ∃ q, rhold2 G x y m = q := ⟨_, rfl⟩
     have hqe : ((textS (lowN G (numOf y ^ numOf x)) G.size).toList == m.toList) = q := by
      rw [← hq]
      unfold rhold2
      by_cases h : textS (lowN G (numOf y ^ numOf x)) G.size = m
      ·rw [decide_eq_true h, h]; simp
      ·rw [decide_eq_false h, toList_bne h]
     have HQ := Lib.hid hq
     clear hq
     go_wp2_with fail
     have HT := Lib.hid (show Below wr.heap.size wr wr.drew from (Below.refl _ _).drew)
     have hl_bg := Hbg.out.lt
     have hl_bc := Hbc.out.lt
     refine wp_region_tree (fun wq9 => ∃ E : Over wr, wq9 = E.w) ((.qs [0, 1, 2, 3, 4, 5, 6, 7, 8, 9, 12, 13, 15, 16, 17, 18, 19] (.a 10 (.a 11 (.a 14 (.qs [20] .done)))))) (by kernel_rfl) (by kernel_rfl) (fun _ _ d _ _ h => by cases d <;> exact h) ⟨⟨_, HT.out⟩, rfl⟩ ?_
     have hov_bg := fun (E : Over wr) o => E.cell (b := w.heap.size) o hl_bg
     have hov_bc := fun (E : Over wr) o => E.cell (b := wo.heap.size) o hl_bc
     have hov_b1 := fun (E : Over wr) o => E.cell (b := b1) o hb1
     have hov_b2 := fun (E : Over wr) o => E.cell (b := b2) o hb2
     have hov_bx := fun (E : Over wr) o => E.cell (b := bx) o hbx'
     simp only [Tree.qs]
     repeat (refine tree_q rfl rfl ?_; go_big_quiet_step (fail); refine wpQuiet_nil ?_)
     refine tree_a rfl (fun K hK => ?_)
     go_simp
     refine (refRead_any x (Nat.le_trans HXJ.out (by decide)) _).mono ?_
     rintro e w3 ⟨a5, c5, rfl, hn9, hb9⟩
     replace HT := Lib.hid (below_up HT.out hb9)
     replace HZS := sz HZS (show wr.heap.size ≤ w3.heap.size from HT.out.size)
     clear hb9
     have HN5 := Lib.hid hn9
     clear hn9
     refine hK _ _ ⟨⟨⟨w3, HT.out⟩, rfl⟩, ?_⟩
     clear hK K
     repeat (refine tree_q rfl rfl ?_; go_big_quiet_step (fail); refine wpQuiet_nil ?_)
     refine tree_a rfl (fun K hK => ?_)
     go_simp
     refine (rPower5 OK.out y HBT.out (Nat.le_trans (dl_of_lt _ 16 (numOf_16 x HXJ.out)) (by decide)) _ (HG.out.up (below_up HB.out HT.out)) HN5.out).mono ?_
     rintro e w4 ⟨a6, c6, rfl, hn9, hb9⟩
     replace HN5 := Lib.hid (HN5.out.up hb9)
     replace HT := Lib.hid (below_up HT.out hb9)
     replace HZS := sz HZS (show wr.heap.size ≤ w4.heap.size from HT.out.size)
     clear hb9
     have HN6 := Lib.hid hn9
     clear hn9
     refine hK _ _ ⟨⟨⟨w4, HT.out⟩, rfl⟩, ?_⟩
     clear hK K
     repeat (refine tree_q rfl rfl ?_; go_big_quiet_step (fail); refine wpQuiet_nil ?_)
     refine tree_a rfl (fun K hK => ?_)
     go_simp
     refine (rText2 OK.out _ HN6.out).mono ?_
     rintro e w5 ⟨rfl, hb9⟩
     replace HN5 := Lib.hid (HN5.out.up hb9)
     replace HN6 := Lib.hid (HN6.out.up hb9)
     replace HT := Lib.hid (below_up HT.out hb9)
     replace HZS := sz HZS (show wr.heap.size ≤ w5.heap.size from HT.out.size)
     clear hb9
     refine hK _ _ ⟨⟨⟨w5, HT.out⟩, rfl⟩, ?_⟩
     clear hK K
     repeat (refine tree_q rfl rfl ?_; go_big_quiet_step (fail); refine wpQuiet_nil ?_)
     refine tree_end ?_
     clear hov_bg hl_bg hov_bc hl_bc hov_b1 hov_b2 hov_bx bg_
     replace Hbg := Lib.hid (Hbg.out.up HT.out)
     clear bc_
     replace Hbc := Lib.hid (Hbc.out.up HT.out)
     replace BL := hbu BL HT.out
     replace BR := hbu BR HT.out
     replace BI := hbu BI HT.out
     replace HB := hbu HB HT.out
     replace HZS := sz HZS HT.out.size
     clear HT
     have bg_ := Hbg.out.c3
     have bc_ := Hbc.out.c2
     cases q
     ·obtain rfl : b = false := by rw [← HBB.out]; exact HNO2.out (HTO.out HQ.out)
      go_wp2_with fail
      go_ret
      exact ⟨rfl, HB.out⟩
     ·go_wp2_with fail
      go_roundw
      case rel => exact ⟨t + 1, by omega, by go_num, BI, HTN.out HQ.out⟩
      case measure => simp [intOf]; omega
    ·have htm' : t = bs.length := by omega
     have HHT := Lib.hid (HSN2.out (zalls_end htm'.symm HAI.out))
     go_wp2_with fail
     go_roundw
     case rel => exact ⟨j + 1, by omega, by go_num, BL, HHT⟩
     case measure => simp [intOf]; omega
  ·have hjn' : j = n := by omega
   subst hjn'
   obtain rfl : b = true := by rw [← HBB.out]; exact zalls_end HN.out HAL.out
   go_wp2_with fail
   go_ret
   exact ⟨rfl, HB.out⟩
end
end Go.Proofs.Ytipgjookfdkciaa
namespace Go.Proofs.Ytipgjookfdkciaa
open Go.RowKit
section
variable {G : GP} {aq ap : Option Addr} {cq cp : Nat}
end
end Go.Proofs.Ytipgjookfdkciaa
namespace Go.Proofs.Ytipgjookfdkciaa
open Go.RowKit
theorem rsh_of {G : GP} (ok : G.Ok) {l : List ClaimA} {xs : List ByteArray} (h1 : wrongE G l = 0) (h2 : scE G l.length xs = 0) : RSh G l xs := by
 obtain ⟨hs, he⟩ := wrong_ok h1
 have hs := shape_ok hs
 have hx : xs.length = l.length ∧ xs.all (isSc G.q.m G.size) = true := by
  unfold scE at h2
  by_cases h : xs.length = l.length
  ·rw [if_pos h] at h2
   by_cases g : xs.all (isSc G.q.m G.size) = true
   ·exact ⟨h, g⟩
   ·rw [if_neg g] at h2; cases h2
  ·rw [if_neg h] at h2; cases h2
 have hc : ∀ c ∈ l, c.bases.all (isEl G.q.m G.size) = true ∧ c.images.all (isEl G.q.m G.size) = true := fun c hc => by
  have h9 : (c.bases.all (isEl G.q.m G.size) && c.images.all (isEl G.q.m G.size)) = true := List.all_eq_true.1 he c hc
  exact (Bool.and_eq_true _ _).mp h9
 exact ⟨hs.2.1, fun c h => (hs.2.2 c h).2, fun c h s g => el_len ok (List.all_eq_true.1 (hc c h).1 s g), fun c h s g => el_len ok (List.all_eq_true.1 (hc c h).2 s g), hx.1, fun s g => sc_len ok (List.all_eq_true.1 hx.2 s g)⟩
theorem sc_lens {G : GP} {l : List ClaimA} {xs : List ByteArray} (h2 : scE G l.length xs = 0) : xs.length = l.length := by
 unfold scE at h2
 by_cases h : xs.length = l.length
 ·exact h
 ·rw [if_neg h] at h2; cases h2
section
variable {G : GP} {aq ap : Option Addr} {cq cp : Nat}
theorem rWrongSc_e (ok : G.Ok) (n : Nat) (l : List ByteArray) (z : Nat) (hz : scE G n l = z) (al : Option Addr) (cl : Nat) (hlen : l.length ≤ 8796093022207) (w : World) (hG : RG w G aq ap) (hS : Sl w w.heap.size al (l.map Value.string)) :
  Calls Try.prog 65 #[.agg #[.int .i64 (G.size : Int), .slice aq (dl G.q.m) cq, .slice ap (dl G.p.m) cp], .int .i64 (n : Int), .slice al l.length cl] w (Gives (.int .i64 (z : Int)) w) := by
 subst hz
 exact rWrongSc ok n l al cl hlen w hG hS
theorem rWrongSc_n (ok : G.Ok) (n : Nat) (l : List ByteArray) (hn : l.length = n) (z : Nat) (hz : scE G n l = z) (al : Option Addr) (cl : Nat) (hlen : l.length ≤ 8796093022207) (w : World) (hG : RG w G aq ap) (hS : Sl w w.heap.size al (l.map Value.string)) :
  Calls Try.prog 65 #[.agg #[.int .i64 (G.size : Int), .slice aq (dl G.q.m) cq, .slice ap (dl G.p.m) cp], .int .i64 (n : Int), .slice al n cl] w (Gives (.int .i64 (z : Int)) w) := by
 have h := rWrongSc_e (aq := aq) (ap := ap) (cq := cq) (cp := cp) ok n l z hz al cl hlen w hG hS
 rwa [hn] at h
end
theorem rHolds_none (k : Int) (hk : ¬ (1 ≤ k ∧ k ≤ 3)) (p q : Value) (w : World) : Calls Try.prog 45 #[.int .i64 k, p, q] w (Gives (.bool false) w) := by
 unfold Gives
 go_enter Try.func45, Try.ntmps45
 go_wp2_with fail
 refine (refKind_none k hk w).mono ?_
 rintro e w1 ⟨rfl, hb9⟩
 have HB := Lib.hid hb9
 have HZS := Lib.hid hb9.size
 clear hb9
 obtain ⟨w2, hq2, hb9, hz9, Hbg⟩ := new1 w1 98 [.int .i64 0, .slice none 0 0, .slice none 0 0]
 replace HB := hbu HB hb9
 replace HZS := sz HZS hz9.out
 clear hb9 hz9
 have bg_ := Hbg.out.c3
 have f3_bg := Hbg.out.frozen
 have o3_bg_ := bg_; clear bg_
 obtain ⟨w3, hq3, hg9, hz9, hx9⟩ := put3 Hbg 0 (.int .i64 0) 1 (.slice none 0 0) 2 (.slice none 0 0) [.int .i64 0, .slice none 0 0, .slice none 0 0] rfl
 replace HB := hbg HB hg9 (by have g0 := HZS.out; omega)
 replace HZS := sz HZS hz9.out
 replace Hbg := hx9
 clear hx9 hg9 hz9
 have bg_ := Hbg.out.c3
 go_wp2_with fail
 clear hq3 o3_bg_ f3_bg hq2
 go_ret
 exact ⟨rfl, HB.out⟩
theorem rHolds_some (k : Nat) (h1 : 1 ≤ k) (h3 : k ≤ 3) (l : List ClaimA) (n : Nat) (hn : l.length = n) (xs : List ByteArray) (hm : xs.length ≤ 8796093022207) (b : Bool) (hb : (decide (openE (grp k) l xs = 0) && rholdP (grp k) l xs) = b) (al ax : Option Addr) (cl cx : Nat) (w : World) (hC : ClaimsAt w al l) (hS : Sl w w.heap.size ax (xs.map Value.string)) :
  Calls Try.prog 45 #[.int .i64 (k : Int), .slice al n cl, .slice ax xs.length cx] w (Gives (.bool b) w) := by
 have OK := Lib.hid (grp_ok k h1 h3)
 have hs0 : 0 < (grp k).size := by have h9 := of_decide_eq_true (size_gt0 k h1 h3); omega
 have HC := Lib.hid hC
 have HS := Lib.hid hS
 have HN := Lib.hid hn
 have HBB := Lib.hid hb
 clear hC hS hn hb
 unfold Gives
 obtain ⟨z1, hz1⟩ : ∃ z, wrongE (grp k) l = z := ⟨_, rfl⟩
 have HZ1 := Lib.hid hz1
 clear hz1
 by_cases g1 : z1 = 0
 case neg =>
  obtain rfl : b = false := by rw [← HBB.out]; unfold openE; rw [if_pos (by rw [HZ1.out]; exact g1), HZ1.out, decide_eq_false g1]; rfl
  have hd : ((z1 : Int) == 0) = false := by simp; omega
  clear g1
  go_enter Try.func45, Try.ntmps45
  go_wp2_with fail
  refine (refKind_some k h1 h3 w).mono ?_
  rintro e w1 ⟨aq, cq, ap, cp, rfl, hq9, hp9, hb9⟩
  have HB := Lib.hid hb9
  have HZS := Lib.hid hb9.size
  have HRG := Lib.hid (RG.mk (G := grp k) hq9 hp9)
  clear hq9 hp9 hb9
  have HK := Lib.hid (Below.refl w1.heap.size w1)
  obtain ⟨w2, hq2, hb9, hz9, Hbg⟩ := new1 w1 98 [.int .i64 ((grp k).size : Int), .slice aq (dl (grp k).q.m) cq, .slice ap (dl (grp k).p.m) cp]
  replace HK := hbu HK hb9
  replace HB := hbu HB hb9
  replace HZS := sz HZS hz9.out
  clear hb9 hz9
  have bg_ := Hbg.out.c3
  go_wp2_with fail
  clear hq2
  refine (rWrong OK.out l n HN.out z1 HZ1.out al cl w2 (HRG.out.up HK.out) (HC.out.up HB.out)).mono ?_
  rintro e w3 ⟨rfl, hb9⟩
  clear bg_
  replace Hbg := Lib.hid (Hbg.out.up hb9)
  replace HK := hbu HK hb9
  replace HB := hbu HB hb9
  replace HZS := sz HZS hb9.size
  clear hb9
  have bg_ := Hbg.out.c3
  go_wp2_with fail
  go_ret
  exact ⟨rfl, HB.out⟩
 subst g1
 obtain ⟨z2, hz2⟩ : ∃ z, scE (grp k) l.length xs = z := ⟨_, rfl⟩
 have HZ2 := Lib.hid hz2
 clear hz2
 by_cases g2 : z2 = 0
 case neg =>
  obtain rfl : b = false := by rw [← HBB.out]; unfold openE; rw [if_neg (by rw [HZ1.out]; simp), HZ2.out, decide_eq_false g2]; rfl
  have hd : ((z2 : Int) == 0) = false := by simp; omega
  clear g2
  rw [HN.out] at HZ2
  go_enter Try.func45, Try.ntmps45
  go_wp2_with fail
  refine (refKind_some k h1 h3 w).mono ?_
  rintro e w1 ⟨aq, cq, ap, cp, rfl, hq9, hp9, hb9⟩
  have HB := Lib.hid hb9
  have HZS := Lib.hid hb9.size
  have HRG := Lib.hid (RG.mk (G := grp k) hq9 hp9)
  clear hq9 hp9 hb9
  have HK := Lib.hid (Below.refl w1.heap.size w1)
  obtain ⟨w2, hq2, hb9, hz9, Hbg⟩ := new1 w1 98 [.int .i64 ((grp k).size : Int), .slice aq (dl (grp k).q.m) cq, .slice ap (dl (grp k).p.m) cp]
  replace HK := hbu HK hb9
  replace HB := hbu HB hb9
  replace HZS := sz HZS hz9.out
  clear hb9 hz9
  have bg_ := Hbg.out.c3
  go_wp2_with fail
  clear hq2
  refine (rWrong OK.out l n HN.out 0 HZ1.out al cl w2 (HRG.out.up HK.out) (HC.out.up HB.out)).mono ?_
  rintro e w3 ⟨rfl, hb9⟩
  clear bg_
  replace Hbg := Lib.hid (Hbg.out.up hb9)
  replace HK := hbu HK hb9
  replace HB := hbu HB hb9
  replace HZS := sz HZS hb9.size
  clear hb9
  have bg_ := Hbg.out.c3
  go_wp2_with fail
  refine (rWrongSc_e OK.out n xs z2 HZ2.out ax cx hm w3 (HRG.out.up HK.out) (HS.out.up HB.out)).mono ?_
  rintro e w4 ⟨rfl, hb9⟩
  clear bg_
  replace Hbg := Lib.hid (Hbg.out.up hb9)
  replace HK := hbu HK hb9
  replace HB := hbu HB hb9
  replace HZS := sz HZS hb9.size
  clear hb9
  have bg_ := Hbg.out.c3
  go_wp2_with fail
  go_ret
  exact ⟨rfl, HB.out⟩
 subst g2
 have HSH := Lib.hid (rsh_of OK.out HZ1.out HZ2.out)
 have hxl : xs.length = n := by rw [sc_lens HZ2.out, HN.out]
 rw [HN.out] at HZ2
 have HP := Lib.hid (show rholdP (grp k) l xs = b by rw [← HBB.out]; unfold openE; rw [if_neg (by rw [HZ1.out]; simp), HN.out, HZ2.out]; simp)
 have HXL := Lib.hid hxl
 rw [hxl]
 clear HBB hxl
 go_enter Try.func45, Try.ntmps45
 go_wp2_with fail
 refine (refKind_some k h1 h3 w).mono ?_
 rintro e w1 ⟨aq, cq, ap, cp, rfl, hq9, hp9, hb9⟩
 have HB := Lib.hid hb9
 have HZS := Lib.hid hb9.size
 have HRG := Lib.hid (RG.mk (G := grp k) hq9 hp9)
 clear hq9 hp9 hb9
 have HK := Lib.hid (Below.refl w1.heap.size w1)
 obtain ⟨w2, hq2, hb9, hz9, Hbg⟩ := new1 w1 98 [.int .i64 ((grp k).size : Int), .slice aq (dl (grp k).q.m) cq, .slice ap (dl (grp k).p.m) cp]
 replace HK := hbu HK hb9
 replace HB := hbu HB hb9
 replace HZS := sz HZS hz9.out
 clear hb9 hz9
 have bg_ := Hbg.out.c3
 go_wp2_with fail
 clear hq2
 refine (rWrong OK.out l n HN.out 0 HZ1.out al cl w2 (HRG.out.up HK.out) (HC.out.up HB.out)).mono ?_
 rintro e w3 ⟨rfl, hb9⟩
 clear bg_
 replace Hbg := Lib.hid (Hbg.out.up hb9)
 replace HK := hbu HK hb9
 replace HB := hbu HB hb9
 replace HZS := sz HZS hb9.size
 clear hb9
 have bg_ := Hbg.out.c3
 go_wp2_with fail
 refine (rWrongSc_n OK.out n xs HXL.out 0 HZ2.out ax cx hm w3 (HRG.out.up HK.out) (HS.out.up HB.out)).mono ?_
 rintro e w4 ⟨rfl, hb9⟩
 clear bg_
 replace Hbg := Lib.hid (Hbg.out.up hb9)
 replace HK := hbu HK hb9
 replace HB := hbu HB hb9
 replace HZS := sz HZS hb9.size
 clear hb9
 have bg_ := Hbg.out.c3
 go_wp2_with fail
 refine (rHold OK.out l xs HSH.out n HN.out b HP.out al ax cl cx w4 (HRG.out.up HK.out) (HC.out.up HB.out) (HS.out.up HB.out)).mono ?_
 rintro e w5 ⟨rfl, hb9⟩
 clear bg_
 replace Hbg := Lib.hid (Hbg.out.up hb9)
 replace HK := hbu HK hb9
 replace HB := hbu HB hb9
 replace HZS := sz HZS hb9.size
 clear hb9
 have bg_ := Hbg.out.c3
 go_wp2_with fail
 go_ret
 exact ⟨rfl, HB.out⟩
def rholdK (k : Int) (l : List ClaimA) (xs : List ByteArray) : Bool := decide (openK k l xs = 0) && rholdP (grp k.toNat) l xs
theorem rHolds_any (k : Int) (l : List ClaimA) (al : Option Addr) (cl : Nat) (xs : List ByteArray) (ax : Option Addr) (cx : Nat) (hn : xs.length ≤ 8796093022207) (w : World) (hC : ClaimsAt w al l) (hS : Sl w w.heap.size ax (xs.map Value.string)) :
  Calls Try.prog 45 #[.int .i64 k, .slice al l.length cl, .slice ax xs.length cx] w (Gives (.bool (rholdK k l xs)) w) := by
 unfold rholdK openK
 by_cases hk : 1 ≤ k ∧ k ≤ 3
 ·rw [if_pos hk]
  obtain ⟨j, rfl⟩ : ∃ j : Nat, k = j := ⟨k.toNat, by omega⟩
  exact rHolds_some j (by omega) (by omega) l _ rfl xs hn _ rfl al ax cl cx w hC hS
 ·rw [if_neg hk]
  exact rHolds_none k hk _ _ w
section
variable {G : GP} {aq ap : Option Addr} {cq cp : Nat}
end
end Go.Proofs.Ytipgjookfdkciaa
namespace Go.Proofs.Ytipgjookfdkciaa
open Go.RowKit
theorem isSc_lt' {G : GP} {s : ByteArray} (h : isSc G.q.m G.size s = true) : numOf s % G.q.m = numOf s ∧ numOf s < G.q.m := by
 unfold isSc at h
 simp only [Bool.and_eq_true, decide_eq_true_eq] at h
 exact ⟨Nat.mod_eq_of_lt h.2, h.2⟩
theorem isSc_inj {G : GP} {s t : ByteArray} (h : isSc G.q.m G.size s = true) (g : isSc G.q.m G.size t = true) (e : numOf s = numOf t) : s = t := numOf_inj (by rw [isSc_size h, isSc_size g]) e
theorem T_eq {k : Nat} (h1 : 1 ≤ k) (h3 : k ≤ 3) {x y : Nat} : textS (lowN (grp k) x) (grp k).size = textS (lowN (grp k) y) (grp k).size ↔ lowN (grp k) x = lowN (grp k) y :=
 ⟨fun h => T_inj (grp_ok k h1 h3) (grp_fits k h1 h3) (lowN_le (grp_ok k h1 h3) x) (lowN_le (grp_ok k h1 h3) y) h, fun h => by rw [h]⟩
end Go.Proofs.Ytipgjookfdkciaa
namespace Go.Proofs.Ytipgjookfdkciaa
open Go.RowKit
theorem el_le {q size : Nat} {s : ByteArray} (h : isEl q size s = true) : numOf s ≤ q := by
 unfold isEl at h
 simp only [Bool.and_eq_true, decide_eq_true_eq] at h
 exact h.2
theorem el_text {G : GP} (ok : G.Ok) {m : ByteArray} (h : isEl G.q.m G.size m = true) : m = textS (lowN G (numOf m)) G.size := by
 rw [lowN_fix ok (el_le h), ← isEl_size h, text_numOf]
structure AllOk (G : GP) (l : List ClaimA) (xs : List ByteArray) : Prop where
 len : ∀ c ∈ l, c.images.length = c.bases.length
 bs : ∀ c ∈ l, ∀ s ∈ c.bases, isEl G.q.m G.size s = true
 ims : ∀ c ∈ l, ∀ s ∈ c.images, isEl G.q.m G.size s = true
 xl : xs.length = l.length
 xs : ∀ s ∈ xs, isSc G.q.m G.size s = true
theorem allOk {k : Int} {l : List ClaimA} {xs : List ByteArray} (h : openK k l xs = 0) : (1 ≤ k ∧ k ≤ 3) ∧ AllOk (grp k.toNat) l xs := by
 obtain ⟨hk, hs, he, hxl, hxa⟩ := openK_ok h
 have hs := shape_ok hs
 have hc : ∀ c ∈ l, c.bases.all (isEl (grp k.toNat).q.m (grp k.toNat).size) = true ∧ c.images.all (isEl (grp k.toNat).q.m (grp k.toNat).size) = true := fun c hc => by
  have h9 : (c.bases.all (isEl (grp k.toNat).q.m (grp k.toNat).size) && c.images.all (isEl (grp k.toNat).q.m (grp k.toNat).size)) = true := List.all_eq_true.1 he c hc
  exact (Bool.and_eq_true _ _).mp h9
 exact ⟨hk, fun c h => (hs.2.2 c h).2.2, fun c h s g => List.all_eq_true.1 (hc c h).1 s g, fun c h s g => List.all_eq_true.1 (hc c h).2 s g, hxl, fun s g => List.all_eq_true.1 hxa s g⟩
theorem backE_ok {k : Int} {l : List ClaimA} {ch : ByteArray} {xs : List ByteArray} (h : backE k l ch xs = 0) : openK k l xs = 0 ∧ isSc (grp k.toNat).q.m (grp k.toNat).size ch = true := by
 unfold backE at h
 by_cases g : openK k l xs = 0
 ·rw [if_neg (by simpa using g)] at h
  refine ⟨g, ?_⟩
  by_cases f : isSc (grp k.toNat).q.m (grp k.toNat).size ch = true
  ·exact f
  ·rw [if_neg f] at h; cases h
 ·rw [if_pos g] at h
  exact absurd h g
end Go.Proofs.Ytipgjookfdkciaa
namespace Go.Proofs.Ytipgjookfdkciaa
open Go.RowKit
theorem zipWith_congr' {α β γ : Type} {f g : α → β → γ} {l : List α} {m : List β} (h : ∀ i (hl : i < l.length) (hm : i < m.length), f l[i] m[i] = g l[i] m[i]) : List.zipWith f l m = List.zipWith g l m := by
 apply List.ext_getElem
 ·simp
 ·intro i h1 h2
  rw [List.getElem_zipWith, List.getElem_zipWith]
  exact h i _ _
theorem hold2_eq {k : Nat} (h1 : 1 ≤ k) (h3 : k ≤ 3) {x b m : ByteArray} (hx : isSc (grp k).q.m (grp k).size x = true) (hm : isEl (grp k).q.m (grp k).size m = true) : rhold2 (grp k) x b m = hold2 (grp k) x b m := by
 unfold rhold2 hold2
 rw [(isSc_lt' hx).1, decide_eq_decide]
 have e := el_text (grp_ok k h1 h3) hm
 constructor
 ·intro h
  exact (T_eq h1 h3).1 (h.trans e)
 ·intro h
  exact ((T_eq h1 h3).2 h).trans e.symm
theorem holdP_eq {k : Nat} (h1 : 1 ≤ k) (h3 : k ≤ 3) {l : List ClaimA} {xs : List ByteArray} (h : AllOk (grp k) l xs) : rholdP (grp k) l xs = holdP (grp k) l xs := by
 unfold rholdP holdP
 rw [zipWith_congr' (f := rhold1 (grp k)) (g := hold1 (grp k))]
 intro i hl hx
 unfold rhold1 hold1
 rw [zipWith_congr' (f := rhold2 (grp k) xs[i]) (g := hold2 (grp k) xs[i])]
 intro t hb hm
 exact hold2_eq h1 h3 (h.xs _ (List.getElem_mem hx)) (h.ims _ (List.getElem_mem hl) _ (List.getElem_mem hm))
theorem rholdK_eq (k : Int) (l : List ClaimA) (xs : List ByteArray) : rholdK k l xs = holdK k l xs := by
 unfold rholdK holdK
 by_cases h : openK k l xs = 0
 ·obtain ⟨hk, ha⟩ := allOk h
  rw [holdP_eq (by omega) (by omega) ha]
 ·rw [decide_eq_false h]
  rfl
end Go.Proofs.Ytipgjookfdkciaa
namespace Go.Proofs.Ytipgjookfdkciaa
open Go.RowKit
theorem pm_exp {q p a m n : Nat} (hpp : IsPrime p) (hp : p = 2 * q + 1) (h0 : 0 < a) (ha : a < p) (h : m % q = n % q) : PM p (a ^ m) (a ^ n) := by
 have h1 := pm_pow_mod hpp hp h0 ha m
 rw [h] at h1
 exact h1.symm.trans (pm_pow_mod hpp hp h0 ha n)
theorem sub_mod_zero {q c : Nat} (h : c < q) : ((q - c) % q + c) % q = 0 % q := by
 rw [Nat.mod_add_mod, Nat.sub_add_cancel (Nat.le_of_lt h), Nat.mod_self, Nat.zero_mod]
theorem diff_ne {q c d : Nat} (hc : c < q) (hd : d < q) (hne : c ≠ d) : ¬ q ∣ (c + (q - d)) % q := by
 intro h
 have h1 := fun (g : 0 < (c + (q - d)) % q) => Nat.le_of_dvd g h
 rcases Nat.lt_or_ge c d with g | g
 ·rw [Nat.mod_eq_of_lt (show c + (q - d) < q by omega)] at h h1
  have := h1 (by omega)
  omega
 ·have e : c + (q - d) = c - d + q := by omega
  rw [e, Nat.add_mod_right, Nat.mod_eq_of_lt (show c - d < q by omega)] at h h1
  have := h1 (by omega)
  omega
theorem inv_mod {q v : Nat} (hqp : IsPrime q) (hq : 1 < q) (hv : ¬ q ∣ v) : v * (v ^ (q - 2) % q) % q = 1 % q := by
 rw [Nat.mul_mod_mod, Nat.mul_comm, ← Nat.pow_succ, show (q - 2).succ = q - 1 by omega]
 exact fermat hqp hv
theorem sound2 {q p B M c1 c2 x1 x2 u v d : Nat} (hqp : IsPrime q) (hpp : IsPrime p) (hp : p = 2 * q + 1) (hq : 1 < q) (hB0 : 0 < B) (hB : B < p) (hM0 : 0 < M) (hM : M < p) (hc1 : c1 < q) (hc2 : c2 < q) (_hx1 : x1 < q) (hx2 : x2 < q) (hne : c1 ≠ c2)
  (h : PM p (B ^ x1 * M ^ ((q - c1) % q)) (B ^ x2 * M ^ ((q - c2) % q))) (hu : (x1 + (q - x2)) % q = u) (hv : (c1 + (q - c2)) % q = v) (hd : v ^ (q - 2) % q = d) : PM p (B ^ (d * u % q)) M := by
 have hvn : ¬ q ∣ v := by rw [← hv]; exact diff_ne hc1 hc2 hne
 have h1 := h.mul (PM.refl p (B ^ (q - x2) * M ^ c1))
 rw [show B ^ x1 * M ^ ((q - c1) % q) * (B ^ (q - x2) * M ^ c1) = B ^ (x1 + (q - x2)) * M ^ ((q - c1) % q + c1) by rw [Nat.pow_add, Nat.pow_add]; ac_rfl,
  show B ^ x2 * M ^ ((q - c2) % q) * (B ^ (q - x2) * M ^ c1) = B ^ (x2 + (q - x2)) * M ^ ((q - c2) % q + c1) by rw [Nat.pow_add, Nat.pow_add]; ac_rfl] at h1
 have e1 : PM p (B ^ (x1 + (q - x2)) * M ^ ((q - c1) % q + c1)) (B ^ u * M ^ 0) :=
  (pm_exp hpp hp hB0 hB (by rw [← hu, Nat.mod_mod])).mul (pm_exp hpp hp hM0 hM (sub_mod_zero hc1))
 have e2 : PM p (B ^ (x2 + (q - x2)) * M ^ ((q - c2) % q + c1)) (B ^ 0 * M ^ v) :=
  (pm_exp hpp hp hB0 hB (by rw [show x2 + (q - x2) = q by omega, Nat.mod_self, Nat.zero_mod])).mul (pm_exp hpp hp hM0 hM (by rw [← hv, Nat.mod_mod, Nat.mod_add_mod, Nat.add_comm]))
 have h2 : PM p (B ^ u) (M ^ v) := by
  have h3 := (e1.symm.trans h1).trans e2
  rwa [Nat.pow_zero, Nat.pow_zero, Nat.mul_one, Nat.one_mul] at h3
 refine (pm_exp hpp hp hB0 hB (show d * u % q % q = u * d % q by rw [Nat.mod_mod, Nat.mul_comm])).trans ?_
 rw [Nat.pow_mul]
 refine (h2.pow d).trans ?_
 rw [← Nat.pow_mul]
 have h4 := pm_exp hpp hp hM0 hM (show v * d % q = 1 % q by rw [← hd]; exact inv_mod hqp hq hvn)
 rwa [Nat.pow_one] at h4
theorem eachA_inj {G : GP} {v v' : Nat → Nat → Nat} {ms : List Nat} {n : Nat} (h : eachA G v ms n = eachA G v' ms n) {i t : Nat} (hi : i < n) (ht : t < ms.getD i 0) : textS (lowN G (v i t)) G.size = textS (lowN G (v' i t)) G.size := by
 unfold eachA at h
 have h1 := List.map_inj_left.1 h i (List.mem_range.2 hi)
 unfold eachL at h1
 exact List.map_inj_left.1 h1 t (List.mem_range.2 ht)
theorem zip_all {α β : Type} {f : α → β → Bool} {l : List α} {m : List β} (h : ∀ i (hl : i < l.length) (hm : i < m.length), f l[i] m[i] = true) : (List.zipWith f l m).all id = true := by
 rw [List.all_eq_true]
 intro x hx
 obtain ⟨i, hi, rfl⟩ := List.getElem_of_mem hx
 rw [List.getElem_zipWith]
 exact h i _ _
theorem openK_zero {k : Int} (h1 : 1 ≤ k ∧ k ≤ 3) {l : List ClaimA} {xs : List ByteArray} (hs : shapeE l = 0) (he : l.all (cElems (grp k.toNat)) = true) (hl : xs.length = l.length) (ha : xs.all (isSc (grp k.toNat).q.m (grp k.toNat).size) = true) : openK k l xs = 0 := by
 unfold openK
 rw [if_pos h1]
 unfold openE
 rw [(wrong_elems hs).1 he, if_neg (by simp)]
 unfold scE
 rw [if_pos hl, if_pos ha]
theorem exF_num {k : Nat} (h1 : 1 ≤ k) (h3 : k ≤ 3) (d : Nat) (x y : ByteArray) : numOf (exF (grp k) d x y) = d * ((numOf x + ((grp k).q.m - numOf y)) % (grp k).q.m) % (grp k).q.m :=
 T_num (grp_ok k h1 h3) (Nat.le_of_lt (Nat.mod_lt _ (grp_ok k h1 h3).q.pos)) (grp_fits k h1 h3)
theorem exF_sc {k : Nat} (h1 : 1 ≤ k) (h3 : k ≤ 3) (d : Nat) (x y : ByteArray) : isSc (grp k).q.m (grp k).size (exF (grp k) d x y) = true :=
 T_sc (grp_ok k h1 h3) (grp_fits k h1 h3) (Nat.mod_lt _ (grp_ok k h1 h3).q.pos)
theorem isEl_bd {G : GP} (ok : G.Ok) {s : ByteArray} (h : isEl G.q.m G.size s = true) : 0 < numOf s ∧ numOf s < G.p.m := by
 unfold isEl at h
 simp only [Bool.and_eq_true, decide_eq_true_eq] at h
 have := ok.twice
 exact ⟨by omega, by omega⟩
theorem sound_any {k : Int} {l : List ClaimA} {p q : PrfA} (h1 : backE k l p.c p.l = 0) (h2 : backE k l q.c q.l = 0) (he : backK k l p.c p.l = backK k l q.c q.l) (hne : p.c ≠ q.c) :
  exEk k p q = 0 ∧ (exLk k p q).length = l.length ∧ holdK k l (exLk k p q) = true := by
 obtain ⟨o1, s1⟩ := backE_ok h1
 obtain ⟨o2, s2⟩ := backE_ok h2
 obtain ⟨hk, hsh, hel, hxl, hxa⟩ := openK_ok o1
 obtain ⟨_, _, _, hyl, hya⟩ := openK_ok o2
 obtain ⟨_, a1⟩ := allOk o1
 obtain ⟨_, a2⟩ := allOk o2
 obtain ⟨j, rfl⟩ : ∃ j : Nat, k = j := ⟨k.toNat, by omega⟩
 simp only [Int.toNat_natCast] at *
 have k1 : 1 ≤ j := by omega
 have k3 : j ≤ 3 := by omega
 have ok := grp_ok j k1 k3
 have hpp := grp_prime_p j k1 k3
 have hqp := grp_prime_q j k1 k3
 have hq : 1 < (grp j).q.m := by have := ok.odd; omega
 have hl0 := (shape_ok hsh).1
 have eE : exE (grp j) p q = 0 := by
  unfold exE
  rw [if_pos ⟨by omega, by omega⟩, if_pos, if_neg hne]
  rw [List.all_cons, List.all_cons, s1, s2, hxa, hya]
  rfl
 have eK : exEk (j : Int) p q = 0 := by
  unfold exEk
  rw [if_pos (by omega)]
  exact eE
 have eL : exLk (j : Int) p q = List.zipWith (exF (grp j) (exI (grp j) p.c q.c)) p.l q.l := by
  unfold exLk
  rw [if_pos (by omega)]
  unfold exL
  simp only [Int.toNat_natCast]
  rw [if_pos eE]
 have hlen : (exLk (j : Int) p q).length = l.length := by rw [eL, List.length_zipWith, hxl, hyl, Nat.min_self]
 refine ⟨eK, hlen, ?_⟩
 have hop : openK (j : Int) l (exLk (j : Int) p q) = 0 := by
  refine openK_zero (by omega) hsh hel hlen ?_
  rw [List.all_eq_true]
  intro x hx
  rw [eL] at hx
  obtain ⟨i, hi, rfl⟩ := List.getElem_of_mem hx
  rw [List.getElem_zipWith]
  exact exF_sc k1 k3 _ _ _
 unfold holdK
 rw [hop, decide_eq_true rfl, Bool.true_and]
 simp only [Int.toNat_natCast]
 unfold backK at he
 rw [if_pos h1, if_pos h2] at he
 simp only [Int.toNat_natCast] at he
 unfold holdP
 refine zip_all fun i hi hz => ?_
 unfold hold1
 refine zip_all fun t hb hm => ?_
 unfold hold2
 rw [decide_eq_true_eq]
 have hlt : t < (lens l).getD i 0 := by
  have e : (lens l).getD i 0 = l[i].bases.length := by unfold lens; simp [List.getD, hi]
  omega
 have h9 := (T_eq k1 k3).1 (eachA_inj he hi hlt)
 have hx : i < p.l.length := by omega
 have hy : i < q.l.length := by omega
 have sx := isSc_lt' (a1.xs _ (List.getElem_mem hx))
 have sy := isSc_lt' (a2.xs _ (List.getElem_mem hy))
 have bb := isEl_bd ok (a1.bs _ (List.getElem_mem hi) _ (List.getElem_mem hb))
 have mm := isEl_bd ok (a1.ims _ (List.getElem_mem hi) _ (List.getElem_mem hm))
 have n1 := isSc_lt' s1
 have n2 := isSc_lt' s2
 have hcd : numOf p.c ≠ numOf q.c := fun e => hne (isSc_inj s1 s2 e)
 have ev : ∀ (y : Nat) (xs : List ByteArray) (hxs : i < xs.length), valB (grp j) y l xs i t = numOf l[i].bases[t] ^ (numOf xs[i] % (grp j).q.m) * numOf l[i].images[t] ^ (y % (grp j).q.m) := fun y xs hxs => by
  unfold valB valF
  simp [List.getD, hi, hb, hm, hxs]
 rw [ev _ _ hx, ev _ _ hy, sx.1, sy.1] at h9
 refine (lowN_iff ok _ _).2 ?_
 have hz' : numOf (exLk (j : Int) p q)[i] = exI (grp j) p.c q.c * ((numOf p.l[i] + ((grp j).q.m - numOf q.l[i])) % (grp j).q.m) % (grp j).q.m := by
  rw [← exF_num k1 k3, ← List.getElem_zipWith (f := exF (grp j) (exI (grp j) p.c q.c)) (l := p.l) (l' := q.l) (i := i) (h := by rw [List.length_zipWith]; omega)]
  congr 1
  exact getElem_congr_coll eL
 rw [hz', Nat.mod_mod]
 exact sound2 hqp hpp ok.twice hq bb.1 bb.2 mm.1 mm.2 n1.2 n2.2 sx.2 sy.2 hcd ((lowN_iff ok _ _).1 h9) rfl rfl rfl
end Go.Proofs.Ytipgjookfdkciaa
namespace Go.Proofs.Ytipgjookfdkciaa
open Go.RowKit
theorem eachA_small (G : GP) (v : Nat → Nat → Nat) {l : List ClaimA} (hn : l.length ≤ 64) (hb : ∀ c ∈ l, c.bases.length ≤ 8) : (eachA G v (lens l) l.length).length ≤ 64 ∧ ∀ r ∈ eachA G v (lens l) l.length, r.length ≤ 8 := by
 refine ⟨by rw [eachA_len]; exact hn, fun r hr => ?_⟩
 unfold eachA at hr
 obtain ⟨i, hi, rfl⟩ := List.mem_map.1 hr
 have hi := List.mem_range.1 hi
 rw [eachL_len]
 have e : (lens l).getD i 0 = l[i].bases.length := by unfold lens; simp [List.getD, hi]
 rw [e]
 exact hb _ (List.getElem_mem hi)
theorem small_if {P : Prop} [Decidable P] {L : List (List ByteArray)} (h : P → L.length ≤ 64 ∧ ∀ r ∈ L, r.length ≤ 8) : (if P then L else []).length ≤ 64 ∧ ∀ r ∈ (if P then L else []), r.length ≤ 8 := by
 by_cases p : P
 ·rw [if_pos p]; exact h p
 ·rw [if_neg p]; exact ⟨Nat.zero_le _, fun _ h => by cases h⟩
theorem backK_small (k : Int) (l : List ClaimA) (ch : ByteArray) (xs : List ByteArray) : (backK k l ch xs).length ≤ 64 ∧ ∀ r ∈ backK k l ch xs, r.length ≤ 8 := by
 unfold backK
 refine small_if fun h => ?_
 have hs := shape_ok (openK_ok (backE_ok h).1).2.1
 exact eachA_small _ _ hs.2.1 fun c hc => (hs.2.2 c hc).2.1
end Go.Proofs.Ytipgjookfdkciaa
namespace Go.Proofs.Ytipgjookfdkciaa
open Go.ChangeShapes Go.WideShapes Go.ChangeAt Go.RowKit
theorem flat_range (g : Nat → Value) (k len : Nat) : ((List.range len).map fun i => (List.range k).map fun j => g (i * k + j)).flatten = (List.range (len * k)).map g := by
 induction len with
 | zero => simp
 | succ m ih =>
  rw [List.range_succ, List.map_append, List.flatten_append, ih, Nat.succ_mul, List.range_add, List.map_append]
  simp [List.map_map, Function.comp_def]
section
variable {H : Type} {enc : TypeId × Value → H} {P : Program} {w : World}
theorem list_shapes {α : Type} (f : α → List Value) (R : α → Prop) : ∀ css : List (List Value), (∀ l ∈ css, ∃ x, l = f x ∧ R x) → ∃ xs : List α, xs.length = css.length ∧ css.flatten = xs.flatMap f ∧ ∀ x ∈ xs, R x
 | [], _ => ⟨[], rfl, rfl, by simp⟩
 | l :: css, h => by
  obtain ⟨x, rfl, hR⟩ := h l (by simp)
  obtain ⟨xs, h1, h2, h3⟩ := list_shapes f R css (fun c hc => h c (by simp [hc]))
  refine ⟨x :: xs, by simp [h1], by simp [h2], ?_⟩
  intro y hy
  rcases List.mem_cons.1 hy with rfl | hy
  ·exact hR
  ·exact h3 y hy
theorem list2 {cs : List Value} (h : cs.length = 2) : ∃ a b, cs = [a, b] := by
 match cs, h with
 | [a, b], _ => exact ⟨a, b, rfl⟩
theorem open_str {sp : Nat → Bool} {held : Bool} {t : TypeId} {fuel : Nat} {c : Value} {y : DataW H × List MemPlace} (ht : P.underlying t = some .string) (h : DataW.trod enc P w 0 sp held fuel t [c] = some y) : ∃ s : ByteArray, c = .string s := by
 obtain ⟨s, hs, _⟩ := DataW.trod_string ht h
 simp only [List.cons.injEq, and_true] at hs
 exact ⟨s, hs⟩
end
end Go.Proofs.Ytipgjookfdkciaa
namespace Go.Proofs.Ytipgjookfdkciaa
open Go.ChangeShapes Go.WideShapes Go.ChangeAt Go.RowKit
def Wt {H : Type} (P : Program) (t : TypeId) (d : DataW H) : Prop := ∀ n ∈ DataW.weights P t d, n ≤ reachBytes
theorem weightsAll_mem {H : Type} {P : Program} {e : TypeId} : ∀ {l : List (DataW H)} {d : DataW H}, d ∈ l → ∀ n ∈ DataW.weights P e d, n ∈ DataW.weightsAll P e l
 | x :: l, d, hd, n, hn => by
  simp only [DataW.weightsAll, List.mem_append]
  rcases List.mem_cons.1 hd with rfl | h
  ·exact Or.inl hn
  ·exact Or.inr (weightsAll_mem h n hn)
theorem Wt.slice {H : Type} {P : Program} {t e : TypeId} {elems spare : List (DataW H)} (ht : P.underlying t = some (.slice e)) (h : Wt P t (.slice elems spare)) : elems.length * P.bytesOf e ≤ reachBytes ∧ ∀ d ∈ elems, Wt P e d := by
 unfold Wt at h
 simp only [DataW.weights, ht, List.mem_cons, List.mem_append] at h
 refine ⟨Nat.le_trans (Nat.mul_le_mul_right _ (Nat.le_add_right _ _)) (h _ (Or.inl rfl)), fun d hd n hn => h n (Or.inr (Or.inl (weightsAll_mem hd n hn)))⟩
theorem Wt.agg {H : Type} {P : Program} {t : TypeId} {fs : Array Go.Field} {parts : List (DataW H)} (ht : P.underlying t = some (.struct fs)) (h : Wt P t (.agg parts)) : ∀ (j : Nat) (f : Go.Field) (d : DataW H), fs[j]? = some f → parts[j]? = some d → Wt P f.type d := by
 intro j f d hj hd n hn
 unfold Wt at h
 simp only [DataW.weights, ht] at h
 exact h n (DataW.weights_mem_each (ts := fs.toList.map (·.type)) (by rw [List.getElem?_map, Array.getElem?_toList, hj]; rfl) hd n hn)
theorem Wt.arg {H : Type} {P : Program} {ts : List TypeId} {ds : List (DataW H)} (h : (DataW.weightsEach P ts ds).all (· ≤ reachBytes) = true) {j : Nat} {t : TypeId} {d : DataW H} (ht : ts[j]? = some t) (hd : ds[j]? = some d) : Wt P t d :=
 fun n hn => of_decide_eq_true (List.all_eq_true.1 h _ (DataW.weights_mem_each ht hd n hn))
section
variable {H : Type} {enc : TypeId × Value → H} {P : Program} {w : World}
theorem open_flatW {sp : Nat → Bool} {held : Bool} {t e : TypeId} {k fuel : Nat} {c : Value} {y : DataW H × List MemPlace} (ht : P.underlying t = some (.slice e)) (hk : P.cellsOf e = k) (hk0 : 0 < k) (hW : Wt P t y.1)
  (h : DataW.trod enc P w 0 sp held fuel t [c] = some y) :
  ∃ (a : Option Addr) (cap : Nat) (css : List (List Value)), c = .slice a css.length cap ∧ css.length * P.bytesOf e ≤ reachBytes ∧ (a = none → cap = 0) ∧ (∀ l ∈ css, l.length = k) ∧ Sl w w.heap.size a css.flatten ∧
   ∀ l ∈ css, ∃ n y', Wt P e y'.1 ∧ DataW.trod enc P w 0 sp held n e l = some y' := by
 have hlt := DataW.trod_lt _ _ _ _ h
 rcases DataW.trod_slice ht h with ⟨hcs, _⟩ | ⟨x, len, cap, elems, rest, n, _, hcs, hx, hb, hl, hm, hlen, hel, _, _⟩
 ·simp only [List.cons.injEq, and_true] at hcs
  exact ⟨none, 0, [], hcs, by simp, fun _ => rfl, by simp, Or.inl rfl, by simp⟩
 simp only [List.cons.injEq, and_true] at hcs
 subst hcs
 by_cases h0 : len = 0
 ·subst h0
  exact ⟨some x, cap, [], rfl, by simp, by simp, by simp, Or.inl rfl, by simp⟩
 have hbk := Wt.slice (elems := elems.map (·.1)) (spare := rest.map (·.1)) ht (by rw [hx] at hW; exact hW)
 have each : ∀ i, i < len → ∃ l y', w.cells? 0 (x.add (i * k)) k = some l ∧ Wt P e y'.1 ∧ DataW.trod enc P w 0 sp held n e l = some y' := by
  intro i hi
  have h1 := hel i hi
  rw [hk, show elems[i]? = some (elems[i]'(by omega)) from List.getElem?_eq_getElem (by omega), Option.bind_eq_some_iff] at h1
  obtain ⟨l, hl, hy⟩ := h1
  exact ⟨l, _, hl, hbk.2 _ (List.mem_map.2 ⟨_, List.getElem_mem _, rfl⟩), hy⟩
 obtain ⟨b, off, spot⟩ := x
 have hspot : spot = none := by
  obtain ⟨l, _, h1, _⟩ := each 0 (by omega)
  obtain ⟨_, h2, h3⟩ := World.cells?_some h1
  have h4 := h3 0 hk0
  obtain ⟨v, hv⟩ : ∃ v, l[0]? = some v := ⟨_, List.getElem?_eq_getElem (by omega)⟩
  rw [hv, Deep.add_add, Nat.zero_mul, Nat.zero_add] at h4
  simpa [Addr.add] using World.cell?_spot h4
 subst hspot
 have hbW : b < w.heap.size := hlt (.cell b off) (by
  rw [hx]
  exact List.mem_append_left _ (MemPlace.mem_row.2 ⟨0, by rw [hk]; have : 0 < (elems.length + rest.length) * k := Nat.mul_pos (by omega) hk0; omega, by simp⟩))
 have hL : ∀ i, i < len → ((List.range k).map fun j => (w.cell? ⟨b, off + (i * k + j), none⟩).getD (.bool false)).length = k ∧
   (∀ j, j < k → w.cell? ⟨b, off + (i * k + j), none⟩ = some ((w.cell? ⟨b, off + (i * k + j), none⟩).getD (.bool false))) ∧
   ∃ y', Wt P e y'.1 ∧ DataW.trod enc P w 0 sp held n e ((List.range k).map fun j => (w.cell? ⟨b, off + (i * k + j), none⟩).getD (.bool false)) = some y' := by
  intro i hi
  obtain ⟨l, y', h1, h2b, h2⟩ := each i hi
  obtain ⟨_, h3, h4⟩ := World.cells?_some h1
  have h5 : ∀ j, j < k → w.cell? ⟨b, off + (i * k + j), none⟩ = l[j]? := by
   intro j hj
   have := h4 j hj
   rwa [Deep.add_add, add_plain] at this
  have e1 : (List.range k).map (fun j => (w.cell? ⟨b, off + (i * k + j), none⟩).getD (.bool false)) = l := by
   apply List.ext_getElem?
   intro j
   by_cases hj : j < k
   ·rw [List.getElem?_map, List.getElem?_range hj, Option.map_some, h5 j hj, List.getElem?_eq_getElem (show j < l.length by omega), Option.getD_some]
   ·rw [List.getElem?_eq_none (by simp; omega), List.getElem?_eq_none (by omega)]
  refine ⟨by simp, ?_, ?_⟩
  ·intro j hj
   rw [h5 j hj, List.getElem?_eq_getElem (show j < l.length by omega), Option.getD_some]
  ·rw [e1]; exact ⟨y', h2b, h2⟩
 refine ⟨some ⟨b, off, none⟩, cap, (List.range len).map fun i => (List.range k).map fun j => (w.cell? ⟨b, off + (i * k + j), none⟩).getD (.bool false), by simp, ?_, by simp, ?_, Or.inr ⟨b, off, rfl, hbW, ?_⟩, ?_⟩
 ·have := hbk.1; rw [List.length_map, hlen] at this; simpa using this
 ·intro l hl
  obtain ⟨i, _, rfl⟩ := List.mem_map.1 hl
  simp
 ·have hflat := flat_range (fun m => (w.cell? ⟨b, off + m, none⟩).getD (.bool false)) k len
  intro i v hv
  rw [hflat] at hv
  have hi : i < len * k := by have := (List.getElem?_eq_some_iff.1 hv).1; simpa using this
  have hq : i / k < len := Nat.div_lt_of_lt_mul (by rwa [Nat.mul_comm] at hi)
  have hc := (hL (i / k) hq).2.1 (i % k) (Nat.mod_lt _ hk0)
  rw [show i / k * k + i % k = i by rw [Nat.mul_comm]; exact Nat.div_add_mod i k] at hc
  rw [hc, ← hv, List.getElem?_map, List.getElem?_range hi, Option.map_some]
 ·intro l hl
  obtain ⟨i, hi, rfl⟩ := List.mem_map.1 hl
  obtain ⟨y', hyb, hy⟩ := (hL i (List.mem_range.1 hi)).2.2
  exact ⟨n, y', hyb, hy⟩
theorem open_elsW {α : Type} (f : α → List Value) (R : α → Prop) {sp : Nat → Bool} {held : Bool} {t e : TypeId} {k fuel : Nat} {c : Value} {y : DataW H × List MemPlace} (ht : P.underlying t = some (.slice e)) (hk : P.cellsOf e = k) (hk0 : 0 < k) (hW : Wt P t y.1)
  (hel : ∀ n l y', l.length = k → Wt P e y'.1 → DataW.trod enc P w 0 sp held n e l = some y' → ∃ x, l = f x ∧ R x) (h : DataW.trod enc P w 0 sp held fuel t [c] = some y) :
  ∃ (a : Option Addr) (cap : Nat) (xs : List α), c = .slice a xs.length cap ∧ xs.length * P.bytesOf e ≤ reachBytes ∧ (a = none → cap = 0) ∧ Sl w w.heap.size a (xs.flatMap f) ∧ ∀ x ∈ xs, R x := by
 obtain ⟨a, cap, css, rfl, hlB, hno, hl, hs, he⟩ := open_flatW ht hk hk0 hW h
 obtain ⟨xs, h1, h2, h3⟩ := list_shapes f R css (fun l hm => by
  obtain ⟨n, y', hyb, hy⟩ := he l hm
  exact hel n l y' (hl l hm) hyb hy)
 exact ⟨a, cap, xs, by rw [h1], by rw [h1]; exact hlB, hno, h2 ▸ hs, h3⟩
theorem open_cellsW {sp : Nat → Bool} {held : Bool} {t : TypeId} {fs : Array Go.Field} {fuel : Nat} {cs : List Value} {y : DataW H × List MemPlace} (hs : P.underlying t = some (.struct fs)) (hone : Go.Deep.oneCellFields P fs = true) (hC : P.cellsOf t = fs.size) (hW : Wt P t y.1)
  (h : DataW.trod enc P w 0 sp held fuel t cs = some y) :
  cs.length = fs.size ∧ ∀ (j : Nat) (f : Go.Field) (c : Value), fs[j]? = some f → cs[j]? = some c → ∃ n y', Wt P f.type y'.1 ∧ DataW.trod enc P w 0 sp held n f.type [c] = some y' := by
 obtain ⟨ys, n, _, hy, hcl, hlen, hg⟩ := DataW.trod_struct hs h
 have hbk := Wt.agg (parts := ys.map (·.1)) hs (by rw [hy] at hW; exact hW)
 refine ⟨by omega, fun j f c hj hc => ?_⟩
 obtain ⟨ho, hk⟩ := Go.Deep.hone_of hone j f hj
 have hjf : j < fs.size := (Array.getElem?_eq_some_iff.1 hj).1
 have h1 := hg j f hj
 have hjc := (List.getElem?_eq_some_iff.1 hc).1
 rw [ho, hk, List.drop_eq_getElem_cons hjc, List.take_succ_cons, List.take_zero, (List.getElem?_eq_some_iff.1 hc).2, List.getElem?_eq_getElem (show j < ys.length by omega)] at h1
 exact ⟨n, _, hbk j f _ hj (by rw [List.getElem?_map, List.getElem?_eq_getElem (show j < ys.length by omega)]; rfl), h1⟩
theorem open_strsW {sp : Nat → Bool} {held : Bool} {t e : TypeId} {fuel : Nat} {c : Value} {y : DataW H × List MemPlace} (ht : P.underlying t = some (.slice e)) (he : P.underlying e = some .string) (hk : P.cellsOf e = 1) (hW : Wt P t y.1) (h : DataW.trod enc P w 0 sp held fuel t [c] = some y) :
  ∃ (a : Option Addr) (cap : Nat) (bs : List ByteArray), c = .slice a bs.length cap ∧ bs.length * P.bytesOf e ≤ reachBytes ∧ (a = none → cap = 0) ∧ Sl w w.heap.size a (bs.map Value.string) := by
 obtain ⟨a, cap, xs, h1, hb, hno, h2, _⟩ := open_elsW (fun s : ByteArray => [Value.string s]) (fun _ => True) ht hk (by omega) hW (fun n l y' hl _ hy => by
  match l, hl with
  | [c'], _ =>
   obtain ⟨s, rfl⟩ := open_str he hy
   exact ⟨s, rfl, trivial⟩) h
 refine ⟨a, cap, xs, h1, hb, hno, ?_⟩
 rw [← List.flatMap_singleton' (xs.map Value.string), List.flatMap_map]
 exact h2
end
end Go.Proofs.Ytipgjookfdkciaa
namespace Go.Proofs.Ytipgjookfdkciaa
open Go.ChangeShapes Go.WideShapes Go.ChangeAt Go.RowKit
theorem proof_cells : Try.prog.cellsOf 24 = 2 := by kernel_rfl
theorem str_cells : Try.prog.cellsOf 9 = 1 := by kernel_rfl
theorem str_bytes : Try.prog.bytesOf 9 = 16 := by kernel_rfl
theorem reach16 {n : Nat} (h : n * 16 ≤ reachBytes) : n ≤ 8796093022206 := by unfold reachBytes at h; omega
end Go.Proofs.Ytipgjookfdkciaa
namespace Go.Proofs.Ytipgjookfdkciaa
open Go.ChangeShapes Go.WideShapes Go.ChangeAt Go.RowKit
section
variable {H : Type} {enc : TypeId × Value → H} {w : World}
theorem open_prf {sp : Nat → Bool} {held : Bool} (fuel : Nat) (cs : List Value) (y : DataW H × List MemPlace) (hW : Wt Try.prog 24 y.1) (h : DataW.trod enc Try.prog w 0 sp held fuel 24 cs = some y) :
  ∃ p : PrfA, cs = p.cells ∧ p.At w ∧ p.l.length ≤ 8796093022206 := by
 obtain ⟨h1, h2⟩ := open_cellsW Try.underlying24 (by kernel_rfl) proof_cells hW h
 obtain ⟨a, b, rfl⟩ := list2 h1
 obtain ⟨_, _, _, ha⟩ := h2 0 _ _ rfl rfl
 obtain ⟨_, _, hw, hb⟩ := h2 1 _ _ rfl rfl
 obtain ⟨s, rfl⟩ := open_str Try.underlying9 ha
 obtain ⟨al, cap, l, rfl, hn, hno, hs⟩ := open_strsW Try.underlying22 Try.underlying9 str_cells hw hb
 rw [str_bytes] at hn
 exact ⟨⟨s, al, cap, l⟩, rfl, ⟨hs, hno⟩, reach16 hn⟩
end
theorem agg_of {cs : Array Value} {l : List Value} (h : cs.toList = l) : Value.agg cs = .agg l.toArray := by rw [← h]
theorem claim_cells : Try.prog.cellsOf 70 = 2 := by kernel_rfl
section
variable {H : Type} {enc : TypeId × Value → H} {w : World}
theorem open_claims {sp : Nat → Bool} {held : Bool} (fuel : Nat) (c : Value) (y : DataW H × List MemPlace) (hW : Wt Try.prog 58 y.1) (h : DataW.trod enc Try.prog w 0 sp held fuel 58 [c] = some y) :
  ∃ (a : Option Addr) (cap : Nat) (l : List ClaimA), c = .slice a l.length cap ∧ ClaimsAt w a l := by
 obtain ⟨a, cap, rs, h1, _, _, h4, h5⟩ := open_elsW (e := 70) ClaimA.cells (fun r => ClaimA.At w r) Try.underlying58 claim_cells (by omega) hW (fun n l y' hl hW' hy => by
  obtain ⟨g1, g2⟩ := open_cellsW Try.underlying70 (by kernel_rfl) claim_cells hW' hy
  obtain ⟨x1, x2, rfl⟩ := list2 g1
  obtain ⟨_, _, hwa, ha⟩ := g2 0 _ _ rfl rfl
  obtain ⟨_, _, hwb, hb⟩ := g2 1 _ _ rfl rfl
  obtain ⟨al, cp, bs, rfl, _, _, hs⟩ := open_strsW Try.underlying22 Try.underlying9 str_cells hwa ha
  obtain ⟨ai, ci, is, rfl, _, _, hi⟩ := open_strsW Try.underlying22 Try.underlying9 str_cells hwb hb
  exact ⟨⟨al, cp, bs, ai, ci, is⟩, rfl, hs, hi⟩) h
 exact ⟨a, cap, rs, h1, ⟨h4, fun c hc => h5 c hc⟩⟩
end
end Go.Proofs.Ytipgjookfdkciaa
namespace Go.Proofs.Ytipgjookfdkciaa
open Go.RowKit
theorem take_eq_snoc {l m : List ByteArray} {j : Nat} (hl : j < l.length) (hm : j < m.length) (h : l.take j = m.take j) (h1 : l[j] = m[j]) : l.take (j + 1) = m.take (j + 1) := by
 rw [List.take_succ_eq_append_getElem hl, List.take_succ_eq_append_getElem hm, h, h1]
theorem same5_any (l m : List ByteArray) (al am : Option Addr) (cl cm : Nat) (hl : l.length ≤ 8796093022207) (b : Bool) (hb : decide (l = m) = b) (w : World) (hL : Sl w w.heap.size al (l.map Value.string)) (hM : Sl w w.heap.size am (m.map Value.string)) :
  Calls Try.prog 17 #[.slice al l.length cl, .slice am m.length cm] w (Gives (.bool b) w) := by
 have HL := Lib.hid hL
 have HM := Lib.hid hM
 have HBB := Lib.hid hb
 clear hL hM hb
 unfold Gives
 by_cases h1 : l.length = m.length
 ·have hd : ((l.length : Int) != (m.length : Int)) = false := by rw [bne_eq_false_iff_eq]; omega
  obtain ⟨n, hn⟩ : ∃ n, l.length = n := ⟨_, rfl⟩
  have hm : m.length = n := by omega
  have HNL := Lib.hid hn
  have HNM := Lib.hid hm
  rw [hn] at hd hl ⊢
  rw [hm] at hd ⊢
  clear h1 hn hm
  go_enter Try.func17, Try.ntmps17
  go_wp2_with fail
  go_loopw [13] (fun i wr => ∃ j : Nat, j ≤ n ∧ i = .int .i64 j ∧ Hid (Below w.heap.size w wr) ∧ Hid (l.take j = m.take j)) (fun i _ => n - (intOf i).toNat)
  case atStart => exact ⟨0, Nat.zero_le _, rfl, Below.refl _ _, rfl⟩
  case round =>
   obtain ⟨j, hj, rfl, HB, HT⟩ := hrel
   by_cases hjn : j < n
   ·skip
    have hjl : j < l.length := by rw [HNL.out]; exact hjn
    have hjm : j < m.length := by rw [HNM.out]; exact hjn
    obtain ⟨b1, o1, rfl, hb10, hb1, hc1⟩ := HL.out.atUp HB.out j (by simpa using hjl)
    obtain ⟨b2, o2, rfl, hb20, hb2, hc2⟩ := HM.out.atUp HB.out j (by simpa using hjm)
    rw [List.getElem_map] at hc1 hc2
    have HTS := Lib.hid (take_eq_snoc hjl hjm HT.out)
    have HNE := Lib.hid (fun (h : ¬ l[j] = m[j]) => (show ¬ l = m from fun e => h (by subst e; rfl)))
    generalize l[j] = x at *
    generalize m[j] = y at *
    by_cases hxy : x = y
    ·have HF := Lib.hid (HTS.out hxy)
     subst hxy
     go_wp2_with fail
     refine wp_region_over (by kernel_rfl) (by kernel_rfl) ?_
     have hov_b1 := fun (E : Over wr) o => E.cell (b := b1) o hb1
     have hov_b2 := fun (E : Over wr) o => E.cell (b := b2) o hb2
     repeat (go_big_quiet_step (first | fail))
     all_goals (try unfold elV limbV)
     repeat (go_big_quiet_step (first | fail))
     all_goals (try unfold elV limbV)
     repeat (go_big_quiet_step (first | fail))
     all_goals (try unfold ciphV)
     refine wpQuiet_nil ?_
     rintro _ ⟨E, rfl⟩
     clear hov_b1 hov_b2
     replace HB := hbu HB E.h
     have HZS := Lib.hid E.h.size
     obtain ⟨w1, hq9⟩ : ∃ W9 : World, E.w = W9 := ⟨_, rfl⟩
     rw [hq9] at HB HZS ⊢
     clear hq9 E
     go_wp2_with fail
     go_roundw
     case rel => exact ⟨j + 1, by omega, by go_num, HB, HF⟩
     case measure => simp [intOf]; omega
    ·obtain rfl : b = false := by rw [← HBB.out]; exact decide_eq_false (HNE.out hxy)
     have hcd := toList_bne hxy
     clear hxy
     go_wp2_with fail
     refine wp_region_over (by kernel_rfl) (by kernel_rfl) ?_
     have hov_b1 := fun (E : Over wr) o => E.cell (b := b1) o hb1
     have hov_b2 := fun (E : Over wr) o => E.cell (b := b2) o hb2
     repeat (go_big_quiet_step (first | fail))
     all_goals (try unfold elV limbV)
     repeat (go_big_quiet_step (first | fail))
     all_goals (try unfold elV limbV)
     repeat (go_big_quiet_step (first | fail))
     all_goals (try unfold ciphV)
     refine wpQuiet_nil ?_
     rintro _ ⟨E, rfl⟩
     clear hov_b1 hov_b2
     replace HB := hbu HB E.h
     have HZS := Lib.hid E.h.size
     obtain ⟨w1, hq9⟩ : ∃ W9 : World, E.w = W9 := ⟨_, rfl⟩
     rw [hq9] at HB HZS ⊢
     clear hq9 E
     go_wp2_with fail
     go_ret
     exact ⟨rfl, HB.out⟩
   ·have hjn' : j = n := by omega
    subst hjn'
    obtain rfl : b = true := by
     rw [← HBB.out]
     refine decide_eq_true ?_
     have h9 := HT.out
     rwa [List.take_of_length_le (by rw [HNL.out]; exact Nat.le_refl _), List.take_of_length_le (by rw [HNM.out]; exact Nat.le_refl _)] at h9
    go_wp2_with fail
    go_ret
    exact ⟨rfl, HB.out⟩
 ·have hd : ((l.length : Int) != (m.length : Int)) = true := by rw [bne_iff_ne]; omega
  obtain rfl : b = false := by rw [← HBB.out]; exact decide_eq_false (fun e => h1 (by rw [e]))
  clear h1
  go_enter Try.func17, Try.ntmps17
  go_wp2_with fail
  go_ret
  exact ⟨rfl, Below.refl _ _⟩
end Go.Proofs.Ytipgjookfdkciaa
namespace Go.Proofs.Ytipgjookfdkciaa
open Go.RowKit
theorem take_rows {L M : List (List ByteArray)} {j : Nat} (hl : j < L.length) (hm : j < M.length) (h : L.take j = M.take j) (h1 : L[j] = M[j]) : L.take (j + 1) = M.take (j + 1) := by
 rw [List.take_succ_eq_append_getElem hl, List.take_succ_eq_append_getElem hm, h, h1]
theorem sameLists5_any (L M : List (List ByteArray)) (n m : Nat) (hL : L.length = n) (hM : M.length = m) (hn : n ≤ 8796093022206) (hr : ∀ r ∈ L, r.length ≤ 8796093022206) (ro so : List RowA) (h1 : ro.map RowA.l = L) (h2 : so.map RowA.l = M) (b : Bool) (hb : decide (L = M) = b) (a1 a2 : Option Addr) (c1 c2 : Nat) (w : World) (hR : RowsAt w a1 ro) (hS : RowsAt w a2 so) :
  Calls Try.prog 48 #[.slice a1 n c1, .slice a2 m c2] w (Gives (.bool b) w) := by
 have hn1 : ro.length = n := by rw [← hL, ← h1, List.length_map]
 have hn2 : so.length = m := by rw [← hM, ← h2, List.length_map]
 have HN1 := Lib.hid hn1
 have HN2 := Lib.hid hn2
 have HLL := Lib.hid hL
 have HLM := Lib.hid hM
 have HBB := Lib.hid hb
 have HE := Lib.hid (fun i (g1 : i < ro.length) (g2 : i < L.length) => (show L[i] = ro[i].l by subst h1; simp))
 have HF := Lib.hid (fun i (g1 : i < so.length) (g2 : i < M.length) => (show M[i] = so[i].l by subst h2; simp))
 have HLE := Lib.hid (fun i (g1 : i < ro.length) => (show ro[i].l.length ≤ 8796093022207 by
  have := hr ro[i].l (by rw [← h1]; exact List.mem_map.2 ⟨_, List.getElem_mem g1, rfl⟩)
  omega))
 have HR := Lib.hid hR
 have HS := Lib.hid hS
 clear hn1 hn2 h1 h2 hr hR hS hL hM hb
 unfold Gives
 by_cases hnm : n = m
 ·subst hnm
  have hd : ((n : Int) != (n : Int)) = false := by simp
  go_enter Try.func48, Try.ntmps48
  go_wp2_with fail
  go_loopw [13] (fun i wr => ∃ j : Nat, j ≤ n ∧ i = .int .i64 j ∧ Hid (Below w.heap.size w wr) ∧ Hid (L.take j = M.take j)) (fun i _ => n - (intOf i).toNat)
  case atStart => exact ⟨0, Nat.zero_le _, rfl, Below.refl _ _, rfl⟩
  case round =>
   obtain ⟨j, hj, rfl, HB, HT⟩ := hrel
   by_cases hjn : j < n
   ·skip
    have g1 : j < ro.length := by rw [HN1.out]; exact hjn
    have g2 : j < so.length := by rw [HN2.out]; exact hjn
    have g3 : j < L.length := by rw [HLL.out]; exact hjn
    have g4 : j < M.length := by rw [HLM.out]; exact hjn
    obtain ⟨b1, o1, rfl, hb10, hb1, hc1⟩ := HR.out.cell HB.out j g1
    obtain ⟨b2, o2, rfl, hb20, hb2, hc2⟩ := HS.out.cell HB.out j g2
    have HP := Lib.hid (show Sl wr wr.heap.size ro[j].a (ro[j].l.map Value.string) from (HR.out.up HB.out).one j g1)
    have HQ := Lib.hid (show Sl wr wr.heap.size so[j].a (so[j].l.map Value.string) from (HS.out.up HB.out).one j g2)
    have HYE := Lib.hid (fun (e : ro[j].l = so[j].l) => take_rows g3 g4 HT.out ((HE.out j g1 g3).trans (e.trans (HF.out j g2 g4).symm)))
    have HNE := Lib.hid (fun (e : ¬ ro[j].l = so[j].l) => (show ¬ L = M from fun e' => e ((HE.out j g1 g3).symm.trans (Eq.trans (by subst e'; rfl) (HF.out j g2 g4)))))
    have HLJ := Lib.hid (HLE.out j g1)
    generalize ro[j] = r at *
    generalize so[j] = s at *
    obtain ⟨bj, hbj⟩ : ∃ x, decide (r.l = s.l) = x := ⟨_, rfl⟩
    have HBJ := Lib.hid hbj
    cases bj
    ·obtain rfl : b = false := by rw [← HBB.out]; exact decide_eq_false (HNE.out (of_decide_eq_false hbj))
     clear hbj
     go_wp2_with fail
     refine wp_region_over (by kernel_rfl) (by kernel_rfl) ?_
     have hov_b1 := fun (E : Over wr) o => E.cell (b := b1) o hb1
     have hov_b2 := fun (E : Over wr) o => E.cell (b := b2) o hb2
     repeat (go_big_quiet_step (first | (go_at_call 17; exact calls_over (same5_any r.l s.l r.a s.a r.c s.c HLJ.out false HBJ.out _ (HP.out.up (Over.h _)) (HQ.out.up (Over.h _))))))
     all_goals (try unfold elV limbV)
     repeat (go_big_quiet_step (first | (go_at_call 17; exact calls_over (same5_any r.l s.l r.a s.a r.c s.c HLJ.out false HBJ.out _ (HP.out.up (Over.h _)) (HQ.out.up (Over.h _))))))
     all_goals (try unfold elV limbV)
     repeat (go_big_quiet_step (first | (go_at_call 17; exact calls_over (same5_any r.l s.l r.a s.a r.c s.c HLJ.out false HBJ.out _ (HP.out.up (Over.h _)) (HQ.out.up (Over.h _))))))
     all_goals (try unfold ciphV)
     refine wpQuiet_nil ?_
     rintro _ ⟨E, rfl⟩
     clear hov_b1 hov_b2
     replace HB := hbu HB E.h
     have HZS := Lib.hid E.h.size
     obtain ⟨w1, hq9⟩ : ∃ W9 : World, E.w = W9 := ⟨_, rfl⟩
     rw [hq9] at HB HZS ⊢
     clear hq9 E
     go_wp2_with fail
     go_ret
     exact ⟨rfl, HB.out⟩
    ·have HTS := Lib.hid (HYE.out (of_decide_eq_true hbj))
     clear hbj
     go_wp2_with fail
     refine wp_region_over (by kernel_rfl) (by kernel_rfl) ?_
     have hov_b1 := fun (E : Over wr) o => E.cell (b := b1) o hb1
     have hov_b2 := fun (E : Over wr) o => E.cell (b := b2) o hb2
     repeat (go_big_quiet_step (first | (go_at_call 17; exact calls_over (same5_any r.l s.l r.a s.a r.c s.c HLJ.out true HBJ.out _ (HP.out.up (Over.h _)) (HQ.out.up (Over.h _))))))
     all_goals (try unfold elV limbV)
     repeat (go_big_quiet_step (first | (go_at_call 17; exact calls_over (same5_any r.l s.l r.a s.a r.c s.c HLJ.out true HBJ.out _ (HP.out.up (Over.h _)) (HQ.out.up (Over.h _))))))
     all_goals (try unfold elV limbV)
     repeat (go_big_quiet_step (first | (go_at_call 17; exact calls_over (same5_any r.l s.l r.a s.a r.c s.c HLJ.out true HBJ.out _ (HP.out.up (Over.h _)) (HQ.out.up (Over.h _))))))
     all_goals (try unfold ciphV)
     refine wpQuiet_nil ?_
     rintro _ ⟨E, rfl⟩
     clear hov_b1 hov_b2
     replace HB := hbu HB E.h
     have HZS := Lib.hid E.h.size
     obtain ⟨w1, hq9⟩ : ∃ W9 : World, E.w = W9 := ⟨_, rfl⟩
     rw [hq9] at HB HZS ⊢
     clear hq9 E
     go_wp2_with fail
     go_roundw
     case rel => exact ⟨j + 1, by omega, by go_num, HB, HTS⟩
     case measure => simp [intOf]; omega
   ·have hjn' : j = n := by omega
    subst hjn'
    obtain rfl : b = true := by
     rw [← HBB.out]
     refine decide_eq_true ?_
     have h9 := HT.out
     rwa [List.take_of_length_le (by rw [HLL.out]; exact Nat.le_refl _), List.take_of_length_le (by rw [HLM.out]; exact Nat.le_refl _)] at h9
    go_wp2_with fail
    go_ret
    exact ⟨rfl, HB.out⟩
 ·have hd : ((n : Int) != (m : Int)) = true := by rw [bne_iff_ne]; omega
  obtain rfl : b = false := by rw [← HBB.out]; exact decide_eq_false (fun e => hnm (by rw [← HLL.out, ← HLM.out, e]))
  clear hnm
  go_enter Try.func48, Try.ntmps48
  go_wp2_with fail
  go_ret
  exact ⟨rfl, Below.refl _ _⟩
end Go.Proofs.Ytipgjookfdkciaa
namespace Go.Proofs.Ytipgjookfdkciaa
open Go.ChangeShapes Go.WideShapes Go.ChangeAt Go.RowKit
theorem lengthIf_any (n z m : Nat) (hm : (if z = 0 then n else 0) = m) (w : World) : Calls Try.prog 51 #[.int .i64 (n : Int), .int .i64 (z : Int)] w (Gives (.int .i64 (m : Int)) w) := by
 unfold Gives
 by_cases h : z = 0
 ·subst h
  obtain rfl : n = m := by simpa using hm
  go_enter Try.func51, Try.ntmps51
  go_wp2_with fail
  go_ret
  exact ⟨rfl, Below.refl _ _⟩
 ·have hd : ((z : Int) != 0) = true := by simp; omega
  obtain rfl : m = 0 := by rw [if_neg h] at hm; exact hm.symm
  clear h hm
  go_enter Try.func51, Try.ntmps51
  go_wp2_with fail
  go_ret
  exact ⟨rfl, Below.refl _ _⟩
theorem backK_len (k : Int) (l : List ClaimA) (ch : ByteArray) (xs : List ByteArray) : (if backE k l ch xs = 0 then l.length else 0) = (backK k l ch xs).length := by
 unfold backK
 by_cases h : backE k l ch xs = 0
 ·rw [if_pos h, if_pos h, eachA_len]
 ·rw [if_neg h, if_neg h]; rfl
theorem sigmaSound_any (k : Int) (l : List ClaimA) (al : Option Addr) (cl : Nat) (p q : PrfA) (hp1 : p.l.length ≤ 8796093022206) (hq1 : q.l.length ≤ 8796093022206) (w : World) (hC : ClaimsAt w al l) (hp : p.At w) (hq : q.At w) :
  Calls Try.prog 10 #[.int .i64 k, .slice al l.length cl, p.val, q.val] w fun e w' => e = .returned (.bool true) ∧ Below w.heap.size w w' := by
 have hx' : p.l.length ≤ 8796093022207 := by omega
 have hy' : q.l.length ≤ 8796093022207 := by omega
 have hz' : (exLk k p q).length ≤ 8796093022207 := Nat.le_trans (by
  unfold exLk exL
  split
  ·split
   ·rw [List.length_zipWith]; omega
   ·exact Nat.zero_le _
  ·exact Nat.zero_le _) hx'
 have H1 := Lib.hid (fun w1 (hb : Below w.heap.size w w1) => sHolds_any k l al cl p.l p.aa p.ca hx' w1 (hC.up hb) (hp.s.up hb))
 have H2 := Lib.hid (fun w1 (hb : Below w.heap.size w w1) => rHolds_any k l al cl p.l p.aa p.ca hx' w1 (hC.up hb) (hp.s.up hb))
 have B1 := Lib.hid (fun w1 (hb : Below w.heap.size w w1) => sBack_any k l al cl p.c p.l p.aa p.ca hx' w1 (hC.up hb) (hp.s.up hb))
 have B2 := Lib.hid (fun w1 (hb : Below w.heap.size w w1) => sBack_any k l al cl q.c q.l q.aa q.ca hy' w1 (hC.up hb) (hq.s.up hb))
 have EX := Lib.hid (fun w1 (hb : Below w.heap.size w w1) => ext_any k p q hp1 w1 (hp.up hb) (hq.up hb))
 have HX := Lib.hid (fun ax cx w1 (hb : Below w.heap.size w w1) hS => sHolds_any k l al cl (exLk k p q) ax cx hz' w1 (hC.up hb) hS)
 have SND := Lib.hid (fun h1 h2 he hne => sound_any (k := k) (l := l) (p := p) (q := q) h1 h2 he hne)
 have SB1 := Lib.hid (backK_small k l p.c p.l)
 have SB2 := Lib.hid (backK_small k l q.c q.l)
 have HLI := Lib.hid (backK_len k l p.c p.l)
 rw [rholdK_eq] at H2
 unfold PrfA.val at EX ⊢
 generalize holdK k l p.l = hb at *
 generalize holdK k l (exLk k p q) = hh at *
 generalize backK k l p.c p.l = L1 at *
 generalize backK k l q.c q.l = L2 at *
 generalize backE k l p.c p.l = e1 at *
 generalize backE k l q.c q.l = e2 at *
 generalize exEk k p q = e3 at *
 generalize exLk k p q = LX at *
 generalize l.length = n at *
 obtain ⟨n1, hn1⟩ : ∃ n, p.l.length = n := ⟨_, rfl⟩
 obtain ⟨n2, hn2⟩ : ∃ n, q.l.length = n := ⟨_, rfl⟩
 rw [hn1] at H1 H2 B1 EX ⊢
 rw [hn2] at B2 EX ⊢
 generalize p.aa = pa at *
 generalize p.ca = pc at *
 generalize q.aa = qa at *
 generalize q.ca = qc at *
 generalize p.c = c at *
 generalize q.c = d at *
 unfold RowsE at B1 B2
 obtain ⟨nf, hnf⟩ : ∃ n, L1.length = n := ⟨_, rfl⟩
 obtain ⟨nb, hnb⟩ : ∃ n, L2.length = n := ⟨_, rfl⟩
 obtain ⟨nx, hnx⟩ : ∃ n, LX.length = n := ⟨_, rfl⟩
 rw [hnf] at B1 HLI
 rw [hnb] at B2
 unfold ExtR at EX
 rw [hnx] at EX HX SND
 have HNF := Lib.hid hnf
 have HNB := Lib.hid hnb
 have hnf6 : nf ≤ 64 := by rw [← hnf]; exact SB1.out.1
 have hnb6 : nb ≤ 64 := by rw [← hnb]; exact SB2.out.1
 have SR1 := Lib.hid (fun r hr => Nat.le_trans (SB1.out.2 r hr) (by decide : 8 ≤ 8796093022206))
 clear hC hp hq hp1 hq1 hx' hy' hz' hnf hnb hnx hn1 hn2
 have hd1 : (hb == hb) = true := by simp
 have hd2 : ((nf : Int) == (nf : Int)) = true := by simp
 by_cases z1 : e1 = 0
 case neg =>
  have hd3 : ((e1 : Int) != 0) = true := by simp; omega
  clear z1
  go_enter Try.func10, Try.ntmps10
  go_wp2_with fail
  obtain ⟨w1, hq1, hb9, hz9, Hbp, Hbq⟩ := new2 w 24 [.string c, .slice pa n1 pc] 24 [.string d, .slice qa n2 qc]
  rw [hq1]
  clear hq1
  have HB := Lib.hid hb9
  have HZS := hz9
  clear hb9 hz9
  have bp_ := Hbp.out.c2
  have bq_ := Hbq.out.c2
  go_wp2_with fail
  refine (B1.out _ HB.out).mono ?_
  rintro e w2 ⟨hb9, a1, c1, ro1, rfl, hm1, hr1, _⟩
  clear bp_
  replace Hbp := Lib.hid (Hbp.out.up hb9)
  clear bq_
  replace Hbq := Lib.hid (Hbq.out.up hb9)
  replace HB := hbu HB hb9
  replace HZS := sz HZS hb9.size
  clear hb9
  have bp_ := Hbp.out.c2
  have bq_ := Hbq.out.c2
  go_wp2_with fail
  refine (B2.out _ HB.out).mono ?_
  rintro e w3 ⟨hb9, a2, c2, ro2, rfl, hm2, hr2, _⟩
  clear bp_
  replace Hbp := Lib.hid (Hbp.out.up hb9)
  clear bq_
  replace Hbq := Lib.hid (Hbq.out.up hb9)
  replace HB := hbu HB hb9
  replace HZS := sz HZS hb9.size
  clear hb9
  have bp_ := Hbp.out.c2
  have bq_ := Hbq.out.c2
  clear hm1 hr1 hm2 hr2
  go_wp2_with fail
  have hl_bp := Hbp.out.lt
  have hl_bq := Hbq.out.lt
  refine wp_region_over (by kernel_rfl) (by kernel_rfl) ?_
  have hov_bp := fun (E : Over w3) o => E.cell (b := w.heap.size) o hl_bp
  have hov_bq := fun (E : Over w3) o => E.cell (b := w.heap.size + 1) o hl_bq
  repeat (go_big_quiet_step (first | (go_at_call 45; exact calls_over (H2.out _ (below_up HB.out (Over.h _)))) | (go_at_call 44; exact calls_over (H1.out _ (below_up HB.out (Over.h _)))) | (go_at_call 51; exact calls_over (lengthIf_any n e1 nf HLI.out _))))
  all_goals (try unfold elV limbV)
  repeat (go_big_quiet_step (first | (go_at_call 45; exact calls_over (H2.out _ (below_up HB.out (Over.h _)))) | (go_at_call 44; exact calls_over (H1.out _ (below_up HB.out (Over.h _)))) | (go_at_call 51; exact calls_over (lengthIf_any n e1 nf HLI.out _))))
  all_goals (try unfold elV limbV)
  repeat (go_big_quiet_step (first | (go_at_call 45; exact calls_over (H2.out _ (below_up HB.out (Over.h _)))) | (go_at_call 44; exact calls_over (H1.out _ (below_up HB.out (Over.h _)))) | (go_at_call 51; exact calls_over (lengthIf_any n e1 nf HLI.out _))))
  all_goals (try unfold ciphV)
  refine wpQuiet_nil ?_
  rintro _ ⟨E, rfl⟩
  clear hov_bp hl_bp hov_bq hl_bq bp_
  replace Hbp := Lib.hid (Hbp.out.up E.h)
  clear bq_
  replace Hbq := Lib.hid (Hbq.out.up E.h)
  replace HB := hbu HB E.h
  replace HZS := sz HZS E.h.size
  obtain ⟨w4, hq9⟩ : ∃ W9 : World, E.w = W9 := ⟨_, rfl⟩
  rw [hq9] at Hbp Hbq HB HZS ⊢
  clear hq9 E
  have bp_ := Hbp.out.c2
  have bq_ := Hbq.out.c2
  go_wp2_with fail
  go_ret
  exact ⟨rfl, HB.out⟩
 subst z1
 by_cases z2 : e2 = 0
 case neg =>
  have hd3 : ((e2 : Int) != 0) = true := by simp; omega
  clear z2
  go_enter Try.func10, Try.ntmps10
  go_wp2_with fail
  obtain ⟨w1, hq1, hb9, hz9, Hbp, Hbq⟩ := new2 w 24 [.string c, .slice pa n1 pc] 24 [.string d, .slice qa n2 qc]
  rw [hq1]
  clear hq1
  have HB := Lib.hid hb9
  have HZS := hz9
  clear hb9 hz9
  have bp_ := Hbp.out.c2
  have bq_ := Hbq.out.c2
  go_wp2_with fail
  refine (B1.out _ HB.out).mono ?_
  rintro e w2 ⟨hb9, a1, c1, ro1, rfl, hm1, hr1, _⟩
  clear bp_
  replace Hbp := Lib.hid (Hbp.out.up hb9)
  clear bq_
  replace Hbq := Lib.hid (Hbq.out.up hb9)
  replace HB := hbu HB hb9
  replace HZS := sz HZS hb9.size
  clear hb9
  have bp_ := Hbp.out.c2
  have bq_ := Hbq.out.c2
  go_wp2_with fail
  refine (B2.out _ HB.out).mono ?_
  rintro e w3 ⟨hb9, a2, c2, ro2, rfl, hm2, hr2, _⟩
  clear bp_
  replace Hbp := Lib.hid (Hbp.out.up hb9)
  clear bq_
  replace Hbq := Lib.hid (Hbq.out.up hb9)
  replace HB := hbu HB hb9
  replace HZS := sz HZS hb9.size
  clear hb9
  have bp_ := Hbp.out.c2
  have bq_ := Hbq.out.c2
  clear hm1 hr1 hm2 hr2
  go_wp2_with fail
  have hl_bp := Hbp.out.lt
  have hl_bq := Hbq.out.lt
  refine wp_region_over (by kernel_rfl) (by kernel_rfl) ?_
  have hov_bp := fun (E : Over w3) o => E.cell (b := w.heap.size) o hl_bp
  have hov_bq := fun (E : Over w3) o => E.cell (b := w.heap.size + 1) o hl_bq
  repeat (go_big_quiet_step (first | (go_at_call 45; exact calls_over (H2.out _ (below_up HB.out (Over.h _)))) | (go_at_call 44; exact calls_over (H1.out _ (below_up HB.out (Over.h _)))) | (go_at_call 51; exact calls_over (lengthIf_any n 0 nf HLI.out _))))
  all_goals (try unfold elV limbV)
  repeat (go_big_quiet_step (first | (go_at_call 45; exact calls_over (H2.out _ (below_up HB.out (Over.h _)))) | (go_at_call 44; exact calls_over (H1.out _ (below_up HB.out (Over.h _)))) | (go_at_call 51; exact calls_over (lengthIf_any n 0 nf HLI.out _))))
  all_goals (try unfold elV limbV)
  repeat (go_big_quiet_step (first | (go_at_call 45; exact calls_over (H2.out _ (below_up HB.out (Over.h _)))) | (go_at_call 44; exact calls_over (H1.out _ (below_up HB.out (Over.h _)))) | (go_at_call 51; exact calls_over (lengthIf_any n 0 nf HLI.out _))))
  all_goals (try unfold ciphV)
  refine wpQuiet_nil ?_
  rintro _ ⟨E, rfl⟩
  clear hov_bp hl_bp hov_bq hl_bq bp_
  replace Hbp := Lib.hid (Hbp.out.up E.h)
  clear bq_
  replace Hbq := Lib.hid (Hbq.out.up E.h)
  replace HB := hbu HB E.h
  replace HZS := sz HZS E.h.size
  obtain ⟨w4, hq9⟩ : ∃ W9 : World, E.w = W9 := ⟨_, rfl⟩
  rw [hq9] at Hbp Hbq HB HZS ⊢
  clear hq9 E
  have bp_ := Hbp.out.c2
  have bq_ := Hbq.out.c2
  go_wp2_with fail
  go_ret
  exact ⟨rfl, HB.out⟩
 subst z2
 obtain ⟨bs, hbs⟩ : ∃ b, decide (L1 = L2) = b := ⟨_, rfl⟩
 have HBS := Lib.hid hbs
 clear hbs
 cases bs
 case false =>
  go_enter Try.func10, Try.ntmps10
  go_wp2_with fail
  obtain ⟨w1, hq1, hb9, hz9, Hbp, Hbq⟩ := new2 w 24 [.string c, .slice pa n1 pc] 24 [.string d, .slice qa n2 qc]
  rw [hq1]
  clear hq1
  have HB := Lib.hid hb9
  have HZS := hz9
  clear hb9 hz9
  have bp_ := Hbp.out.c2
  have bq_ := Hbq.out.c2
  go_wp2_with fail
  refine (B1.out _ HB.out).mono ?_
  rintro e w2 ⟨hb9, a1, c1, ro1, rfl, hm1, hr1, _⟩
  clear bp_
  replace Hbp := Lib.hid (Hbp.out.up hb9)
  clear bq_
  replace Hbq := Lib.hid (Hbq.out.up hb9)
  replace HB := hbu HB hb9
  replace HZS := sz HZS hb9.size
  have HM1 := Lib.hid hm1
  clear hm1
  have HR1 := Lib.hid hr1
  clear hr1 hb9
  have bp_ := Hbp.out.c2
  have bq_ := Hbq.out.c2
  have BF := Lib.hid (Below.refl w2.heap.size w2)
  go_wp2_with fail
  refine (B2.out _ HB.out).mono ?_
  rintro e w3 ⟨hb9, a2, c2, ro2, rfl, hm2, hr2, _⟩
  clear bp_
  replace Hbp := Lib.hid (Hbp.out.up hb9)
  clear bq_
  replace Hbq := Lib.hid (Hbq.out.up hb9)
  replace BF := hbu BF hb9
  replace HB := hbu HB hb9
  replace HZS := sz HZS hb9.size
  have HM2 := Lib.hid hm2
  clear hm2
  have HR2 := Lib.hid hr2
  clear hr2 hb9
  have bp_ := Hbp.out.c2
  have bq_ := Hbq.out.c2
  go_wp2_with fail
  refine (sameLists5_any L1 L2 nf nb HNF.out HNB.out (by omega) SR1.out ro1 ro2 HM1.out HM2.out false HBS.out a1 a2 c1 c2 w3 (HR1.out.up BF.out) HR2.out).mono ?_
  rintro e w4 ⟨rfl, hb9⟩
  clear bp_
  replace Hbp := Lib.hid (Hbp.out.up hb9)
  clear bq_
  replace Hbq := Lib.hid (Hbq.out.up hb9)
  replace BF := hbu BF hb9
  replace HB := hbu HB hb9
  replace HZS := sz HZS hb9.size
  clear hb9
  have bp_ := Hbp.out.c2
  have bq_ := Hbq.out.c2
  go_wp2_with fail
  have hl_bp := Hbp.out.lt
  have hl_bq := Hbq.out.lt
  refine wp_region_over (by kernel_rfl) (by kernel_rfl) ?_
  have hov_bp := fun (E : Over w4) o => E.cell (b := w.heap.size) o hl_bp
  have hov_bq := fun (E : Over w4) o => E.cell (b := w.heap.size + 1) o hl_bq
  repeat (go_big_quiet_step (first | (go_at_call 45; exact calls_over (H2.out _ (below_up HB.out (Over.h _)))) | (go_at_call 44; exact calls_over (H1.out _ (below_up HB.out (Over.h _)))) | (go_at_call 51; exact calls_over (lengthIf_any n 0 nf HLI.out _))))
  all_goals (try unfold elV limbV)
  repeat (go_big_quiet_step (first | (go_at_call 45; exact calls_over (H2.out _ (below_up HB.out (Over.h _)))) | (go_at_call 44; exact calls_over (H1.out _ (below_up HB.out (Over.h _)))) | (go_at_call 51; exact calls_over (lengthIf_any n 0 nf HLI.out _))))
  all_goals (try unfold elV limbV)
  repeat (go_big_quiet_step (first | (go_at_call 45; exact calls_over (H2.out _ (below_up HB.out (Over.h _)))) | (go_at_call 44; exact calls_over (H1.out _ (below_up HB.out (Over.h _)))) | (go_at_call 51; exact calls_over (lengthIf_any n 0 nf HLI.out _))))
  all_goals (try unfold ciphV)
  refine wpQuiet_nil ?_
  rintro _ ⟨E, rfl⟩
  clear hov_bp hl_bp hov_bq hl_bq bp_
  replace Hbp := Lib.hid (Hbp.out.up E.h)
  clear bq_
  replace Hbq := Lib.hid (Hbq.out.up E.h)
  replace BF := hbu BF E.h
  replace HB := hbu HB E.h
  replace HZS := sz HZS E.h.size
  obtain ⟨w5, hq9⟩ : ∃ W9 : World, E.w = W9 := ⟨_, rfl⟩
  rw [hq9] at Hbp Hbq BF HB HZS ⊢
  clear hq9 E
  have bp_ := Hbp.out.c2
  have bq_ := Hbq.out.c2
  go_wp2_with fail
  go_ret
  exact ⟨rfl, HB.out⟩
 by_cases hcd : c = d
 ·subst hcd
  have hce : (c.toList == c.toList) = true := by simp
  clear SND
  go_enter Try.func10, Try.ntmps10
  go_wp2_with fail
  obtain ⟨w1, hq1, hb9, hz9, Hbp, Hbq⟩ := new2 w 24 [.string c, .slice pa n1 pc] 24 [.string c, .slice qa n2 qc]
  rw [hq1]
  clear hq1
  have HB := Lib.hid hb9
  have HZS := hz9
  clear hb9 hz9
  have bp_ := Hbp.out.c2
  have bq_ := Hbq.out.c2
  go_wp2_with fail
  refine (B1.out _ HB.out).mono ?_
  rintro e w2 ⟨hb9, a1, c1, ro1, rfl, hm1, hr1, _⟩
  clear bp_
  replace Hbp := Lib.hid (Hbp.out.up hb9)
  clear bq_
  replace Hbq := Lib.hid (Hbq.out.up hb9)
  replace HB := hbu HB hb9
  replace HZS := sz HZS hb9.size
  have HM1 := Lib.hid hm1
  clear hm1
  have HR1 := Lib.hid hr1
  clear hr1 hb9
  have bp_ := Hbp.out.c2
  have bq_ := Hbq.out.c2
  have BF := Lib.hid (Below.refl w2.heap.size w2)
  go_wp2_with fail
  refine (B2.out _ HB.out).mono ?_
  rintro e w3 ⟨hb9, a2, c2, ro2, rfl, hm2, hr2, _⟩
  clear bp_
  replace Hbp := Lib.hid (Hbp.out.up hb9)
  clear bq_
  replace Hbq := Lib.hid (Hbq.out.up hb9)
  replace BF := hbu BF hb9
  replace HB := hbu HB hb9
  replace HZS := sz HZS hb9.size
  have HM2 := Lib.hid hm2
  clear hm2
  have HR2 := Lib.hid hr2
  clear hr2 hb9
  have bp_ := Hbp.out.c2
  have bq_ := Hbq.out.c2
  go_wp2_with fail
  refine (sameLists5_any L1 L2 nf nb HNF.out HNB.out (by omega) SR1.out ro1 ro2 HM1.out HM2.out true HBS.out a1 a2 c1 c2 w3 (HR1.out.up BF.out) HR2.out).mono ?_
  rintro e w4 ⟨rfl, hb9⟩
  clear bp_
  replace Hbp := Lib.hid (Hbp.out.up hb9)
  clear bq_
  replace Hbq := Lib.hid (Hbq.out.up hb9)
  replace BF := hbu BF hb9
  replace HB := hbu HB hb9
  replace HZS := sz HZS hb9.size
  clear hb9
  have bp_ := Hbp.out.c2
  have bq_ := Hbq.out.c2
  go_wp2_with fail
  have hl_bp := Hbp.out.lt
  have hl_bq := Hbq.out.lt
  refine wp_region_over (by kernel_rfl) (by kernel_rfl) ?_
  have hov_bp := fun (E : Over w4) o => E.cell (b := w.heap.size) o hl_bp
  have hov_bq := fun (E : Over w4) o => E.cell (b := w.heap.size + 1) o hl_bq
  repeat (go_big_quiet_step (first | (go_at_call 45; exact calls_over (H2.out _ (below_up HB.out (Over.h _)))) | (go_at_call 44; exact calls_over (H1.out _ (below_up HB.out (Over.h _)))) | (go_at_call 51; exact calls_over (lengthIf_any n 0 nf HLI.out _))))
  all_goals (try unfold elV limbV)
  repeat (go_big_quiet_step (first | (go_at_call 45; exact calls_over (H2.out _ (below_up HB.out (Over.h _)))) | (go_at_call 44; exact calls_over (H1.out _ (below_up HB.out (Over.h _)))) | (go_at_call 51; exact calls_over (lengthIf_any n 0 nf HLI.out _))))
  all_goals (try unfold elV limbV)
  repeat (go_big_quiet_step (first | (go_at_call 45; exact calls_over (H2.out _ (below_up HB.out (Over.h _)))) | (go_at_call 44; exact calls_over (H1.out _ (below_up HB.out (Over.h _)))) | (go_at_call 51; exact calls_over (lengthIf_any n 0 nf HLI.out _))))
  all_goals (try unfold ciphV)
  refine wpQuiet_nil ?_
  rintro _ ⟨E, rfl⟩
  clear hov_bp hl_bp hov_bq hl_bq bp_
  replace Hbp := Lib.hid (Hbp.out.up E.h)
  clear bq_
  replace Hbq := Lib.hid (Hbq.out.up E.h)
  replace BF := hbu BF E.h
  replace HB := hbu HB E.h
  replace HZS := sz HZS E.h.size
  obtain ⟨w5, hq9⟩ : ∃ W9 : World, E.w = W9 := ⟨_, rfl⟩
  rw [hq9] at Hbp Hbq BF HB HZS ⊢
  clear hq9 E
  have bp_ := Hbp.out.c2
  have bq_ := Hbq.out.c2
  go_wp2_with fail
  go_ret
  exact ⟨rfl, HB.out⟩
 ·have hce := toList_bne hcd
  obtain ⟨rfl, hxn, rfl⟩ := SND.out rfl rfl (of_decide_eq_true HBS.out) hcd
  clear hcd hxn
  go_enter Try.func10, Try.ntmps10
  go_wp2_with fail
  obtain ⟨w1, hq1, hb9, hz9, Hbp, Hbq⟩ := new2 w 24 [.string c, .slice pa n1 pc] 24 [.string d, .slice qa n2 qc]
  rw [hq1]
  clear hq1
  have HB := Lib.hid hb9
  have HZS := hz9
  clear hb9 hz9
  have bp_ := Hbp.out.c2
  have bq_ := Hbq.out.c2
  go_wp2_with fail
  refine (B1.out _ HB.out).mono ?_
  rintro e w2 ⟨hb9, a1, c1, ro1, rfl, hm1, hr1, _⟩
  clear bp_
  replace Hbp := Lib.hid (Hbp.out.up hb9)
  clear bq_
  replace Hbq := Lib.hid (Hbq.out.up hb9)
  replace HB := hbu HB hb9
  replace HZS := sz HZS hb9.size
  have HM1 := Lib.hid hm1
  clear hm1
  have HR1 := Lib.hid hr1
  clear hr1 hb9
  have bp_ := Hbp.out.c2
  have bq_ := Hbq.out.c2
  have BF := Lib.hid (Below.refl w2.heap.size w2)
  go_wp2_with fail
  refine (B2.out _ HB.out).mono ?_
  rintro e w3 ⟨hb9, a2, c2, ro2, rfl, hm2, hr2, _⟩
  clear bp_
  replace Hbp := Lib.hid (Hbp.out.up hb9)
  clear bq_
  replace Hbq := Lib.hid (Hbq.out.up hb9)
  replace BF := hbu BF hb9
  replace HB := hbu HB hb9
  replace HZS := sz HZS hb9.size
  have HM2 := Lib.hid hm2
  clear hm2
  have HR2 := Lib.hid hr2
  clear hr2 hb9
  have bp_ := Hbp.out.c2
  have bq_ := Hbq.out.c2
  go_wp2_with fail
  refine (sameLists5_any L1 L2 nf nb HNF.out HNB.out (by omega) SR1.out ro1 ro2 HM1.out HM2.out true HBS.out a1 a2 c1 c2 w3 (HR1.out.up BF.out) HR2.out).mono ?_
  rintro e w4 ⟨rfl, hb9⟩
  clear bp_
  replace Hbp := Lib.hid (Hbp.out.up hb9)
  clear bq_
  replace Hbq := Lib.hid (Hbq.out.up hb9)
  replace BF := hbu BF hb9
  replace HB := hbu HB hb9
  replace HZS := sz HZS hb9.size
  clear hb9
  have bp_ := Hbp.out.c2
  have bq_ := Hbq.out.c2
  go_wp2_with fail
  refine (EX.out _ HB.out).mono ?_
  rintro e w5 ⟨hb9, a3, c3, rfl, hs3, _, _⟩
  clear bp_
  replace Hbp := Lib.hid (Hbp.out.up hb9)
  clear bq_
  replace Hbq := Lib.hid (Hbq.out.up hb9)
  replace BF := hbu BF hb9
  replace HB := hbu HB hb9
  replace HZS := sz HZS hb9.size
  have HS3 := Lib.hid hs3
  clear hs3 hb9
  have bp_ := Hbp.out.c2
  have bq_ := Hbq.out.c2
  go_wp2_with fail
  refine (HX.out a3 c3 _ HB.out HS3.out).mono ?_
  rintro e w6 ⟨rfl, hb9⟩
  clear bp_
  replace Hbp := Lib.hid (Hbp.out.up hb9)
  clear bq_
  replace Hbq := Lib.hid (Hbq.out.up hb9)
  replace BF := hbu BF hb9
  replace HB := hbu HB hb9
  replace HZS := sz HZS hb9.size
  clear hb9
  have bp_ := Hbp.out.c2
  have bq_ := Hbq.out.c2
  go_wp2_with fail
  go_ret
  exact ⟨rfl, HB.out⟩
theorem sigmaSound_calls {H : Type} (enc : TypeId × Value → H) (W : World) (base : Nat) {v0 v1 v2 v3 : Value} {d0 d1 d2 d3 : DataW H} {p0 p1 p2 p3 : List MemPlace}
  (h0 : DataW.Trod enc Try.prog W 0 (fun _ => true) true 3 v0 d0 p0) (h1 : DataW.Trod enc Try.prog W 0 (fun _ => true) true 58 v1 d1 p1) (h2 : DataW.Trod enc Try.prog W 0 (fun _ => true) true 24 v2 d2 p2) (h3 : DataW.Trod enc Try.prog W 0 (fun _ => true) true 24 v3 d3 p3)
  (k0 : Value.okWide Try.prog W .any base 3 v0) (k1 : Value.okWide Try.prog W .any base 58 v1) (k2 : Value.okWide Try.prog W .any base 24 v2) (k3 : Value.okWide Try.prog W .any base 24 v3)
  (_lt0 : ∀ x ∈ p0, x.block < W.heap.size) (_lt1 : ∀ x ∈ p1, x.block < W.heap.size) (_lt2 : ∀ x ∈ p2, x.block < W.heap.size) (_lt3 : ∀ x ∈ p3, x.block < W.heap.size)
  (hsz : (DataW.weightsEach Try.prog ([3, 58, 24, 24] ++ Rows.sigmaSoundSpec.plain.varTypes Try.prog) ([d0, d1, d2, d3] ++ [])).all (· ≤ reachBytes) = true) :
  Calls Try.prog 10 #[v0, v1, v2, v3] W fun e w' => e = .returned (.bool true) ∧ Below W.heap.size W w' := by
 obtain ⟨k, rfl, _, _, _⟩ := open_int Try.underlying3 k0 h0
 obtain ⟨b1, n1, m1, rfl⟩ := okWide_slice Try.underlying58 k1
 obtain ⟨c2, rfl, _⟩ := okWide_struct Try.underlying24 k2
 obtain ⟨c3, rfl, _⟩ := okWide_struct Try.underlying24 k3
 obtain ⟨f1, h1⟩ := h1
 obtain ⟨f2, h2⟩ := h2
 obtain ⟨f3, h3⟩ := h3
 obtain ⟨al, cl, l, e1, hC⟩ := open_claims f1 _ _ (Wt.arg hsz (j := 1) rfl rfl) h1
 obtain ⟨p, hp, hpa, hpl⟩ := open_prf f2 _ _ (Wt.arg hsz (j := 2) rfl rfl) h2
 obtain ⟨q, hq, hqa, hql⟩ := open_prf f3 _ _ (Wt.arg hsz (j := 3) rfl rfl) h3
 rw [e1, agg_of (show c2.toList = _ from hp), agg_of (show c3.toList = _ from hq)]
 exact sigmaSound_any k l al cl p q hpl hql W hC hpa hqa
theorem sigmaSound_lifted (os : Os) (started : os.Started) (H : Type) (enc : TypeId × Value → H) :
  ReturnsInHanded {} Try.checked os 10 .any (Rows.sigmaSoundSpec.pre6 enc Try.prog Try.f10 Rows.sigmaSoundRow.domain false) (Rows.sigmaSoundSpec.post enc Try.prog Try.f10 false true false false) := by
 refine returnsInHanded_of_change_sized (C := Try.checked) law_own started (by kernel_rfl) Try.func10
  (ChangeSpec.witness6 (enc := enc) (C := Try.checked) false ⟨#[], #[.int .i64 0, .slice none 0 0, .agg #[.string ⟨#[]⟩, .slice none 0 0], .agg #[.string ⟨#[]⟩, .slice none 0 0]], []⟩ 8 (by kernel_rfl) (by kernel_rfl) (by kernel_rfl) (by kernel_rfl)) ?_
 intro W base args ds gs before hval0 hW _ hsz0 _
 have hsz : (DataW.weightsEach Try.prog (Try.f10.params.toList ++ Rows.sigmaSoundSpec.plain.varTypes Try.prog) (ds ++ gs)).all (· ≤ reachBytes) = true := hsz0
 clear hsz0
 have hval : ∀ (j : Nat) t v, Try.f10.params[j]? = some t → args[j]? = some v → Value.okWide Try.prog W .any base t v := hval0
 have hW' := hW
 obtain ⟨p, q, hA0, hV, rfl, _, _⟩ := hW
 have hA : DataW.TrodAll enc Try.prog W 0 (fun _ => true) true Try.f10.params.toList args.toList ds p := hA0
 rw [Try.params10] at hA hval hsz
 obtain ⟨v0, vs0, d0, ds0, p0, q0, hargs, rfl, rfl, h0, r0⟩ := trodAll_cons hA
 obtain ⟨v1, vs1, d1, ds1, p1, q1, rfl, rfl, rfl, h1, r1⟩ := trodAll_cons r0
 obtain ⟨v2, vs2, d2, ds2, p2, q2, rfl, rfl, rfl, h2, r2⟩ := trodAll_cons r1
 obtain ⟨v3, vs3, d3, ds3, p3, q3, rfl, rfl, rfl, h3, r3⟩ := trodAll_cons r2
 obtain ⟨rfl, rfl, rfl⟩ := trodAll_nil r3
 obtain rfl : args = #[v0, v1, v2, v3] := by cases args; simp_all
 obtain ⟨rfl, rfl⟩ := trodVars_none hV
 have lt0 : ∀ x ∈ p0, x.block < W.heap.size := by obtain ⟨m, hm⟩ := h0; exact DataW.trod_lt m _ _ _ hm
 have lt1 : ∀ x ∈ p1, x.block < W.heap.size := by obtain ⟨m, hm⟩ := h1; exact DataW.trod_lt m _ _ _ hm
 have lt2 : ∀ x ∈ p2, x.block < W.heap.size := by obtain ⟨m, hm⟩ := h2; exact DataW.trod_lt m _ _ _ hm
 have lt3 : ∀ x ∈ p3, x.block < W.heap.size := by obtain ⟨m, hm⟩ := h3; exact DataW.trod_lt m _ _ _ hm
 clear hA0 hval0
 refine (sigmaSound_calls enc W base h0 h1 h2 h3 (hval 0 3 v0 rfl rfl) (hval 1 58 v1 rfl rfl) (hval 2 24 v2 rfl rfl) (hval 3 24 v3 rfl rfl) lt0 lt1 lt2 lt3 hsz).mono fun e W' ⟨he, bel⟩ => ?_
 subst he
 exact ⟨_, rfl, _, _, _, [], _, [], hW', trodAll_mk1 (shut_bool Try.underlying4 _), (trodAll_cons_mk (Below.trod law_laidOut (by kernel_rfl) (of_decide_eq_true (by kernel_rfl)) h0 bel lt0) (trodAll_cons_mk (Below.trod law_laidOut (by kernel_rfl) (of_decide_eq_true (by kernel_rfl)) h1 bel lt1) (trodAll_cons_mk (Below.trod law_laidOut (by kernel_rfl) (of_decide_eq_true (by kernel_rfl)) h2 bel lt2) (trodAll_cons_mk (Below.trod law_laidOut (by kernel_rfl) (of_decide_eq_true (by kernel_rfl)) h3 bel lt3) trodAll_mk0)))), rfl, bel.frame _, fun h => by cases h⟩
theorem sigmaSound_holds : Rows.SigmaSoundSaid :=
 OpenClaim.holds_of_wide 10 Try.f10 rfl rfl rfl rfl rfl rfl rfl ⟨rfl, rfl, rfl, rfl, rfl⟩ rfl rfl rfl rfl rfl (by kernel_rfl) Try.func10 (by kernel_rfl)
  (of_decide_eq_true (by kernel_rfl)) (by unfold Func.isWrapper; first | (rw [if_pos (by decide +kernel)]; kernel_rfl) | (rw [if_neg (by decide +kernel)]; exact ⟨rfl, rfl⟩))
  (fun os started H enc _ => sigmaSound_lifted os started H enc)
#print axioms sigmaSound_holds
end Go.Proofs.Ytipgjookfdkciaa
