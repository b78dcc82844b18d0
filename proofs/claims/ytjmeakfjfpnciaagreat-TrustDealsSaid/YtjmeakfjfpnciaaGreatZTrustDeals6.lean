/- TrustDeals: Deal, Seen and Fits of anything answer what the document says. No condition. -/
import Derived.Test.YtjmeakfjfpnciaaGreatZTrustDeals5
import Derived.ChangeMaps

set_option maxRecDepth 100000
set_option maxHeartbeats 4000000
set_option linter.unusedVariables false
set_option linter.unusedSimpArgs false
namespace Go.Proofs.YtjmeakfjfpnciaaGreat
open Go.RowKit
end Go.Proofs.YtjmeakfjfpnciaaGreat
namespace Go.Proofs.YtjmeakfjfpnciaaGreat
open Go.RowKit
end Go.Proofs.YtjmeakfjfpnciaaGreat
namespace Go.Proofs.YtjmeakfjfpnciaaGreat
open Go.RowKit
end Go.Proofs.YtjmeakfjfpnciaaGreat
namespace Go.Proofs.YtjmeakfjfpnciaaGreat
open Go.RowKit
end Go.Proofs.YtjmeakfjfpnciaaGreat
namespace Go.Proofs.YtjmeakfjfpnciaaGreat
open Go.RowKit
section
variable {G : GP} {aq ap : Option Addr} {cq cp : Nat}
theorem rRaise (ok : G.Ok) {n : Nat} {an : Option Addr} {cn : Nat} (hn : dl n ≤ 65536) (w : World) (hG : RG w G aq ap) (hN : NumAt w an n) :
  Calls Tryz.prog 57 #[.agg #[.int .i64 (G.size : Int), .slice aq (dl G.q.m) cq, .slice ap (dl G.p.m) cp], .slice an (dl n) cn] w fun e w' => NumR w e w' (lowN G (2 ^ n)) := by
 have OK := Lib.hid ok
 have HG := Lib.hid hG
 have HN := Lib.hid hN
 clear ok hG hN
 go_enter Tryz.func57, Tryz.ntmps57
 go_wp2_with fail
 obtain ⟨w1, hq1, hb9, hz9, Hbg⟩ := new1 w 97 [.int .i64 (G.size : Int), .slice aq (dl G.q.m) cq, .slice ap (dl G.p.m) cp]
 rw [hq1]
 clear hq1
 have HB := Lib.hid hb9
 have HZS := hz9
 clear hb9 hz9
 have bg_ := Hbg.out.c3
 go_wp2_with fail
 have HT := Lib.hid (show Below w1.heap.size w1 w1.drew from (Below.refl _ _).drew)
 have hl_bg := Hbg.out.lt
 refine wp_region_tree (fun wq9 => ∃ E : Over w1, wq9 = E.w) ((.qs [0, 2] (.a 1 (.a 3 (.qs [4] .done))))) (by kernel_rfl) (by kernel_rfl) (fun _ _ d _ _ h => by cases d <;> exact h) ⟨⟨_, HT.out⟩, rfl⟩ ?_
 have hov_bg := fun (E : Over w1) o => E.cell (b := w.heap.size) o hl_bg
 simp only [Tree.qs]
 repeat (refine tree_q rfl rfl ?_; go_big_quiet_step (fail); refine wpQuiet_nil ?_)
 refine tree_a rfl (fun K hK => ?_)
 go_simp
 refine (refOf_any 2 (by omega) _).mono ?_
 rintro e w2 ⟨a4, c4, rfl, hn9, hb9⟩
 replace HT := Lib.hid (below_up HT.out hb9)
 replace HZS := sz HZS (show w1.heap.size ≤ w2.heap.size from HT.out.size)
 clear hb9
 have HN4 := Lib.hid hn9
 clear hn9
 refine hK _ _ ⟨⟨⟨w2, HT.out⟩, rfl⟩, ?_⟩
 clear hK K
 repeat (refine tree_q rfl rfl ?_; go_big_quiet_step (fail); refine wpQuiet_nil ?_)
 refine tree_a rfl (fun K hK => ?_)
 go_simp
 refine (rPow OK.out (by decide) hn _ (HG.out.up (below_up HB.out HT.out)) HN4.out (HN.out.up (below_up HB.out HT.out))).mono ?_
 rintro e w3 ⟨a5, c5, rfl, hn9, hb9⟩
 replace HN4 := Lib.hid (HN4.out.up hb9)
 replace HT := Lib.hid (below_up HT.out hb9)
 replace HZS := sz HZS (show w1.heap.size ≤ w3.heap.size from HT.out.size)
 clear hb9
 have HN5 := Lib.hid hn9
 clear hn9
 refine hK _ _ ⟨⟨⟨w3, HT.out⟩, rfl⟩, ?_⟩
 clear hK K
 repeat (refine tree_q rfl rfl ?_; go_big_quiet_step (fail); refine wpQuiet_nil ?_)
 refine tree_end ?_
 clear hov_bg hl_bg bg_
 replace Hbg := Lib.hid (Hbg.out.up HT.out)
 replace HB := hbu HB HT.out
 replace HZS := sz HZS HT.out.size
 clear HT
 have bg_ := Hbg.out.c3
 go_wp2_with fail
 go_ret
 exact ⟨a5, c5, rfl, HN5.out, HB.out⟩
end
end Go.Proofs.YtjmeakfjfpnciaaGreat
namespace Go.Proofs.YtjmeakfjfpnciaaGreat
open Go.RowKit
def DealD (C S : List ByteArray) (w : World) (e : Ending) (w' : World) : Prop :=
 Below w.heap.size w w' ∧ ∃ a c a2 c2, e = .returned (.agg #[.slice a C.length c, .slice a2 S.length c2]) ∧ Sl w' w'.heap.size a (C.map Value.string) ∧ Sl w' w'.heap.size a2 (S.map Value.string) ∧ (∀ y, a = some y → w.heap.size ≤ y.block) ∧ (∀ y, a2 = some y → w.heap.size ≤ y.block)
section
variable {G : GP} {aq ap : Option Addr} {cq cp : Nat}
theorem rDealt_any (ok : G.Ok) (n m : Nat) (hn8 : n ≤ 8) (hm8 : m ≤ 8) (seed : ByteArray) (hs : seed.size < 140737488355328) (w : World) (hG : RG w G aq ap) :
  Calls Tryz.prog 49 #[.agg #[.int .i64 (G.size : Int), .slice aq (dl G.q.m) cq, .slice ap (dl G.p.m) cp], .int .i64 (n : Int), .int .i64 (m : Int), .string seed] w (DealD (cmtL G (chcN coefB seed) n) (shrL G (chcN coefB seed) n m) w) := by
 have OK := Lib.hid ok
 have HRG := Lib.hid hG
 have HC := Lib.hid (fun i (hi : i < 9223372036854775808) w h => rChance_any (aq := aq) (ap := ap) (cq := cq) (cp := cp) ok seed coefB i hi hs (by decide) w h)
 have HSH := Lib.hid (fun x (hx : x ≤ 255) w h => rshare_any (aq := aq) (ap := ap) (cq := cq) (cp := cp) ok n hn8 seed hs x hx w h)
 generalize chcN coefB seed = f at *
 clear ok hG hs
 go_enter Tryz.func49, Tryz.ntmps49
 go_upto_region 1 with fail
 obtain ⟨w1, hq1, hb9, hz9, Hbg, Hrb⟩ := new2 w 97 [.int .i64 (G.size : Int), .slice aq (dl G.q.m) cq, .slice ap (dl G.p.m) cp] 24 ([.slice none 0 0, .slice none 0 0])
 rw [hq1]
 clear hq1
 have HB := Lib.hid hb9
 have HZS := hz9
 clear hb9 hz9
 have bg_ := Hbg.out.c3
 have o2_bg_ := bg_; clear bg_
 obtain ⟨w2, hq2, hb9, hz9, Hd⟩ := new1 w1 24 ([.slice none 0 0, .slice none 0 0])
 replace Hbg := Lib.hid (Hbg.out.up hb9)
 replace Hrb := Lib.hid (Hrb.out.up hb9)
 replace HB := hbu HB hb9
 replace HZS := sz HZS hz9.out
 clear hb9 hz9
 have bg_ := Hbg.out.c3
 go_wp2_with fail
 clear hq2 o2_bg_
 have HDS := Lib.hid (show w.heap.size < w1.heap.size ∧ w.heap.size + 1 < w1.heap.size ∧ w.heap.size < w.heap.size + 1 ∧ w1.heap.size < w2.heap.size from ⟨by have := HZS.out; omega, by have := HZS.out; omega, by have := HZS.out; omega, by have := HZS.out; omega⟩)
 obtain ⟨D, hD⟩ : ∃ q, w1.heap.size = q := ⟨_, rfl⟩
 obtain ⟨RB, hRB⟩ : ∃ q, w.heap.size + 1 = q := ⟨_, rfl⟩
 rw [hD, hRB] at HDS
 clear HZS
 rw [hD] at Hd ⊢
 rw [hRB] at Hrb ⊢
 clear hD hRB
 have HB0 := HB
 have Hbg0 := Hbg
 go_loopw [10] (fun i wr => ∃ (j : Nat) (g : Option Addr) (c9 : Nat), j ≤ n ∧ i = .int .i64 j ∧ Hid (Kept (fun q9 => q9 = D) w2 wr) ∧ Hid (Bx wr D 24 [.slice g j c9, .slice none 0 0]) ∧ Hid (RowO w2.heap.size wr 9 1 (.slice g j c9) j ((cmtL G f j).map Value.string))) (fun i _ => n - (intOf i).toNat)
 case atStart => exact ⟨0, none, 0, Nat.zero_le _, rfl, Kept.refl _ _, Hd, RowO.nil⟩
 case round =>
  clear HB Hbg Hd
  obtain ⟨j, g, c9, hj, rfl, HK, Hd, Hr⟩ := hrel
  have HSZ := Lib.hid (show w.heap.size < D ∧ RB < D ∧ w.heap.size < RB ∧ D < w2.heap.size ∧ w2.heap.size ≤ wr.heap.size from ⟨HDS.out.1, HDS.out.2.1, HDS.out.2.2.1, HDS.out.2.2.2, HK.out.size⟩)
  have HB := Lib.hid (Below.keptP HB0.out HK.out (by have := HSZ.out; omega) (fun q9 h9 => (show w.heap.size ≤ _ by subst h9; have := HSZ.out; omega)))
  have Hbg := Lib.hid (Bx.keptP Hbg0.out HK.out (show ¬ (w.heap.size = D) by have := HSZ.out; omega))
  by_cases hjn : j < n
  ·have HCJ := Lib.hid (fun w h => HC.out j (by omega) w h)
   have HF16 := Lib.hid (Nat.mod_lt (f j) OK.out.q.pos)
   have HSN := Lib.hid (cmtL_snoc G f j)
   generalize f j % G.q.m = fj at *
   have HZS := HSZ
   replace HZS := sz HZS HSZ.out
   have bg_ := Hbg.out.c3
   have d_ := Hd.out.c2
   go_wp2_with fail
   have HT := Lib.hid (show Below wr.heap.size wr wr.drew from (Below.refl _ _).drew)
   have hl_bg := Hbg.out.lt
   have hl_d := Hd.out.lt
   refine wp_region_treek (fun wq9 => ∃ E : But wr (Value.ownBlock (.slice g j c9)), wq9 = E.w) 14 ((.qs [0] (.e 1 [] (.e 2 [] (.e 3 [] (.qs [4, 5, 8] (.e 9 [] (.a 6 (.a 7 (.a 10 (.a 11 (.a 12 (.qs [13] (.a 14 .done)))))))))))))) (by kernel_rfl) (by kernel_rfl) (fun _ _ d _ _ h => by cases d <;> exact h) ⟨⟨_, ((below_grown HT.out).but _)⟩, rfl⟩ ?_
   have hov_bg := fun (E : But wr (Value.ownBlock (.slice g j c9))) o => E.cell (b := w.heap.size) o hl_bg (by intro e9; have a1 := Hr.out.lt _ e9; have g0 := HZS.out; omega)
   have hov_d := fun (E : But wr (Value.ownBlock (.slice g j c9))) o => E.cell (b := D) o hl_d (by intro e9; have a1 := Hr.out.lt _ e9; have g0 := HZS.out; omega)
   simp only [TreeK.qs]
   repeat (first | (refine treek_q rfl rfl ?_; go_big_quiet_step (fail); refine wpQuiet_nil ?_) | (refine treek_e rfl rfl ?_; go_big_quiet_step (fail); refine wpQuiet_nil ?_))
   refine treek_a rfl (fun K hK => ?_)
   go_simp
   refine (HCJ.out _ (HRG.out.up (below_up HB.out HT.out))).mono ?_
   rintro e w3 ⟨a1, c1, rfl, hn9, hb9⟩
   replace HT := Lib.hid (below_up HT.out hb9)
   replace HZS := sz HZS (show wr.heap.size ≤ w3.heap.size from HT.out.size)
   clear hb9
   have HN1 := Lib.hid hn9
   clear hn9
   refine hK _ _ ⟨fun _ => ⟨⟨w3, ((below_grown HT.out).but _)⟩, rfl⟩, ?_⟩
   clear hK K
   repeat (first | (refine treek_q rfl rfl ?_; go_big_quiet_step (fail); refine wpQuiet_nil ?_) | (refine treek_e rfl rfl ?_; go_big_quiet_step (fail); refine wpQuiet_nil ?_))
   refine treek_a rfl (fun K hK => ?_)
   go_simp
   refine (rRaise OK.out (q_dl OK.out (Nat.le_of_lt HF16.out)) _ (HRG.out.up (below_up HB.out HT.out)) HN1.out).mono ?_
   rintro e w4 ⟨a2, c2, rfl, hn9, hb9⟩
   replace HN1 := Lib.hid (HN1.out.up hb9)
   replace HT := Lib.hid (below_up HT.out hb9)
   replace HZS := sz HZS (show wr.heap.size ≤ w4.heap.size from HT.out.size)
   clear hb9
   have HN2 := Lib.hid hn9
   clear hn9
   refine hK _ _ ⟨fun _ => ⟨⟨w4, ((below_grown HT.out).but _)⟩, rfl⟩, ?_⟩
   clear hK K
   repeat (first | (refine treek_q rfl rfl ?_; go_big_quiet_step (fail); refine wpQuiet_nil ?_) | (refine treek_e rfl rfl ?_; go_big_quiet_step (fail); refine wpQuiet_nil ?_))
   refine treek_a rfl (fun K hK => ?_)
   go_simp
   refine (rText OK.out (lowN_16 OK.out _) _ HN2.out).mono ?_
   rintro e w5 ⟨rfl, hb9⟩
   replace HN1 := Lib.hid (HN1.out.up hb9)
   replace HN2 := Lib.hid (HN2.out.up hb9)
   replace HT := Lib.hid (below_up HT.out hb9)
   replace HZS := sz HZS (show wr.heap.size ≤ w5.heap.size from HT.out.size)
   clear hb9
   refine hK _ _ ⟨fun _ => ⟨⟨w5, ((below_grown HT.out).but _)⟩, rfl⟩, ?_⟩
   clear hK K
   repeat (first | (refine treek_q rfl rfl ?_; go_big_quiet_step (fail); refine wpQuiet_nil ?_) | (refine treek_e rfl rfl ?_; go_big_quiet_step (fail); refine wpQuiet_nil ?_))
   clear hov_bg hl_bg hov_d hl_d
   refine treek_a rfl (fun K hK => ?_)
   go_simp
   refine hK _ _ ⟨fun _ => ⟨⟨_, (below_grown (HT.out.alloc HT.out.size _)).but _⟩, rfl⟩, ?_⟩
   clear hK K
   obtain ⟨i9, hi9, hz90, hz91, hz92⟩ := info_parts infoStr
   have HG1 := Lib.hid ((below_grown HT.out).but (Value.ownBlock (.slice g j c9)))
   clear bg_
   replace Hbg := Lib.hid (Hbg.out.up HT.out)
   clear d_
   replace Hd := Lib.hid (Hd.out.up HT.out)
   replace Hr := Lib.hid (Hr.out.up HT.out)
   replace HK := Lib.hid (Kept.up HK.out HT.out)
   replace HB := hbu HB HT.out
   replace HZS := sz HZS HT.out.size
   refine treek_a rfl (fun K hK => ?_)
   refine step_pushR (w2.heap.size) w5 (by have g0 := HZS.out; omega) rfl _ _ 22 rfl 9 i9 _ 1 16 Tryz.underlying22 hi9 hz90 hz91 hz92 rfl (by omega) ((.slice g j c9)) (j) (((cmtL G f j).map Value.string)) rfl Hr.out _ _ _ rfl rfl rfl (by simp [Value.oneCell']) (by omega) (by unfold maxLen; omega) ?_
   intro g6 c6 w6 hown9 hg9
   have HGR := Lib.hid (HG1.out.trans hg9)
   have hb9 := Below.grown HB.out hg9 (by have g0 := HZS.out; omega) (fun q hq => Nat.le_trans (show w.heap.size ≤ w2.heap.size by have g0 := HZS.out; omega) (Hr.out.lt q hq).1)
   replace Hbg := Lib.hid (Hbg.out.grown hg9 (fun e9 => by have a1 := Hr.out.lt _ e9; have g0 := HZS.out; omega))
   replace Hd := Lib.hid (Hd.out.grown hg9 (fun e9 => by have a1 := Hr.out.lt _ e9; have g0 := HZS.out; omega))
   clear HN1 HN2
   replace HK := Lib.hid (Kept.grown HK.out hg9 (fun q hq => Or.inl (Nat.le_trans (show w2.heap.size ≤ w2.heap.size by have g0 := HZS.out; omega) (Hr.out.lt q hq).1)))
   replace HZS := sz HZS hg9.size
   clear Hr HB HT HG1
   have Hr := Lib.hid hown9
   have HB := Lib.hid hb9
   clear hb9 hown9 hg9 hi9 hz90 hz91 hz92
   refine hK _ _ ⟨fun _ => ⟨⟨w6, HGR.out⟩, rfl⟩, ?_⟩
   clear hK K HGR
   try simp only [Act.put, List.setIfInBounds_toArray, List.set_cons_succ, List.set_cons_zero]
   repeat (first | (refine treek_q rfl rfl ?_; go_big_quiet_step (fail); refine wpQuiet_nil ?_) | (refine treek_e rfl rfl ?_; go_big_quiet_step (fail); refine wpQuiet_nil ?_))
   replace HZS := sz HZS (Hr.out.lt g6 rfl).1
   have bg_ := Hbg.out.c3
   have d_ := Hd.out.c2
   have f7_d := Hd.out.frozen
   have o7_bg_ := bg_; clear bg_
   have o7_d_ := d_; clear d_
   obtain ⟨w7, hq7, hg9, hz9, hx9⟩ := put1 Hd 0 (.slice (some ⟨g6, 0, none⟩) ((j + 1)) c6) [.slice (some ⟨g6, 0, none⟩) ((j + 1)) c6, .slice none 0 0] rfl
   replace Hbg := Lib.hid (Hbg.out.grown hg9.out (sne (by have g0 := HZS.out; omega)))
   replace Hr := Lib.hid (RowO.grown Hr.out hg9.out (fun q9 e8 e9 => by have a1 := Hr.out.lt _ e8; have a0 := Option.some.inj e9; have g0 := HZS.out; omega))
   replace HK := Lib.hid (Kept.grown HK.out hg9.out (fun q9 e9 => by obtain rfl := Option.some.inj e9; exact Or.inr (rfl)))
   replace HB := hbg HB hg9 (by have g0 := HZS.out; omega)
   replace HZS := sz HZS hz9.out
   replace Hd := hx9
   clear hx9 hg9 hz9
   have bg_ := Hbg.out.c3
   have d_ := Hd.out.c2
   refine treek_a rfl (fun K hK => ?_)
   go_simp
   try rw [hq7]
   refine hK _ _ ⟨fun h9 => absurd rfl h9, ?_⟩
   clear hK K hq7 o7_d_ o7_bg_ f7_d
   refine treek_end ?_
   go_wp2_with fail
   go_roundw
   case rel => exact ⟨j + 1, _, _, by omega, by go_num, HK, Hd, Hr.out.eq HSN.out.symm rfl⟩
   case measure => simp [intOf]; omega
  ·have hjn' : j = n := by omega
   subst hjn'
   have HF1 := Lib.hid (fun (y : Addr) (hy : g = some y) => (Hr.out.lt y.block (by rw [hy]; rfl)))
   have HS1 := Lib.hid Hr.out.sl
   clear Hr
   have HZS := HSZ
   replace HZS := sz HZS HSZ.out
   have bg_ := Hbg.out.c3
   have d_ := Hd.out.c2
   have HB1 := HB
   have Hbg1 := Hbg
   obtain ⟨wo, rfl⟩ : ∃ wo : World, wo = wr := ⟨_, rfl⟩
   go_wp2_with fail
   go_loopw [11] (fun i wr => ∃ (j2 : Nat) (g2 : Option Addr) (c2 : Nat), j2 ≤ m ∧ i = .int .i64 ((j2 : Int) + 1) ∧ Hid (Kept (fun q9 => q9 = D) wo wr) ∧ Hid (Bx wr D 24 [.slice g j c9, .slice g2 j2 c2]) ∧ Hid (RowO wo.heap.size wr 9 1 (.slice g2 j2 c2) j2 ((shrL G f j j2).map Value.string))) (fun i _ => m + 1 - (intOf i).toNat)
   case atStart => exact ⟨0, none, 0, Nat.zero_le _, rfl, Lib.hid (Kept.refl _ _), Hd, RowO.nil⟩
   case round =>
    clear HB Hbg HZS Hd
    obtain ⟨j2, g2, c2, hj2, rfl, HK2, Hd, Hr⟩ := hrel
    have HSZ2 := Lib.hid (show w.heap.size < D ∧ RB < D ∧ w.heap.size < RB ∧ D < wo.heap.size ∧ w2.heap.size ≤ wo.heap.size ∧ D < w2.heap.size ∧ wo.heap.size ≤ wr.heap.size from ⟨HDS.out.1, HDS.out.2.1, HDS.out.2.2.1, by have := HSZ.out; omega, HK.out.size, HDS.out.2.2.2, HK2.out.size⟩)
    have HB := Lib.hid (Below.keptP HB1.out HK2.out (by have := HSZ2.out; omega) (fun q9 h9 => (show w.heap.size ≤ _ by subst h9; have := HSZ2.out; omega)))
    have Hbg := Lib.hid (Bx.keptP Hbg1.out HK2.out (show ¬ (w.heap.size = D) by have := HSZ2.out; omega))
    have HSS1 := Lib.hid (HS1.out.kept HK2.out (fun y hy hq => by have hq : y.block = D := hq; have := HF1.out y hy; have := HSZ2.out; omega))
    by_cases hjm : j2 < m
    ·have HSN := Lib.hid (shrL_snoc G f j j2)
     have HVJ := Lib.hid (fun w h => HSH.out (j2 + 1) (by omega) w h)
     have HSV := Lib.hid (sh_hr G (show 1 < G.q.m by have := OK.out.odd; omega) f (j2 + 1) j)
     have hlt := shQ_lt OK.out f (j2 + 1) j
     obtain ⟨xi, hxi⟩ : ∃ v : Int, ((j2 : Int) + 1) = v := ⟨_, rfl⟩
     have hle : decide (xi ≤ (m : Int)) = true := by simp; omega
     have hxn : (((j2 + 1 : Nat)) : Int) = xi := by omega
     rw [hxn] at HSV HVJ
     rw [hxi] at HSN ⊢
     rw [← HSV.out] at HSN
     obtain ⟨sv, hsv⟩ : ∃ v, shQ G f (j2 + 1) j = v := ⟨_, rfl⟩
     rw [hsv] at HSN hlt
     simp only [hsv] at HVJ
     have HLT := Lib.hid hlt
     have hxw : xi ≤ 8 := by omega
     have HXI := Lib.hid hxi
     clear hsv HSV hlt hxn hxi
     have HZS := HSZ2
     replace HZS := sz HZS HSZ2.out
     have bg_ := Hbg.out.c3
     have d_ := Hd.out.c2
     go_wp2_with fail
     have HT := Lib.hid (show Below wr.heap.size wr wr.drew from (Below.refl _ _).drew)
     have hl_bg := Hbg.out.lt
     have hl_d := Hd.out.lt
     refine wp_region_treek (fun wq9 => ∃ E : But wr (Value.ownBlock (.slice g2 j2 c2)), wq9 = E.w) 13 ((.qs [0] (.e 1 [] (.e 2 [] (.qs [3, 4, 5, 7] (.e 8 [] (.a 6 (.a 9 (.a 10 (.a 11 (.qs [12] (.a 13 .done)))))))))))) (by kernel_rfl) (by kernel_rfl) (fun _ _ d _ _ h => by cases d <;> exact h) ⟨⟨_, ((below_grown HT.out).but _)⟩, rfl⟩ ?_
     have hov_bg := fun (E : But wr (Value.ownBlock (.slice g2 j2 c2))) o => E.cell (b := w.heap.size) o hl_bg (by intro e9; have a1 := Hr.out.lt _ e9; have g0 := HZS.out; omega)
     have hov_d := fun (E : But wr (Value.ownBlock (.slice g2 j2 c2))) o => E.cell (b := D) o hl_d (by intro e9; have a1 := Hr.out.lt _ e9; have g0 := HZS.out; omega)
     simp only [TreeK.qs]
     repeat (first | (refine treek_q rfl rfl ?_; go_big_quiet_step (fail); refine wpQuiet_nil ?_) | (refine treek_e rfl rfl ?_; go_big_quiet_step (fail); refine wpQuiet_nil ?_))
     refine treek_a rfl (fun K hK => ?_)
     go_simp
     refine (HVJ.out _ (HRG.out.up (below_up HB.out HT.out))).mono ?_
     rintro e w3 ⟨a1, c1, rfl, hn9, hb9⟩
     replace HT := Lib.hid (below_up HT.out hb9)
     replace HZS := sz HZS (show wr.heap.size ≤ w3.heap.size from HT.out.size)
     clear hb9
     have HN1 := Lib.hid hn9
     clear hn9
     refine hK _ _ ⟨fun _ => ⟨⟨w3, ((below_grown HT.out).but _)⟩, rfl⟩, ?_⟩
     clear hK K
     repeat (first | (refine treek_q rfl rfl ?_; go_big_quiet_step (fail); refine wpQuiet_nil ?_) | (refine treek_e rfl rfl ?_; go_big_quiet_step (fail); refine wpQuiet_nil ?_))
     refine treek_a rfl (fun K hK => ?_)
     go_simp
     refine (rTextQ OK.out HLT.out _ HN1.out).mono ?_
     rintro e w4 ⟨rfl, hb9⟩
     replace HN1 := Lib.hid (HN1.out.up hb9)
     replace HT := Lib.hid (below_up HT.out hb9)
     replace HZS := sz HZS (show wr.heap.size ≤ w4.heap.size from HT.out.size)
     clear hb9
     refine hK _ _ ⟨fun _ => ⟨⟨w4, ((below_grown HT.out).but _)⟩, rfl⟩, ?_⟩
     clear hK K
     repeat (first | (refine treek_q rfl rfl ?_; go_big_quiet_step (fail); refine wpQuiet_nil ?_) | (refine treek_e rfl rfl ?_; go_big_quiet_step (fail); refine wpQuiet_nil ?_))
     clear hov_bg hl_bg hov_d hl_d
     refine treek_a rfl (fun K hK => ?_)
     go_simp
     refine hK _ _ ⟨fun _ => ⟨⟨_, (below_grown (HT.out.alloc HT.out.size _)).but _⟩, rfl⟩, ?_⟩
     clear hK K
     obtain ⟨i9, hi9, hz90, hz91, hz92⟩ := info_parts infoStr
     have HG1 := Lib.hid ((below_grown HT.out).but (Value.ownBlock (.slice g2 j2 c2)))
     clear bg_
     replace Hbg := Lib.hid (Hbg.out.up HT.out)
     clear d_
     replace Hd := Lib.hid (Hd.out.up HT.out)
     replace Hr := Lib.hid (Hr.out.up HT.out)
     replace HK2 := Lib.hid (Kept.up HK2.out HT.out)
     replace HB := hbu HB HT.out
     replace HZS := sz HZS HT.out.size
     refine treek_a rfl (fun K hK => ?_)
     refine step_pushR (wo.heap.size) w4 (by have g0 := HZS.out; omega) rfl _ _ 22 rfl 9 i9 _ 1 16 Tryz.underlying22 hi9 hz90 hz91 hz92 rfl (by omega) ((.slice g2 j2 c2)) (j2) (((shrL G f j j2).map Value.string)) rfl Hr.out _ _ _ rfl rfl rfl (by simp [Value.oneCell']) (by omega) (by unfold maxLen; omega) ?_
     intro g5 c5 w5 hown9 hg9
     have HGR := Lib.hid (HG1.out.trans hg9)
     have hb9 := Below.grown HB.out hg9 (by have g0 := HZS.out; omega) (fun q hq => Nat.le_trans (show w.heap.size ≤ wo.heap.size by have g0 := HZS.out; omega) (Hr.out.lt q hq).1)
     replace Hbg := Lib.hid (Hbg.out.grown hg9 (fun e9 => by have a1 := Hr.out.lt _ e9; have g0 := HZS.out; omega))
     replace Hd := Lib.hid (Hd.out.grown hg9 (fun e9 => by have a1 := Hr.out.lt _ e9; have g0 := HZS.out; omega))
     clear HN1
     replace HK2 := Lib.hid (Kept.grown HK2.out hg9 (fun q hq => Or.inl (Nat.le_trans (show wo.heap.size ≤ wo.heap.size by have g0 := HZS.out; omega) (Hr.out.lt q hq).1)))
     replace HZS := sz HZS hg9.size
     clear Hr HB HT HG1
     have Hr := Lib.hid hown9
     have HB := Lib.hid hb9
     clear hb9 hown9 hg9 hi9 hz90 hz91 hz92
     refine hK _ _ ⟨fun _ => ⟨⟨w5, HGR.out⟩, rfl⟩, ?_⟩
     clear hK K HGR
     try simp only [Act.put, List.setIfInBounds_toArray, List.set_cons_succ, List.set_cons_zero]
     repeat (first | (refine treek_q rfl rfl ?_; go_big_quiet_step (fail); refine wpQuiet_nil ?_) | (refine treek_e rfl rfl ?_; go_big_quiet_step (fail); refine wpQuiet_nil ?_))
     replace HZS := sz HZS (Hr.out.lt g5 rfl).1
     have bg_ := Hbg.out.c3
     have d_ := Hd.out.c2
     have f6_d := Hd.out.frozen
     have o6_bg_ := bg_; clear bg_
     have o6_d_ := d_; clear d_
     obtain ⟨w6, hq6, hg9, hz9, hx9⟩ := put1 Hd 1 (.slice (some ⟨g5, 0, none⟩) ((j2 + 1)) c5) [.slice g j c9, .slice (some ⟨g5, 0, none⟩) ((j2 + 1)) c5] rfl
     replace Hbg := Lib.hid (Hbg.out.grown hg9.out (sne (by have g0 := HZS.out; omega)))
     replace Hr := Lib.hid (RowO.grown Hr.out hg9.out (fun q9 e8 e9 => by have a1 := Hr.out.lt _ e8; have a0 := Option.some.inj e9; have g0 := HZS.out; omega))
     replace HK2 := Lib.hid (Kept.grown HK2.out hg9.out (fun q9 e9 => by obtain rfl := Option.some.inj e9; exact Or.inr (rfl)))
     replace HB := hbg HB hg9 (by have g0 := HZS.out; omega)
     replace HZS := sz HZS hz9.out
     replace Hd := hx9
     clear hx9 hg9 hz9
     have bg_ := Hbg.out.c3
     have d_ := Hd.out.c2
     refine treek_a rfl (fun K hK => ?_)
     go_simp
     try rw [hq6]
     refine hK _ _ ⟨fun h9 => absurd rfl h9, ?_⟩
     clear hK K hq6 o6_d_ o6_bg_ f6_d
     refine treek_end ?_
     have hw1 : wrap64 (xi + 1) = xi + 1 := by have := HXI.out; unfold wrap64; omega
     go_wp2_with fail
     go_roundw
     case rel => exact ⟨j2 + 1, _, _, by omega, by have h9 := HXI.out; rw [hw1]; congr 1; omega, HK2, Hd, Hr.out.eq HSN.out.symm rfl⟩
     case measure => have := HXI.out; simp [intOf]; omega
    ·have hjm' : j2 = m := by omega
     subst hjm'
     have hle : decide ((j2 : Int) + 1 ≤ (j2 : Int)) = false := by simp; omega
     have HF2 := Lib.hid (fun (y : Addr) (hy : g2 = some y) => (Hr.out.lt y.block (by rw [hy]; rfl)))
     have HS2 := Lib.hid Hr.out.sl
     clear Hr
     have hrl := Hrb.out.lt
     have Hrb1 := Lib.hid (Bx.keptP (Bx.keptP Hrb.out HK.out (show ¬ (RB = D) by have := HSZ2.out; omega)) HK2.out (show ¬ (RB = D) by have := HSZ2.out; omega))
     clear Hrb
     have Hrb := Hrb1
     clear Hrb1 hrl
     have HZS := HSZ2
     replace HZS := sz HZS HSZ2.out
     have d_ := Hd.out.c2
     have rb_ := Hrb.out.c2
     have HKB := Lib.hid (Kept.refl (fun q9 => q9 = RB) wr)
     have f3_rb := Hrb.out.frozen
     have o3_d_ := d_; clear d_
     have o3_rb_ := rb_; clear rb_
     obtain ⟨w3, hq3, hg9, hz9, hx9⟩ := put2 Hrb 0 (.slice g j c9) 1 (.slice g2 j2 c2) [.slice g j c9, .slice g2 j2 c2] rfl
     replace Hd := Lib.hid (Hd.out.grown hg9.out (sne (by have g0 := HZS.out; omega)))
     replace HKB := Lib.hid (Kept.grown HKB.out hg9.out (fun q9 e9 => by obtain rfl := Option.some.inj e9; exact Or.inr (rfl)))
     replace HB := hbg HB hg9 (by have g0 := HZS.out; omega)
     replace HZS := sz HZS hz9.out
     replace Hrb := hx9
     clear hx9 hg9 hz9
     have d_ := Hd.out.c2
     have rb_ := Hrb.out.c2
     go_wp2_with fail
     clear hq3 o3_rb_ o3_d_ f3_rb
     simp [bodyPost, results, Tryz.results49, go_sem, rb_]
     exact ⟨HB.out, g, c9, g2, c2, by rw [cmtL_len, shrL_len], HSS1.out.kept HKB.out (fun y hy e => by have e : y.block = RB := e; have := HF1.out y hy; have := HSZ2.out; omega), HS2.out.kept HKB.out (fun y hy e => by have e : y.block = RB := e; have := HF2.out y hy; have := HSZ2.out; omega), fun y hy => by have := HF1.out y hy; have := HSZ2.out; omega, fun y hy => by have := HF2.out y hy; have := HSZ2.out; omega⟩
end
theorem rDeal_none (k : Int) (hk : ¬ (1 ≤ k ∧ k ≤ 3)) (v1 v2 v3 : Value) (w : World) :
  Calls Tryz.prog 9 #[.int .i64 k, v1, v2, v3] w (DealR 1 [] [] w) := by
 go_enter Tryz.func9, Tryz.ntmps9
 go_upto_region 1 with fail
 obtain ⟨w1, hq1, hb9, hz9, Hrb⟩ := new1 w 24 ([.slice none 0 0, .slice none 0 0])
 rw [hq1]
 clear hq1
 have HB := Lib.hid hb9
 have HZS := hz9
 clear hb9 hz9
 go_wp2_with fail
 refine (refKind_none k hk w1).mono ?_
 rintro e w2 ⟨rfl, hb9⟩
 replace Hrb := Lib.hid (Hrb.out.up hb9)
 replace HB := hbu HB hb9
 replace HZS := sz HZS hb9.size
 clear hb9
 obtain ⟨w3, hq3, hb9, hz9, Hbg⟩ := new1 w2 97 [.int .i64 0, .slice none 0 0, .slice none 0 0]
 replace Hrb := Lib.hid (Hrb.out.up hb9)
 replace HB := hbu HB hb9
 replace HZS := sz HZS hz9.out
 clear hb9 hz9
 have bg_ := Hbg.out.c3
 have f4_bg := Hbg.out.frozen
 have o4_bg_ := bg_; clear bg_
 obtain ⟨w4, hq4, hg9, hz9, hx9⟩ := put3 Hbg 0 (.int .i64 0) 1 (.slice none 0 0) 2 (.slice none 0 0) [.int .i64 0, .slice none 0 0, .slice none 0 0] rfl
 replace Hrb := Lib.hid (Hrb.out.grown hg9.out (sne (by have g0 := HZS.out; omega)))
 replace HB := hbg HB hg9 (by have g0 := HZS.out; omega)
 replace HZS := sz HZS hz9.out
 replace Hbg := hx9
 clear hx9 hg9 hz9
 have bg_ := Hbg.out.c3
 have rb_ := Hrb.out.c2
 have f5_rb := Hrb.out.frozen
 have o5_rb_ := rb_; clear rb_
 have o5_bg_ := bg_; clear bg_
 obtain ⟨w5, hq5, hg9, hz9, hx9⟩ := put2 Hrb 0 (.slice none 0 0) 1 (.slice none 0 0) [.slice none 0 0, .slice none 0 0] rfl
 replace Hbg := Lib.hid (Hbg.out.grown hg9.out (sne (by have g0 := HZS.out; omega)))
 replace HB := hbg HB hg9 (by have g0 := HZS.out; omega)
 replace HZS := sz HZS hz9.out
 replace Hrb := hx9
 clear hx9 hg9 hz9
 have rb_ := Hrb.out.c2
 have bg_ := Hbg.out.c3
 go_wp2_with fail
 clear hq5 o5_bg_ o5_rb_ f5_rb hq4 o4_bg_ f4_bg hq3
 simp [bodyPost, results, Tryz.results9, go_sem, rb_]
 exact (dealR_none 1 HB.out)
theorem rDeal_range (k : Nat) (h1 : 1 ≤ k) (h3 : k ≤ 3) (need of : Int) (hr : rightB need of = false) (v3 : Value) (w : World) :
  Calls Tryz.prog 9 #[.int .i64 (k : Int), .int .i64 need, .int .i64 of, v3] w (DealR 4 [] [] w) := by
 have HR := Lib.hid (fun w => rRight_any need of w)
 have hs0 := size_n0 k h1 h3
 unfold Gives at HR
 rw [hr] at HR
 clear hr
 go_enter Tryz.func9, Tryz.ntmps9
 go_upto_region 1 with fail
 obtain ⟨w1, hq1, hb9, hz9, Hrb⟩ := new1 w 24 ([.slice none 0 0, .slice none 0 0])
 rw [hq1]
 clear hq1
 have HB := Lib.hid hb9
 have HZS := hz9
 clear hb9 hz9
 go_wp2_with fail
 refine (refKind_some k h1 h3 w1).mono ?_
 rintro e w2 ⟨aq, cq, ap, cp, rfl, hq9, hp9, hb9⟩
 replace Hrb := Lib.hid (Hrb.out.up hb9)
 replace HB := hbu HB hb9
 replace HZS := sz HZS hb9.size
 clear hb9
 obtain ⟨w3, hq3, hb9, hz9, Hbg⟩ := new1 w2 97 [.int .i64 ((grp k).size : Int), .slice aq (dl (grp k).q.m) cq, .slice ap (dl (grp k).p.m) cp]
 replace Hrb := Lib.hid (Hrb.out.up hb9)
 replace HB := hbu HB hb9
 replace HZS := sz HZS hz9.out
 clear hb9 hz9
 have bg_ := Hbg.out.c3
 go_wp2_with fail
 clear hq3
 refine (HR.out w3).mono ?_
 rintro e w4 ⟨rfl, hb9⟩
 replace Hrb := Lib.hid (Hrb.out.up hb9)
 clear bg_
 replace Hbg := Lib.hid (Hbg.out.up hb9)
 replace HB := hbu HB hb9
 replace HZS := sz HZS hb9.size
 clear hb9
 have bg_ := Hbg.out.c3
 have rb_ := Hrb.out.c2
 have f5_rb := Hrb.out.frozen
 have o5_rb_ := rb_; clear rb_
 have o5_bg_ := bg_; clear bg_
 obtain ⟨w5, hq5, hg9, hz9, hx9⟩ := put2 Hrb 0 (.slice none 0 0) 1 (.slice none 0 0) [.slice none 0 0, .slice none 0 0] rfl
 replace Hbg := Lib.hid (Hbg.out.grown hg9.out (sne (by have g0 := HZS.out; omega)))
 replace HB := hbg HB hg9 (by have g0 := HZS.out; omega)
 replace HZS := sz HZS hz9.out
 replace Hrb := hx9
 clear hx9 hg9 hz9
 have rb_ := Hrb.out.c2
 have bg_ := Hbg.out.c3
 go_wp2_with fail
 clear hq5 o5_bg_ o5_rb_ f5_rb
 simp [bodyPost, results, Tryz.results9, go_sem, rb_]
 exact (dealR_none 4 HB.out)
theorem rDeal_some (k : Nat) (h1 : 1 ≤ k) (h3 : k ≤ 3) (n m : Nat) (hr : rightB n m = true) (seed : ByteArray) (hs : seed.size < 140737488355328) (w : World) :
  Calls Tryz.prog 9 #[.int .i64 (k : Int), .int .i64 (n : Int), .int .i64 (m : Int), .string seed] w (DealR 0 (cmtL (grp k) (chcN coefB seed) n) (shrL (grp k) (chcN coefB seed) n m) w) := by
 have hnm : m ≤ 8 ∧ n ≤ 8 ∧ 0 < n := by unfold rightB at hr; simp at hr; omega
 obtain ⟨hm8, hn8, hn0⟩ := hnm
 have OK := Lib.hid (grp_ok k h1 h3)
 have HR := Lib.hid (fun w => rRight_any n m w)
 have hs0 := size_n0 k h1 h3
 unfold Gives at HR
 rw [hr] at HR
 have HD := Lib.hid (fun aq ap cq cp w h => rDealt_any (aq := aq) (ap := ap) (cq := cq) (cp := cp) OK.out n m hn8 hm8 seed hs w h)
 unfold DealD at HD
 generalize cmtL (grp k) (chcN coefB seed) n = C at *
 generalize shrL (grp k) (chcN coefB seed) n m = S at *
 clear hr hs
 go_enter Tryz.func9, Tryz.ntmps9
 go_upto_region 1 with fail
 obtain ⟨w1, hq1, hb9, hz9, Hrb⟩ := new1 w 24 ([.slice none 0 0, .slice none 0 0])
 rw [hq1]
 clear hq1
 have HB := Lib.hid hb9
 have HZS := hz9
 clear hb9 hz9
 go_wp2_with fail
 refine (refKind_some k h1 h3 w1).mono ?_
 rintro e w2 ⟨aq, cq, ap, cp, rfl, hq9, hp9, hb9⟩
 replace Hrb := Lib.hid (Hrb.out.up hb9)
 replace HB := hbu HB hb9
 replace HZS := sz HZS hb9.size
 have HRG := Lib.hid (RG.mk (G := grp k) hq9 hp9)
 clear hq9 hp9 hb9
 have HK := Lib.hid (Below.refl w2.heap.size w2)
 obtain ⟨w3, hq3, hb9, hz9, Hbg⟩ := new1 w2 97 [.int .i64 ((grp k).size : Int), .slice aq (dl (grp k).q.m) cq, .slice ap (dl (grp k).p.m) cp]
 replace Hrb := Lib.hid (Hrb.out.up hb9)
 replace HK := hbu HK hb9
 replace HB := hbu HB hb9
 replace HZS := sz HZS hz9.out
 clear hb9 hz9
 have bg_ := Hbg.out.c3
 go_wp2_with fail
 clear hq3
 refine (HR.out w3).mono ?_
 rintro e w4 ⟨rfl, hb9⟩
 replace Hrb := Lib.hid (Hrb.out.up hb9)
 clear bg_
 replace Hbg := Lib.hid (Hbg.out.up hb9)
 replace HK := hbu HK hb9
 replace HB := hbu HB hb9
 replace HZS := sz HZS hb9.size
 clear hb9
 have bg_ := Hbg.out.c3
 go_wp2_with fail
 refine (HD.out aq ap cq cp w4 (HRG.out.up HK.out)).mono ?_
 rintro e w5 ⟨hb9, a, c, a2, c2, rfl, hx9, hy9, hf9, hg9⟩
 replace Hrb := Lib.hid (Hrb.out.up hb9)
 clear bg_
 replace Hbg := Lib.hid (Hbg.out.up hb9)
 replace HK := hbu HK hb9
 replace HB := hbu HB hb9
 replace HZS := sz HZS hb9.size
 have HS1 := Lib.hid hx9
 clear hx9
 have HS2 := Lib.hid hy9
 clear hy9
 have HF1 := Lib.hid hf9
 clear hf9
 have HF2 := Lib.hid hg9
 clear hg9 hb9
 have bg_ := Hbg.out.c3
 have HSZ2 := Lib.hid (show w.heap.size < w4.heap.size by have := HZS.out; omega)
 have rb_ := Hrb.out.c2
 clear bg_ Hbg
 have HKB := Lib.hid (Kept.refl (fun q9 => q9 = w.heap.size) w5)
 have f6_rb := Hrb.out.frozen
 have o6_rb_ := rb_; clear rb_
 obtain ⟨w6, hq6, hg9, hz9, hx9⟩ := put2 Hrb 0 (.slice a C.length c) 1 (.slice a2 S.length c2) [.slice a C.length c, .slice a2 S.length c2] rfl
 replace HKB := Lib.hid (Kept.grown HKB.out hg9.out (fun q9 e9 => by obtain rfl := Option.some.inj e9; exact Or.inr (rfl)))
 replace HB := hbg HB hg9 (by have g0 := HZS.out; omega)
 replace HZS := sz HZS hz9.out
 replace Hrb := hx9
 clear hx9 hg9 hz9
 have rb_ := Hrb.out.c2
 go_wp2_with fail
 clear hq6 o6_rb_ f6_rb
 simp [bodyPost, results, Tryz.results9, go_sem, rb_]
 exact ⟨HB.out, a, c, a2, c2, rfl, HS1.out.kept HKB.out (fun y hy e => by have e : y.block = w.heap.size := e; have := HF1.out y hy; have := HSZ2.out; omega), HS2.out.kept HKB.out (fun y hy e => by have e : y.block = w.heap.size := e; have := HF2.out y hy; have := HSZ2.out; omega), fun y hy => by have := HF1.out y hy; have := HSZ2.out; omega, fun y hy => by have := HF2.out y hy; have := HSZ2.out; omega⟩
end Go.Proofs.YtjmeakfjfpnciaaGreat
namespace Go.Proofs.YtjmeakfjfpnciaaGreat
open Go.RowKit
theorem rSeen_none (k : Int) (hk : ¬ (1 ≤ k ∧ k ≤ 3)) (v1 v2 : Value) (w : World) :
  Calls Tryz.prog 12 #[.int .i64 k, v1, v2] w (Gives (.tuple #[.string ⟨#[]⟩, .int .i64 1]) w) := by
 unfold Gives
 go_enter Tryz.func12, Tryz.ntmps12
 go_wp2_with fail
 refine (refKind_none k hk w).mono ?_
 rintro e w1 ⟨rfl, hb9⟩
 have HB := Lib.hid hb9
 have HZS := Lib.hid hb9.size
 clear hb9
 obtain ⟨w2, hq2, hb9, hz9, Hbg⟩ := new1 w1 97 [.int .i64 0, .slice none 0 0, .slice none 0 0]
 replace HB := hbu HB hb9
 replace HZS := sz HZS hz9.out
 clear hb9 hz9
 have bg_ := Hbg.out.c3
 have f3_bg := Hbg.out.frozen
 have o3_bg_ := bg_; clear bg_
 obtain ⟨w3, hq3, hg9, hz9, hx9⟩ := put3 Hbg 0 (.int .i64 0) 1 (.slice none 0 0) 2 (.slice none 0 0) [.int .i64 0, .slice none 0 0, .slice none 0 0] rfl
 replace HB := hbg HB hg9 (by have g0 := HZS.out; omega)
 replace HZS := sz HZS hz9.out
 replace Hbg := hx9
 clear hx9 hg9 hz9
 have bg_ := Hbg.out.c3
 go_wp2_with fail
 clear hq3 o3_bg_ f3_bg hq2
 go_ret2
 exact ⟨rfl, HB.out⟩
theorem rSeen_some (k : Nat) (h1 : 1 ≤ k) (h3 : k ≤ 3) (cs : List ByteArray) (n : Nat) (hn : cs.length = n) (hnm : n ≤ 1152921504606846975) (x : Int) (ac : Option Addr) (cc : Nat) (w : World) (hC : Sl w w.heap.size ac (cs.map Value.string)) :
  Calls Tryz.prog 12 #[.int .i64 (k : Int), .slice ac n cc, .int .i64 x] w (Gives (.tuple #[.string (seenS (grp k) cs x), .int .i64 (seenE (grp k) cs x : Int)]) w) := by
 unfold Gives
 have OK := Lib.hid (grp_ok k h1 h3)
 have hs0 := size_n0 k h1 h3
 have HC := Lib.hid hC
 obtain ⟨er, hz⟩ : ∃ z, seenE (grp k) cs x = z := ⟨_, rfl⟩
 have hsr : (er ≠ 0 → seenS (grp k) cs x = ⟨#[]⟩) ∧ (er = 0 → seenS (grp k) cs x = textS (lowN (grp k) (seeN (grp k).q.m (comN cs) (modI (grp k).q.m x) n n)) (grp k).size) := ⟨seenS_bad hz, fun h => by unfold seenS; rw [hz, if_pos h, hn]⟩
 obtain ⟨sr, hs9⟩ : ∃ z, seenS (grp k) cs x = z := ⟨_, rfl⟩
 rw [hz, hs9]
 rw [hs9] at hsr
 unfold seenE at hz
 rw [hn] at hz
 have HSR := Lib.hid hsr
 clear hsr hs9 hC
 by_cases hl : 16 < n
 ·rw [if_pos hl] at hz
  subst hz
  obtain rfl := HSR.out.1 (by decide)
  have hlb : decide ((n : Int) > 16) = true := by simp; omega
  go_enter Tryz.func12, Tryz.ntmps12
  go_wp2_with fail
  refine (refKind_some k h1 h3 w).mono ?_
  rintro e w1 ⟨aq, cq, ap, cp, rfl, hq9, hp9, hb9⟩
  have HB := Lib.hid hb9
  have HZS := Lib.hid hb9.size
  have HRG := Lib.hid (RG.mk (G := grp k) hq9 hp9)
  clear hq9 hp9 hb9
  have HK := Lib.hid (Below.refl w1.heap.size w1)
  obtain ⟨w2, hq2, hb9, hz9, Hbg⟩ := new1 w1 97 [.int .i64 ((grp k).size : Int), .slice aq (dl (grp k).q.m) cq, .slice ap (dl (grp k).p.m) cp]
  replace HK := hbu HK hb9
  replace HB := hbu HB hb9
  replace HZS := sz HZS hz9.out
  clear hb9 hz9
  have bg_ := Hbg.out.c3
  go_wp2_with fail
  clear hq2
  go_ret2
  exact ⟨rfl, HB.out⟩
 rw [if_neg hl] at hz
 have hlb : decide ((n : Int) > 16) = false := by simp; omega
 by_cases h0 : n = 0
 ·rw [if_pos h0] at hz
  subst hz
  obtain rfl := HSR.out.1 (by decide)
  subst h0
  go_enter Tryz.func12, Tryz.ntmps12
  go_wp2_with fail
  refine (refKind_some k h1 h3 w).mono ?_
  rintro e w1 ⟨aq, cq, ap, cp, rfl, hq9, hp9, hb9⟩
  have HB := Lib.hid hb9
  have HZS := Lib.hid hb9.size
  have HRG := Lib.hid (RG.mk (G := grp k) hq9 hp9)
  clear hq9 hp9 hb9
  have HK := Lib.hid (Below.refl w1.heap.size w1)
  obtain ⟨w2, hq2, hb9, hz9, Hbg⟩ := new1 w1 97 [.int .i64 ((grp k).size : Int), .slice aq (dl (grp k).q.m) cq, .slice ap (dl (grp k).p.m) cp]
  replace HK := hbu HK hb9
  replace HB := hbu HB hb9
  replace HZS := sz HZS hz9.out
  clear hb9 hz9
  have bg_ := Hbg.out.c3
  go_wp2_with fail
  clear hq2
  go_ret2
  exact ⟨rfl, HB.out⟩
 rw [if_neg h0] at hz
 have h0b : ((n : Int) == 0) = false := by simp; omega
 obtain ⟨b, hb⟩ : ∃ b, cs.all (isEl (grp k).q.m (grp k).size) = b := ⟨_, rfl⟩
 rw [hb] at hz
 have HE := Lib.hid (fun aq ap cq cp w h g => relems_any (aq := aq) (ap := ap) (cq := cq) (cp := cp) OK.out cs n hn (by omega) b hb ac cc w h g)
 unfold Gives at HE
 cases b with
 | false =>
  rw [if_neg (by decide)] at hz
  subst hz
  obtain rfl := HSR.out.1 (by decide)
  clear hb hn
  go_enter Tryz.func12, Tryz.ntmps12
  go_wp2_with fail
  refine (refKind_some k h1 h3 w).mono ?_
  rintro e w1 ⟨aq, cq, ap, cp, rfl, hq9, hp9, hb9⟩
  have HB := Lib.hid hb9
  have HZS := Lib.hid hb9.size
  have HRG := Lib.hid (RG.mk (G := grp k) hq9 hp9)
  clear hq9 hp9 hb9
  have HK := Lib.hid (Below.refl w1.heap.size w1)
  obtain ⟨w2, hq2, hb9, hz9, Hbg⟩ := new1 w1 97 [.int .i64 ((grp k).size : Int), .slice aq (dl (grp k).q.m) cq, .slice ap (dl (grp k).p.m) cp]
  replace HK := hbu HK hb9
  replace HB := hbu HB hb9
  replace HZS := sz HZS hz9.out
  clear hb9 hz9
  have bg_ := Hbg.out.c3
  go_wp2_with fail
  clear hq2
  refine (HE.out aq ap cq cp w2 (HRG.out.up HK.out) (HC.out.up HB.out)).mono ?_
  rintro e w3 ⟨rfl, hb9⟩
  clear bg_
  replace Hbg := Lib.hid (Hbg.out.up hb9)
  replace HK := hbu HK hb9
  replace HB := hbu HB hb9
  replace HZS := sz HZS hb9.size
  clear hb9
  have bg_ := Hbg.out.c3
  go_wp2_with fail
  go_ret2
  exact ⟨rfl, HB.out⟩
 | true =>
  rw [if_pos rfl] at hz
  by_cases hx1 : x < 0
  ·rw [if_pos (Or.inl hx1)] at hz
   subst hz
   obtain rfl := HSR.out.1 (by decide)
   have hxb : decide (x < 0) = true := decide_eq_true hx1
   clear hb hn
   go_enter Tryz.func12, Tryz.ntmps12
   go_wp2_with fail
   refine (refKind_some k h1 h3 w).mono ?_
   rintro e w1 ⟨aq, cq, ap, cp, rfl, hq9, hp9, hb9⟩
   have HB := Lib.hid hb9
   have HZS := Lib.hid hb9.size
   have HRG := Lib.hid (RG.mk (G := grp k) hq9 hp9)
   clear hq9 hp9 hb9
   have HK := Lib.hid (Below.refl w1.heap.size w1)
   obtain ⟨w2, hq2, hb9, hz9, Hbg⟩ := new1 w1 97 [.int .i64 ((grp k).size : Int), .slice aq (dl (grp k).q.m) cq, .slice ap (dl (grp k).p.m) cp]
   replace HK := hbu HK hb9
   replace HB := hbu HB hb9
   replace HZS := sz HZS hz9.out
   clear hb9 hz9
   have bg_ := Hbg.out.c3
   go_wp2_with fail
   clear hq2
   refine (HE.out aq ap cq cp w2 (HRG.out.up HK.out) (HC.out.up HB.out)).mono ?_
   rintro e w3 ⟨rfl, hb9⟩
   clear bg_
   replace Hbg := Lib.hid (Hbg.out.up hb9)
   replace HK := hbu HK hb9
   replace HB := hbu HB hb9
   replace HZS := sz HZS hb9.size
   clear hb9
   have bg_ := Hbg.out.c3
   go_wp2_with fail
   go_ret2
   exact ⟨rfl, HB.out⟩
  have hxb : decide (x < 0) = false := decide_eq_false hx1
  by_cases hx2 : 255 < x
  ·rw [if_pos (Or.inr hx2)] at hz
   subst hz
   obtain rfl := HSR.out.1 (by decide)
   have hxc : decide (x > 255) = true := decide_eq_true hx2
   clear hb hn
   go_enter Tryz.func12, Tryz.ntmps12
   go_wp2_with fail
   refine (refKind_some k h1 h3 w).mono ?_
   rintro e w1 ⟨aq, cq, ap, cp, rfl, hq9, hp9, hb9⟩
   have HB := Lib.hid hb9
   have HZS := Lib.hid hb9.size
   have HRG := Lib.hid (RG.mk (G := grp k) hq9 hp9)
   clear hq9 hp9 hb9
   have HK := Lib.hid (Below.refl w1.heap.size w1)
   obtain ⟨w2, hq2, hb9, hz9, Hbg⟩ := new1 w1 97 [.int .i64 ((grp k).size : Int), .slice aq (dl (grp k).q.m) cq, .slice ap (dl (grp k).p.m) cp]
   replace HK := hbu HK hb9
   replace HB := hbu HB hb9
   replace HZS := sz HZS hz9.out
   clear hb9 hz9
   have bg_ := Hbg.out.c3
   go_wp2_with fail
   clear hq2
   refine (HE.out aq ap cq cp w2 (HRG.out.up HK.out) (HC.out.up HB.out)).mono ?_
   rintro e w3 ⟨rfl, hb9⟩
   clear bg_
   replace Hbg := Lib.hid (Hbg.out.up hb9)
   replace HK := hbu HK hb9
   replace HB := hbu HB hb9
   replace HZS := sz HZS hb9.size
   clear hb9
   have bg_ := Hbg.out.c3
   go_wp2_with fail
   go_ret2
   exact ⟨rfl, HB.out⟩
  have hxc : decide (x > 255) = false := decide_eq_false hx2
  rw [if_neg (by omega)] at hz
  subst hz
  obtain rfl := HSR.out.2 rfl
  obtain ⟨x, rfl⟩ : ∃ y : Nat, x = y := ⟨x.toNat, by omega⟩
  have HSE := Lib.hid (sg_see OK.out (grp_prime_p k h1 h3) cs hb x)
  rw [hn] at HSE
  have HSO := Lib.hid (fun aq ap cq cp w h g => rSeenOf_any (aq := aq) (ap := ap) (cq := cq) (cp := cp) OK.out cs n hn (by omega) hb x (by omega) ac cc w h g)
  have HLE := Lib.hid (Nat.lt_of_le_of_lt (sgQ_le OK.out (comN cs) x n) OK.out.q.lt4)
  rw [← HSE.out]
  generalize sgQ (grp k) (comN cs) x n = sg at *
  clear hb hn
  go_enter Tryz.func12, Tryz.ntmps12
  go_wp2_with fail
  refine (refKind_some k h1 h3 w).mono ?_
  rintro e w1 ⟨aq, cq, ap, cp, rfl, hq9, hp9, hb9⟩
  have HB := Lib.hid hb9
  have HZS := Lib.hid hb9.size
  have HRG := Lib.hid (RG.mk (G := grp k) hq9 hp9)
  clear hq9 hp9 hb9
  have HK := Lib.hid (Below.refl w1.heap.size w1)
  obtain ⟨w2, hq2, hb9, hz9, Hbg⟩ := new1 w1 97 [.int .i64 ((grp k).size : Int), .slice aq (dl (grp k).q.m) cq, .slice ap (dl (grp k).p.m) cp]
  replace HK := hbu HK hb9
  replace HB := hbu HB hb9
  replace HZS := sz HZS hz9.out
  clear hb9 hz9
  have bg_ := Hbg.out.c3
  go_wp2_with fail
  clear hq2
  refine (HE.out aq ap cq cp w2 (HRG.out.up HK.out) (HC.out.up HB.out)).mono ?_
  rintro e w3 ⟨rfl, hb9⟩
  clear bg_
  replace Hbg := Lib.hid (Hbg.out.up hb9)
  replace HK := hbu HK hb9
  replace HB := hbu HB hb9
  replace HZS := sz HZS hb9.size
  clear hb9
  have bg_ := Hbg.out.c3
  go_upto_region 12 with fail
  have HT := Lib.hid (show Below w3.heap.size w3 w3.drew from (Below.refl _ _).drew)
  have hl_bg := Hbg.out.lt
  refine wp_region_tree (fun wq9 => ∃ E : Over w3, wq9 = E.w) ((.qs [0, 1, 2, 4, 5] (.a 3 (.a 6 (.qs [7, 8] .done))))) (by kernel_rfl) (by kernel_rfl) (fun _ _ d _ _ h => by cases d <;> exact h) ⟨⟨_, HT.out⟩, rfl⟩ ?_
  have hov_bg := fun (E : Over w3) o => E.cell (b := w1.heap.size) o hl_bg
  simp only [Tree.qs]
  repeat (refine tree_q rfl rfl ?_; go_big_quiet_step (fail); refine wpQuiet_nil ?_)
  refine tree_a rfl (fun K hK => ?_)
  go_simp
  refine (HSO.out aq ap cq cp _ (HRG.out.up (below_up HK.out HT.out)) (HC.out.up (below_up HB.out HT.out))).mono ?_
  rintro e w4 ⟨a1, c1, rfl, hn9, hb9⟩
  replace HT := Lib.hid (below_up HT.out hb9)
  replace HZS := sz HZS (show w3.heap.size ≤ w4.heap.size from HT.out.size)
  clear hb9
  have HN1 := Lib.hid hn9
  clear hn9
  refine hK _ _ ⟨⟨⟨w4, HT.out⟩, rfl⟩, ?_⟩
  clear hK K
  repeat (refine tree_q rfl rfl ?_; go_big_quiet_step (fail); refine wpQuiet_nil ?_)
  refine tree_a rfl (fun K hK => ?_)
  go_simp
  refine (rText OK.out HLE.out _ HN1.out).mono ?_
  rintro e w5 ⟨rfl, hb9⟩
  replace HN1 := Lib.hid (HN1.out.up hb9)
  replace HT := Lib.hid (below_up HT.out hb9)
  replace HZS := sz HZS (show w3.heap.size ≤ w5.heap.size from HT.out.size)
  clear hb9
  refine hK _ _ ⟨⟨⟨w5, HT.out⟩, rfl⟩, ?_⟩
  clear hK K
  repeat (refine tree_q rfl rfl ?_; go_big_quiet_step (fail); refine wpQuiet_nil ?_)
  refine tree_end ?_
  clear hov_bg hl_bg bg_
  replace Hbg := Lib.hid (Hbg.out.up HT.out)
  replace HK := hbu HK HT.out
  replace HB := hbu HB HT.out
  replace HZS := sz HZS HT.out.size
  clear HT
  have bg_ := Hbg.out.c3
  go_wp2_with fail
  go_ret2
  exact ⟨rfl, HB.out⟩
theorem rFits_none (k : Int) (hk : ¬ (1 ≤ k ∧ k ≤ 3)) (v1 v2 : Value) (s : ByteArray) (w : World) :
  Calls Tryz.prog 14 #[.int .i64 k, v1, v2, .string s] w (Gives (.bool false) w) := by
 unfold Gives
 go_enter Tryz.func14, Tryz.ntmps14
 go_wp2_with fail
 refine (rSeen_none k hk v1 v2 w).mono ?_
 rintro e w1 ⟨rfl, hb9⟩
 have HB := Lib.hid hb9
 have HZS := Lib.hid hb9.size
 clear hb9
 go_wp2_with fail
 refine (refKind_none k hk w1).mono ?_
 rintro e w2 ⟨rfl, hb9⟩
 replace HB := hbu HB hb9
 replace HZS := sz HZS hb9.size
 clear hb9
 obtain ⟨w3, hq3, hb9, hz9, Hbg⟩ := new1 w2 97 [.int .i64 0, .slice none 0 0, .slice none 0 0]
 replace HB := hbu HB hb9
 replace HZS := sz HZS hz9.out
 clear hb9 hz9
 have bg_ := Hbg.out.c3
 have f4_bg := Hbg.out.frozen
 have o4_bg_ := bg_; clear bg_
 obtain ⟨w4, hq4, hg9, hz9, hx9⟩ := put3 Hbg 0 (.int .i64 0) 1 (.slice none 0 0) 2 (.slice none 0 0) [.int .i64 0, .slice none 0 0, .slice none 0 0] rfl
 replace HB := hbg HB hg9 (by have g0 := HZS.out; omega)
 replace HZS := sz HZS hz9.out
 replace Hbg := hx9
 clear hx9 hg9 hz9
 have bg_ := Hbg.out.c3
 go_wp2_with fail
 clear hq4 o4_bg_ f4_bg hq3
 have HT := Lib.hid (show Below w4.heap.size w4 w4.drew from (Below.refl _ _).drew)
 have hl_bg := Hbg.out.lt
 refine wp_region_tree (fun wq9 => ∃ E : Over w4, wq9 = E.w) ((.qs [0, 1, 2, 3, 4] (.a 5 (.qs [6, 7, 8, 9, 12, 13, 15] (.a 10 (.a 11 (.a 14 (.qs [16, 17, 18] .done)))))))) (by kernel_rfl) (by kernel_rfl) (fun _ _ d _ _ h => by cases d <;> exact h) ⟨⟨_, HT.out⟩, rfl⟩ ?_
 have hov_bg := fun (E : Over w4) o => E.cell (b := w2.heap.size) o hl_bg
 simp only [Tree.qs]
 repeat (refine tree_q rfl rfl ?_; go_big_quiet_step (fail); refine wpQuiet_nil ?_)
 refine tree_a rfl (fun K hK => ?_)
 go_simp
 refine hK _ _ ⟨⟨⟨_, HT.out⟩, rfl⟩, ?_⟩
 clear hK K
 repeat (refine tree_q rfl rfl ?_; go_big_quiet_step (fail); refine wpQuiet_nil ?_)
 refine tree_a rfl (fun K hK => ?_)
 go_simp
 refine hK _ _ ⟨⟨⟨_, HT.out⟩, rfl⟩, ?_⟩
 clear hK K
 repeat (refine tree_q rfl rfl ?_; go_big_quiet_step (fail); refine wpQuiet_nil ?_)
 refine tree_a rfl (fun K hK => ?_)
 go_simp
 refine hK _ _ ⟨⟨⟨_, HT.out⟩, rfl⟩, ?_⟩
 clear hK K
 repeat (refine tree_q rfl rfl ?_; go_big_quiet_step (fail); refine wpQuiet_nil ?_)
 refine tree_a rfl (fun K hK => ?_)
 go_simp
 refine hK _ _ ⟨⟨⟨_, HT.out⟩, rfl⟩, ?_⟩
 clear hK K
 repeat (refine tree_q rfl rfl ?_; go_big_quiet_step (fail); refine wpQuiet_nil ?_)
 refine tree_end ?_
 clear hov_bg hl_bg bg_
 replace Hbg := Lib.hid (Hbg.out.up HT.out)
 replace HB := hbu HB HT.out
 replace HZS := sz HZS HT.out.size
 clear HT
 have bg_ := Hbg.out.c3
 go_wp2_with fail
 go_ret
 exact ⟨rfl, HB.out⟩
theorem rFits_some (k : Nat) (h1 : 1 ≤ k) (h3 : k ≤ 3) (cs : List ByteArray) (n : Nat) (hn : cs.length = n) (hnm : n ≤ 1152921504606846975) (x : Int) (s : ByteArray) (ac : Option Addr) (cc : Nat) (w : World) (hC : Sl w w.heap.size ac (cs.map Value.string)) :
  Calls Tryz.prog 14 #[.int .i64 (k : Int), .slice ac n cc, .int .i64 x, .string s] w (Gives (.bool (fitK (grp k) cs x s)) w) := by
 unfold Gives
 have OK := Lib.hid (grp_ok k h1 h3)
 have hs0 := size_n0 k h1 h3
 have HC := Lib.hid hC
 have HS := Lib.hid (fun w h => rSeen_some k h1 h3 cs n hn hnm x ac cc w h)
 unfold Gives at HS
 obtain ⟨kb, hkb⟩ : ∃ b, fitK (grp k) cs x s = b := ⟨_, rfl⟩
 rw [hkb]
 unfold fitK at hkb
 generalize seenE (grp k) cs x = er at *
 generalize seenS (grp k) cs x = sr at *
 clear hn hnm hC
 by_cases he : er = 0
 case neg =>
  have hd : ((er : Int) == 0) = false := by simp; omega
  rw [if_neg he] at hkb
  subst hkb
  go_enter Tryz.func14, Tryz.ntmps14
  go_wp2_with fail
  refine (HS.out w HC.out).mono ?_
  rintro e w1 ⟨rfl, hb9⟩
  have HB := Lib.hid hb9
  have HZS := Lib.hid hb9.size
  clear hb9
  go_wp2_with fail
  refine (refKind_some k h1 h3 w1).mono ?_
  rintro e w2 ⟨aq, cq, ap, cp, rfl, hq9, hp9, hb9⟩
  replace HB := hbu HB hb9
  replace HZS := sz HZS hb9.size
  have HRG := Lib.hid (RG.mk (G := grp k) hq9 hp9)
  clear hq9 hp9 hb9
  have HK := Lib.hid (Below.refl w2.heap.size w2)
  obtain ⟨w3, hq3, hb9, hz9, Hbg⟩ := new1 w2 97 [.int .i64 ((grp k).size : Int), .slice aq (dl (grp k).q.m) cq, .slice ap (dl (grp k).p.m) cp]
  replace HK := hbu HK hb9
  replace HB := hbu HB hb9
  replace HZS := sz HZS hz9.out
  clear hb9 hz9
  have bg_ := Hbg.out.c3
  go_wp2_with fail
  clear hq3
  have HT := Lib.hid (show Below w3.heap.size w3 w3.drew from (Below.refl _ _).drew)
  have hl_bg := Hbg.out.lt
  refine wp_region_tree (fun wq9 => ∃ E : Over w3, wq9 = E.w) ((.qs [0, 1, 2, 3, 4] (.a 5 (.qs [6, 7, 8, 9, 12, 13, 15] (.a 10 (.a 11 (.a 14 (.qs [16, 17, 18] .done)))))))) (by kernel_rfl) (by kernel_rfl) (fun _ _ d _ _ h => by cases d <;> exact h) ⟨⟨_, HT.out⟩, rfl⟩ ?_
  have hov_bg := fun (E : Over w3) o => E.cell (b := w2.heap.size) o hl_bg
  simp only [Tree.qs]
  repeat (refine tree_q rfl rfl ?_; go_big_quiet_step (fail); refine wpQuiet_nil ?_)
  refine tree_a rfl (fun K hK => ?_)
  go_simp
  refine hK _ _ ⟨⟨⟨_, HT.out⟩, rfl⟩, ?_⟩
  clear hK K
  repeat (refine tree_q rfl rfl ?_; go_big_quiet_step (fail); refine wpQuiet_nil ?_)
  refine tree_a rfl (fun K hK => ?_)
  go_simp
  refine hK _ _ ⟨⟨⟨_, HT.out⟩, rfl⟩, ?_⟩
  clear hK K
  repeat (refine tree_q rfl rfl ?_; go_big_quiet_step (fail); refine wpQuiet_nil ?_)
  refine tree_a rfl (fun K hK => ?_)
  go_simp
  refine hK _ _ ⟨⟨⟨_, HT.out⟩, rfl⟩, ?_⟩
  clear hK K
  repeat (refine tree_q rfl rfl ?_; go_big_quiet_step (fail); refine wpQuiet_nil ?_)
  refine tree_a rfl (fun K hK => ?_)
  go_simp
  refine hK _ _ ⟨⟨⟨_, HT.out⟩, rfl⟩, ?_⟩
  clear hK K
  repeat (refine tree_q rfl rfl ?_; go_big_quiet_step (fail); refine wpQuiet_nil ?_)
  refine tree_end ?_
  clear hov_bg hl_bg bg_
  replace Hbg := Lib.hid (Hbg.out.up HT.out)
  replace HK := hbu HK HT.out
  replace HB := hbu HB HT.out
  replace HZS := sz HZS HT.out.size
  clear HT
  have bg_ := Hbg.out.c3
  go_wp2_with fail
  go_ret
  exact ⟨rfl, HB.out⟩
 subst he
 have hd : ((((0 : Nat) : Int)) == 0) = true := by simp
 rw [if_pos rfl] at hkb
 obtain ⟨b, hb⟩ : ∃ b, isSc (grp k).q.m (grp k).size s = b := ⟨_, rfl⟩
 rw [hb] at hkb
 have HM := Lib.hid (fun aq ap cq cp w g => rIsSc_b (aq := aq) (ap := ap) (cq := cq) (cp := cp) OK.out s b hb w g)
 unfold Gives at HM
 cases b with
 | false =>
  obtain rfl : kb = false := by rw [← hkb]; rfl
  clear hb
  go_enter Tryz.func14, Tryz.ntmps14
  go_wp2_with fail
  refine (HS.out w HC.out).mono ?_
  rintro e w1 ⟨rfl, hb9⟩
  have HB := Lib.hid hb9
  have HZS := Lib.hid hb9.size
  clear hb9
  go_wp2_with fail
  refine (refKind_some k h1 h3 w1).mono ?_
  rintro e w2 ⟨aq, cq, ap, cp, rfl, hq9, hp9, hb9⟩
  replace HB := hbu HB hb9
  replace HZS := sz HZS hb9.size
  have HRG := Lib.hid (RG.mk (G := grp k) hq9 hp9)
  clear hq9 hp9 hb9
  have HK := Lib.hid (Below.refl w2.heap.size w2)
  obtain ⟨w3, hq3, hb9, hz9, Hbg⟩ := new1 w2 97 [.int .i64 ((grp k).size : Int), .slice aq (dl (grp k).q.m) cq, .slice ap (dl (grp k).p.m) cp]
  replace HK := hbu HK hb9
  replace HB := hbu HB hb9
  replace HZS := sz HZS hz9.out
  clear hb9 hz9
  have bg_ := Hbg.out.c3
  go_wp2_with fail
  clear hq3
  have HT := Lib.hid (show Below w3.heap.size w3 w3.drew from (Below.refl _ _).drew)
  have hl_bg := Hbg.out.lt
  refine wp_region_tree (fun wq9 => ∃ E : Over w3, wq9 = E.w) ((.qs [0, 1, 2, 3, 4] (.a 5 (.qs [6, 7, 8, 9, 12, 13, 15] (.a 10 (.a 11 (.a 14 (.qs [16, 17, 18] .done)))))))) (by kernel_rfl) (by kernel_rfl) (fun _ _ d _ _ h => by cases d <;> exact h) ⟨⟨_, HT.out⟩, rfl⟩ ?_
  have hov_bg := fun (E : Over w3) o => E.cell (b := w2.heap.size) o hl_bg
  simp only [Tree.qs]
  repeat (refine tree_q rfl rfl ?_; go_big_quiet_step (fail); refine wpQuiet_nil ?_)
  refine tree_a rfl (fun K hK => ?_)
  go_simp
  refine (HM.out aq ap cq cp _ (HRG.out.up (below_up HK.out HT.out))).mono ?_
  rintro e w4 ⟨rfl, hb9⟩
  replace HT := Lib.hid (below_up HT.out hb9)
  replace HZS := sz HZS (show w3.heap.size ≤ w4.heap.size from HT.out.size)
  clear hb9
  refine hK _ _ ⟨⟨⟨w4, HT.out⟩, rfl⟩, ?_⟩
  clear hK K
  repeat (refine tree_q rfl rfl ?_; go_big_quiet_step (fail); refine wpQuiet_nil ?_)
  refine tree_a rfl (fun K hK => ?_)
  go_simp
  refine hK _ _ ⟨⟨⟨_, HT.out⟩, rfl⟩, ?_⟩
  clear hK K
  repeat (refine tree_q rfl rfl ?_; go_big_quiet_step (fail); refine wpQuiet_nil ?_)
  refine tree_a rfl (fun K hK => ?_)
  go_simp
  refine hK _ _ ⟨⟨⟨_, HT.out⟩, rfl⟩, ?_⟩
  clear hK K
  repeat (refine tree_q rfl rfl ?_; go_big_quiet_step (fail); refine wpQuiet_nil ?_)
  refine tree_a rfl (fun K hK => ?_)
  go_simp
  refine hK _ _ ⟨⟨⟨_, HT.out⟩, rfl⟩, ?_⟩
  clear hK K
  repeat (refine tree_q rfl rfl ?_; go_big_quiet_step (fail); refine wpQuiet_nil ?_)
  refine tree_end ?_
  clear hov_bg hl_bg bg_
  replace Hbg := Lib.hid (Hbg.out.up HT.out)
  replace HK := hbu HK HT.out
  replace HB := hbu HB HT.out
  replace HZS := sz HZS HT.out.size
  clear HT
  have bg_ := Hbg.out.c3
  go_wp2_with fail
  go_ret
  exact ⟨rfl, HB.out⟩
 | true =>
  have HV32 := Lib.hid (sc_len OK.out hb)
  have HLT := Lib.hid (show numOf s < (grp k).q.m by have := hb; unfold isSc at this; simp at this; exact this.2)
  have hmd : numOf s % (grp k).q.m = numOf s := Nat.mod_eq_of_lt HLT.out
  rw [hmd] at hkb
  obtain ⟨c, hc⟩ : ∃ c, ((textS (lowN (grp k) (2 ^ numOf s)) (grp k).size).toList == sr.toList) = c := ⟨_, rfl⟩
  rw [hc] at hkb
  obtain rfl : kb = c := by rw [← hkb]; rfl
  clear hb hmd
  go_enter Tryz.func14, Tryz.ntmps14
  go_wp2_with fail
  refine (HS.out w HC.out).mono ?_
  rintro e w1 ⟨rfl, hb9⟩
  have HB := Lib.hid hb9
  have HZS := Lib.hid hb9.size
  clear hb9
  go_wp2_with fail
  refine (refKind_some k h1 h3 w1).mono ?_
  rintro e w2 ⟨aq, cq, ap, cp, rfl, hq9, hp9, hb9⟩
  replace HB := hbu HB hb9
  replace HZS := sz HZS hb9.size
  have HRG := Lib.hid (RG.mk (G := grp k) hq9 hp9)
  clear hq9 hp9 hb9
  have HK := Lib.hid (Below.refl w2.heap.size w2)
  obtain ⟨w3, hq3, hb9, hz9, Hbg⟩ := new1 w2 97 [.int .i64 ((grp k).size : Int), .slice aq (dl (grp k).q.m) cq, .slice ap (dl (grp k).p.m) cp]
  replace HK := hbu HK hb9
  replace HB := hbu HB hb9
  replace HZS := sz HZS hz9.out
  clear hb9 hz9
  have bg_ := Hbg.out.c3
  go_wp2_with fail
  clear hq3
  have HT := Lib.hid (show Below w3.heap.size w3 w3.drew from (Below.refl _ _).drew)
  have hl_bg := Hbg.out.lt
  refine wp_region_tree (fun wq9 => ∃ E : Over w3, wq9 = E.w) ((.qs [0, 1, 2, 3, 4] (.a 5 (.qs [6, 7, 8, 9, 12, 13, 15] (.a 10 (.a 11 (.a 14 (.qs [16, 17, 18] .done)))))))) (by kernel_rfl) (by kernel_rfl) (fun _ _ d _ _ h => by cases d <;> exact h) ⟨⟨_, HT.out⟩, rfl⟩ ?_
  have hov_bg := fun (E : Over w3) o => E.cell (b := w2.heap.size) o hl_bg
  simp only [Tree.qs]
  repeat (refine tree_q rfl rfl ?_; go_big_quiet_step (fail); refine wpQuiet_nil ?_)
  refine tree_a rfl (fun K hK => ?_)
  go_simp
  refine (HM.out aq ap cq cp _ (HRG.out.up (below_up HK.out HT.out))).mono ?_
  rintro e w4 ⟨rfl, hb9⟩
  replace HT := Lib.hid (below_up HT.out hb9)
  replace HZS := sz HZS (show w3.heap.size ≤ w4.heap.size from HT.out.size)
  clear hb9
  refine hK _ _ ⟨⟨⟨w4, HT.out⟩, rfl⟩, ?_⟩
  clear hK K
  repeat (refine tree_q rfl rfl ?_; go_big_quiet_step (fail); refine wpQuiet_nil ?_)
  refine tree_a rfl (fun K hK => ?_)
  go_simp
  refine (refRead_any s (Nat.le_trans HV32.out (by decide)) _).mono ?_
  rintro e w5 ⟨a1, c1, rfl, hn9, hb9⟩
  replace HT := Lib.hid (below_up HT.out hb9)
  replace HZS := sz HZS (show w3.heap.size ≤ w5.heap.size from HT.out.size)
  clear hb9
  have HN1 := Lib.hid hn9
  clear hn9
  refine hK _ _ ⟨⟨⟨w5, HT.out⟩, rfl⟩, ?_⟩
  clear hK K
  repeat (refine tree_q rfl rfl ?_; go_big_quiet_step (fail); refine wpQuiet_nil ?_)
  refine tree_a rfl (fun K hK => ?_)
  go_simp
  refine (rRaise OK.out (q_dl OK.out (Nat.le_of_lt HLT.out)) _ (HRG.out.up (below_up HK.out HT.out)) HN1.out).mono ?_
  rintro e w6 ⟨a2, c2, rfl, hn9, hb9⟩
  replace HN1 := Lib.hid (HN1.out.up hb9)
  replace HT := Lib.hid (below_up HT.out hb9)
  replace HZS := sz HZS (show w3.heap.size ≤ w6.heap.size from HT.out.size)
  clear hb9
  have HN2 := Lib.hid hn9
  clear hn9
  refine hK _ _ ⟨⟨⟨w6, HT.out⟩, rfl⟩, ?_⟩
  clear hK K
  repeat (refine tree_q rfl rfl ?_; go_big_quiet_step (fail); refine wpQuiet_nil ?_)
  refine tree_a rfl (fun K hK => ?_)
  go_simp
  refine (rText OK.out (lowN_16 OK.out _) _ HN2.out).mono ?_
  rintro e w7 ⟨rfl, hb9⟩
  replace HN1 := Lib.hid (HN1.out.up hb9)
  replace HN2 := Lib.hid (HN2.out.up hb9)
  replace HT := Lib.hid (below_up HT.out hb9)
  replace HZS := sz HZS (show w3.heap.size ≤ w7.heap.size from HT.out.size)
  clear hb9
  refine hK _ _ ⟨⟨⟨w7, HT.out⟩, rfl⟩, ?_⟩
  clear hK K
  repeat (refine tree_q rfl rfl ?_; go_big_quiet_step (fail); refine wpQuiet_nil ?_)
  refine tree_end ?_
  clear hov_bg hl_bg bg_
  replace Hbg := Lib.hid (Hbg.out.up HT.out)
  replace HK := hbu HK HT.out
  replace HB := hbu HB HT.out
  replace HZS := sz HZS HT.out.size
  clear HT
  have bg_ := Hbg.out.c3
  go_wp2_with fail
  go_ret
  exact ⟨rfl, HB.out⟩
end Go.Proofs.YtjmeakfjfpnciaaGreat
namespace Go.Proofs.YtjmeakfjfpnciaaGreat
open Go.RowKit
theorem toList_bne6 {a b : ByteArray} (h : ¬ a = b) : (a.toList == b.toList) = false := beq_eq_false_iff_ne.2 (fun e => h (by
 have h9 : (a == b) = true := by rw [beq_toListBytes]; exact beq_iff_eq.2 e
 obtain ⟨x⟩ := a
 obtain ⟨y⟩ := b
 have h10 : (x == y) = true := h9
 rw [eq_of_beq h10]))
theorem Sl.atUp6 {w w1 : World} {a : Option Addr} {cs : List Value} (h : Sl w w.heap.size a cs) (hb : Below w.heap.size w w1) (i : Nat) (hi : i < cs.length) :
  ∃ b off, a = some ⟨b, off, none⟩ ∧ b < w.heap.size ∧ b < w1.heap.size ∧ w1.cell? ⟨b, off + i, none⟩ = some cs[i] := by
 obtain ⟨b, off, rfl, hl, hc⟩ := h.at i hi
 exact ⟨b, off, rfl, hl, Nat.lt_of_lt_of_le hl hb.size, (hb.cell (p := ⟨b, off + i, none⟩) hl).trans hc⟩
theorem take_eq_snoc6 {l m : List ByteArray} {j : Nat} (hl : j < l.length) (hm : j < m.length) (h : l.take j = m.take j) (h1 : l[j] = m[j]) : l.take (j + 1) = m.take (j + 1) := by
 rw [List.take_succ_eq_append_getElem hl, List.take_succ_eq_append_getElem hm, h, h1]
theorem same6_any (l m : List ByteArray) (al am : Option Addr) (cl cm : Nat) (hl : l.length ≤ 8796093022207) (b : Bool) (hb : decide (l = m) = b) (w : World) (hL : Sl w w.heap.size al (l.map Value.string)) (hM : Sl w w.heap.size am (m.map Value.string)) :
  Calls Tryz.prog 10 #[.slice al l.length cl, .slice am m.length cm] w (Gives (.bool b) w) := by
 have HL := Lib.hid hL
 have HM := Lib.hid hM
 have HBB := Lib.hid hb
 clear hL hM hb
 unfold Gives
 by_cases h1 : l.length = m.length
 ·have hd : ((l.length : Int) != (m.length : Int)) = false := by rw [bne_eq_false_iff_eq]; omega
  obtain ⟨n, hn⟩ : ∃ n, l.length = n := ⟨_, rfl⟩
  have hm : m.length = n := by omega
  have HNL := Lib.hid hn
  have HNM := Lib.hid hm
  rw [hn] at hd hl ⊢
  rw [hm] at hd ⊢
  clear h1 hn hm
  go_enter Tryz.func10, Tryz.ntmps10
  go_wp2_with fail
  go_loopw [13] (fun i wr => ∃ j : Nat, j ≤ n ∧ i = .int .i64 j ∧ Hid (Below w.heap.size w wr) ∧ Hid (l.take j = m.take j)) (fun i _ => n - (intOf i).toNat)
  case atStart => exact ⟨0, Nat.zero_le _, rfl, Below.refl _ _, rfl⟩
  case round =>
   obtain ⟨j, hj, rfl, HB, HT⟩ := hrel
   by_cases hjn : j < n
   ·skip
    have hjl : j < l.length := by rw [HNL.out]; exact hjn
    have hjm : j < m.length := by rw [HNM.out]; exact hjn
    obtain ⟨b1, o1, rfl, hb10, hb1, hc1⟩ := HL.out.atUp6 HB.out j (by simpa using hjl)
    obtain ⟨b2, o2, rfl, hb20, hb2, hc2⟩ := HM.out.atUp6 HB.out j (by simpa using hjm)
    rw [List.getElem_map] at hc1 hc2
    have HTS := Lib.hid (take_eq_snoc6 hjl hjm HT.out)
    have HNE := Lib.hid (fun (h : ¬ l[j] = m[j]) => (show ¬ l = m from fun e => h (by subst e; rfl)))
    generalize l[j] = x at *
    generalize m[j] = y at *
    by_cases hxy : x = y
    ·have HF := Lib.hid (HTS.out hxy)
     subst hxy
     go_wp2_with fail
     refine wp_region_over (by kernel_rfl) (by kernel_rfl) ?_
     have hov_b1 := fun (E : Over wr) o => E.cell (b := b1) o hb1
     have hov_b2 := fun (E : Over wr) o => E.cell (b := b2) o hb2
     repeat (go_big_quiet_step (first | fail))
     all_goals (try unfold elV limbV)
     repeat (go_big_quiet_step (first | fail))
     all_goals (try unfold elV limbV)
     repeat (go_big_quiet_step (first | fail))
     all_goals (try unfold ciphV)
     refine wpQuiet_nil ?_
     rintro _ ⟨E, rfl⟩
     clear hov_b1 hov_b2
     replace HB := hbu HB E.h
     have HZS := Lib.hid E.h.size
     obtain ⟨w1, hq9⟩ : ∃ W9 : World, E.w = W9 := ⟨_, rfl⟩
     rw [hq9] at HB HZS ⊢
     clear hq9 E
     go_wp2_with fail
     go_roundw
     case rel => exact ⟨j + 1, by omega, by go_num, HB, HF⟩
     case measure => simp [intOf]; omega
    ·obtain rfl : b = false := by rw [← HBB.out]; exact decide_eq_false (HNE.out hxy)
     have hcd := toList_bne6 hxy
     clear hxy
     go_wp2_with fail
     refine wp_region_over (by kernel_rfl) (by kernel_rfl) ?_
     have hov_b1 := fun (E : Over wr) o => E.cell (b := b1) o hb1
     have hov_b2 := fun (E : Over wr) o => E.cell (b := b2) o hb2
     repeat (go_big_quiet_step (first | fail))
     all_goals (try unfold elV limbV)
     repeat (go_big_quiet_step (first | fail))
     all_goals (try unfold elV limbV)
     repeat (go_big_quiet_step (first | fail))
     all_goals (try unfold ciphV)
     refine wpQuiet_nil ?_
     rintro _ ⟨E, rfl⟩
     clear hov_b1 hov_b2
     replace HB := hbu HB E.h
     have HZS := Lib.hid E.h.size
     obtain ⟨w1, hq9⟩ : ∃ W9 : World, E.w = W9 := ⟨_, rfl⟩
     rw [hq9] at HB HZS ⊢
     clear hq9 E
     go_wp2_with fail
     go_ret
     exact ⟨rfl, HB.out⟩
   ·have hjn' : j = n := by omega
    subst hjn'
    obtain rfl : b = true := by
     rw [← HBB.out]
     refine decide_eq_true ?_
     have h9 := HT.out
     rwa [List.take_of_length_le (by rw [HNL.out]; exact Nat.le_refl _), List.take_of_length_le (by rw [HNM.out]; exact Nat.le_refl _)] at h9
    go_wp2_with fail
    go_ret
    exact ⟨rfl, HB.out⟩
 ·have hd : ((l.length : Int) != (m.length : Int)) = true := by rw [bne_iff_ne]; omega
  obtain rfl : b = false := by rw [← HBB.out]; exact decide_eq_false (fun e => h1 (by rw [e]))
  clear h1
  go_enter Tryz.func10, Tryz.ntmps10
  go_wp2_with fail
  go_ret
  exact ⟨rfl, Below.refl _ _⟩
end Go.Proofs.YtjmeakfjfpnciaaGreat
namespace Go.Proofs.YtjmeakfjfpnciaaGreat
open Go.ChangeShapes Go.WideShapes Go.ChangeAt Go.RowKit
theorem flat_range (g : Nat → Value) (k len : Nat) : ((List.range len).map fun i => (List.range k).map fun j => g (i * k + j)).flatten = (List.range (len * k)).map g := by
 induction len with
 | zero => simp
 | succ m ih =>
  rw [List.range_succ, List.map_append, List.flatten_append, ih, Nat.succ_mul, List.range_add, List.map_append]
  simp [List.map_map, Function.comp_def]
section
variable {H : Type} {enc : TypeId × Value → H} {P : Program} {w : World}
theorem list_shapes {α : Type} (f : α → List Value) (R : α → Prop) : ∀ css : List (List Value), (∀ l ∈ css, ∃ x, l = f x ∧ R x) → ∃ xs : List α, xs.length = css.length ∧ css.flatten = xs.flatMap f ∧ ∀ x ∈ xs, R x
 | [], _ => ⟨[], rfl, rfl, by simp⟩
 | l :: css, h => by
  obtain ⟨x, rfl, hR⟩ := h l (by simp)
  obtain ⟨xs, h1, h2, h3⟩ := list_shapes f R css (fun c hc => h c (by simp [hc]))
  refine ⟨x :: xs, by simp [h1], by simp [h2], ?_⟩
  intro y hy
  rcases List.mem_cons.1 hy with rfl | hy
  ·exact hR
  ·exact h3 y hy
theorem open_str {sp : Nat → Bool} {held : Bool} {t : TypeId} {fuel : Nat} {c : Value} {y : DataW H × List MemPlace} (ht : P.underlying t = some .string) (h : DataW.trod enc P w 0 sp held fuel t [c] = some y) : ∃ s : ByteArray, c = .string s := by
 obtain ⟨s, hs, _⟩ := DataW.trod_string ht h
 simp only [List.cons.injEq, and_true] at hs
 exact ⟨s, hs⟩
end
end Go.Proofs.YtjmeakfjfpnciaaGreat
namespace Go.Proofs.YtjmeakfjfpnciaaGreat
open Go.ChangeShapes Go.WideShapes Go.ChangeAt Go.RowKit
def Wt {H : Type} (P : Program) (t : TypeId) (d : DataW H) : Prop := ∀ n ∈ DataW.weights P t d, n ≤ reachBytes
theorem weightsAll_mem {H : Type} {P : Program} {e : TypeId} : ∀ {l : List (DataW H)} {d : DataW H}, d ∈ l → ∀ n ∈ DataW.weights P e d, n ∈ DataW.weightsAll P e l
 | x :: l, d, hd, n, hn => by
  simp only [DataW.weightsAll, List.mem_append]
  rcases List.mem_cons.1 hd with rfl | h
  ·exact Or.inl hn
  ·exact Or.inr (weightsAll_mem h n hn)
theorem Wt.slice {H : Type} {P : Program} {t e : TypeId} {elems spare : List (DataW H)} (ht : P.underlying t = some (.slice e)) (h : Wt P t (.slice elems spare)) : elems.length * P.bytesOf e ≤ reachBytes ∧ ∀ d ∈ elems, Wt P e d := by
 unfold Wt at h
 simp only [DataW.weights, ht, List.mem_cons, List.mem_append] at h
 refine ⟨Nat.le_trans (Nat.mul_le_mul_right _ (Nat.le_add_right _ _)) (h _ (Or.inl rfl)), fun d hd n hn => h n (Or.inr (Or.inl (weightsAll_mem hd n hn)))⟩
theorem Wt.arg {H : Type} {P : Program} {ts : List TypeId} {ds : List (DataW H)} (h : (DataW.weightsEach P ts ds).all (· ≤ reachBytes) = true) {j : Nat} {t : TypeId} {d : DataW H} (ht : ts[j]? = some t) (hd : ds[j]? = some d) : Wt P t d :=
 fun n hn => of_decide_eq_true (List.all_eq_true.1 h _ (DataW.weights_mem_each ht hd n hn))
section
variable {H : Type} {enc : TypeId × Value → H} {P : Program} {w : World}
theorem open_flatW {sp : Nat → Bool} {held : Bool} {t e : TypeId} {k fuel : Nat} {c : Value} {y : DataW H × List MemPlace} (ht : P.underlying t = some (.slice e)) (hk : P.cellsOf e = k) (hk0 : 0 < k) (hW : Wt P t y.1)
  (h : DataW.trod enc P w 0 sp held fuel t [c] = some y) :
  ∃ (a : Option Addr) (cap : Nat) (css : List (List Value)), c = .slice a css.length cap ∧ css.length * P.bytesOf e ≤ reachBytes ∧ (a = none → cap = 0) ∧ (∀ l ∈ css, l.length = k) ∧ Sl w w.heap.size a css.flatten ∧
   ∀ l ∈ css, ∃ n y', Wt P e y'.1 ∧ DataW.trod enc P w 0 sp held n e l = some y' := by
 have hlt := DataW.trod_lt _ _ _ _ h
 rcases DataW.trod_slice ht h with ⟨hcs, _⟩ | ⟨x, len, cap, elems, rest, n, _, hcs, hx, hb, hl, hm, hlen, hel, _, _⟩
 ·simp only [List.cons.injEq, and_true] at hcs
  exact ⟨none, 0, [], hcs, by simp, fun _ => rfl, by simp, Or.inl rfl, by simp⟩
 simp only [List.cons.injEq, and_true] at hcs
 subst hcs
 by_cases h0 : len = 0
 ·subst h0
  exact ⟨some x, cap, [], rfl, by simp, by simp, by simp, Or.inl rfl, by simp⟩
 have hbk := Wt.slice (elems := elems.map (·.1)) (spare := rest.map (·.1)) ht (by rw [hx] at hW; exact hW)
 have each : ∀ i, i < len → ∃ l y', w.cells? 0 (x.add (i * k)) k = some l ∧ Wt P e y'.1 ∧ DataW.trod enc P w 0 sp held n e l = some y' := by
  intro i hi
  have h1 := hel i hi
  rw [hk, show elems[i]? = some (elems[i]'(by omega)) from List.getElem?_eq_getElem (by omega), Option.bind_eq_some_iff] at h1
  obtain ⟨l, hl, hy⟩ := h1
  exact ⟨l, _, hl, hbk.2 _ (List.mem_map.2 ⟨_, List.getElem_mem _, rfl⟩), hy⟩
 obtain ⟨b, off, spot⟩ := x
 have hspot : spot = none := by
  obtain ⟨l, _, h1, _⟩ := each 0 (by omega)
  obtain ⟨_, h2, h3⟩ := World.cells?_some h1
  have h4 := h3 0 hk0
  obtain ⟨v, hv⟩ : ∃ v, l[0]? = some v := ⟨_, List.getElem?_eq_getElem (by omega)⟩
  rw [hv, Deep.add_add, Nat.zero_mul, Nat.zero_add] at h4
  simpa [Addr.add] using World.cell?_spot h4
 subst hspot
 have hbW : b < w.heap.size := hlt (.cell b off) (by
  rw [hx]
  exact List.mem_append_left _ (MemPlace.mem_row.2 ⟨0, by rw [hk]; have : 0 < (elems.length + rest.length) * k := Nat.mul_pos (by omega) hk0; omega, by simp⟩))
 have hL : ∀ i, i < len → ((List.range k).map fun j => (w.cell? ⟨b, off + (i * k + j), none⟩).getD (.bool false)).length = k ∧
   (∀ j, j < k → w.cell? ⟨b, off + (i * k + j), none⟩ = some ((w.cell? ⟨b, off + (i * k + j), none⟩).getD (.bool false))) ∧
   ∃ y', Wt P e y'.1 ∧ DataW.trod enc P w 0 sp held n e ((List.range k).map fun j => (w.cell? ⟨b, off + (i * k + j), none⟩).getD (.bool false)) = some y' := by
  intro i hi
  obtain ⟨l, y', h1, h2b, h2⟩ := each i hi
  obtain ⟨_, h3, h4⟩ := World.cells?_some h1
  have h5 : ∀ j, j < k → w.cell? ⟨b, off + (i * k + j), none⟩ = l[j]? := by
   intro j hj
   have := h4 j hj
   rwa [Deep.add_add, add_plain] at this
  have e1 : (List.range k).map (fun j => (w.cell? ⟨b, off + (i * k + j), none⟩).getD (.bool false)) = l := by
   apply List.ext_getElem?
   intro j
   by_cases hj : j < k
   ·rw [List.getElem?_map, List.getElem?_range hj, Option.map_some, h5 j hj, List.getElem?_eq_getElem (show j < l.length by omega), Option.getD_some]
   ·rw [List.getElem?_eq_none (by simp; omega), List.getElem?_eq_none (by omega)]
  refine ⟨by simp, ?_, ?_⟩
  ·intro j hj
   rw [h5 j hj, List.getElem?_eq_getElem (show j < l.length by omega), Option.getD_some]
  ·rw [e1]; exact ⟨y', h2b, h2⟩
 refine ⟨some ⟨b, off, none⟩, cap, (List.range len).map fun i => (List.range k).map fun j => (w.cell? ⟨b, off + (i * k + j), none⟩).getD (.bool false), by simp, ?_, by simp, ?_, Or.inr ⟨b, off, rfl, hbW, ?_⟩, ?_⟩
 ·have := hbk.1; rw [List.length_map, hlen] at this; simpa using this
 ·intro l hl
  obtain ⟨i, _, rfl⟩ := List.mem_map.1 hl
  simp
 ·have hflat := flat_range (fun m => (w.cell? ⟨b, off + m, none⟩).getD (.bool false)) k len
  intro i v hv
  rw [hflat] at hv
  have hi : i < len * k := by have := (List.getElem?_eq_some_iff.1 hv).1; simpa using this
  have hq : i / k < len := Nat.div_lt_of_lt_mul (by rwa [Nat.mul_comm] at hi)
  have hc := (hL (i / k) hq).2.1 (i % k) (Nat.mod_lt _ hk0)
  rw [show i / k * k + i % k = i by rw [Nat.mul_comm]; exact Nat.div_add_mod i k] at hc
  rw [hc, ← hv, List.getElem?_map, List.getElem?_range hi, Option.map_some]
 ·intro l hl
  obtain ⟨i, hi, rfl⟩ := List.mem_map.1 hl
  obtain ⟨y', hyb, hy⟩ := (hL i (List.mem_range.1 hi)).2.2
  exact ⟨n, y', hyb, hy⟩
theorem open_elsW {α : Type} (f : α → List Value) (R : α → Prop) {sp : Nat → Bool} {held : Bool} {t e : TypeId} {k fuel : Nat} {c : Value} {y : DataW H × List MemPlace} (ht : P.underlying t = some (.slice e)) (hk : P.cellsOf e = k) (hk0 : 0 < k) (hW : Wt P t y.1)
  (hel : ∀ n l y', l.length = k → Wt P e y'.1 → DataW.trod enc P w 0 sp held n e l = some y' → ∃ x, l = f x ∧ R x) (h : DataW.trod enc P w 0 sp held fuel t [c] = some y) :
  ∃ (a : Option Addr) (cap : Nat) (xs : List α), c = .slice a xs.length cap ∧ xs.length * P.bytesOf e ≤ reachBytes ∧ (a = none → cap = 0) ∧ Sl w w.heap.size a (xs.flatMap f) ∧ ∀ x ∈ xs, R x := by
 obtain ⟨a, cap, css, rfl, hlB, hno, hl, hs, he⟩ := open_flatW ht hk hk0 hW h
 obtain ⟨xs, h1, h2, h3⟩ := list_shapes f R css (fun l hm => by
  obtain ⟨n, y', hyb, hy⟩ := he l hm
  exact hel n l y' (hl l hm) hyb hy)
 exact ⟨a, cap, xs, by rw [h1], by rw [h1]; exact hlB, hno, h2 ▸ hs, h3⟩
end
end Go.Proofs.YtjmeakfjfpnciaaGreat
namespace Go.Proofs.YtjmeakfjfpnciaaGreat
open Go.ChangeShapes Go.WideShapes Go.ChangeAt Go.RowKit
theorem Wt.str7 {H : Type} {enc : TypeId × Value → H} {P : Program} {w : World} {sp : Nat → Bool} {held : Bool} {t : TypeId} {fuel : Nat} {s : ByteArray} {y : DataW H × List MemPlace} (ht : P.underlying t = some .string) (hW : Wt P t y.1) (h : DataW.trod enc P w 0 sp held fuel t [.string s] = some y) : s.size ≤ reachBytes := by
 obtain ⟨s', hs, hy, _⟩ := DataW.trod_string ht h
 simp only [List.cons.injEq, and_true, Value.string.injEq] at hs
 subst hs
 rw [hy] at hW
 exact hW s.data.toList.length (by simp [DataW.weights])
theorem open_strsC {H : Type} {enc : TypeId × Value → H} {P : Program} {w : World} {sp : Nat → Bool} {held : Bool} {t e : TypeId} {fuel : Nat} {c : Value} {y : DataW H × List MemPlace} (ht : P.underlying t = some (.slice e)) (he : P.underlying e = some .string) (hk : P.cellsOf e = 1) (hW : Wt P t y.1) (h : DataW.trod enc P w 0 sp held fuel t [c] = some y) :
  ∃ (a : Option Addr) (cap : Nat) (bs : List ByteArray), c = .slice a bs.length cap ∧ bs.length * P.bytesOf e ≤ reachBytes ∧ Sl w w.heap.size a (bs.map Value.string) ∧ (∀ x ∈ bs, x.size ≤ reachBytes) ∧ bs.length ≤ cap ∧ (a = none → cap = 0) := by
 obtain ⟨a, cap, xs, h1, hb, hno, h2, h3⟩ := open_elsW (fun s : ByteArray => [Value.string s]) (fun s => s.size ≤ reachBytes) ht hk (by omega) hW (fun n l y' hl hw hy => by
  match l, hl with
  | [c'], _ =>
   obtain ⟨s, rfl⟩ := open_str he hy
   exact ⟨s, rfl, Wt.str7 he hw hy⟩) h
 refine ⟨a, cap, xs, h1, hb, ?_, h3, ?_, hno⟩
 ·rw [← List.flatMap_singleton' (xs.map Value.string), List.flatMap_map]
  exact h2
 ·rw [h1] at h
  rcases DataW.trod_slice ht h with ⟨hcs, _⟩ | ⟨x, len, cap', elems, rest, n', _, hcs, hx, hb, hl, hm, hlen, hel, _, _⟩
  ·simp only [List.cons.injEq, Value.slice.injEq, and_true] at hcs
   omega
  ·simp only [List.cons.injEq, Value.slice.injEq, and_true] at hcs
   omega
theorem str7_cells : Tryz.prog.cellsOf 9 = 1 := by kernel_rfl
theorem str7_bytes : Tryz.prog.bytesOf 9 = 16 := by kernel_rfl
theorem reach7_lt : reachBytes < 140737488355328 := by decide
end Go.Proofs.YtjmeakfjfpnciaaGreat
namespace Go.Proofs.YtjmeakfjfpnciaaGreat
open Go.ChangeShapes Go.WideShapes Go.ChangeAt Go.RowKit
end Go.Proofs.YtjmeakfjfpnciaaGreat
namespace Go.Proofs.YtjmeakfjfpnciaaGreat
open Go.ChangeShapes Go.WideShapes Go.ChangeAt Go.RowKit
end Go.Proofs.YtjmeakfjfpnciaaGreat
namespace Go.Proofs.YtjmeakfjfpnciaaGreat
open Go.ChangeShapes Go.WideShapes Go.ChangeAt Go.RowKit
section
variable {H : Type} {enc : TypeId × Value → H} {w : World}
end
section
variable {H : Type} {enc : TypeId × Value → H} {w : World}
end
end Go.Proofs.YtjmeakfjfpnciaaGreat
namespace Go.Proofs.YtjmeakfjfpnciaaGreat
open Go.ChangeShapes Go.WideShapes Go.ChangeAt Go.RowKit
theorem Wt.str {H : Type} {enc : TypeId × Value → H} {P : Program} {w : World} {sp : Nat → Bool} {held : Bool} {t : TypeId} {fuel : Nat} {s : ByteArray} {y : DataW H × List MemPlace} (ht : P.underlying t = some .string) (hW : Wt P t y.1) (h : DataW.trod enc P w 0 sp held fuel t [.string s] = some y) : s.size ≤ reachBytes := by
 obtain ⟨s', hs, hy, _⟩ := DataW.trod_string ht h
 simp only [List.cons.injEq, and_true, Value.string.injEq] at hs
 subst hs
 rw [hy] at hW
 exact hW s.data.toList.length (by simp [DataW.weights])
section
variable {H : Type} {enc : TypeId × Value → H} {w : World}
end
end Go.Proofs.YtjmeakfjfpnciaaGreat
namespace Go.Proofs.YtjmeakfjfpnciaaGreat
open Go.ChangeShapes Go.WideShapes Go.ChangeAt Go.RowKit
theorem rightB_pos {need of : Int} (h : rightB need of = true) : 1 ≤ of ∧ of ≤ 8 ∧ 1 ≤ need ∧ need ≤ of := by unfold rightB at h; exact of_decide_eq_true h
theorem trustDeals_any (kind need of x : Int) (seed share : ByteArray) (hs : seed.size < 140737488355328) (xs : List ByteArray) (hxs : xs.length ≤ 8796093022207) (ax : Option Addr) (cx : Nat) (w : World) (hX : Sl w w.heap.size ax (xs.map Value.string)) :
  Calls Tryz.prog 3 #[.int .i64 kind, .int .i64 need, .int .i64 of, .string seed, .slice ax xs.length cx, .int .i64 x, .string share] w fun e w' => e = .returned (.bool true) ∧ Below w.heap.size w w' := by
 obtain ⟨e1, C, S, hC, hS, H1, H2⟩ : ∃ (er : Nat) (C S : List ByteArray), C.length ≤ 8 ∧ S.length ≤ 8 ∧ (∀ w, Calls Tryz.prog 8 #[.int .i64 kind, .int .i64 need, .int .i64 of, .string seed] w (DealR er C S w)) ∧ (∀ w, Calls Tryz.prog 9 #[.int .i64 kind, .int .i64 need, .int .i64 of, .string seed] w (DealR er C S w)) := by
  by_cases hk : 1 ≤ kind ∧ kind ≤ 3
  ·obtain ⟨k, rfl⟩ : ∃ k : Nat, kind = k := ⟨kind.toNat, by omega⟩
   cases hr : rightB need of with
   | false => exact ⟨4, [], [], Nat.zero_le _, Nat.zero_le _, fun w => tDeal_range k (by omega) (by omega) need of hr _ w, fun w => rDeal_range k (by omega) (by omega) need of hr _ w⟩
   | true =>
    have h9 := rightB_pos hr
    obtain ⟨n, rfl⟩ : ∃ k : Nat, need = k := ⟨need.toNat, by omega⟩
    obtain ⟨m, rfl⟩ : ∃ k : Nat, of = k := ⟨of.toNat, by omega⟩
    exact ⟨0, _, _, by rw [cmtL_len]; omega, by rw [shrL_len]; omega, fun w => tDeal_some k (by omega) (by omega) n m hr seed hs w, fun w => rDeal_some k (by omega) (by omega) n m hr seed hs w⟩
  ·exact ⟨1, [], [], Nat.zero_le _, Nat.zero_le _, fun w => tDeal_none kind hk _ _ _ w, fun w => rDeal_none kind hk _ _ _ w⟩
 obtain ⟨e2, s2, b, H3, H4, H5, H6⟩ : ∃ (er : Nat) (s : ByteArray) (b : Bool), (∀ w, Sl w w.heap.size ax (xs.map Value.string) → Calls Tryz.prog 11 #[.int .i64 kind, .slice ax xs.length cx, .int .i64 x] w (Gives (.tuple #[.string s, .int .i64 (er : Int)]) w)) ∧ (∀ w, Sl w w.heap.size ax (xs.map Value.string) → Calls Tryz.prog 12 #[.int .i64 kind, .slice ax xs.length cx, .int .i64 x] w (Gives (.tuple #[.string s, .int .i64 (er : Int)]) w)) ∧ (∀ w, Sl w w.heap.size ax (xs.map Value.string) → Calls Tryz.prog 13 #[.int .i64 kind, .slice ax xs.length cx, .int .i64 x, .string share] w (Gives (.bool b) w)) ∧ (∀ w, Sl w w.heap.size ax (xs.map Value.string) → Calls Tryz.prog 14 #[.int .i64 kind, .slice ax xs.length cx, .int .i64 x, .string share] w (Gives (.bool b) w)) := by
  by_cases hk : 1 ≤ kind ∧ kind ≤ 3
  ·obtain ⟨k, rfl⟩ : ∃ k : Nat, kind = k := ⟨kind.toNat, by omega⟩
   exact ⟨_, _, _, fun w h => tSeen_some k (by omega) (by omega) xs _ rfl (by omega) x ax cx w h, fun w h => rSeen_some k (by omega) (by omega) xs _ rfl (by omega) x ax cx w h, fun w h => tFits_some k (by omega) (by omega) xs _ rfl (by omega) x share ax cx w h, fun w h => rFits_some k (by omega) (by omega) xs _ rfl (by omega) x share ax cx w h⟩
  ·exact ⟨1, _, false, fun w _ => tSeen_none kind hk _ _ w, fun w _ => rSeen_none kind hk _ _ w, fun w _ => tFits_none kind hk _ _ _ w, fun w _ => rFits_none kind hk _ _ _ w⟩
 have HH1 := Lib.hid H1
 have HH2 := Lib.hid H2
 have HH3 := Lib.hid H3
 have HH4 := Lib.hid H4
 have HH5 := Lib.hid H5
 have HH6 := Lib.hid H6
 unfold DealR at HH1 HH2
 unfold Gives at HH3 HH4 HH5 HH6
 have HX := Lib.hid hX
 have HSM := Lib.hid (fun a1 a2 c1 c2 w h1 h2 => same6_any C C a1 a2 c1 c2 (by omega) true (by simp) w h1 h2)
 have HSN := Lib.hid (fun a1 a2 c1 c2 w h1 h2 => same6_any S S a1 a2 c1 c2 (by omega) true (by simp) w h1 h2)
 unfold Gives at HSM HSN
 obtain ⟨m, hm⟩ : ∃ k, C.length = k := ⟨_, rfl⟩
 obtain ⟨n, hn⟩ : ∃ k, S.length = k := ⟨_, rfl⟩
 rw [hm, hn] at HH1 HH2
 rw [hm] at HSM
 rw [hn] at HSN
 generalize xs.length = nx at *
 have hd1 : ((e1 : Int) != (e1 : Int)) = false := by simp
 have hd3 : ((e2 : Int) == (e2 : Int)) = true := by simp
 have hd4 : (s2.toList == s2.toList) = true := by simp
 have hd5 : (b == b) = true := by simp
 clear H1 H2 H3 H4 H5 H6 hX hC hS hxs hm hn hs
 go_enter Tryz.func3, Tryz.ntmps3
 go_wp2_with fail
 refine (HH1.out w).mono ?_
 rintro e w1 ⟨hb9, a1, c1, a2, c2, rfl, hs9, ht9, _, _⟩
 have HB := Lib.hid hb9
 have HZS := Lib.hid hb9.size
 have HS1 := Lib.hid hs9
 clear hs9
 have HS2 := Lib.hid ht9
 clear ht9 hb9
 have B1 := Lib.hid (Below.refl w1.heap.size w1)
 obtain ⟨w2, hq2, hb9, hz9, Hd1⟩ := new1 w1 24 [.slice a1 m c1, .slice a2 n c2]
 replace B1 := hbu B1 hb9
 replace HB := hbu HB hb9
 replace HZS := sz HZS hz9.out
 clear hb9 hz9
 have d1_ := Hd1.out.c2
 go_wp2_with fail
 clear hq2
 refine (HH2.out w2).mono ?_
 rintro e w3 ⟨hb9, a3, c3, a4, c4, rfl, hs9, ht9, _, _⟩
 clear d1_
 replace Hd1 := Lib.hid (Hd1.out.up hb9)
 replace B1 := hbu B1 hb9
 replace HB := hbu HB hb9
 replace HZS := sz HZS hb9.size
 have HS3 := Lib.hid hs9
 clear hs9
 have HS4 := Lib.hid ht9
 clear ht9 hb9
 have d1_ := Hd1.out.c2
 have B2 := Lib.hid (Below.refl w3.heap.size w3)
 have o4_d1_ := d1_; clear d1_
 obtain ⟨w4, hq4, hb9, hz9, Hd2⟩ := new1 w3 24 [.slice a3 m c3, .slice a4 n c4]
 replace Hd1 := Lib.hid (Hd1.out.up hb9)
 replace B1 := hbu B1 hb9
 replace B2 := hbu B2 hb9
 replace HB := hbu HB hb9
 replace HZS := sz HZS hz9.out
 clear hb9 hz9
 have d1_ := Hd1.out.c2
 have d2_ := Hd2.out.c2
 go_wp2_with fail
 clear hq4 o4_d1_
 refine (HSM.out a1 a3 c1 c3 w4 (HS1.out.up B1.out) (HS3.out.up B2.out)).mono ?_
 rintro e w5 ⟨rfl, hb9⟩
 clear d1_
 replace Hd1 := Lib.hid (Hd1.out.up hb9)
 clear d2_
 replace Hd2 := Lib.hid (Hd2.out.up hb9)
 replace B1 := hbu B1 hb9
 replace B2 := hbu B2 hb9
 replace HB := hbu HB hb9
 replace HZS := sz HZS hb9.size
 clear hb9
 have d1_ := Hd1.out.c2
 have d2_ := Hd2.out.c2
 go_wp2_with fail
 refine (HSN.out a2 a4 c2 c4 w5 (HS2.out.up B1.out) (HS4.out.up B2.out)).mono ?_
 rintro e w6 ⟨rfl, hb9⟩
 clear d1_
 replace Hd1 := Lib.hid (Hd1.out.up hb9)
 clear d2_
 replace Hd2 := Lib.hid (Hd2.out.up hb9)
 replace B1 := hbu B1 hb9
 replace B2 := hbu B2 hb9
 replace HB := hbu HB hb9
 replace HZS := sz HZS hb9.size
 clear hb9
 have d1_ := Hd1.out.c2
 have d2_ := Hd2.out.c2
 go_wp2_with fail
 refine (HH3.out w6 (HX.out.up HB.out)).mono ?_
 rintro e w7 ⟨rfl, hb9⟩
 clear d1_
 replace Hd1 := Lib.hid (Hd1.out.up hb9)
 clear d2_
 replace Hd2 := Lib.hid (Hd2.out.up hb9)
 replace B1 := hbu B1 hb9
 replace B2 := hbu B2 hb9
 replace HB := hbu HB hb9
 replace HZS := sz HZS hb9.size
 clear hb9
 have d1_ := Hd1.out.c2
 have d2_ := Hd2.out.c2
 go_wp2_with fail
 refine (HH4.out w7 (HX.out.up HB.out)).mono ?_
 rintro e w8 ⟨rfl, hb9⟩
 clear d1_
 replace Hd1 := Lib.hid (Hd1.out.up hb9)
 clear d2_
 replace Hd2 := Lib.hid (Hd2.out.up hb9)
 replace B1 := hbu B1 hb9
 replace B2 := hbu B2 hb9
 replace HB := hbu HB hb9
 replace HZS := sz HZS hb9.size
 clear hb9
 have d1_ := Hd1.out.c2
 have d2_ := Hd2.out.c2
 go_wp2_with fail
 refine (HH5.out w8 (HX.out.up HB.out)).mono ?_
 rintro e w9 ⟨rfl, hb9⟩
 clear d1_
 replace Hd1 := Lib.hid (Hd1.out.up hb9)
 clear d2_
 replace Hd2 := Lib.hid (Hd2.out.up hb9)
 replace B1 := hbu B1 hb9
 replace B2 := hbu B2 hb9
 replace HB := hbu HB hb9
 replace HZS := sz HZS hb9.size
 clear hb9
 have d1_ := Hd1.out.c2
 have d2_ := Hd2.out.c2
 go_wp2_with fail
 refine (HH6.out w9 (HX.out.up HB.out)).mono ?_
 rintro e w10 ⟨rfl, hb9⟩
 clear d1_
 replace Hd1 := Lib.hid (Hd1.out.up hb9)
 clear d2_
 replace Hd2 := Lib.hid (Hd2.out.up hb9)
 replace B1 := hbu B1 hb9
 replace B2 := hbu B2 hb9
 replace HB := hbu HB hb9
 replace HZS := sz HZS hb9.size
 clear hb9
 have d1_ := Hd1.out.c2
 have d2_ := Hd2.out.c2
 go_wp2_with fail
 go_ret
 exact ⟨rfl, HB.out⟩
theorem trustDeals_calls {H : Type} (enc : TypeId × Value → H) (W : World) (base : Nat) {v0 v1 v2 v3 v4 v5 v6 : Value} {d0 d1 d2 d3 d4 d5 d6 : DataW H} {p0 p1 p2 p3 p4 p5 p6 : List MemPlace}
  (h0 : DataW.Trod enc Tryz.prog W 0 (fun _ => true) true 3 v0 d0 p0) (h1 : DataW.Trod enc Tryz.prog W 0 (fun _ => true) true 3 v1 d1 p1) (h2 : DataW.Trod enc Tryz.prog W 0 (fun _ => true) true 3 v2 d2 p2) (h3 : DataW.Trod enc Tryz.prog W 0 (fun _ => true) true 9 v3 d3 p3) (h4 : DataW.Trod enc Tryz.prog W 0 (fun _ => true) true 22 v4 d4 p4) (h5 : DataW.Trod enc Tryz.prog W 0 (fun _ => true) true 3 v5 d5 p5) (h6 : DataW.Trod enc Tryz.prog W 0 (fun _ => true) true 9 v6 d6 p6)
  (k0 : Value.okWide Tryz.prog W .any base 3 v0) (k1 : Value.okWide Tryz.prog W .any base 3 v1) (k2 : Value.okWide Tryz.prog W .any base 3 v2) (k3 : Value.okWide Tryz.prog W .any base 9 v3) (k4 : Value.okWide Tryz.prog W .any base 22 v4) (k5 : Value.okWide Tryz.prog W .any base 3 v5) (k6 : Value.okWide Tryz.prog W .any base 9 v6)
  (_lt0 : ∀ x ∈ p0, x.block < W.heap.size) (_lt1 : ∀ x ∈ p1, x.block < W.heap.size) (_lt2 : ∀ x ∈ p2, x.block < W.heap.size) (_lt3 : ∀ x ∈ p3, x.block < W.heap.size) (_lt4 : ∀ x ∈ p4, x.block < W.heap.size) (_lt5 : ∀ x ∈ p5, x.block < W.heap.size) (_lt6 : ∀ x ∈ p6, x.block < W.heap.size)
  (hsz : (DataW.weightsEach Tryz.prog ([3, 3, 3, 9, 22, 3, 9] ++ Rows.trustDealsSpec.plain.varTypes Tryz.prog) ([d0, d1, d2, d3, d4, d5, d6] ++ [])).all (· ≤ reachBytes) = true) :
  Calls Tryz.prog 3 #[v0, v1, v2, v3, v4, v5, v6] W fun e w' => e = .returned (.bool true) ∧ Below W.heap.size W w' := by
 obtain ⟨kind, rfl, _, _, _⟩ := open_int Tryz.underlying3 k0 h0
 obtain ⟨need, rfl, _, _, _⟩ := open_int Tryz.underlying3 k1 h1
 obtain ⟨of, rfl, _, _, _⟩ := open_int Tryz.underlying3 k2 h2
 obtain ⟨x, rfl, _, _, _⟩ := open_int Tryz.underlying3 k5 h5
 obtain ⟨b4, n4, m4, rfl⟩ := okWide_slice Tryz.underlying22 k4
 obtain ⟨f3, h3⟩ := h3
 obtain ⟨f4, h4⟩ := h4
 obtain ⟨f6, h6⟩ := h6
 obtain ⟨seed, rfl, _⟩ := Go.ChangeMaps.open_string Tryz.underlying9 k3 ⟨f3, h3⟩
 obtain ⟨share, rfl, _⟩ := Go.ChangeMaps.open_string Tryz.underlying9 k6 ⟨f6, h6⟩
 obtain ⟨ax, cx, xs, e2, hx, hS2, _, _, _⟩ := open_strsC Tryz.underlying22 Tryz.underlying9 str7_cells (Wt.arg hsz (j := 4) rfl rfl) h4
 rw [str7_bytes] at hx
 rw [e2]
 have h9 := reach7_lt
 exact trustDeals_any kind need of x seed share (Nat.lt_of_le_of_lt (Wt.str Tryz.underlying9 (Wt.arg hsz (j := 3) rfl rfl) h3) reach7_lt) xs (by omega) ax cx W hS2
theorem trustDeals_lifted (os : Os) (started : os.Started) (H : Type) (enc : TypeId × Value → H) :
  ReturnsInHanded {} Tryz.checked os 3 .any (Rows.trustDealsSpec.pre6 enc Tryz.prog Tryz.f3 Rows.trustDealsRow.domain false) (Rows.trustDealsSpec.post enc Tryz.prog Tryz.f3 false true false false) := by
 refine returnsInHanded_of_change_sized (C := Tryz.checked) law_own started (by kernel_rfl) Tryz.func3
  (ChangeSpec.witness6 (enc := enc) (C := Tryz.checked) false ⟨#[], #[.int .i64 0, .int .i64 0, .int .i64 0, .string ⟨#[]⟩, .slice none 0 0, .int .i64 0, .string ⟨#[]⟩], []⟩ 8 (by kernel_rfl) (by kernel_rfl) (by kernel_rfl) (by kernel_rfl)) ?_
 intro W base args ds gs before hval0 hW _ hsz0 _
 have hsz : (DataW.weightsEach Tryz.prog (Tryz.f3.params.toList ++ Rows.trustDealsSpec.plain.varTypes Tryz.prog) (ds ++ gs)).all (· ≤ reachBytes) = true := hsz0
 clear hsz0
 have hval : ∀ (j : Nat) t v, Tryz.f3.params[j]? = some t → args[j]? = some v → Value.okWide Tryz.prog W .any base t v := hval0
 have hW' := hW
 obtain ⟨p, q, hA0, hV, rfl, _, _⟩ := hW
 have hA : DataW.TrodAll enc Tryz.prog W 0 (fun _ => true) true Tryz.f3.params.toList args.toList ds p := hA0
 rw [Tryz.params3] at hA hval hsz
 obtain ⟨v0, vs0, d0, ds0, p0, q0, hargs, rfl, rfl, h0, r0⟩ := trodAll_cons hA
 obtain ⟨v1, vs1, d1, ds1, p1, q1, rfl, rfl, rfl, h1, r1⟩ := trodAll_cons r0
 obtain ⟨v2, vs2, d2, ds2, p2, q2, rfl, rfl, rfl, h2, r2⟩ := trodAll_cons r1
 obtain ⟨v3, vs3, d3, ds3, p3, q3, rfl, rfl, rfl, h3, r3⟩ := trodAll_cons r2
 obtain ⟨v4, vs4, d4, ds4, p4, q4, rfl, rfl, rfl, h4, r4⟩ := trodAll_cons r3
 obtain ⟨v5, vs5, d5, ds5, p5, q5, rfl, rfl, rfl, h5, r5⟩ := trodAll_cons r4
 obtain ⟨v6, vs6, d6, ds6, p6, q6, rfl, rfl, rfl, h6, r6⟩ := trodAll_cons r5
 obtain ⟨rfl, rfl, rfl⟩ := trodAll_nil r6
 obtain rfl : args = #[v0, v1, v2, v3, v4, v5, v6] := by cases args; simp_all
 obtain ⟨rfl, rfl⟩ := trodVars_none hV
 have lt0 : ∀ x ∈ p0, x.block < W.heap.size := by obtain ⟨m, hm⟩ := h0; exact DataW.trod_lt m _ _ _ hm
 have lt1 : ∀ x ∈ p1, x.block < W.heap.size := by obtain ⟨m, hm⟩ := h1; exact DataW.trod_lt m _ _ _ hm
 have lt2 : ∀ x ∈ p2, x.block < W.heap.size := by obtain ⟨m, hm⟩ := h2; exact DataW.trod_lt m _ _ _ hm
 have lt3 : ∀ x ∈ p3, x.block < W.heap.size := by obtain ⟨m, hm⟩ := h3; exact DataW.trod_lt m _ _ _ hm
 have lt4 : ∀ x ∈ p4, x.block < W.heap.size := by obtain ⟨m, hm⟩ := h4; exact DataW.trod_lt m _ _ _ hm
 have lt5 : ∀ x ∈ p5, x.block < W.heap.size := by obtain ⟨m, hm⟩ := h5; exact DataW.trod_lt m _ _ _ hm
 have lt6 : ∀ x ∈ p6, x.block < W.heap.size := by obtain ⟨m, hm⟩ := h6; exact DataW.trod_lt m _ _ _ hm
 clear hA0 hval0
 refine (trustDeals_calls enc W base h0 h1 h2 h3 h4 h5 h6 (hval 0 3 v0 rfl rfl) (hval 1 3 v1 rfl rfl) (hval 2 3 v2 rfl rfl) (hval 3 9 v3 rfl rfl) (hval 4 22 v4 rfl rfl) (hval 5 3 v5 rfl rfl) (hval 6 9 v6 rfl rfl) lt0 lt1 lt2 lt3 lt4 lt5 lt6 hsz).mono fun e W' ⟨he, bel⟩ => ?_
 subst he
 exact ⟨_, rfl, _, _, _, [], _, [], hW', trodAll_mk1 (shut_bool Tryz.underlying4 _), (trodAll_cons_mk (Below.trod law_laidOut (by kernel_rfl) (of_decide_eq_true (by kernel_rfl)) h0 bel lt0) (trodAll_cons_mk (Below.trod law_laidOut (by kernel_rfl) (of_decide_eq_true (by kernel_rfl)) h1 bel lt1) (trodAll_cons_mk (Below.trod law_laidOut (by kernel_rfl) (of_decide_eq_true (by kernel_rfl)) h2 bel lt2) (trodAll_cons_mk (Below.trod law_laidOut (by kernel_rfl) (of_decide_eq_true (by kernel_rfl)) h3 bel lt3) (trodAll_cons_mk (Below.trod law_laidOut (by kernel_rfl) (of_decide_eq_true (by kernel_rfl)) h4 bel lt4) (trodAll_cons_mk (Below.trod law_laidOut (by kernel_rfl) (of_decide_eq_true (by kernel_rfl)) h5 bel lt5) (trodAll_cons_mk (Below.trod law_laidOut (by kernel_rfl) (of_decide_eq_true (by kernel_rfl)) h6 bel lt6) trodAll_mk0))))))), rfl, bel.frame _, fun h => by cases h⟩
theorem trustDeals_holds : Rows.TrustDealsSaid :=
 OpenClaim.holds_of_wide 3 Tryz.f3 rfl rfl rfl rfl rfl rfl rfl ⟨rfl, rfl, rfl, rfl, rfl⟩ rfl rfl rfl rfl rfl (by kernel_rfl) Tryz.func3 (by kernel_rfl)
  (of_decide_eq_true (by kernel_rfl)) (by unfold Func.isWrapper; first | (rw [if_pos (by decide +kernel)]; kernel_rfl) | (rw [if_neg (by decide +kernel)]; exact ⟨rfl, rfl⟩))
  (fun os started H enc _ => trustDeals_lifted os started H enc)
#print axioms trustDeals_holds
end Go.Proofs.YtjmeakfjfpnciaaGreat
