/- SigmaSigns: Public, Sign and Signed of anything answer what the document says, and what is signed is found right. No condition. -/
import Derived.Test.YtdlnnkbigeiilaaGreatZSigmaSigns7
import Derived.Outline

/- The document's Verify. Condition: the sizes of what came in. UNDER WAY: region 5 is not walked yet. -/
namespace Go.Proofs.YtdlnnkbigeiilaaGreat
open Go.RowKit

set_option maxRecDepth 100000 in
set_option maxHeartbeats 4000000 in
theorem rVerify_any (k : Int) (label : ByteArray) (hlb : label.size < 140737488355328) (l : List ClaimA) (al : Option Addr) (cl : Nat) (ch : ByteArray) (xs : List ByteArray) (ax : Option Addr) (cx : Nat) (hn : xs.length ≤ 8796093022207) (w : World) (hC : ClaimsAt w al l) (hS : Sl w w.heap.size ax (xs.map Value.string)) :
    Calls Tryz.prog 11 #[.int .i64 k, .string label, .slice al l.length cl, .agg #[.string ch, .slice ax xs.length cx]] w fun e w' => e = .returned (.bool (rverK k label l ch xs)) ∧ Below w.heap.size w w' := by
  have HC := Lib.hid hC
  have HO := Lib.hid (fun w1 (hb : Below w.heap.size w w1) => rBack_any k l al cl ch xs ax cx hn w1 (hC.up hb) (hS.up hb))
  obtain ⟨V, hV⟩ : ∃ b, rverK k label l ch xs = b := ⟨_, rfl⟩
  rw [hV]
  obtain ⟨z, hz⟩ : ∃ z, backE k l ch xs = z := ⟨_, rfl⟩
  obtain ⟨L, hL⟩ : ∃ L, rbackK k l ch xs = L := ⟨_, rfl⟩
  have HV := Lib.hid (show V = (decide (z = 0) && decide (textS (chN (verT k label l L) challengeB % (grp k.toNat).q.m) (grp k.toNat).size = ch)) by rw [← hV]; unfold rverK; rw [hz, hL])
  rw [hz, hL] at HO
  have HLE := Lib.hid (show z = 0 → L = verR k l ch xs from fun h => by rw [← hL, rbackK_eq]; unfold backK verR; rw [hz, if_pos h])
  clear hC hS hV hL
  by_cases h0 : z = 0
  · subst h0
    unfold verT at HV
    obtain ⟨hz1, hz2⟩ := backE_ok hz
    obtain ⟨hk, hsh, hel, hxl, hxa⟩ := openK_ok hz1
    have HK9 := Lib.hid hk
    have hk1 : 1 ≤ k.toNat := by omega
    have hk3 : k.toNat ≤ 3 := by omega
    have hl64 := (shape_ok hsh).2.1
    have HKD := Lib.hid (fun w => (show Calls Tryz.prog 44 #[.int .i64 k] w fun e w' => KindR w e w' (grp k.toNat) from by have h := refKind_some k.toNat hk1 hk3 w; rwa [show ((k.toNat : Nat) : Int) = k by omega] at h))
    have HSY := Lib.hid (show ∀ c ∈ l, SayOk c from fun c hm => by
      have h9 := (shape_ok hsh).2.2 c hm
      have h8 := List.all_eq_true.1 hel c hm
      unfold cElems at h8
      rw [Bool.and_eq_true] at h8
      have hs := (grp_ok k.toNat hk1 hk3).size_le
      have hsm : ∀ s, isEl (grp k.toNat).q.m (grp k.toNat).size s = true → s.size ≤ 32 := fun s h => by
        unfold isEl at h
        simp only [Bool.and_eq_true, decide_eq_true_eq] at h
        omega
      exact ⟨h9.2.1, by omega, fun x hx => hsm x (List.all_eq_true.1 h8.1 x hx), fun x hx => hsm x (List.all_eq_true.1 h8.2 x hx)⟩)
    have HF1 := Lib.hid (fun w => rbegin_any k (by omega) claimsB label (by decide) hlb w)
    have HF2 := Lib.hid (fun al cl w hC => rsayCl_any (beginT claimsB label k) l l.length rfl hl64 (say1_size _ _ _) HSY.out al cl w hC)
    have HF3 := Lib.hid (fun (ro : List RowA) (hm : ro.map RowA.l = L) (al : Option Addr) (cl : Nat) (w : World) (hC : RowsAt w al ro) => (show Calls Tryz.prog 46 #[.agg #[.string (sayCl (beginT claimsB label k) l)], .slice al L.length cl] w fun e w' => e = .returned (.agg #[.string (sayFi (sayCl (beginT claimsB label k) l) L)]) ∧ Below w.heap.size w w' from by
      have hlr : ro.length = L.length := by rw [← hm, List.length_map]
      have h := rsayFi_any (sayCl (beginT claimsB label k) l) ro ro.length rfl (by rw [hlr, HLE.out rfl]; unfold verR; rw [eachA_len]; exact hl64) (sayCl_size _ _ (say1_size _ _ _)) (eachA_small (grp_ok k.toNat hk1 hk3).size_le (lens_small fun c hc => ((shape_ok hsh).2.2 c hc).2.1) (hm.trans (HLE.out rfl))) al cl w hC
      rw [hlr, hm] at h
      exact h))
    have HF4 := Lib.hid (fun pv aq cq w hQ => rChallenge_any (grp k.toNat).size (grp k.toNat).q.m pv (grp_ok k.toNat hk1 hk3).q.pos aq cq (sayFi (sayCl (beginT claimsB label k) l) L) challengeB (by rw [sayFi_size _ _ (sayCl_size _ _ (show (beginT claimsB label k).size = 32 from say1_size _ _ _))]; decide) (by decide) w hQ)
    have HTX := Lib.hid (fun aa cc w h => refText_any (chN (sayFi (sayCl (beginT claimsB label k) l) L) challengeB % (grp k.toNat).q.m) (grp k.toNat).size aa cc (small_dl _ (Nat.lt_of_lt_of_le (Nat.mod_lt _ (grp_ok k.toNat hk1 hk3).q.pos) (Nat.le_of_lt (grp_ok k.toNat hk1 hk3).q.lt4))) (Nat.le_trans (grp_ok k.toNat hk1 hk3).size_le (by decide)) w h)
    generalize chN (sayFi (sayCl (beginT claimsB label k) l) L) challengeB % (grp k.toNat).q.m = nn at *
    generalize chT (sayFi (sayCl (beginT claimsB label k) l) L) challengeB = t4 at *
    generalize sayFi (sayCl (beginT claimsB label k) l) L = t3 at *
    generalize sayCl (beginT claimsB label k) l = t2 at *
    generalize beginT claimsB label k = t1 at *
    obtain ⟨be, hbe⟩ : ∃ b, decide (textS nn (grp k.toNat).size = ch) = b := ⟨_, rfl⟩
    have HBE := Lib.hid (show ((textS nn (grp k.toNat).size).toList == ch.toList) = be by
      rw [← hbe]
      by_cases e9 : textS nn (grp k.toNat).size = ch
      · rw [e9]; simp
      · rw [toList_bne e9, decide_eq_false e9])
    rw [hbe] at HV
    obtain rfl : V = be := by rw [HV.out]; rfl
    clear hbe
    clear hk hsh hel hxl hxa hz1 hz2
    go_enter Tryz.func11, Tryz.ntmps11
    go_wp2_with fail
    obtain ⟨w1, hq1, hb9, hz9, Hbp⟩ := new1 w 25 [.string ch, .slice ax xs.length cx]
    rw [hq1]
    clear hq1
    have HB := Lib.hid hb9
    have HZS := hz9
    clear hb9 hz9
    have bp_ := Hbp.out.c2
    go_wp2_with fail
    refine (HO.out _ HB.out).mono ?_
    rintro e w2 ⟨hb9, a9, c9, ro, rfl, hm9, hr9, _⟩
    clear bp_
    replace Hbp := Lib.hid (Hbp.out.up hb9)
    replace HB := hbu HB hb9
    replace HZS := sz HZS hb9.size
    have HMR := Lib.hid hm9
    clear hm9
    have HRR := Lib.hid hr9
    clear hr9
    clear hb9
    have bp_ := Hbp.out.c2
    have BS := Lib.hid (Below.refl w2.heap.size w2)
    go_wp2_with fail
    refine (HKD.out w2).mono ?_
    rintro e w3 ⟨aq, cq, ap, cp, rfl, hq9, hp9, hb9⟩
    clear bp_
    replace Hbp := Lib.hid (Hbp.out.up hb9)
    replace BS := hbu BS hb9
    replace HB := hbu HB hb9
    replace HZS := sz HZS hb9.size
    have HQ := Lib.hid hq9
    clear hq9
    clear hb9
    have bp_ := Hbp.out.c2
    have BQ := Lib.hid (Below.refl w3.heap.size w3)
    have o4_bp_ := bp_; clear bp_
    obtain ⟨w4, hq4, hb9, hz9, Hg⟩ := new1 w3 86 [.int .i64 ((grp k.toNat).size : Int), .slice aq (dl (grp k.toNat).q.m) cq, .slice ap (dl (grp k.toNat).p.m) cp]
    replace Hbp := Lib.hid (Hbp.out.up hb9)
    replace BS := hbu BS hb9
    replace BQ := hbu BQ hb9
    replace HB := hbu HB hb9
    replace HZS := sz HZS hz9.out
    clear hb9 hz9
    have bp_ := Hbp.out.c2
    have g_ := Hg.out.c3
    go_wp2_with fail
    clear hq4 o4_bp_
    go_cut [13, 12] from 28 to 39 (fun v9 u9 wq9 => ∃ (b9 : Nat) (a9 : Option Addr) (c9 : Nat), v9 = .pointer (some ⟨b9, 0, none⟩) ∧ u9 = .slice a9 (dl nn) c9 ∧ Hid (NumAt wq9 a9 nn) ∧ Hid (Below w4.heap.size w4 wq9))
    case first =>
      have HT := Lib.hid (show Below w4.heap.size w4 w4.drew from (Below.refl _ _).drew)
      have hl_bp := Hbp.out.lt
      have hl_g := Hg.out.lt
      refine wp_region_tree (fun wq9 => ∃ E : Over w4, wq9 = E.w) ((.qs [0, 1, 2, 4, 6] (.two 3 (.two 5 (.two 7 (.two 8 (.qs [9, 10, 11] (.a 12 (.qs [13] (.a 14 .done)))) 12 (.a 8 (.qs [9, 10, 11, 13] (.a 14 .done)))) 12 (.a 7 (.a 8 (.qs [9, 10, 11, 13] (.a 14 .done))))) 12 (.a 5 (.a 7 (.a 8 (.qs [9, 10, 11, 13] (.a 14 .done)))))) 12 (.a 3 (.a 5 (.a 7 (.a 8 (.qs [9, 10, 11, 13] (.a 14 .done))))))))) (by kernel_rfl) (by kernel_rfl) (fun _ _ d _ _ h => by cases d <;> exact h) ⟨⟨_, HT.out⟩, rfl⟩ ?_
      have hov_bp := fun (E : Over w4) o => E.cell (b := w.heap.size) o hl_bp
      have hov_g := fun (E : Over w4) o => E.cell (b := w3.heap.size) o hl_g
      obtain ⟨wd, hwd⟩ : ∃ W9 : World, w4.drew = W9 := ⟨_, rfl⟩
      rw [hwd] at HT ⊢
      clear hwd
      simp only [Tree.qs]
      repeat (refine tree_q rfl rfl ?_; go_big_quiet_step (fail); refine wpQuiet_nil ?_)
      refine tree_two rfl rfl ?ta1 ?ta2
      case ta1 =>
        intro K hK
        go_simp
        refine (HF1.out _).mono ?_
        rintro e wz3 ⟨rfl, hb9⟩
        replace HT := Lib.hid (below_up HT.out hb9)
        clear hb9
        refine hK _ _ ⟨⟨⟨wz3, HT.out⟩, rfl⟩, ?_⟩
        clear hK K
        refine tree_two rfl rfl ?ta4 ?ta5
        case ta4 =>
          intro K hK
          go_simp
          refine (HF2.out al cl _ (HC.out.up (below_up HB.out HT.out))).mono ?_
          rintro e wz6 ⟨rfl, hb9⟩
          replace HT := Lib.hid (below_up HT.out hb9)
          clear hb9
          refine hK _ _ ⟨⟨⟨wz6, HT.out⟩, rfl⟩, ?_⟩
          clear hK K
          refine tree_two rfl rfl ?ta7 ?ta8
          case ta7 =>
            intro K hK
            go_simp
            refine (HF3.out ro HMR.out a9 c9 _ (HRR.out.up (below_up BS.out HT.out))).mono ?_
            rintro e wz9 ⟨rfl, hb9⟩
            replace HT := Lib.hid (below_up HT.out hb9)
            clear hb9
            refine hK _ _ ⟨⟨⟨wz9, HT.out⟩, rfl⟩, ?_⟩
            clear hK K
            refine tree_two rfl rfl ?ta10 ?ta11
            case ta10 =>
              intro K hK
              go_simp
              refine (HF4.out _ aq cq _ (HQ.out.up (below_up BQ.out HT.out))).mono ?_
              rintro e wz12 ⟨a5, c5, rfl, hn9, hb9⟩
              replace HT := Lib.hid (below_up HT.out hb9)
              have HN5 := Lib.hid hn9
              clear hn9
              clear hb9
              refine hK _ _ ⟨⟨⟨wz12, HT.out⟩, rfl⟩, ?_⟩
              clear hK K
              repeat (refine tree_q rfl rfl ?_; go_big_quiet_step (fail); refine wpQuiet_nil ?_)
              refine tree_a rfl (fun K hK => ?_)
              go_simp
              have hb9 : Below wz12.heap.size wz12 (wz12.alloc (Obj.cells #[.string ⟨#[]⟩] 89)) := (Below.refl _ _).alloc (Nat.le_refl _) _
              have hx9 : Bx (wz12.alloc (Obj.cells #[.string ⟨#[]⟩] 89)) wz12.heap.size 89 [.string ⟨#[]⟩] := Bx.new _ _ _ _ rfl
              obtain ⟨wz13, hq9⟩ : ∃ W9 : World, (wz12.alloc (Obj.cells #[.string ⟨#[]⟩] 89)) = W9 := ⟨_, rfl⟩
              rw [hq9] at hb9 hx9
              try rw [hq9]
              clear hq9
              replace HN5 := Lib.hid (HN5.out.up hb9)
              have HAr := Lib.hid HT.out.size
              replace HT := Lib.hid (below_up HT.out hb9)
              have Hr := Lib.hid hx9
              clear hb9 hx9
              refine hK _ _ ⟨⟨⟨wz13, HT.out⟩, rfl⟩, ?_⟩
              clear hK K
              repeat (refine tree_q rfl rfl ?_; go_big_quiet_step (fail); refine wpQuiet_nil ?_)
              refine tree_a rfl (fun K hK => ?_)
              have fz_0 := Hr.out.frozen 0
              have cz_0 := Hr.out.cell (i := 0) rfl
              go_simp
              replace HN5 := Lib.hid (numSet HN5.out Hr.out 0 (.string t4))
              have hx9 := (Hr.out.set 0 (.string t4))
              have hb9 : Below w4.heap.size w4 (wz13.setCell ⟨wz12.heap.size, 0, none⟩ (.string t4)) := (HT.out.setCell (show w4.heap.size ≤ wz12.heap.size from HAr.out) _)
              clear Hr HT fz_0 cz_0
              obtain ⟨wz14, hq9⟩ : ∃ W9 : World, (wz13.setCell ⟨wz12.heap.size, 0, none⟩ (.string t4)) = W9 := ⟨_, rfl⟩
              rw [hq9] at hx9 hb9 HN5
              try rw [hq9]
              clear hq9
              have HT := Lib.hid hb9
              have Hr := Lib.hid hx9
              clear hb9 hx9
              refine hK _ _ ⟨⟨⟨wz14, HT.out⟩, rfl⟩, ?_⟩
              clear hK K
              repeat (refine tree_q rfl rfl ?_; go_big_quiet_step (fail); refine wpQuiet_nil ?_)
              refine tree_end ?_
              go_wp2_with fail
              go_meet
              case rel => exact ⟨_, _, _, rfl, rfl, HN5, HT⟩
            case ta11 =>
              intro K hK
              go_simp
              have hb9 : Below wz9.heap.size wz9 (wz9.alloc (Obj.cells #[.string ⟨#[]⟩] 89)) := (Below.refl _ _).alloc (Nat.le_refl _) _
              have hx9 : Bx (wz9.alloc (Obj.cells #[.string ⟨#[]⟩] 89)) wz9.heap.size 89 [.string ⟨#[]⟩] := Bx.new _ _ _ _ rfl
              obtain ⟨wz15, hq9⟩ : ∃ W9 : World, (wz9.alloc (Obj.cells #[.string ⟨#[]⟩] 89)) = W9 := ⟨_, rfl⟩
              rw [hq9] at hb9 hx9
              try rw [hq9]
              clear hq9
              have HAr := Lib.hid HT.out.size
              replace HT := Lib.hid (below_up HT.out hb9)
              have Hr := Lib.hid hx9
              clear hb9 hx9
              refine hK _ _ ⟨⟨⟨wz15, HT.out⟩, rfl⟩, ?_⟩
              clear hK K
              refine tree_a rfl (fun K hK => ?_)
              go_simp
              refine (HF4.out _ aq cq _ (HQ.out.up (below_up BQ.out HT.out))).mono ?_
              rintro e wz16 ⟨a5, c5, rfl, hn9, hb9⟩
              replace Hr := Lib.hid (Hr.out.up hb9)
              replace HT := Lib.hid (below_up HT.out hb9)
              have HN5 := Lib.hid hn9
              clear hn9
              clear hb9
              refine hK _ _ ⟨⟨⟨wz16, HT.out⟩, rfl⟩, ?_⟩
              clear hK K
              repeat (refine tree_q rfl rfl ?_; go_big_quiet_step (fail); refine wpQuiet_nil ?_)
              refine tree_a rfl (fun K hK => ?_)
              have fz_0 := Hr.out.frozen 0
              have cz_0 := Hr.out.cell (i := 0) rfl
              go_simp
              replace HN5 := Lib.hid (numSet HN5.out Hr.out 0 (.string t4))
              have hx9 := (Hr.out.set 0 (.string t4))
              have hb9 : Below w4.heap.size w4 (wz16.setCell ⟨wz9.heap.size, 0, none⟩ (.string t4)) := (HT.out.setCell (show w4.heap.size ≤ wz9.heap.size from HAr.out) _)
              clear Hr HT fz_0 cz_0
              obtain ⟨wz17, hq9⟩ : ∃ W9 : World, (wz16.setCell ⟨wz9.heap.size, 0, none⟩ (.string t4)) = W9 := ⟨_, rfl⟩
              rw [hq9] at hx9 hb9 HN5
              try rw [hq9]
              clear hq9
              have HT := Lib.hid hb9
              have Hr := Lib.hid hx9
              clear hb9 hx9
              refine hK _ _ ⟨⟨⟨wz17, HT.out⟩, rfl⟩, ?_⟩
              clear hK K
              repeat (refine tree_q rfl rfl ?_; go_big_quiet_step (fail); refine wpQuiet_nil ?_)
              refine tree_end ?_
              go_wp2_with fail
              go_meet
              case rel => exact ⟨_, _, _, rfl, rfl, HN5, HT⟩
          case ta8 =>
            intro K hK
            go_simp
            have hb9 : Below wz6.heap.size wz6 (wz6.alloc (Obj.cells #[.string ⟨#[]⟩] 89)) := (Below.refl _ _).alloc (Nat.le_refl _) _
            have hx9 : Bx (wz6.alloc (Obj.cells #[.string ⟨#[]⟩] 89)) wz6.heap.size 89 [.string ⟨#[]⟩] := Bx.new _ _ _ _ rfl
            obtain ⟨wz18, hq9⟩ : ∃ W9 : World, (wz6.alloc (Obj.cells #[.string ⟨#[]⟩] 89)) = W9 := ⟨_, rfl⟩
            rw [hq9] at hb9 hx9
            try rw [hq9]
            clear hq9
            have HAr := Lib.hid HT.out.size
            replace HT := Lib.hid (below_up HT.out hb9)
            have Hr := Lib.hid hx9
            clear hb9 hx9
            refine hK _ _ ⟨⟨⟨wz18, HT.out⟩, rfl⟩, ?_⟩
            clear hK K
            refine tree_a rfl (fun K hK => ?_)
            go_simp
            refine (HF3.out ro HMR.out a9 c9 _ (HRR.out.up (below_up BS.out HT.out))).mono ?_
            rintro e wz19 ⟨rfl, hb9⟩
            replace Hr := Lib.hid (Hr.out.up hb9)
            replace HT := Lib.hid (below_up HT.out hb9)
            clear hb9
            refine hK _ _ ⟨⟨⟨wz19, HT.out⟩, rfl⟩, ?_⟩
            clear hK K
            refine tree_a rfl (fun K hK => ?_)
            go_simp
            refine (HF4.out _ aq cq _ (HQ.out.up (below_up BQ.out HT.out))).mono ?_
            rintro e wz20 ⟨a5, c5, rfl, hn9, hb9⟩
            replace Hr := Lib.hid (Hr.out.up hb9)
            replace HT := Lib.hid (below_up HT.out hb9)
            have HN5 := Lib.hid hn9
            clear hn9
            clear hb9
            refine hK _ _ ⟨⟨⟨wz20, HT.out⟩, rfl⟩, ?_⟩
            clear hK K
            repeat (refine tree_q rfl rfl ?_; go_big_quiet_step (fail); refine wpQuiet_nil ?_)
            refine tree_a rfl (fun K hK => ?_)
            have fz_0 := Hr.out.frozen 0
            have cz_0 := Hr.out.cell (i := 0) rfl
            go_simp
            replace HN5 := Lib.hid (numSet HN5.out Hr.out 0 (.string t4))
            have hx9 := (Hr.out.set 0 (.string t4))
            have hb9 : Below w4.heap.size w4 (wz20.setCell ⟨wz6.heap.size, 0, none⟩ (.string t4)) := (HT.out.setCell (show w4.heap.size ≤ wz6.heap.size from HAr.out) _)
            clear Hr HT fz_0 cz_0
            obtain ⟨wz21, hq9⟩ : ∃ W9 : World, (wz20.setCell ⟨wz6.heap.size, 0, none⟩ (.string t4)) = W9 := ⟨_, rfl⟩
            rw [hq9] at hx9 hb9 HN5
            try rw [hq9]
            clear hq9
            have HT := Lib.hid hb9
            have Hr := Lib.hid hx9
            clear hb9 hx9
            refine hK _ _ ⟨⟨⟨wz21, HT.out⟩, rfl⟩, ?_⟩
            clear hK K
            repeat (refine tree_q rfl rfl ?_; go_big_quiet_step (fail); refine wpQuiet_nil ?_)
            refine tree_end ?_
            go_wp2_with fail
            go_meet
            case rel => exact ⟨_, _, _, rfl, rfl, HN5, HT⟩
        case ta5 =>
          intro K hK
          go_simp
          have hb9 : Below wz3.heap.size wz3 (wz3.alloc (Obj.cells #[.string ⟨#[]⟩] 89)) := (Below.refl _ _).alloc (Nat.le_refl _) _
          have hx9 : Bx (wz3.alloc (Obj.cells #[.string ⟨#[]⟩] 89)) wz3.heap.size 89 [.string ⟨#[]⟩] := Bx.new _ _ _ _ rfl
          obtain ⟨wz22, hq9⟩ : ∃ W9 : World, (wz3.alloc (Obj.cells #[.string ⟨#[]⟩] 89)) = W9 := ⟨_, rfl⟩
          rw [hq9] at hb9 hx9
          try rw [hq9]
          clear hq9
          have HAr := Lib.hid HT.out.size
          replace HT := Lib.hid (below_up HT.out hb9)
          have Hr := Lib.hid hx9
          clear hb9 hx9
          refine hK _ _ ⟨⟨⟨wz22, HT.out⟩, rfl⟩, ?_⟩
          clear hK K
          refine tree_a rfl (fun K hK => ?_)
          go_simp
          refine (HF2.out al cl _ (HC.out.up (below_up HB.out HT.out))).mono ?_
          rintro e wz23 ⟨rfl, hb9⟩
          replace Hr := Lib.hid (Hr.out.up hb9)
          replace HT := Lib.hid (below_up HT.out hb9)
          clear hb9
          refine hK _ _ ⟨⟨⟨wz23, HT.out⟩, rfl⟩, ?_⟩
          clear hK K
          refine tree_a rfl (fun K hK => ?_)
          go_simp
          refine (HF3.out ro HMR.out a9 c9 _ (HRR.out.up (below_up BS.out HT.out))).mono ?_
          rintro e wz24 ⟨rfl, hb9⟩
          replace Hr := Lib.hid (Hr.out.up hb9)
          replace HT := Lib.hid (below_up HT.out hb9)
          clear hb9
          refine hK _ _ ⟨⟨⟨wz24, HT.out⟩, rfl⟩, ?_⟩
          clear hK K
          refine tree_a rfl (fun K hK => ?_)
          go_simp
          refine (HF4.out _ aq cq _ (HQ.out.up (below_up BQ.out HT.out))).mono ?_
          rintro e wz25 ⟨a5, c5, rfl, hn9, hb9⟩
          replace Hr := Lib.hid (Hr.out.up hb9)
          replace HT := Lib.hid (below_up HT.out hb9)
          have HN5 := Lib.hid hn9
          clear hn9
          clear hb9
          refine hK _ _ ⟨⟨⟨wz25, HT.out⟩, rfl⟩, ?_⟩
          clear hK K
          repeat (refine tree_q rfl rfl ?_; go_big_quiet_step (fail); refine wpQuiet_nil ?_)
          refine tree_a rfl (fun K hK => ?_)
          have fz_0 := Hr.out.frozen 0
          have cz_0 := Hr.out.cell (i := 0) rfl
          go_simp
          replace HN5 := Lib.hid (numSet HN5.out Hr.out 0 (.string t4))
          have hx9 := (Hr.out.set 0 (.string t4))
          have hb9 : Below w4.heap.size w4 (wz25.setCell ⟨wz3.heap.size, 0, none⟩ (.string t4)) := (HT.out.setCell (show w4.heap.size ≤ wz3.heap.size from HAr.out) _)
          clear Hr HT fz_0 cz_0
          obtain ⟨wz26, hq9⟩ : ∃ W9 : World, (wz25.setCell ⟨wz3.heap.size, 0, none⟩ (.string t4)) = W9 := ⟨_, rfl⟩
          rw [hq9] at hx9 hb9 HN5
          try rw [hq9]
          clear hq9
          have HT := Lib.hid hb9
          have Hr := Lib.hid hx9
          clear hb9 hx9
          refine hK _ _ ⟨⟨⟨wz26, HT.out⟩, rfl⟩, ?_⟩
          clear hK K
          repeat (refine tree_q rfl rfl ?_; go_big_quiet_step (fail); refine wpQuiet_nil ?_)
          refine tree_end ?_
          go_wp2_with fail
          go_meet
          case rel => exact ⟨_, _, _, rfl, rfl, HN5, HT⟩
      case ta2 =>
        intro K hK
        go_simp
        have hb9 : Below wd.heap.size wd (wd.alloc (Obj.cells #[.string ⟨#[]⟩] 89)) := (Below.refl _ _).alloc (Nat.le_refl _) _
        have hx9 : Bx (wd.alloc (Obj.cells #[.string ⟨#[]⟩] 89)) wd.heap.size 89 [.string ⟨#[]⟩] := Bx.new _ _ _ _ rfl
        obtain ⟨wz27, hq9⟩ : ∃ W9 : World, (wd.alloc (Obj.cells #[.string ⟨#[]⟩] 89)) = W9 := ⟨_, rfl⟩
        rw [hq9] at hb9 hx9
        try rw [hq9]
        clear hq9
        have HAr := Lib.hid HT.out.size
        replace HT := Lib.hid (below_up HT.out hb9)
        have Hr := Lib.hid hx9
        clear hb9 hx9
        refine hK _ _ ⟨⟨⟨wz27, HT.out⟩, rfl⟩, ?_⟩
        clear hK K
        refine tree_a rfl (fun K hK => ?_)
        go_simp
        refine (HF1.out _).mono ?_
        rintro e wz28 ⟨rfl, hb9⟩
        replace Hr := Lib.hid (Hr.out.up hb9)
        replace HT := Lib.hid (below_up HT.out hb9)
        clear hb9
        refine hK _ _ ⟨⟨⟨wz28, HT.out⟩, rfl⟩, ?_⟩
        clear hK K
        refine tree_a rfl (fun K hK => ?_)
        go_simp
        refine (HF2.out al cl _ (HC.out.up (below_up HB.out HT.out))).mono ?_
        rintro e wz29 ⟨rfl, hb9⟩
        replace Hr := Lib.hid (Hr.out.up hb9)
        replace HT := Lib.hid (below_up HT.out hb9)
        clear hb9
        refine hK _ _ ⟨⟨⟨wz29, HT.out⟩, rfl⟩, ?_⟩
        clear hK K
        refine tree_a rfl (fun K hK => ?_)
        go_simp
        refine (HF3.out ro HMR.out a9 c9 _ (HRR.out.up (below_up BS.out HT.out))).mono ?_
        rintro e wz30 ⟨rfl, hb9⟩
        replace Hr := Lib.hid (Hr.out.up hb9)
        replace HT := Lib.hid (below_up HT.out hb9)
        clear hb9
        refine hK _ _ ⟨⟨⟨wz30, HT.out⟩, rfl⟩, ?_⟩
        clear hK K
        refine tree_a rfl (fun K hK => ?_)
        go_simp
        refine (HF4.out _ aq cq _ (HQ.out.up (below_up BQ.out HT.out))).mono ?_
        rintro e wz31 ⟨a5, c5, rfl, hn9, hb9⟩
        replace Hr := Lib.hid (Hr.out.up hb9)
        replace HT := Lib.hid (below_up HT.out hb9)
        have HN5 := Lib.hid hn9
        clear hn9
        clear hb9
        refine hK _ _ ⟨⟨⟨wz31, HT.out⟩, rfl⟩, ?_⟩
        clear hK K
        repeat (refine tree_q rfl rfl ?_; go_big_quiet_step (fail); refine wpQuiet_nil ?_)
        refine tree_a rfl (fun K hK => ?_)
        have fz_0 := Hr.out.frozen 0
        have cz_0 := Hr.out.cell (i := 0) rfl
        go_simp
        replace HN5 := Lib.hid (numSet HN5.out Hr.out 0 (.string t4))
        have hx9 := (Hr.out.set 0 (.string t4))
        have hb9 : Below w4.heap.size w4 (wz31.setCell ⟨wd.heap.size, 0, none⟩ (.string t4)) := (HT.out.setCell (show w4.heap.size ≤ wd.heap.size from HAr.out) _)
        clear Hr HT fz_0 cz_0
        obtain ⟨wz32, hq9⟩ : ∃ W9 : World, (wz31.setCell ⟨wd.heap.size, 0, none⟩ (.string t4)) = W9 := ⟨_, rfl⟩
        rw [hq9] at hx9 hb9 HN5
        try rw [hq9]
        clear hq9
        have HT := Lib.hid hb9
        have Hr := Lib.hid hx9
        clear hb9 hx9
        refine hK _ _ ⟨⟨⟨wz32, HT.out⟩, rfl⟩, ?_⟩
        clear hK K
        repeat (refine tree_q rfl rfl ?_; go_big_quiet_step (fail); refine wpQuiet_nil ?_)
        refine tree_end ?_
        go_wp2_with fail
        go_meet
        case rel => exact ⟨_, _, _, rfl, rfl, HN5, HT⟩
    case rest =>
      obtain ⟨b9, a5, c5, rfl, rfl, HN5, hb9⟩ := hcut
      replace hb9 := hb9.out
      clear bp_
      replace Hbp := Lib.hid (Hbp.out.up hb9)
      clear g_
      replace Hg := Lib.hid (Hg.out.up hb9)
      replace BS := hbu BS hb9
      replace BQ := hbu BQ hb9
      replace HB := hbu HB hb9
      replace HZS := sz HZS hb9.size
      clear hb9
      have bp_ := Hbp.out.c2
      have g_ := Hg.out.c3
      go_wp2_with fail
      have hl_bp := Hbp.out.lt
      have hl_g := Hg.out.lt
      refine wp_region_over (by kernel_rfl) (by kernel_rfl) ?_
      have hov_bp := fun (E : Over wc) o => E.cell (b := w.heap.size) o hl_bp
      have hov_g := fun (E : Over wc) o => E.cell (b := w3.heap.size) o hl_g
      repeat (go_big_quiet_step (first | (go_at_call 49; exact calls_over (HTX.out a5 c5 _ (HN5.out.up (Over.h _))))))
      all_goals (try unfold elV limbV)
      repeat (go_big_quiet_step (first | (go_at_call 49; exact calls_over (HTX.out a5 c5 _ (HN5.out.up (Over.h _))))))
      all_goals (try unfold elV limbV)
      repeat (go_big_quiet_step (first | (go_at_call 49; exact calls_over (HTX.out a5 c5 _ (HN5.out.up (Over.h _))))))
      all_goals (try unfold ciphV)
      refine wpQuiet_nil ?_
      rintro _ ⟨E, rfl⟩
      clear hov_bp hl_bp hov_g hl_g
      clear bp_
      replace Hbp := Lib.hid (Hbp.out.up E.h)
      clear g_
      replace Hg := Lib.hid (Hg.out.up E.h)
      replace HN5 := Lib.hid (HN5.out.up E.h)
      replace BS := hbu BS E.h
      replace BQ := hbu BQ E.h
      replace HB := hbu HB E.h
      replace HZS := sz HZS E.h.size
      obtain ⟨w5, hq9⟩ : ∃ W9 : World, E.w = W9 := ⟨_, rfl⟩
      rw [hq9] at Hbp Hg HN5 BS BQ HB HZS ⊢
      clear hq9 E
      have bp_ := Hbp.out.c2
      have g_ := Hg.out.c3
      go_wp2_with fail
      rw [HBE.out]
      go_ret
      exact ⟨rfl, HB.out⟩
  · obtain rfl : V = false := by rw [HV.out, decide_eq_false h0]; rfl
    have hd : ((z : Int) != 0) = true := by simp; omega
    clear h0 hz
    go_enter Tryz.func11, Tryz.ntmps11
    go_wp2_with fail
    obtain ⟨w1, hq1, hb9, hz9, Hbp⟩ := new1 w 25 [.string ch, .slice ax xs.length cx]
    rw [hq1]
    clear hq1
    have HB := Lib.hid hb9
    have HZS := hz9
    clear hb9 hz9
    have bp_ := Hbp.out.c2
    go_wp2_with fail
    refine (HO.out _ HB.out).mono ?_
    rintro e w2 ⟨hb9, a9, c9, ro, rfl, hm9, hr9, _⟩
    clear bp_
    replace Hbp := Lib.hid (Hbp.out.up hb9)
    replace HB := hbu HB hb9
    replace HZS := sz HZS hb9.size
    clear hb9
    have bp_ := Hbp.out.c2
    go_wp2_with fail
    go_ret
    exact ⟨rfl, HB.out⟩
end Go.Proofs.YtdlnnkbigeiilaaGreat

/- Nonces and answers, as the document says them. Conditions: the sizes of what was read before. -/
namespace Go.Proofs.YtdlnnkbigeiilaaGreat
open Go.RowKit

theorem RowO.down0 {N n size : Nat} {w : World} {e : TypeId} {v : Value} {xs : List Value} (h : RowO N w e size v n xs) : RowO 0 w e size v n xs := by
  refine ⟨h.1, ?_⟩
  rcases h.2 with h1 | ⟨g, cap, cur, h1, h2, h3⟩
  · exact Or.inl h1
  · exact Or.inr ⟨g, cap, cur, h1, Nat.zero_le _, h3⟩
theorem RowO.neB {N n size b : Nat} {w : World} {e t : TypeId} {v : Value} {xs cs : List Value} (h : RowO N w e size v n xs) (hb : Bx w b t cs) (hte : t ≠ e) : v.ownBlock ≠ some b := by
  intro e9
  rcases h.2 with ⟨rfl, _⟩ | ⟨g, cap, cur, rfl, _, hg, _⟩
  · cases e9
  · have e8 : g = b := Option.some.inj (show some g = some b from e9)
    rw [e8, show w.heap[b]? = _ from hb] at hg
    simp only [Option.some.injEq, Obj.cells.injEq] at hg
    exact hte hg.2.1
theorem nonce_snoc (G : GP) (s : ByteArray) (j : Nat) : (nonceL G s (j + 1)).map Value.string = (nonceL G s j).map Value.string ++ [.string (textS (chN (askT s j) nonceB % G.q.m) G.size)] := by
  rw [nonceL_succ, List.map_append]; rfl
set_option maxRecDepth 100000 in
set_option maxHeartbeats 2000000 in
theorem rNonces_any {G : GP} {aq ap : Option Addr} {cq cp : Nat} (ok : G.Ok) (n : Nat) (hn : n ≤ 64) (s : ByteArray) (hs : s.size = 32) (w : World) (hG : RG w G aq ap) :
    Calls Tryz.prog 72 #[.agg #[.int .i64 (G.size : Int), .slice aq (dl G.q.m) cq, .slice ap (dl G.p.m) cp], .agg #[.string s], .int .i64 (n : Int)] w fun e w' => ∃ a c, e = .returned (.tuple #[.slice a n c, .agg #[.string (askT s n)]]) ∧ RowO 0 w' 9 1 (.slice a n c) n ((nonceL G s n).map Value.string) ∧ Below w.heap.size w w' := by
  have OK := Lib.hid ok
  have HCH := Lib.hid (fun t (ht : t.size = 32) w hq => rChallenge_any G.size G.q.m (.slice ap (dl G.p.m) cp) ok.q.pos aq cq t nonceB (by omega) (by decide) w hq)
  have HTX := Lib.hid (fun j a c w h => rText (G := G) ok (n := chN (askT s j) nonceB % G.q.m) (an := a) (cn := c) (Nat.lt_of_lt_of_le (Nat.mod_lt _ ok.q.pos) (Nat.le_of_lt ok.q.lt4)) w h)
  have HSU := Lib.hid (nonce_snoc G s)
  have HAZ := Lib.hid (fun j => askT_size hs j)
  have HAS := Lib.hid (show ∀ j, askT s (j + 1) = chT (askT s j) nonceB from fun _ => rfl)
  have H0 := Lib.hid (show askT s 0 = s ∧ (nonceL G s 0).map Value.string = [] from ⟨rfl, rfl⟩)
  generalize askT s = AT at *
  generalize nonceL G s = NL at *
  generalize chN = CN at *
  generalize chT = CT at *
  have HG := Lib.hid hG
  clear hG hs ok
  obtain rfl : s = AT 0 := H0.out.1.symm
  go_enter Tryz.func72, Tryz.ntmps72
  go_wp2_with fail
  obtain ⟨w1, hq1, hb9, hz9, Hbg, Hbt, Hro⟩ := new3 w 86 [.int .i64 (G.size : Int), .slice aq (dl G.q.m) cq, .slice ap (dl G.p.m) cp] 89 [.string (AT 0)] 89 [.string ⟨#[]⟩]
  rw [hq1]
  clear hq1
  have HB := Lib.hid hb9
  have HZS := hz9
  clear hb9 hz9
  have bg_ := Hbg.out.c3
  have bt_ := Hbt.out.c1
  have ro_ := Hro.out.c1
  have BL := Lib.hid (Below.refl w1.heap.size w1)
  have HWZ := Lib.hid HB.out.size
  have HWL := Lib.hid Hro.out.lt
  go_wp2_with fail
  go_loopw [9, 8] (fun i v wr => ∃ (j : Nat) (g : Option Addr) (c9 : Nat), j ≤ n ∧ i = .int .i64 (j : Int) ∧ v = .slice g j c9 ∧ Hid (Bx wr w.heap.size 86 [.int .i64 (G.size : Int), .slice aq (dl G.q.m) cq, .slice ap (dl G.p.m) cp]) ∧ Hid (Bx wr (w.heap.size + 1) 89 [.string (AT j)]) ∧ Hid (Bx wr (w.heap.size + 2) 89 [.string ⟨#[]⟩]) ∧ Hid (Below w.heap.size w wr) ∧ Hid (RowO w1.heap.size wr 9 1 (.slice g j c9) j ((NL j).map Value.string))) (fun i _ _ => n - (intOf i).toNat)
  case atStart => exact ⟨0, none, 0, Nat.zero_le _, rfl, rfl, Hbg, Hbt, Hro, HB, by rw [H0.out.2]; exact RowO.nil⟩
  case round =>
    clear Hbg Hbt Hro HB BL bg_ bt_ ro_
    obtain ⟨j, g, c9, hj, rfl, rfl, Hbg, Hbt, Hro, HB, Hr⟩ := hrel
    have HRL := Lib.hid Hro.out.lt
    replace HZS := sz HZS HWZ.out
    replace HZS := sz HZS HWL.out
    replace HZS := sz HZS HRL.out
    have bg_ := Hbg.out.c3
    have bt_ := Hbt.out.c1
    have ro_ := Hro.out.c1
    by_cases hjn : j < n
    · have HNP := Lib.hid (fun q e => (Hr.out.lt q e).2)
      go_wp2_with fail
      refine (HCH.out (AT j) (HAZ.out j) wr ((HG.out.up HB.out)).q).mono ?_
      rintro e w2 ⟨a5, c5, rfl, hn9, hb9⟩
      clear bg_
      replace Hbg := Lib.hid (Hbg.out.up hb9)
      clear bt_
      replace Hbt := Lib.hid (Hbt.out.up hb9)
      clear ro_
      replace Hro := Lib.hid (Hro.out.up hb9)
      replace Hr := Lib.hid (Hr.out.up hb9)
      replace HB := hbu HB hb9
      replace HZS := sz HZS hb9.size
      have HN5 := Lib.hid hn9
      clear hn9
      clear hb9
      have bg_ := Hbg.out.c3
      have bt_ := Hbt.out.c1
      have ro_ := Hro.out.c1
      rw [← HAS.out]
      have o3_bg_ := bg_; clear bg_
      have o3_bt_ := bt_; clear bt_
      have o3_ro_ := ro_; clear ro_
      obtain ⟨w3, hq3, hb9, hz9, Hbu⟩ := new1 w2 89 [.string (AT (j + 1))]
      replace Hbg := Lib.hid (Hbg.out.up hb9)
      replace Hbt := Lib.hid (Hbt.out.up hb9)
      replace Hro := Lib.hid (Hro.out.up hb9)
      replace Hr := Lib.hid (Hr.out.up hb9)
      replace HN5 := Lib.hid (HN5.out.up hb9)
      replace HB := hbu HB hb9
      replace HZS := sz HZS hz9.out
      clear hb9 hz9
      have bg_ := Hbg.out.c3
      have bt_ := Hbt.out.c1
      have ro_ := Hro.out.c1
      have bu_ := Hbu.out.c1
      go_wp2_with fail
      clear hq3 o3_ro_ o3_bt_ o3_bg_
      refine (HTX.out j a5 c5 w3 HN5.out).mono ?_
      rintro e w4 ⟨rfl, hb9⟩
      clear bg_
      replace Hbg := Lib.hid (Hbg.out.up hb9)
      clear bt_
      replace Hbt := Lib.hid (Hbt.out.up hb9)
      clear ro_
      replace Hro := Lib.hid (Hro.out.up hb9)
      clear bu_
      replace Hbu := Lib.hid (Hbu.out.up hb9)
      replace Hr := Lib.hid (Hr.out.up hb9)
      replace HN5 := Lib.hid (HN5.out.up hb9)
      replace HB := hbu HB hb9
      replace HZS := sz HZS hb9.size
      clear hb9
      have bg_ := Hbg.out.c3
      have bt_ := Hbt.out.c1
      have ro_ := Hro.out.c1
      have bu_ := Hbu.out.c1
      obtain ⟨i9, hi9, hz90, hz91, hz92⟩ := info_parts infoStr
      go_wp2_with (at_builtin; refine wpList_pushR (w1.heap.size) w4 (by have g0 := HZS.out; omega) rfl _ _ 23 rfl 9 i9 _ 1 16 Tryz.underlying23 hi9 hz90 hz91 hz92 rfl (by omega) ((.slice g j c9)) (j) (((NL j).map Value.string)) rfl Hr.out _ _ _ rfl rfl rfl (by simp [Value.oneCell']) (by omega) (by unfold maxLen; omega) ?_)
      intro g5 c5 w5 hown9 hg9
      clear bg_
      clear bt_
      clear ro_
      clear bu_
      have hb9 := Below.grown HB.out hg9 (by have g0 := HZS.out; omega) (fun q hq => Nat.le_trans (show w.heap.size ≤ w1.heap.size by have g0 := HZS.out; omega) (Hr.out.lt q hq).1)
      replace Hbg := Lib.hid (Hbg.out.grown hg9 (fun e9 => by have a2 := HNP.out _ e9; have a1 := Hr.out.lt _ e9; have g0 := HZS.out; omega))
      replace Hbt := Lib.hid (Hbt.out.grown hg9 (fun e9 => by have a2 := HNP.out _ e9; have a1 := Hr.out.lt _ e9; have g0 := HZS.out; omega))
      replace Hro := Lib.hid (Hro.out.grown hg9 (fun e9 => by have a2 := HNP.out _ e9; have a1 := Hr.out.lt _ e9; have g0 := HZS.out; omega))
      replace Hbu := Lib.hid (Hbu.out.grown hg9 (fun e9 => by have a2 := HNP.out _ e9; have a1 := Hr.out.lt _ e9; have g0 := HZS.out; omega))
      clear HN5
      replace HZS := sz HZS hg9.size
      clear Hr HB
      have Hr := Lib.hid hown9
      have HB := Lib.hid hb9
      clear hb9 hown9 hg9 hi9 hz90 hz91 hz92
      have bg_ := Hbg.out.c3
      have bt_ := Hbt.out.c1
      have ro_ := Hro.out.c1
      have bu_ := Hbu.out.c1
      have f6_bt := Hbt.out.frozen
      have o6_bg_ := bg_; clear bg_
      have o6_bt_ := bt_; clear bt_
      have o6_ro_ := ro_; clear ro_
      have o6_bu_ := bu_; clear bu_
      obtain ⟨w6, hq6, hg9, hz9, hx9⟩ := put1 Hbt 0 (.string (AT (j + 1))) [.string (AT (j + 1))] rfl
      replace Hbg := Lib.hid (Hbg.out.grown hg9.out (sne (by have g0 := HZS.out; omega)))
      replace Hro := Lib.hid (Hro.out.grown hg9.out (sne (by have g0 := HZS.out; omega)))
      replace Hbu := Lib.hid (Hbu.out.grown hg9.out (sne (by have g0 := HZS.out; omega)))
      replace Hr := Lib.hid (RowO.grown Hr.out hg9.out (fun q9 e8 e9 => by have a1 := Hr.out.lt _ e8; have a0 := Option.some.inj e9; have g0 := HZS.out; omega))
      replace HB := hbg HB hg9 (by have g0 := HZS.out; omega)
      replace HZS := sz HZS hz9.out
      replace Hbt := hx9
      clear hx9 hg9 hz9
      have bg_ := Hbg.out.c3
      have bt_ := Hbt.out.c1
      have ro_ := Hro.out.c1
      have bu_ := Hbu.out.c1
      go_wp2_with fail
      clear hq6 o6_bu_ o6_ro_ o6_bt_ o6_bg_ f6_bt
      go_roundw
      case rel => exact ⟨j + 1, _, _, hjn, by go_num, rfl, Hbg, Hbt, Hro, HB, Hr.out.eq (HSU.out j).symm rfl⟩
      case measure => simp [intOf]; omega
    · have hj' : j = n := by omega
      subst hj'
      go_wp2_with fail
      have HT := Lib.hid (show Below wr.heap.size wr wr.drew from (Below.refl _ _).drew)
      have hl_bg := Hbg.out.lt
      have hl_bt := Hbt.out.lt
      have hl_ro := Hro.out.lt
      refine wp_region_treek (fun wq9 => ∃ E : Over wr, wq9 = E.w) 3 ((.qs [0] (.e 1 [] (.qs [2] (.a 3 .done))))) (by kernel_rfl) (by kernel_rfl) (fun _ _ d _ _ h => by cases d <;> exact h) ⟨⟨_, HT.out⟩, rfl⟩ ?_
      have hov_bg := fun (E : Over wr) o => E.cell (b := w.heap.size) o hl_bg
      have hov_bt := fun (E : Over wr) o => E.cell (b := (w.heap.size + 1)) o hl_bt
      have hov_ro := fun (E : Over wr) o => E.cell (b := (w.heap.size + 2)) o hl_ro
      simp only [TreeK.qs]
      repeat (first | (refine treek_q rfl rfl ?_; go_big_quiet_step (fail); refine wpQuiet_nil ?_) | (refine treek_e rfl rfl ?_; go_big_quiet_step (fail); refine wpQuiet_nil ?_))
      clear hov_bg hl_bg hov_bt hl_bt hov_ro hl_ro
      refine treek_a rfl (fun K hK => ?_)
      clear bg_
      replace Hbg := Lib.hid (Hbg.out.up HT.out)
      clear bt_
      replace Hbt := Lib.hid (Hbt.out.up HT.out)
      clear ro_
      replace Hro := Lib.hid (Hro.out.up HT.out)
      replace Hr := Lib.hid (Hr.out.up HT.out)
      replace HB := hbu HB HT.out
      replace HZS := sz HZS HT.out.size
      clear HT
      have bg_ := Hbg.out.c3
      have bt_ := Hbt.out.c1
      have ro_ := Hro.out.c1
      have f2_ro := Hro.out.frozen
      have o2_bg_ := bg_; clear bg_
      have o2_bt_ := bt_; clear bt_
      have o2_ro_ := ro_; clear ro_
      obtain ⟨w2, hq2, hg9, hz9, hx9⟩ := put1 Hro 0 (.string (AT j)) [.string (AT j)] rfl
      replace Hbg := Lib.hid (Hbg.out.grown hg9.out (sne (by have g0 := HZS.out; omega)))
      replace Hbt := Lib.hid (Hbt.out.grown hg9.out (sne (by have g0 := HZS.out; omega)))
      replace Hr := Lib.hid (RowO.grown Hr.out hg9.out (fun q9 e8 e9 => by have a1 := Hr.out.lt _ e8; have a0 := Option.some.inj e9; have g0 := HZS.out; omega))
      replace HB := hbg HB hg9 (by have g0 := HZS.out; omega)
      replace HZS := sz HZS hz9.out
      replace Hro := hx9
      clear hx9 hg9 hz9
      have bg_ := Hbg.out.c3
      have bt_ := Hbt.out.c1
      have ro_ := Hro.out.c1
      go_simp
      try rw [hq2]
      refine hK _ _ ⟨fun h9 => absurd rfl h9, ?_⟩
      clear hK K
      clear hq2 o2_ro_ o2_bt_ o2_bg_ f2_ro
      repeat (first | (refine treek_q rfl rfl ?_; go_big_quiet_step (fail); refine wpQuiet_nil ?_) | (refine treek_e rfl rfl ?_; go_big_quiet_step (fail); refine wpQuiet_nil ?_))
      refine treek_end ?_
      go_wp2_with fail
      simp [bodyPost, results, Tryz.results72, go_sem, ro_]
      exact ⟨g, c9, ⟨rfl, rfl⟩, RowO.down0 Hr.out, HB.out⟩
theorem rans_mod {G : GP} {N M : Nat} (hM : M = N % G.q.m) (a b : Nat) : addQ G a (mulQ G M b) = (a + N * b) % G.q.m := by
  subst hM
  unfold addQ mulQ
  rw [Nat.add_mod a, Nat.mod_mod, ← Nat.add_mod, Nat.add_mod a, Nat.mul_mod, Nat.mod_mod, ← Nat.mul_mod, ← Nat.add_mod]
set_option maxRecDepth 100000 in
set_option maxHeartbeats 4000000 in
theorem rAnswers_any {G : GP} {aq ap : Option Addr} {cq cp : Nat} (ok : G.Ok) (N M : Nat) (hM : M = N % G.q.m) (ws xs : List ByteArray) (n : Nat) (hw : ws.length = n) (hx : xs.length = n) (hn : n ≤ 64) (hws : ∀ x ∈ ws, x.size ≤ 32) (hxs : ∀ x ∈ xs, x.size ≤ 32) (an aw ax : Option Addr) (cn cw cx : Nat) (w : World) (hG : RG w G aq ap) (hN : NumAt w an M) (hW : Sl w w.heap.size aw (ws.map Value.string)) (hX : Sl w w.heap.size ax (xs.map Value.string)) :
    Calls Tryz.prog 75 #[.agg #[.int .i64 (G.size : Int), .slice aq (dl G.q.m) cq, .slice ap (dl G.p.m) cp], .slice aw n cw, .slice an (dl M) cn, .slice ax n cx] w fun e w' => ∃ a' c', e = .returned (.slice a' n c') ∧ Sl w' w'.heap.size a' ((ansL G N ws xs).map Value.string) ∧ (a' = none → c' = 0) ∧ n ≤ c' ∧ (∀ x, a' = some x → w.heap.size ≤ x.block) ∧ Below w.heap.size w w' := by
  have OK := Lib.hid ok
  have HSN := Lib.hid (fun j h1 h2 => ans_snoc G N (ws := ws) (xs := xs) (j := j) h1 h2)
  have HAL := Lib.hid (ansL_len G N hw hx)
  have HRM := Lib.hid (rans_mod hM)
  have HML := Lib.hid (show M < G.q.m from hM ▸ Nat.mod_lt _ ok.q.pos)
  generalize ansL G N ws xs = AL at *
  have HG := Lib.hid hG
  have HN := Lib.hid hN
  have HW := Lib.hid hW
  have HX := Lib.hid hX
  have HWN := Lib.hid hw
  have HXN := Lib.hid hx
  have HWZ := Lib.hid hws
  have HXZ := Lib.hid hxs
  clear hM
  clear ok hG hN hW hX hw hx hws hxs
  go_enter Tryz.func75, Tryz.ntmps75
  go_wp2_with fail
  obtain ⟨w1, hq1, hb9, hz9, Hbg⟩ := new1 w 86 [.int .i64 (G.size : Int), .slice aq (dl G.q.m) cq, .slice ap (dl G.p.m) cp]
  rw [hq1]
  clear hq1
  have HB := Lib.hid hb9
  have HZS := hz9
  clear hb9 hz9
  have bg_ := Hbg.out.c3
  have HWW := Lib.hid HB.out.size
  have BL := Lib.hid (Below.refl w1.heap.size w1)
  go_wp2_with fail
  go_loopw [14, 9] (fun i v wr => ∃ (j : Nat) (g : Option Addr) (c9 : Nat), j ≤ n ∧ i = .int .i64 (j : Int) ∧ v = .slice g j c9 ∧ Hid (Below w1.heap.size w1 wr) ∧ Hid (RowO w1.heap.size wr 9 1 (.slice g j c9) j ((AL.take j).map Value.string))) (fun i _ _ => n - (intOf i).toNat)
  case atStart => exact ⟨0, none, 0, Nat.zero_le _, rfl, rfl, BL, RowO.nil⟩
  case round =>
    obtain ⟨j, g, c9, hj, rfl, rfl, HL9, Hr⟩ := hrel
    have hb9 := HL9.out
    clear HL9
    clear bg_
    replace Hbg := Lib.hid (Hbg.out.up hb9)
    replace BL := hbu BL hb9
    replace HB := hbu HB hb9
    replace HZS := sz HZS hb9.size
    clear hb9
    have bg_ := Hbg.out.c3
    by_cases hjn : j < n
    · have hjw : j < ws.length := by rw [HWN.out]; exact hjn
      have hjx : j < xs.length := by rw [HXN.out]; exact hjn
      obtain ⟨bw, ow, rfl, hbw, hcw⟩ := HW.out.at j (by rw [List.length_map]; exact hjw)
      obtain ⟨bx, ox, rfl, hbx, hcx⟩ := HX.out.at j (by rw [List.length_map]; exact hjx)
      rw [List.getElem_map] at hcw hcx
      replace hcw := cell_up HB.out hbw hcw
      have hlw := HWW.out
      have HNP := Lib.hid (fun q e => (Hr.out.lt q e).2)
      have HSJ := Lib.hid (HSN.out j hjw hjx)
      have HWJ := Lib.hid (HWZ.out _ (List.getElem_mem hjw))
      have HXJ := Lib.hid (HXZ.out _ (List.getElem_mem hjx))
      generalize ws[j] = x at *
      generalize xs[j] = y at *
      go_wp2_with fail
      replace hcx := cell_up HB.out hbx hcx
      have hbx2 := Nat.lt_of_lt_of_le hbx HB.out.size
      have HT := Lib.hid (show Below wr.heap.size wr wr.drew from (Below.refl _ _).drew)
      have hl_bg := Hbg.out.lt
      refine wp_region_tree (fun wq9 => ∃ E : But wr (Value.ownBlock (.slice g j c9)), wq9 = E.w) ((.qs [0, 1, 2, 4, 5, 6, 7, 8, 9, 13, 14] (.a 3 (.a 10 (.a 11 (.a 12 (.a 15 (.a 16 (.a 17 (.qs [18] .done)))))))))) (by kernel_rfl) (by kernel_rfl) (fun _ _ d _ _ h => by cases d <;> exact h) ⟨⟨_, ((below_grown HT.out).but _)⟩, rfl⟩ ?_
      have hov_bg := fun (E : But wr (Value.ownBlock (.slice g j c9))) o => E.cell (b := w.heap.size) o hl_bg (by intro e9; have a2 := HNP.out _ e9; have a1 := Hr.out.lt _ e9; have g0 := HZS.out; omega)
      have hov_bx := fun (E : But wr (Value.ownBlock (.slice g j c9))) o => E.cell (b := bx) o hbx2 (by intro e9; have a2 := HNP.out _ e9; have a1 := Hr.out.lt _ e9; have g0 := HZS.out; omega)
      simp only [Tree.qs]
      repeat (refine tree_q rfl rfl ?_; go_big_quiet_step (fail); refine wpQuiet_nil ?_)
      refine tree_a rfl (fun K hK => ?_)
      go_simp
      refine (refRead_any x (by have := HWJ.out; omega) _).mono ?_
      rintro e w2 ⟨a1, c1, rfl, hn9, hb9⟩
      replace HT := Lib.hid (below_up HT.out hb9)
      replace HZS := sz HZS (show wr.heap.size ≤ w2.heap.size from HT.out.size)
      clear hb9
      have HN1 := Lib.hid hn9
      clear hn9
      refine hK _ _ ⟨⟨⟨w2, ((below_grown HT.out).but _)⟩, rfl⟩, ?_⟩
      clear hK K
      repeat (refine tree_q rfl rfl ?_; go_big_quiet_step (fail); refine wpQuiet_nil ?_)
      refine tree_a rfl (fun K hK => ?_)
      go_simp
      refine (refRead_any y (by have := HXJ.out; omega) _).mono ?_
      rintro e w3 ⟨a2, c2, rfl, hn9, hb9⟩
      replace HN1 := Lib.hid (HN1.out.up hb9)
      replace HT := Lib.hid (below_up HT.out hb9)
      replace HZS := sz HZS (show wr.heap.size ≤ w3.heap.size from HT.out.size)
      clear hb9
      have HN2 := Lib.hid hn9
      clear hn9
      refine hK _ _ ⟨⟨⟨w3, ((below_grown HT.out).but _)⟩, rfl⟩, ?_⟩
      clear hK K
      repeat (refine tree_q rfl rfl ?_; go_big_quiet_step (fail); refine wpQuiet_nil ?_)
      refine tree_a rfl (fun K hK => ?_)
      go_simp
      refine (rMulQ OK.out (q_16 OK.out HML.out) (numOf_16 _ HXJ.out) _ (HG.out.up (below_up HB.out HT.out)) (HN.out.up (below_up HB.out HT.out)) HN2.out).mono ?_
      rintro e w4 ⟨a3, c3, rfl, hn9, hb9⟩
      replace HN1 := Lib.hid (HN1.out.up hb9)
      replace HN2 := Lib.hid (HN2.out.up hb9)
      replace HT := Lib.hid (below_up HT.out hb9)
      replace HZS := sz HZS (show wr.heap.size ≤ w4.heap.size from HT.out.size)
      clear hb9
      have HN3 := Lib.hid hn9
      clear hn9
      refine hK _ _ ⟨⟨⟨w4, ((below_grown HT.out).but _)⟩, rfl⟩, ?_⟩
      clear hK K
      repeat (refine tree_q rfl rfl ?_; go_big_quiet_step (fail); refine wpQuiet_nil ?_)
      refine tree_a rfl (fun K hK => ?_)
      go_simp
      refine (rAddQ OK.out (numOf_16 _ HWJ.out) (q_16 OK.out (mulQ_lt OK.out _ _)) _ (HG.out.up (below_up HB.out HT.out)) HN1.out HN3.out).mono ?_
      rintro e w5 ⟨a4, c4, rfl, hn9, hb9⟩
      replace HN1 := Lib.hid (HN1.out.up hb9)
      replace HN2 := Lib.hid (HN2.out.up hb9)
      replace HN3 := Lib.hid (HN3.out.up hb9)
      replace HT := Lib.hid (below_up HT.out hb9)
      replace HZS := sz HZS (show wr.heap.size ≤ w5.heap.size from HT.out.size)
      clear hb9
      have HN4 := Lib.hid hn9
      clear hn9
      refine hK _ _ ⟨⟨⟨w5, ((below_grown HT.out).but _)⟩, rfl⟩, ?_⟩
      clear hK K
      repeat (refine tree_q rfl rfl ?_; go_big_quiet_step (fail); refine wpQuiet_nil ?_)
      refine tree_a rfl (fun K hK => ?_)
      go_simp
      refine (rTextQ OK.out (addQ_lt OK.out _ _) _ HN4.out).mono ?_
      rintro e w6 ⟨rfl, hb9⟩
      replace HN1 := Lib.hid (HN1.out.up hb9)
      replace HN2 := Lib.hid (HN2.out.up hb9)
      replace HN3 := Lib.hid (HN3.out.up hb9)
      replace HN4 := Lib.hid (HN4.out.up hb9)
      replace HT := Lib.hid (below_up HT.out hb9)
      replace HZS := sz HZS (show wr.heap.size ≤ w6.heap.size from HT.out.size)
      clear hb9
      rw [HRM.out]
      refine hK _ _ ⟨⟨⟨w6, ((below_grown HT.out).but _)⟩, rfl⟩, ?_⟩
      clear hK K
      repeat (refine tree_q rfl rfl ?_; go_big_quiet_step (fail); refine wpQuiet_nil ?_)
      clear hov_bg hl_bg hov_bx
      refine tree_a rfl (fun K hK => ?_)
      go_simp
      refine hK _ _ ⟨⟨⟨_, (below_grown (HT.out.alloc HT.out.size _)).but _⟩, rfl⟩, ?_⟩
      clear hK K
      obtain ⟨i9, hi9, hz90, hz91, hz92⟩ := info_parts infoStr
      have HG1 := Lib.hid ((below_grown HT.out).but (Value.ownBlock (.slice g j c9)))
      clear bg_
      replace Hbg := Lib.hid (Hbg.out.up HT.out)
      replace Hr := Lib.hid (Hr.out.up HT.out)
      replace BL := hbu BL HT.out
      replace HB := hbu HB HT.out
      replace HZS := sz HZS HT.out.size
      refine tree_a rfl (fun K hK => ?_)
      refine step_pushR (w1.heap.size) w6 (by have g0 := HZS.out; omega) rfl _ _ 23 rfl 9 i9 _ 1 16 Tryz.underlying23 hi9 hz90 hz91 hz92 rfl (by omega) ((.slice g j c9)) (j) (((AL.take j).map Value.string)) rfl Hr.out _ _ _ rfl rfl rfl (by simp [Value.oneCell']) (by omega) (by unfold maxLen; omega) ?_
      intro g7 c7 w7 hown9 hg9
      have HGR := Lib.hid (HG1.out.trans hg9)
      have hb9 := Below.grown HB.out hg9 (by have g0 := HZS.out; omega) (fun q hq => Nat.le_trans (show w.heap.size ≤ w1.heap.size by have g0 := HZS.out; omega) (Hr.out.lt q hq).1)
      replace Hbg := Lib.hid (Hbg.out.grown hg9 (fun e9 => by have a2 := HNP.out _ e9; have a1 := Hr.out.lt _ e9; have g0 := HZS.out; omega))
      clear HN1 HN2 HN3 HN4
      replace BL := Lib.hid (Below.grown BL.out hg9 (by have g0 := HZS.out; omega) (fun q hq => Nat.le_trans (show w1.heap.size ≤ w1.heap.size by have g0 := HZS.out; omega) (Hr.out.lt q hq).1))
      replace HZS := sz HZS hg9.size
      clear Hr HB HT HG1
      have Hr := Lib.hid hown9
      have HB := Lib.hid hb9
      clear hb9 hown9 hg9 hi9 hz90 hz91 hz92
      refine hK _ _ ⟨⟨⟨w7, HGR.out⟩, rfl⟩, ?_⟩
      clear hK K HGR
      have bg_ := Hbg.out.c3
      try simp only [Act.put, List.setIfInBounds_toArray, List.set_cons_succ, List.set_cons_zero]
      repeat (refine tree_q rfl rfl ?_; go_big_quiet_step (fail); refine wpQuiet_nil ?_)
      refine tree_end ?_
      go_wp2_with fail
      go_roundw
      case rel => exact ⟨j + 1, _, _, hjn, by go_num, rfl, BL, Hr.out.eq HSJ.out.symm rfl⟩
      case measure => simp [intOf]; omega
    · have hj' : j = n := by omega
      subst hj'
      rw [List.take_of_length_le (by rw [HAL.out]; exact Nat.le_refl _)] at Hr
      go_wp2_with fail
      go_ret
      exact ⟨g, c9, rfl, Hr.out.sl, RowO.none0 Hr.out, RowO.room Hr.out, fun x hx => by have h1 := Hr.out.lt x.block (by rw [hx]; rfl); have h2 := HWW.out; omega, HB.out⟩
end Go.Proofs.YtdlnnkbigeiilaaGreat

/- Prove, as the document says it. Condition: the sizes of what came in. -/
namespace Go.Proofs.YtdlnnkbigeiilaaGreat
open Go.RowKit

theorem nonce_sc {G : GP} (ok : G.Ok) (s : ByteArray) (n : Nat) : (nonceL G s n).all (isSc G.q.m G.size) = true := by
  refine List.all_eq_true.2 fun x hx => ?_
  unfold nonceL at hx
  obtain ⟨j, _, rfl⟩ := List.mem_map.1 hx
  unfold nonceS isSc
  rw [textS_size, numOf_mod ok]
  simp [Nat.mod_lt _ ok.q.pos]
theorem nonce_ok {k : Nat} (h1 : 1 ≤ k) (h3 : k ≤ 3) {l : List ClaimA} (hw : wrongE (grp k) l = 0) (s : ByteArray) : openK (k : Int) l (nonceL (grp k) s l.length) = 0 := by
  unfold openK openE scE
  rw [if_pos (by omega), Int.toNat_natCast, if_neg (by rw [hw]; simp), nonceL_len, if_pos rfl, if_pos (nonce_sc (grp_ok k h1 h3) s l.length)]
set_option maxRecDepth 100000 in
set_option maxHeartbeats 4000000 in
theorem rProve_none (k : Int) (hk : ¬ (1 ≤ k ∧ k ≤ 3)) (a b c d : Value) (w : World) : Calls Tryz.prog 15 #[.int .i64 k, a, b, c, d] w (ProveR 1 ⟨#[]⟩ [] w) := by
  go_enter Tryz.func15, Tryz.ntmps15
  go_wp2_with fail
  obtain ⟨w1, hq1, hb9, hz9, Hout⟩ := new1 w 25 [.string ⟨#[]⟩, .slice none 0 0]
  rw [hq1]
  clear hq1
  have HB := Lib.hid hb9
  have HZS := hz9
  clear hb9 hz9
  have out_ := Hout.out.c2
  go_wp2_with fail
  refine (refKind_none k hk w1).mono ?_
  rintro e w2 ⟨rfl, hb9⟩
  clear out_
  replace Hout := Lib.hid (Hout.out.up hb9)
  replace HB := hbu HB hb9
  replace HZS := sz HZS hb9.size
  clear hb9
  have out_ := Hout.out.c2
  have o3_out_ := out_; clear out_
  obtain ⟨w3, hq3, hb9, hz9, Hbg⟩ := new1 w2 86 [.int .i64 0, .slice none 0 0, .slice none 0 0]
  replace Hout := Lib.hid (Hout.out.up hb9)
  replace HB := hbu HB hb9
  replace HZS := sz HZS hz9.out
  clear hb9 hz9
  have out_ := Hout.out.c2
  have bg_ := Hbg.out.c3
  have f4_bg := Hbg.out.frozen
  have o4_out_ := out_; clear out_
  have o4_bg_ := bg_; clear bg_
  obtain ⟨w4, hq4, hg9, hz9, hx9⟩ := put3 Hbg 0 (.int .i64 0) 1 (.slice none 0 0) 2 (.slice none 0 0) [.int .i64 0, .slice none 0 0, .slice none 0 0] rfl
  replace Hout := Lib.hid (Hout.out.grown hg9.out (sne (by have g0 := HZS.out; omega)))
  replace HB := hbg HB hg9 (by have g0 := HZS.out; omega)
  replace HZS := sz HZS hz9.out
  replace Hbg := hx9
  clear hx9 hg9 hz9
  have out_ := Hout.out.c2
  have bg_ := Hbg.out.c3
  have f5_out := Hout.out.frozen
  have o5_out_ := out_; clear out_
  have o5_bg_ := bg_; clear bg_
  obtain ⟨w5, hq5, hg9, hz9, hx9⟩ := put2 Hout 0 (.string ⟨#[]⟩) 1 (.slice none 0 0) [.string ⟨#[]⟩, .slice none 0 0] rfl
  replace Hbg := Lib.hid (Hbg.out.grown hg9.out (sne (by have g0 := HZS.out; omega)))
  replace HB := hbg HB hg9 (by have g0 := HZS.out; omega)
  replace HZS := sz HZS hz9.out
  replace Hout := hx9
  clear hx9 hg9 hz9
  have out_ := Hout.out.c2
  have bg_ := Hbg.out.c3
  go_wp2_with fail
  clear hq5 o5_bg_ o5_out_ f5_out hq4 o4_bg_ o4_out_ f4_bg hq3 o3_out_
  simp [bodyPost, results, Tryz.results15, go_sem, out_]
  exact proveR_none _ HB.out
set_option maxRecDepth 100000 in
set_option maxHeartbeats 4000000 in
theorem rProve_some (k : Nat) (h1 : 1 ≤ k) (h3 : k ≤ 3) (label : ByteArray) (hlb : label.size < 140737488355328) (l : List ClaimA) (n : Nat) (hn : l.length = n) (xs : List ByteArray) (hm : xs.length ≤ 8796093022207) (seed : ByteArray) (hsd : seed.size < 140737488355328) (al ax : Option Addr) (cl cx : Nat) (w : World) (hC : ClaimsAt w al l) (hS : Sl w w.heap.size ax (xs.map Value.string)) :
    Calls Tryz.prog 15 #[.int .i64 (k : Int), .string label, .slice al n cl, .slice ax xs.length cx, .string seed] w (ProveR (prvE k l xs : Int) (if prvE k l xs = 0 then prvC k label l seed else ⟨#[]⟩) (if prvE k l xs = 0 then prvA k label l xs seed else []) w) := by
  have OK := Lib.hid (grp_ok k h1 h3)
  have hs0 : 0 < (grp k).size := by have h9 := of_decide_eq_true (size_gt0 k h1 h3); omega
  have HS0 := Lib.hid (show ¬ (((grp k).size : Int) = 0) by omega)
  have HC := Lib.hid hC
  have HS := Lib.hid hS
  have HN := Lib.hid hn
  obtain ⟨z1, hz1⟩ : ∃ z, wrongE (grp k) l = z := ⟨_, rfl⟩
  have HZ1 := Lib.hid hz1
  have hop : openK (k : Int) l xs = if wrongE (grp k) l ≠ 0 then wrongE (grp k) l else scE (grp k) l.length xs := by
    unfold openK openE
    rw [if_pos (by omega), Int.toNat_natCast]
  clear hC hS hn
  by_cases g1 : z1 = 0
  case neg =>
    have HE2 := Lib.hid (show prvE k l xs = z1 by unfold prvE; rw [hop, hz1, if_pos g1, if_neg g1])
    rw [HE2.out, if_neg g1, if_neg g1]
    have hd : ((z1 : Int) != 0) = true := by simp; omega
    clear g1 HE2 hop hz1 hsd hlb
    go_enter Tryz.func15, Tryz.ntmps15
    go_wp2_with fail
    obtain ⟨w1, hq1, hb9, hz9, Hout⟩ := new1 w 25 [.string ⟨#[]⟩, .slice none 0 0]
    rw [hq1]
    clear hq1
    have HB := Lib.hid hb9
    have HZS := hz9
    clear hb9 hz9
    have out_ := Hout.out.c2
    go_wp2_with fail
    refine (refKind_some k h1 h3 w1).mono ?_
    rintro e w2 ⟨aq, cq, ap, cp, rfl, hq9, hp9, hb9⟩
    clear out_
    replace Hout := Lib.hid (Hout.out.up hb9)
    replace HB := hbu HB hb9
    replace HZS := sz HZS hb9.size
    have HRG := Lib.hid (RG.mk (G := grp k) hq9 hp9)
    clear hq9 hp9
    clear hb9
    have out_ := Hout.out.c2
    have HK := Lib.hid (Below.refl w2.heap.size w2)
    have o3_out_ := out_; clear out_
    obtain ⟨w3, hq3, hb9, hz9, Hbg⟩ := new1 w2 86 [.int .i64 ((grp k).size : Int), .slice aq (dl (grp k).q.m) cq, .slice ap (dl (grp k).p.m) cp]
    replace Hout := Lib.hid (Hout.out.up hb9)
    replace HK := hbu HK hb9
    replace HB := hbu HB hb9
    replace HZS := sz HZS hz9.out
    clear hb9 hz9
    have out_ := Hout.out.c2
    have bg_ := Hbg.out.c3
    go_wp2_with fail
    clear hq3 o3_out_
    refine (rWrong OK.out l n HN.out z1 HZ1.out al cl w3 (HRG.out.up HK.out) (HC.out.up HB.out)).mono ?_
    rintro e w4 ⟨rfl, hb9⟩
    clear out_
    replace Hout := Lib.hid (Hout.out.up hb9)
    clear bg_
    replace Hbg := Lib.hid (Hbg.out.up hb9)
    replace HK := hbu HK hb9
    replace HB := hbu HB hb9
    replace HZS := sz HZS hb9.size
    clear hb9
    have out_ := Hout.out.c2
    have bg_ := Hbg.out.c3
    have f5_out := Hout.out.frozen
    have o5_out_ := out_; clear out_
    have o5_bg_ := bg_; clear bg_
    obtain ⟨w5, hq5, hg9, hz9, hx9⟩ := put2 Hout 0 (.string ⟨#[]⟩) 1 (.slice none 0 0) [.string ⟨#[]⟩, .slice none 0 0] rfl
    replace Hbg := Lib.hid (Hbg.out.grown hg9.out (sne (by have g0 := HZS.out; omega)))
    replace HB := hbg HB hg9 (by have g0 := HZS.out; omega)
    replace HZS := sz HZS hz9.out
    replace Hout := hx9
    clear hx9 hg9 hz9
    have out_ := Hout.out.c2
    have bg_ := Hbg.out.c3
    go_wp2_with fail
    clear hq5 o5_bg_ o5_out_ f5_out
    simp [bodyPost, results, Tryz.results15, go_sem, out_]
    exact proveR_none _ HB.out
  subst g1
  obtain ⟨z2, hz2⟩ : ∃ z, scE (grp k) l.length xs = z := ⟨_, rfl⟩
  have HZ2 := Lib.hid hz2
  rw [hz1, if_neg (by simp), hz2] at hop
  by_cases g2 : z2 = 0
  case neg =>
    have HE2 := Lib.hid (show prvE k l xs = z2 by unfold prvE; rw [hop, if_neg g2])
    rw [HE2.out, if_neg g2, if_neg g2]
    have hd : ((z2 : Int) != 0) = true := by simp; omega
    rw [HN.out] at HZ2
    clear g2 HE2 hop hz1 hz2 hsd hlb
    go_enter Tryz.func15, Tryz.ntmps15
    go_wp2_with fail
    obtain ⟨w1, hq1, hb9, hz9, Hout⟩ := new1 w 25 [.string ⟨#[]⟩, .slice none 0 0]
    rw [hq1]
    clear hq1
    have HB := Lib.hid hb9
    have HZS := hz9
    clear hb9 hz9
    have out_ := Hout.out.c2
    go_wp2_with fail
    refine (refKind_some k h1 h3 w1).mono ?_
    rintro e w2 ⟨aq, cq, ap, cp, rfl, hq9, hp9, hb9⟩
    clear out_
    replace Hout := Lib.hid (Hout.out.up hb9)
    replace HB := hbu HB hb9
    replace HZS := sz HZS hb9.size
    have HRG := Lib.hid (RG.mk (G := grp k) hq9 hp9)
    clear hq9 hp9
    clear hb9
    have out_ := Hout.out.c2
    have HK := Lib.hid (Below.refl w2.heap.size w2)
    have o3_out_ := out_; clear out_
    obtain ⟨w3, hq3, hb9, hz9, Hbg⟩ := new1 w2 86 [.int .i64 ((grp k).size : Int), .slice aq (dl (grp k).q.m) cq, .slice ap (dl (grp k).p.m) cp]
    replace Hout := Lib.hid (Hout.out.up hb9)
    replace HK := hbu HK hb9
    replace HB := hbu HB hb9
    replace HZS := sz HZS hz9.out
    clear hb9 hz9
    have out_ := Hout.out.c2
    have bg_ := Hbg.out.c3
    go_wp2_with fail
    clear hq3 o3_out_
    refine (rWrong OK.out l n HN.out 0 HZ1.out al cl w3 (HRG.out.up HK.out) (HC.out.up HB.out)).mono ?_
    rintro e w4 ⟨rfl, hb9⟩
    clear out_
    replace Hout := Lib.hid (Hout.out.up hb9)
    clear bg_
    replace Hbg := Lib.hid (Hbg.out.up hb9)
    replace HK := hbu HK hb9
    replace HB := hbu HB hb9
    replace HZS := sz HZS hb9.size
    clear hb9
    have out_ := Hout.out.c2
    have bg_ := Hbg.out.c3
    go_wp2_with fail
    refine (rWrongSc_e OK.out n xs z2 HZ2.out ax cx hm w4 (HRG.out.up HK.out) (HS.out.up HB.out)).mono ?_
    rintro e w5 ⟨rfl, hb9⟩
    clear out_
    replace Hout := Lib.hid (Hout.out.up hb9)
    clear bg_
    replace Hbg := Lib.hid (Hbg.out.up hb9)
    replace HK := hbu HK hb9
    replace HB := hbu HB hb9
    replace HZS := sz HZS hb9.size
    clear hb9
    have out_ := Hout.out.c2
    have bg_ := Hbg.out.c3
    have f6_out := Hout.out.frozen
    have o6_out_ := out_; clear out_
    have o6_bg_ := bg_; clear bg_
    obtain ⟨w6, hq6, hg9, hz9, hx9⟩ := put2 Hout 0 (.string ⟨#[]⟩) 1 (.slice none 0 0) [.string ⟨#[]⟩, .slice none 0 0] rfl
    replace Hbg := Lib.hid (Hbg.out.grown hg9.out (sne (by have g0 := HZS.out; omega)))
    replace HB := hbg HB hg9 (by have g0 := HZS.out; omega)
    replace HZS := sz HZS hz9.out
    replace Hout := hx9
    clear hx9 hg9 hz9
    have out_ := Hout.out.c2
    have bg_ := Hbg.out.c3
    go_wp2_with fail
    clear hq6 o6_bg_ o6_out_ f6_out
    simp [bodyPost, results, Tryz.results15, go_sem, out_]
    exact proveR_none _ HB.out
  subst g2
  have HSH := Lib.hid (rsh_of OK.out HZ1.out HZ2.out)
  have hxl : xs.length = n := by rw [sc_lens HZ2.out, HN.out]
  have hopk := hop
  obtain ⟨_, hall⟩ := allOk hopk
  rw [Int.toNat_natCast] at hall
  have hHE := holdP_eq h1 h3 hall
  rw [HN.out] at HZ2
  obtain ⟨b, hb0⟩ : ∃ b, holdP (grp k) l xs = b := ⟨_, rfl⟩
  have HP := Lib.hid (hHE.trans hb0)
  have HXL := Lib.hid hxl
  have HHB := Lib.hid hb0
  have HE := Lib.hid (show prvE k l xs = if b = true then 0 else 8 by unfold prvE; rw [hop, if_pos rfl, Int.toNat_natCast, hb0])
  rw [hxl]
  clear hxl hop hopk hall hHE hb0 hz1 hz2
  cases b
  · rw [HE.out, if_neg (by decide), if_neg (by decide), if_neg (by decide)]
    clear HE hsd hlb
    go_enter Tryz.func15, Tryz.ntmps15
    go_wp2_with fail
    obtain ⟨w1, hq1, hb9, hz9, Hout⟩ := new1 w 25 [.string ⟨#[]⟩, .slice none 0 0]
    rw [hq1]
    clear hq1
    have HB := Lib.hid hb9
    have HZS := hz9
    clear hb9 hz9
    have out_ := Hout.out.c2
    go_wp2_with fail
    refine (refKind_some k h1 h3 w1).mono ?_
    rintro e w2 ⟨aq, cq, ap, cp, rfl, hq9, hp9, hb9⟩
    clear out_
    replace Hout := Lib.hid (Hout.out.up hb9)
    replace HB := hbu HB hb9
    replace HZS := sz HZS hb9.size
    have HRG := Lib.hid (RG.mk (G := grp k) hq9 hp9)
    clear hq9 hp9
    clear hb9
    have out_ := Hout.out.c2
    have HK := Lib.hid (Below.refl w2.heap.size w2)
    have o3_out_ := out_; clear out_
    obtain ⟨w3, hq3, hb9, hz9, Hbg⟩ := new1 w2 86 [.int .i64 ((grp k).size : Int), .slice aq (dl (grp k).q.m) cq, .slice ap (dl (grp k).p.m) cp]
    replace Hout := Lib.hid (Hout.out.up hb9)
    replace HK := hbu HK hb9
    replace HB := hbu HB hb9
    replace HZS := sz HZS hz9.out
    clear hb9 hz9
    have out_ := Hout.out.c2
    have bg_ := Hbg.out.c3
    go_wp2_with fail
    clear hq3 o3_out_
    refine (rWrong OK.out l n HN.out 0 HZ1.out al cl w3 (HRG.out.up HK.out) (HC.out.up HB.out)).mono ?_
    rintro e w4 ⟨rfl, hb9⟩
    clear out_
    replace Hout := Lib.hid (Hout.out.up hb9)
    clear bg_
    replace Hbg := Lib.hid (Hbg.out.up hb9)
    replace HK := hbu HK hb9
    replace HB := hbu HB hb9
    replace HZS := sz HZS hb9.size
    clear hb9
    have out_ := Hout.out.c2
    have bg_ := Hbg.out.c3
    go_wp2_with fail
    refine (rWrongSc_n OK.out n xs HXL.out 0 HZ2.out ax cx hm w4 (HRG.out.up HK.out) (HS.out.up HB.out)).mono ?_
    rintro e w5 ⟨rfl, hb9⟩
    clear out_
    replace Hout := Lib.hid (Hout.out.up hb9)
    clear bg_
    replace Hbg := Lib.hid (Hbg.out.up hb9)
    replace HK := hbu HK hb9
    replace HB := hbu HB hb9
    replace HZS := sz HZS hb9.size
    clear hb9
    have out_ := Hout.out.c2
    have bg_ := Hbg.out.c3
    go_wp2_with fail
    refine (rHold OK.out l xs HSH.out n HN.out false HP.out al ax cl cx w5 (HRG.out.up HK.out) (HC.out.up HB.out) (HS.out.up HB.out)).mono ?_
    rintro e w6 ⟨rfl, hb9⟩
    clear out_
    replace Hout := Lib.hid (Hout.out.up hb9)
    clear bg_
    replace Hbg := Lib.hid (Hbg.out.up hb9)
    replace HK := hbu HK hb9
    replace HB := hbu HB hb9
    replace HZS := sz HZS hb9.size
    clear hb9
    have out_ := Hout.out.c2
    have bg_ := Hbg.out.c3
    have f7_out := Hout.out.frozen
    have o7_out_ := out_; clear out_
    have o7_bg_ := bg_; clear bg_
    obtain ⟨w7, hq7, hg9, hz9, hx9⟩ := put2 Hout 0 (.string ⟨#[]⟩) 1 (.slice none 0 0) [.string ⟨#[]⟩, .slice none 0 0] rfl
    replace Hbg := Lib.hid (Hbg.out.grown hg9.out (sne (by have g0 := HZS.out; omega)))
    replace HB := hbg HB hg9 (by have g0 := HZS.out; omega)
    replace HZS := sz HZS hz9.out
    replace Hout := hx9
    clear hx9 hg9 hz9
    have out_ := Hout.out.c2
    have bg_ := Hbg.out.c3
    go_wp2_with fail
    clear hq7 o7_bg_ o7_out_ f7_out
    simp [bodyPost, results, Tryz.results15, go_sem, out_]
    exact proveR_none _ HB.out
  · rw [HE.out, if_pos rfl, if_pos rfl, if_pos rfl]
    have hnn : l.length = n := HN.out
    have hl64 : n ≤ 64 := hnn ▸ HSH.out.n64
    have hs1 : (prvT k label l).size = 32 := sayCl_size _ _ (say1_size _ _ _)
    have hs2 : (say1 (prvT k label l) seedB seed).size = 32 := say1_size _ _ _
    have hs3 : (sayFi (prvT k label l) (prvF k label l seed)).size = 32 := sayFi_size _ _ hs1
    have HSY := Lib.hid (show ∀ c ∈ l, SayOk c from fun c hc => ⟨(HSH.out.len c hc).1, by have := HSH.out.len c hc; omega, HSH.out.bs c hc, HSH.out.ims c hc⟩)
    have hLL : nonceL (grp k) (say1 (prvT k label l) seedB seed) n = prvL k label l seed := by unfold prvL; rw [Int.toNat_natCast, hnn]
    have hsc0 : scE (grp k) l.length (prvL k label l seed) = 0 := by
      rw [← hLL, hnn]
      unfold scE
      rw [if_pos (nonceL_len _ _ _), if_pos (nonce_sc OK.out _ _)]
    have hNL : (prvL k label l seed).length = n := by rw [← hLL, nonceL_len]
    have hNZ : ∀ x ∈ prvL k label l seed, x.size ≤ 32 := (rsh_of OK.out HZ1.out hsc0).xs
    have hFF : eachA (grp k) (rvalB (grp k) (subQ (grp k) 0 0) l (prvL k label l seed)) (lens l) n = prvF k label l seed := by
      have h9 := rfirstK_eq (k : Int) l (prvL k label l seed)
      have ho : openK (k : Int) l (prvL k label l seed) = 0 := by
        have := nonce_ok h1 h3 HZ1.out (say1 (prvT k label l) seedB seed)
        rwa [hnn, hLL] at this
      unfold rfirstK firstK at h9
      rw [if_pos ho, if_pos ho, Int.toNat_natCast, hnn] at h9
      rw [h9]
      unfold prvF
      rw [Int.toNat_natCast, hnn]
    have hFM : ∀ ro : List RowA, ro.map RowA.l = prvF k label l seed → ro.length = n ∧ ∀ r ∈ ro, r.l.length ≤ 8 ∧ ∀ x ∈ r.l, x.size ≤ 32 := fun ro hm => by
      have hm' := hm
      unfold prvF at hm'
      rw [Int.toNat_natCast, hnn] at hm'
      refine ⟨?_, eachA_small OK.out.size_le (lens_small fun c hc => (HSH.out.len c hc).1) hm'⟩
      have h9 := congrArg List.length hm'
      rwa [List.length_map, eachA_len] at h9
    have HF1 := Lib.hid (fun w => rbegin_any (k : Int) (by omega) claimsB label (by decide) hlb w)
    have HF2 := Lib.hid (fun w hC => (show Calls Tryz.prog 47 #[.agg #[.string (beginT claimsB label k)], .slice al n cl] w fun e w' => e = .returned (.agg #[.string (prvT k label l)]) ∧ Below w.heap.size w w' from rsayCl_any (beginT claimsB label k) l n hnn hl64 (say1_size _ _ _) HSY.out al cl w hC))
    have HF3 := Lib.hid (fun w => (show Calls Tryz.prog 73 #[.agg #[.string (prvT k label l)], .string seedB, .string seed] w fun e w' => e = .returned (.agg #[.string (say1 (prvT k label l) seedB seed)]) ∧ Below w.heap.size w w' from rSay_any (prvT k label l) seedB seed (by rw [hs1]; decide) (by decide) hsd w))
    have HF4 := Lib.hid (fun aq ap cq cp w hG => hLL ▸ rNonces_any (G := grp k) (aq := aq) (ap := ap) (cq := cq) (cp := cp) OK.out n hl64 (say1 (prvT k label l) seedB seed) hs2 w hG)
    have HF5 := Lib.hid (fun aq ap cq cp a9 c9 w hG hC hX => hFF ▸ rFirstOf (G := grp k) (aq := aq) (ap := ap) (cq := cq) (cp := cp) OK.out _ rfl l (prvL k label l seed) (rsh_of OK.out HZ1.out hsc0) n hnn al a9 cl c9 w hG hC hX)
    have HF6 := Lib.hid (fun (ro : List RowA) (hm : ro.map RowA.l = prvF k label l seed) (a9 : Option Addr) (c9 : Nat) (w : World) (hC : RowsAt w a9 ro) => (show Calls Tryz.prog 46 #[.agg #[.string (prvT k label l)], .slice a9 (prvF k label l seed).length c9] w fun e w' => e = .returned (.agg #[.string (sayFi (prvT k label l) (prvF k label l seed))]) ∧ Below w.heap.size w w' from by
      have h := rsayFi_any (prvT k label l) ro ro.length rfl (by rw [(hFM ro hm).1]; exact hl64) hs1 (hFM ro hm).2 a9 c9 w hC
      rw [hm] at h
      rw [← hm, List.length_map, hm]
      exact h))
    have HF7 := Lib.hid (fun pv aq cq w hQ => rChallenge_any (grp k).size (grp k).q.m pv OK.out.q.pos aq cq (sayFi (prvT k label l) (prvF k label l seed)) challengeB (by rw [hs3]; decide) (by decide) w hQ)
    have HRN := Lib.hid (show prvN k label l seed = chN (sayFi (prvT k label l) (prvF k label l seed)) challengeB from rfl)
    have HRC := Lib.hid (show prvC k label l seed = textS (prvN k label l seed % (grp k).q.m) (grp k).size by unfold prvC; rw [Int.toNat_natCast])
    have HRA := Lib.hid (show prvA k label l xs seed = ansL (grp k) (prvN k label l seed) (prvL k label l seed) xs by unfold prvA; rw [Int.toNat_natCast])
    have HNL := Lib.hid hNL
    have HNZ := Lib.hid hNZ
    generalize prvC k label l seed = PC at *
    generalize prvA k label l xs seed = PA at *
    generalize prvN k label l seed = PN at *
    generalize prvF k label l seed = PF at *
    generalize sayFi (prvT k label l) PF = t3 at *
    rw [← HRN.out] at HF7
    generalize chT t3 challengeB = t4 at *
    generalize prvL k label l seed = NL at *
    generalize askT (say1 (prvT k label l) seedB seed) n = t5 at *
    generalize say1 (prvT k label l) seedB seed = t2 at *
    generalize prvT k label l = t1 at *
    generalize beginT claimsB label k = t0 at *
    clear hs1 hs2 hs3 hLL hsc0 hNL hNZ hFF hFM hnn hlb hsd HRN
    obtain ⟨M, hM⟩ : ∃ M, PN % (grp k).q.m = M := ⟨_, rfl⟩
    have HM := Lib.hid hM
    rw [hM] at HF7 HRC
    have HML := Lib.hid (show M < (grp k).q.m from hM ▸ Nat.mod_lt _ OK.out.q.pos)
    clear hM HE
    go_enter Tryz.func15, Tryz.ntmps15
    go_wp2_with fail
    obtain ⟨w1, hq1, hb9, hz9, Hout⟩ := new1 w 25 [.string ⟨#[]⟩, .slice none 0 0]
    rw [hq1]
    clear hq1
    have HB := Lib.hid hb9
    have HZS := hz9
    clear hb9 hz9
    have out_ := Hout.out.c2
    go_wp2_with fail
    refine (refKind_some k h1 h3 w1).mono ?_
    rintro e w2 ⟨aq, cq, ap, cp, rfl, hq9, hp9, hb9⟩
    clear out_
    replace Hout := Lib.hid (Hout.out.up hb9)
    replace HB := hbu HB hb9
    replace HZS := sz HZS hb9.size
    have HRG := Lib.hid (RG.mk (G := grp k) hq9 hp9)
    clear hq9 hp9
    clear hb9
    have out_ := Hout.out.c2
    have HK := Lib.hid (Below.refl w2.heap.size w2)
    have o3_out_ := out_; clear out_
    obtain ⟨w3, hq3, hb9, hz9, Hbg⟩ := new1 w2 86 [.int .i64 ((grp k).size : Int), .slice aq (dl (grp k).q.m) cq, .slice ap (dl (grp k).p.m) cp]
    replace Hout := Lib.hid (Hout.out.up hb9)
    replace HK := hbu HK hb9
    replace HB := hbu HB hb9
    replace HZS := sz HZS hz9.out
    clear hb9 hz9
    have out_ := Hout.out.c2
    have bg_ := Hbg.out.c3
    go_wp2_with fail
    clear hq3 o3_out_
    refine (rWrong OK.out l n HN.out 0 HZ1.out al cl w3 (HRG.out.up HK.out) (HC.out.up HB.out)).mono ?_
    rintro e w4 ⟨rfl, hb9⟩
    clear out_
    replace Hout := Lib.hid (Hout.out.up hb9)
    clear bg_
    replace Hbg := Lib.hid (Hbg.out.up hb9)
    replace HK := hbu HK hb9
    replace HB := hbu HB hb9
    replace HZS := sz HZS hb9.size
    clear hb9
    have out_ := Hout.out.c2
    have bg_ := Hbg.out.c3
    go_wp2_with fail
    refine (rWrongSc_n OK.out n xs HXL.out 0 HZ2.out ax cx hm w4 (HRG.out.up HK.out) (HS.out.up HB.out)).mono ?_
    rintro e w5 ⟨rfl, hb9⟩
    clear out_
    replace Hout := Lib.hid (Hout.out.up hb9)
    clear bg_
    replace Hbg := Lib.hid (Hbg.out.up hb9)
    replace HK := hbu HK hb9
    replace HB := hbu HB hb9
    replace HZS := sz HZS hb9.size
    clear hb9
    have out_ := Hout.out.c2
    have bg_ := Hbg.out.c3
    go_wp2_with fail
    refine (rHold OK.out l xs HSH.out n HN.out true HP.out al ax cl cx w5 (HRG.out.up HK.out) (HC.out.up HB.out) (HS.out.up HB.out)).mono ?_
    rintro e w6 ⟨rfl, hb9⟩
    clear out_
    replace Hout := Lib.hid (Hout.out.up hb9)
    clear bg_
    replace Hbg := Lib.hid (Hbg.out.up hb9)
    replace HK := hbu HK hb9
    replace HB := hbu HB hb9
    replace HZS := sz HZS hb9.size
    clear hb9
    have out_ := Hout.out.c2
    have bg_ := Hbg.out.c3
    go_wp2_with fail
    refine (HF1.out w6).mono ?_
    rintro e w7 ⟨rfl, hb9⟩
    clear out_
    replace Hout := Lib.hid (Hout.out.up hb9)
    clear bg_
    replace Hbg := Lib.hid (Hbg.out.up hb9)
    replace HK := hbu HK hb9
    replace HB := hbu HB hb9
    replace HZS := sz HZS hb9.size
    clear hb9
    have out_ := Hout.out.c2
    have bg_ := Hbg.out.c3
    go_wp2_with fail
    refine (HF2.out w7 (HC.out.up HB.out)).mono ?_
    rintro e w8 ⟨rfl, hb9⟩
    clear out_
    replace Hout := Lib.hid (Hout.out.up hb9)
    clear bg_
    replace Hbg := Lib.hid (Hbg.out.up hb9)
    replace HK := hbu HK hb9
    replace HB := hbu HB hb9
    replace HZS := sz HZS hb9.size
    clear hb9
    have out_ := Hout.out.c2
    have bg_ := Hbg.out.c3
    have o9_out_ := out_; clear out_
    have o9_bg_ := bg_; clear bg_
    obtain ⟨w9, hq9, hb9, hz9, Hbt⟩ := new1 w8 89 [.string t1]
    replace Hout := Lib.hid (Hout.out.up hb9)
    replace Hbg := Lib.hid (Hbg.out.up hb9)
    replace HK := hbu HK hb9
    replace HB := hbu HB hb9
    replace HZS := sz HZS hz9.out
    clear hb9 hz9
    have out_ := Hout.out.c2
    have bg_ := Hbg.out.c3
    have bt_ := Hbt.out.c1
    go_wp2_with fail
    clear hq9 o9_bg_ o9_out_
    go_cut [17, 16] from 53 to 62 (fun v9 u9 wq9 => ∃ (b9 : Nat) (a9 : Option Addr) (c9 : Nat), v9 = .pointer (some ⟨b9, 0, none⟩) ∧ u9 = .slice a9 n c9 ∧ Hid (RowO 0 wq9 9 1 (.slice a9 n c9) n (NL.map Value.string)) ∧ Hid (Below w9.heap.size w9 wq9))
    case first =>
      have HT := Lib.hid (show Below w9.heap.size w9 w9.drew from (Below.refl _ _).drew)
      have hl_out := Hout.out.lt
      have hl_bg := Hbg.out.lt
      have hl_bt := Hbt.out.lt
      refine wp_region_tree (fun wq9 => ∃ E : Over w9, wq9 = E.w) ((.qs [0, 1, 2, 4, 5] (.two 3 (.two 6 (.qs [7, 8, 9] (.a 10 (.qs [11] (.a 12 .done)))) 10 (.a 6 (.qs [7, 8, 9, 11] (.a 12 .done)))) 10 (.a 3 (.a 6 (.qs [7, 8, 9, 11] (.a 12 .done))))))) (by kernel_rfl) (by kernel_rfl) (fun _ _ d _ _ h => by cases d <;> exact h) ⟨⟨_, HT.out⟩, rfl⟩ ?_
      have hov_out := fun (E : Over w9) o => E.cell (b := w.heap.size) o hl_out
      have hov_bg := fun (E : Over w9) o => E.cell (b := w2.heap.size) o hl_bg
      have hov_bt := fun (E : Over w9) o => E.cell (b := w8.heap.size) o hl_bt
      obtain ⟨wd, hwd⟩ : ∃ W9 : World, w9.drew = W9 := ⟨_, rfl⟩
      rw [hwd] at HT ⊢
      clear hwd
      simp only [Tree.qs]
      repeat (refine tree_q rfl rfl ?_; go_big_quiet_step (fail); refine wpQuiet_nil ?_)
      refine tree_two rfl rfl ?ta1 ?ta2
      case ta1 =>
        intro K hK
        go_simp
        refine (HF3.out _).mono ?_
        rintro e wz3 ⟨rfl, hb9⟩
        replace HT := Lib.hid (below_up HT.out hb9)
        clear hb9
        refine hK _ _ ⟨⟨⟨wz3, HT.out⟩, rfl⟩, ?_⟩
        clear hK K
        refine tree_two rfl rfl ?ta4 ?ta5
        case ta4 =>
          intro K hK
          go_simp
          refine (HF4.out aq ap cq cp _ (HRG.out.up (below_up HK.out HT.out))).mono ?_
          rintro e wz6 ⟨a5, c5, rfl, hr5, hb9⟩
          replace HT := Lib.hid (below_up HT.out hb9)
          have HR5 := Lib.hid hr5
          clear hr5
          clear hb9
          refine hK _ _ ⟨⟨⟨wz6, HT.out⟩, rfl⟩, ?_⟩
          clear hK K
          repeat (refine tree_q rfl rfl ?_; go_big_quiet_step (fail); refine wpQuiet_nil ?_)
          refine tree_a rfl (fun K hK => ?_)
          go_simp
          have hb9 : Below wz6.heap.size wz6 (wz6.alloc (Obj.cells #[.string ⟨#[]⟩] 89)) := (Below.refl _ _).alloc (Nat.le_refl _) _
          have hx9 : Bx (wz6.alloc (Obj.cells #[.string ⟨#[]⟩] 89)) wz6.heap.size 89 [.string ⟨#[]⟩] := Bx.new _ _ _ _ rfl
          obtain ⟨wz7, hq9⟩ : ∃ W9 : World, (wz6.alloc (Obj.cells #[.string ⟨#[]⟩] 89)) = W9 := ⟨_, rfl⟩
          rw [hq9] at hb9 hx9
          try rw [hq9]
          clear hq9
          replace HR5 := Lib.hid (HR5.out.up hb9)
          have HAr := Lib.hid HT.out.size
          replace HT := Lib.hid (below_up HT.out hb9)
          have Hr := Lib.hid hx9
          clear hb9 hx9
          refine hK _ _ ⟨⟨⟨wz7, HT.out⟩, rfl⟩, ?_⟩
          clear hK K
          repeat (refine tree_q rfl rfl ?_; go_big_quiet_step (fail); refine wpQuiet_nil ?_)
          refine tree_a rfl (fun K hK => ?_)
          have fz_0 := Hr.out.frozen 0
          have cz_0 := Hr.out.cell (i := 0) rfl
          go_simp
          replace HR5 := Lib.hid (RowO.other HR5.out (RowO.neB HR5.out Hr.out (by decide)) 0 (.string t5))
          have hx9 := (Hr.out.set 0 (.string t5))
          have hb9 : Below w9.heap.size w9 (wz7.setCell ⟨wz6.heap.size, 0, none⟩ (.string t5)) := (HT.out.setCell (show w9.heap.size ≤ wz6.heap.size from HAr.out) _)
          clear Hr HT fz_0 cz_0
          obtain ⟨wz8, hq9⟩ : ∃ W9 : World, (wz7.setCell ⟨wz6.heap.size, 0, none⟩ (.string t5)) = W9 := ⟨_, rfl⟩
          rw [hq9] at hx9 hb9 HR5
          try rw [hq9]
          clear hq9
          have HT := Lib.hid hb9
          have Hr := Lib.hid hx9
          clear hb9 hx9
          refine hK _ _ ⟨⟨⟨wz8, HT.out⟩, rfl⟩, ?_⟩
          clear hK K
          repeat (refine tree_q rfl rfl ?_; go_big_quiet_step (fail); refine wpQuiet_nil ?_)
          refine tree_end ?_
          go_wp2_with fail
          go_meet
          case rel => exact ⟨_, _, _, rfl, rfl, HR5, HT⟩
        case ta5 =>
          intro K hK
          go_simp
          have hb9 : Below wz3.heap.size wz3 (wz3.alloc (Obj.cells #[.string ⟨#[]⟩] 89)) := (Below.refl _ _).alloc (Nat.le_refl _) _
          have hx9 : Bx (wz3.alloc (Obj.cells #[.string ⟨#[]⟩] 89)) wz3.heap.size 89 [.string ⟨#[]⟩] := Bx.new _ _ _ _ rfl
          obtain ⟨wz9, hq9⟩ : ∃ W9 : World, (wz3.alloc (Obj.cells #[.string ⟨#[]⟩] 89)) = W9 := ⟨_, rfl⟩
          rw [hq9] at hb9 hx9
          try rw [hq9]
          clear hq9
          have HAr := Lib.hid HT.out.size
          replace HT := Lib.hid (below_up HT.out hb9)
          have Hr := Lib.hid hx9
          clear hb9 hx9
          refine hK _ _ ⟨⟨⟨wz9, HT.out⟩, rfl⟩, ?_⟩
          clear hK K
          refine tree_a rfl (fun K hK => ?_)
          go_simp
          refine (HF4.out aq ap cq cp _ (HRG.out.up (below_up HK.out HT.out))).mono ?_
          rintro e wz10 ⟨a5, c5, rfl, hr5, hb9⟩
          replace Hr := Lib.hid (Hr.out.up hb9)
          replace HT := Lib.hid (below_up HT.out hb9)
          have HR5 := Lib.hid hr5
          clear hr5
          clear hb9
          refine hK _ _ ⟨⟨⟨wz10, HT.out⟩, rfl⟩, ?_⟩
          clear hK K
          repeat (refine tree_q rfl rfl ?_; go_big_quiet_step (fail); refine wpQuiet_nil ?_)
          refine tree_a rfl (fun K hK => ?_)
          have fz_0 := Hr.out.frozen 0
          have cz_0 := Hr.out.cell (i := 0) rfl
          go_simp
          replace HR5 := Lib.hid (RowO.other HR5.out (RowO.neB HR5.out Hr.out (by decide)) 0 (.string t5))
          have hx9 := (Hr.out.set 0 (.string t5))
          have hb9 : Below w9.heap.size w9 (wz10.setCell ⟨wz3.heap.size, 0, none⟩ (.string t5)) := (HT.out.setCell (show w9.heap.size ≤ wz3.heap.size from HAr.out) _)
          clear Hr HT fz_0 cz_0
          obtain ⟨wz11, hq9⟩ : ∃ W9 : World, (wz10.setCell ⟨wz3.heap.size, 0, none⟩ (.string t5)) = W9 := ⟨_, rfl⟩
          rw [hq9] at hx9 hb9 HR5
          try rw [hq9]
          clear hq9
          have HT := Lib.hid hb9
          have Hr := Lib.hid hx9
          clear hb9 hx9
          refine hK _ _ ⟨⟨⟨wz11, HT.out⟩, rfl⟩, ?_⟩
          clear hK K
          repeat (refine tree_q rfl rfl ?_; go_big_quiet_step (fail); refine wpQuiet_nil ?_)
          refine tree_end ?_
          go_wp2_with fail
          go_meet
          case rel => exact ⟨_, _, _, rfl, rfl, HR5, HT⟩
      case ta2 =>
        intro K hK
        go_simp
        have hb9 : Below wd.heap.size wd (wd.alloc (Obj.cells #[.string ⟨#[]⟩] 89)) := (Below.refl _ _).alloc (Nat.le_refl _) _
        have hx9 : Bx (wd.alloc (Obj.cells #[.string ⟨#[]⟩] 89)) wd.heap.size 89 [.string ⟨#[]⟩] := Bx.new _ _ _ _ rfl
        obtain ⟨wz12, hq9⟩ : ∃ W9 : World, (wd.alloc (Obj.cells #[.string ⟨#[]⟩] 89)) = W9 := ⟨_, rfl⟩
        rw [hq9] at hb9 hx9
        try rw [hq9]
        clear hq9
        have HAr := Lib.hid HT.out.size
        replace HT := Lib.hid (below_up HT.out hb9)
        have Hr := Lib.hid hx9
        clear hb9 hx9
        refine hK _ _ ⟨⟨⟨wz12, HT.out⟩, rfl⟩, ?_⟩
        clear hK K
        refine tree_a rfl (fun K hK => ?_)
        go_simp
        refine (HF3.out _).mono ?_
        rintro e wz13 ⟨rfl, hb9⟩
        replace Hr := Lib.hid (Hr.out.up hb9)
        replace HT := Lib.hid (below_up HT.out hb9)
        clear hb9
        refine hK _ _ ⟨⟨⟨wz13, HT.out⟩, rfl⟩, ?_⟩
        clear hK K
        refine tree_a rfl (fun K hK => ?_)
        go_simp
        refine (HF4.out aq ap cq cp _ (HRG.out.up (below_up HK.out HT.out))).mono ?_
        rintro e wz14 ⟨a5, c5, rfl, hr5, hb9⟩
        replace Hr := Lib.hid (Hr.out.up hb9)
        replace HT := Lib.hid (below_up HT.out hb9)
        have HR5 := Lib.hid hr5
        clear hr5
        clear hb9
        refine hK _ _ ⟨⟨⟨wz14, HT.out⟩, rfl⟩, ?_⟩
        clear hK K
        repeat (refine tree_q rfl rfl ?_; go_big_quiet_step (fail); refine wpQuiet_nil ?_)
        refine tree_a rfl (fun K hK => ?_)
        have fz_0 := Hr.out.frozen 0
        have cz_0 := Hr.out.cell (i := 0) rfl
        go_simp
        replace HR5 := Lib.hid (RowO.other HR5.out (RowO.neB HR5.out Hr.out (by decide)) 0 (.string t5))
        have hx9 := (Hr.out.set 0 (.string t5))
        have hb9 : Below w9.heap.size w9 (wz14.setCell ⟨wd.heap.size, 0, none⟩ (.string t5)) := (HT.out.setCell (show w9.heap.size ≤ wd.heap.size from HAr.out) _)
        clear Hr HT fz_0 cz_0
        obtain ⟨wz15, hq9⟩ : ∃ W9 : World, (wz14.setCell ⟨wd.heap.size, 0, none⟩ (.string t5)) = W9 := ⟨_, rfl⟩
        rw [hq9] at hx9 hb9 HR5
        try rw [hq9]
        clear hq9
        have HT := Lib.hid hb9
        have Hr := Lib.hid hx9
        clear hb9 hx9
        refine hK _ _ ⟨⟨⟨wz15, HT.out⟩, rfl⟩, ?_⟩
        clear hK K
        repeat (refine tree_q rfl rfl ?_; go_big_quiet_step (fail); refine wpQuiet_nil ?_)
        refine tree_end ?_
        go_wp2_with fail
        go_meet
        case rel => exact ⟨_, _, _, rfl, rfl, HR5, HT⟩
    case rest =>
      obtain ⟨b9, a5, c5, rfl, rfl, HR5, hb9⟩ := hcut
      replace hb9 := hb9.out
      clear out_
      replace Hout := Lib.hid (Hout.out.up hb9)
      clear bg_
      replace Hbg := Lib.hid (Hbg.out.up hb9)
      clear bt_
      replace Hbt := Lib.hid (Hbt.out.up hb9)
      replace HK := hbu HK hb9
      replace HB := hbu HB hb9
      replace HZS := sz HZS hb9.size
      clear hb9
      have out_ := Hout.out.c2
      have bg_ := Hbg.out.c3
      have bt_ := Hbt.out.c1
      have BN := Lib.hid (Below.refl wc.heap.size wc)
      have HS5 := Lib.hid (RowO.sl HR5.out)
      go_wp2_with fail
      go_cut [19, 18] from 63 to 73 (fun v9 u9 wq9 => ∃ (b9 : Nat) (a9 : Option Addr) (c9 : Nat), v9 = .pointer (some ⟨b9, 0, none⟩) ∧ u9 = .slice a9 (dl M) c9 ∧ Hid (NumAt wq9 a9 M) ∧ Hid (Below wc.heap.size wc wq9))
      case first =>
        have HT := Lib.hid (show Below wc.heap.size wc wc.drew from (Below.refl _ _).drew)
        have hl_out := Hout.out.lt
        have hl_bg := Hbg.out.lt
        have hl_bt := Hbt.out.lt
        refine wp_region_tree (fun wq9 => ∃ E : Over wc, wq9 = E.w) ((.qs [0, 1, 2, 3, 4] (.two 5 (.two 6 (.two 7 (.qs [8, 9, 10] (.a 11 (.qs [12] (.a 13 .done)))) 11 (.a 7 (.qs [8, 9, 10, 12] (.a 13 .done)))) 11 (.a 6 (.a 7 (.qs [8, 9, 10, 12] (.a 13 .done))))) 11 (.a 5 (.a 6 (.a 7 (.qs [8, 9, 10, 12] (.a 13 .done)))))))) (by kernel_rfl) (by kernel_rfl) (fun _ _ d _ _ h => by cases d <;> exact h) ⟨⟨_, HT.out⟩, rfl⟩ ?_
        have hov_out := fun (E : Over wc) o => E.cell (b := w.heap.size) o hl_out
        have hov_bg := fun (E : Over wc) o => E.cell (b := w2.heap.size) o hl_bg
        have hov_bt := fun (E : Over wc) o => E.cell (b := w8.heap.size) o hl_bt
        obtain ⟨wd, hwd⟩ : ∃ W9 : World, wc.drew = W9 := ⟨_, rfl⟩
        rw [hwd] at HT ⊢
        clear hwd
        simp only [Tree.qs]
        repeat (refine tree_q rfl rfl ?_; go_big_quiet_step (fail); refine wpQuiet_nil ?_)
        refine tree_two rfl rfl ?ta1 ?ta2
        case ta1 =>
          intro K hK
          go_simp
          refine (HF5.out aq ap cq cp a5 c5 _ (HRG.out.up (below_up HK.out HT.out)) (HC.out.up (below_up HB.out HT.out)) (HS5.out.up (below_up BN.out HT.out))).mono ?_
          rintro e wz3 ⟨hb9, a9, c9, ro, rfl, hm9, hr9, _⟩
          replace HT := Lib.hid (below_up HT.out hb9)
          have HMR := Lib.hid hm9
          clear hm9
          have HRR := Lib.hid hr9
          clear hr9
          clear hb9
          refine hK _ _ ⟨⟨⟨wz3, HT.out⟩, rfl⟩, ?_⟩
          clear hK K
          refine tree_two rfl rfl ?ta4 ?ta5
          case ta4 =>
            intro K hK
            go_simp
            refine (HF6.out ro HMR.out a9 c9 _ HRR.out).mono ?_
            rintro e wz6 ⟨rfl, hb9⟩
            replace HRR := Lib.hid (HRR.out.up hb9)
            replace HT := Lib.hid (below_up HT.out hb9)
            clear hb9
            refine hK _ _ ⟨⟨⟨wz6, HT.out⟩, rfl⟩, ?_⟩
            clear hK K
            refine tree_two rfl rfl ?ta7 ?ta8
            case ta7 =>
              intro K hK
              go_simp
              refine (HF7.out _ aq cq _ (HRG.out.up (below_up HK.out HT.out)).q).mono ?_
              rintro e wz9 ⟨a7, c7, rfl, hn7, hb9⟩
              replace HRR := Lib.hid (HRR.out.up hb9)
              replace HT := Lib.hid (below_up HT.out hb9)
              have HN7 := Lib.hid hn7
              clear hn7
              clear hb9
              refine hK _ _ ⟨⟨⟨wz9, HT.out⟩, rfl⟩, ?_⟩
              clear hK K
              repeat (refine tree_q rfl rfl ?_; go_big_quiet_step (fail); refine wpQuiet_nil ?_)
              refine tree_a rfl (fun K hK => ?_)
              go_simp
              have hb9 : Below wz9.heap.size wz9 (wz9.alloc (Obj.cells #[.string ⟨#[]⟩] 89)) := (Below.refl _ _).alloc (Nat.le_refl _) _
              have hx9 : Bx (wz9.alloc (Obj.cells #[.string ⟨#[]⟩] 89)) wz9.heap.size 89 [.string ⟨#[]⟩] := Bx.new _ _ _ _ rfl
              obtain ⟨wz10, hq9⟩ : ∃ W9 : World, (wz9.alloc (Obj.cells #[.string ⟨#[]⟩] 89)) = W9 := ⟨_, rfl⟩
              rw [hq9] at hb9 hx9
              try rw [hq9]
              clear hq9
              replace HRR := Lib.hid (HRR.out.up hb9)
              replace HN7 := Lib.hid (HN7.out.up hb9)
              have HAr := Lib.hid HT.out.size
              replace HT := Lib.hid (below_up HT.out hb9)
              have Hr := Lib.hid hx9
              clear hb9 hx9
              refine hK _ _ ⟨⟨⟨wz10, HT.out⟩, rfl⟩, ?_⟩
              clear hK K
              repeat (refine tree_q rfl rfl ?_; go_big_quiet_step (fail); refine wpQuiet_nil ?_)
              refine tree_a rfl (fun K hK => ?_)
              have fz_0 := Hr.out.frozen 0
              have cz_0 := Hr.out.cell (i := 0) rfl
              go_simp
              replace HN7 := Lib.hid (numSet HN7.out Hr.out 0 (.string t4))
              have hx9 := (Hr.out.set 0 (.string t4))
              have hb9 : Below wc.heap.size wc (wz10.setCell ⟨wz9.heap.size, 0, none⟩ (.string t4)) := (HT.out.setCell (show wc.heap.size ≤ wz9.heap.size from HAr.out) _)
              clear HRR Hr HT fz_0 cz_0
              obtain ⟨wz11, hq9⟩ : ∃ W9 : World, (wz10.setCell ⟨wz9.heap.size, 0, none⟩ (.string t4)) = W9 := ⟨_, rfl⟩
              rw [hq9] at hx9 hb9 HN7
              try rw [hq9]
              clear hq9
              have HT := Lib.hid hb9
              have Hr := Lib.hid hx9
              clear hb9 hx9
              refine hK _ _ ⟨⟨⟨wz11, HT.out⟩, rfl⟩, ?_⟩
              clear hK K
              repeat (refine tree_q rfl rfl ?_; go_big_quiet_step (fail); refine wpQuiet_nil ?_)
              refine tree_end ?_
              go_wp2_with fail
              go_meet
              case rel => exact ⟨_, _, _, rfl, rfl, HN7, HT⟩
            case ta8 =>
              intro K hK
              go_simp
              have hb9 : Below wz6.heap.size wz6 (wz6.alloc (Obj.cells #[.string ⟨#[]⟩] 89)) := (Below.refl _ _).alloc (Nat.le_refl _) _
              have hx9 : Bx (wz6.alloc (Obj.cells #[.string ⟨#[]⟩] 89)) wz6.heap.size 89 [.string ⟨#[]⟩] := Bx.new _ _ _ _ rfl
              obtain ⟨wz12, hq9⟩ : ∃ W9 : World, (wz6.alloc (Obj.cells #[.string ⟨#[]⟩] 89)) = W9 := ⟨_, rfl⟩
              rw [hq9] at hb9 hx9
              try rw [hq9]
              clear hq9
              replace HRR := Lib.hid (HRR.out.up hb9)
              have HAr := Lib.hid HT.out.size
              replace HT := Lib.hid (below_up HT.out hb9)
              have Hr := Lib.hid hx9
              clear hb9 hx9
              refine hK _ _ ⟨⟨⟨wz12, HT.out⟩, rfl⟩, ?_⟩
              clear hK K
              refine tree_a rfl (fun K hK => ?_)
              go_simp
              refine (HF7.out _ aq cq _ (HRG.out.up (below_up HK.out HT.out)).q).mono ?_
              rintro e wz13 ⟨a7, c7, rfl, hn7, hb9⟩
              replace HRR := Lib.hid (HRR.out.up hb9)
              replace Hr := Lib.hid (Hr.out.up hb9)
              replace HT := Lib.hid (below_up HT.out hb9)
              have HN7 := Lib.hid hn7
              clear hn7
              clear hb9
              refine hK _ _ ⟨⟨⟨wz13, HT.out⟩, rfl⟩, ?_⟩
              clear hK K
              repeat (refine tree_q rfl rfl ?_; go_big_quiet_step (fail); refine wpQuiet_nil ?_)
              refine tree_a rfl (fun K hK => ?_)
              have fz_0 := Hr.out.frozen 0
              have cz_0 := Hr.out.cell (i := 0) rfl
              go_simp
              replace HN7 := Lib.hid (numSet HN7.out Hr.out 0 (.string t4))
              have hx9 := (Hr.out.set 0 (.string t4))
              have hb9 : Below wc.heap.size wc (wz13.setCell ⟨wz6.heap.size, 0, none⟩ (.string t4)) := (HT.out.setCell (show wc.heap.size ≤ wz6.heap.size from HAr.out) _)
              clear HRR Hr HT fz_0 cz_0
              obtain ⟨wz14, hq9⟩ : ∃ W9 : World, (wz13.setCell ⟨wz6.heap.size, 0, none⟩ (.string t4)) = W9 := ⟨_, rfl⟩
              rw [hq9] at hx9 hb9 HN7
              try rw [hq9]
              clear hq9
              have HT := Lib.hid hb9
              have Hr := Lib.hid hx9
              clear hb9 hx9
              refine hK _ _ ⟨⟨⟨wz14, HT.out⟩, rfl⟩, ?_⟩
              clear hK K
              repeat (refine tree_q rfl rfl ?_; go_big_quiet_step (fail); refine wpQuiet_nil ?_)
              refine tree_end ?_
              go_wp2_with fail
              go_meet
              case rel => exact ⟨_, _, _, rfl, rfl, HN7, HT⟩
          case ta5 =>
            intro K hK
            go_simp
            have hb9 : Below wz3.heap.size wz3 (wz3.alloc (Obj.cells #[.string ⟨#[]⟩] 89)) := (Below.refl _ _).alloc (Nat.le_refl _) _
            have hx9 : Bx (wz3.alloc (Obj.cells #[.string ⟨#[]⟩] 89)) wz3.heap.size 89 [.string ⟨#[]⟩] := Bx.new _ _ _ _ rfl
            obtain ⟨wz15, hq9⟩ : ∃ W9 : World, (wz3.alloc (Obj.cells #[.string ⟨#[]⟩] 89)) = W9 := ⟨_, rfl⟩
            rw [hq9] at hb9 hx9
            try rw [hq9]
            clear hq9
            replace HRR := Lib.hid (HRR.out.up hb9)
            have HAr := Lib.hid HT.out.size
            replace HT := Lib.hid (below_up HT.out hb9)
            have Hr := Lib.hid hx9
            clear hb9 hx9
            refine hK _ _ ⟨⟨⟨wz15, HT.out⟩, rfl⟩, ?_⟩
            clear hK K
            refine tree_a rfl (fun K hK => ?_)
            go_simp
            refine (HF6.out ro HMR.out a9 c9 _ HRR.out).mono ?_
            rintro e wz16 ⟨rfl, hb9⟩
            replace HRR := Lib.hid (HRR.out.up hb9)
            replace Hr := Lib.hid (Hr.out.up hb9)
            replace HT := Lib.hid (below_up HT.out hb9)
            clear hb9
            refine hK _ _ ⟨⟨⟨wz16, HT.out⟩, rfl⟩, ?_⟩
            clear hK K
            refine tree_a rfl (fun K hK => ?_)
            go_simp
            refine (HF7.out _ aq cq _ (HRG.out.up (below_up HK.out HT.out)).q).mono ?_
            rintro e wz17 ⟨a7, c7, rfl, hn7, hb9⟩
            replace HRR := Lib.hid (HRR.out.up hb9)
            replace Hr := Lib.hid (Hr.out.up hb9)
            replace HT := Lib.hid (below_up HT.out hb9)
            have HN7 := Lib.hid hn7
            clear hn7
            clear hb9
            refine hK _ _ ⟨⟨⟨wz17, HT.out⟩, rfl⟩, ?_⟩
            clear hK K
            repeat (refine tree_q rfl rfl ?_; go_big_quiet_step (fail); refine wpQuiet_nil ?_)
            refine tree_a rfl (fun K hK => ?_)
            have fz_0 := Hr.out.frozen 0
            have cz_0 := Hr.out.cell (i := 0) rfl
            go_simp
            replace HN7 := Lib.hid (numSet HN7.out Hr.out 0 (.string t4))
            have hx9 := (Hr.out.set 0 (.string t4))
            have hb9 : Below wc.heap.size wc (wz17.setCell ⟨wz3.heap.size, 0, none⟩ (.string t4)) := (HT.out.setCell (show wc.heap.size ≤ wz3.heap.size from HAr.out) _)
            clear HRR Hr HT fz_0 cz_0
            obtain ⟨wz18, hq9⟩ : ∃ W9 : World, (wz17.setCell ⟨wz3.heap.size, 0, none⟩ (.string t4)) = W9 := ⟨_, rfl⟩
            rw [hq9] at hx9 hb9 HN7
            try rw [hq9]
            clear hq9
            have HT := Lib.hid hb9
            have Hr := Lib.hid hx9
            clear hb9 hx9
            refine hK _ _ ⟨⟨⟨wz18, HT.out⟩, rfl⟩, ?_⟩
            clear hK K
            repeat (refine tree_q rfl rfl ?_; go_big_quiet_step (fail); refine wpQuiet_nil ?_)
            refine tree_end ?_
            go_wp2_with fail
            go_meet
            case rel => exact ⟨_, _, _, rfl, rfl, HN7, HT⟩
        case ta2 =>
          intro K hK
          go_simp
          have hb9 : Below wd.heap.size wd (wd.alloc (Obj.cells #[.string ⟨#[]⟩] 89)) := (Below.refl _ _).alloc (Nat.le_refl _) _
          have hx9 : Bx (wd.alloc (Obj.cells #[.string ⟨#[]⟩] 89)) wd.heap.size 89 [.string ⟨#[]⟩] := Bx.new _ _ _ _ rfl
          obtain ⟨wz19, hq9⟩ : ∃ W9 : World, (wd.alloc (Obj.cells #[.string ⟨#[]⟩] 89)) = W9 := ⟨_, rfl⟩
          rw [hq9] at hb9 hx9
          try rw [hq9]
          clear hq9
          have HAr := Lib.hid HT.out.size
          replace HT := Lib.hid (below_up HT.out hb9)
          have Hr := Lib.hid hx9
          clear hb9 hx9
          refine hK _ _ ⟨⟨⟨wz19, HT.out⟩, rfl⟩, ?_⟩
          clear hK K
          refine tree_a rfl (fun K hK => ?_)
          go_simp
          refine (HF5.out aq ap cq cp a5 c5 _ (HRG.out.up (below_up HK.out HT.out)) (HC.out.up (below_up HB.out HT.out)) (HS5.out.up (below_up BN.out HT.out))).mono ?_
          rintro e wz20 ⟨hb9, a9, c9, ro, rfl, hm9, hr9, _⟩
          replace Hr := Lib.hid (Hr.out.up hb9)
          replace HT := Lib.hid (below_up HT.out hb9)
          have HMR := Lib.hid hm9
          clear hm9
          have HRR := Lib.hid hr9
          clear hr9
          clear hb9
          refine hK _ _ ⟨⟨⟨wz20, HT.out⟩, rfl⟩, ?_⟩
          clear hK K
          refine tree_a rfl (fun K hK => ?_)
          go_simp
          refine (HF6.out ro HMR.out a9 c9 _ HRR.out).mono ?_
          rintro e wz21 ⟨rfl, hb9⟩
          replace Hr := Lib.hid (Hr.out.up hb9)
          replace HRR := Lib.hid (HRR.out.up hb9)
          replace HT := Lib.hid (below_up HT.out hb9)
          clear hb9
          refine hK _ _ ⟨⟨⟨wz21, HT.out⟩, rfl⟩, ?_⟩
          clear hK K
          refine tree_a rfl (fun K hK => ?_)
          go_simp
          refine (HF7.out _ aq cq _ (HRG.out.up (below_up HK.out HT.out)).q).mono ?_
          rintro e wz22 ⟨a7, c7, rfl, hn7, hb9⟩
          replace Hr := Lib.hid (Hr.out.up hb9)
          replace HRR := Lib.hid (HRR.out.up hb9)
          replace HT := Lib.hid (below_up HT.out hb9)
          have HN7 := Lib.hid hn7
          clear hn7
          clear hb9
          refine hK _ _ ⟨⟨⟨wz22, HT.out⟩, rfl⟩, ?_⟩
          clear hK K
          repeat (refine tree_q rfl rfl ?_; go_big_quiet_step (fail); refine wpQuiet_nil ?_)
          refine tree_a rfl (fun K hK => ?_)
          have fz_0 := Hr.out.frozen 0
          have cz_0 := Hr.out.cell (i := 0) rfl
          go_simp
          replace HN7 := Lib.hid (numSet HN7.out Hr.out 0 (.string t4))
          have hx9 := (Hr.out.set 0 (.string t4))
          have hb9 : Below wc.heap.size wc (wz22.setCell ⟨wd.heap.size, 0, none⟩ (.string t4)) := (HT.out.setCell (show wc.heap.size ≤ wd.heap.size from HAr.out) _)
          clear Hr HRR HT fz_0 cz_0
          obtain ⟨wz23, hq9⟩ : ∃ W9 : World, (wz22.setCell ⟨wd.heap.size, 0, none⟩ (.string t4)) = W9 := ⟨_, rfl⟩
          rw [hq9] at hx9 hb9 HN7
          try rw [hq9]
          clear hq9
          have HT := Lib.hid hb9
          have Hr := Lib.hid hx9
          clear hb9 hx9
          refine hK _ _ ⟨⟨⟨wz23, HT.out⟩, rfl⟩, ?_⟩
          clear hK K
          repeat (refine tree_q rfl rfl ?_; go_big_quiet_step (fail); refine wpQuiet_nil ?_)
          refine tree_end ?_
          go_wp2_with fail
          go_meet
          case rel => exact ⟨_, _, _, rfl, rfl, HN7, HT⟩
      case rest =>
        obtain ⟨b7, a7, c7, rfl, rfl, HN7, hb9⟩ := hcut
        replace hb9 := hb9.out
        clear out_
        replace Hout := Lib.hid (Hout.out.up hb9)
        clear bg_
        replace Hbg := Lib.hid (Hbg.out.up hb9)
        clear bt_
        replace Hbt := Lib.hid (Hbt.out.up hb9)
        replace HR5 := Lib.hid (HR5.out.up hb9)
        replace HK := hbu HK hb9
        replace BN := hbu BN hb9
        replace HB := hbu HB hb9
        replace HZS := sz HZS hb9.size
        clear hb9
        have out_ := Hout.out.c2
        have bg_ := Hbg.out.c3
        have bt_ := Hbt.out.c1
        go_wp2_with fail
        have HRGW := Lib.hid (HRG.out.up HK.out)
        have HSW := Lib.hid (RowO.sl HR5.out)
        have HXW := Lib.hid (HS.out.up HB.out)
        clear HK BN HR5
        have HT := Lib.hid (show Below wc.heap.size wc wc.drew from (Below.refl _ _).drew)
        have hl_bg := Hbg.out.lt
        have hl_bt := Hbt.out.lt
        refine wp_region_tree (fun wq9 => ∃ E : But wc (some (w.heap.size)), wq9 = E.w) ((.qs [0, 1, 2, 4, 5, 6, 7] (.a 3 (.a 8 (.qs [9] (.a 10 (.qs [11] .done))))))) (by kernel_rfl) (by kernel_rfl) (fun _ _ d _ _ h => by cases d <;> exact h) ⟨⟨_, ((below_grown HT.out).but _)⟩, rfl⟩ ?_
        have hov_bg := fun (E : But wc (some (w.heap.size))) o => E.cell (b := w2.heap.size) o hl_bg (by intro e9; have a0 := Option.some.inj e9; have g0 := HZS.out; omega)
        have hov_bt := fun (E : But wc (some (w.heap.size))) o => E.cell (b := w8.heap.size) o hl_bt (by intro e9; have a0 := Option.some.inj e9; have g0 := HZS.out; omega)
        simp only [Tree.qs]
        repeat (refine tree_q rfl rfl ?_; go_big_quiet_step (fail); refine wpQuiet_nil ?_)
        refine tree_a rfl (fun K hK => ?_)
        go_simp
        refine (rText OK.out (q_16 OK.out HML.out) _ (HN7.out.up HT.out)).mono ?_
        rintro e w10 ⟨rfl, hb9⟩
        replace HT := Lib.hid (below_up HT.out hb9)
        replace HZS := sz HZS (show wc.heap.size ≤ w10.heap.size from HT.out.size)
        clear hb9
        refine hK _ _ ⟨⟨⟨w10, ((below_grown HT.out).but _)⟩, rfl⟩, ?_⟩
        clear hK K
        repeat (refine tree_q rfl rfl ?_; go_big_quiet_step (fail); refine wpQuiet_nil ?_)
        refine tree_a rfl (fun K hK => ?_)
        go_simp
        refine (rAnswers_any OK.out PN M HM.out.symm NL xs n HNL.out HXL.out hl64 HNZ.out HSH.out.xs a7 a5 ax c7 c5 cx _ (HRGW.out.up HT.out) (HN7.out.up HT.out) (HSW.out.up HT.out) (HXW.out.up HT.out)).mono ?_
        rintro e w11 ⟨a6, c6, rfl, hs6, hc6, hn6, hf6, hb9⟩
        replace HT := Lib.hid (below_up HT.out hb9)
        replace HZS := sz HZS (show wc.heap.size ≤ w11.heap.size from HT.out.size)
        clear hb9
        have HS6 := Lib.hid hs6
        clear hs6
        have HC6 := Lib.hid hc6
        clear hc6
        have HN6 := Lib.hid hn6
        clear hn6
        have HF9 := Lib.hid hf6
        clear hf6
        refine hK _ _ ⟨⟨⟨w11, ((below_grown HT.out).but _)⟩, rfl⟩, ?_⟩
        clear hK K
        repeat (refine tree_q rfl rfl ?_; go_big_quiet_step (fail); refine wpQuiet_nil ?_)
        have HNO := Lib.hid (show ∀ x, a6 = some x → x.block ≠ w.heap.size from fun x hx e => by have h1 := HF9.out x hx; have h2 := HZS.out; omega)
        clear hov_bg hl_bg hov_bt hl_bt
        refine tree_a rfl (fun K hK => ?_)
        clear out_
        replace Hout := Lib.hid (Hout.out.up HT.out)
        clear bg_
        replace Hbg := Lib.hid (Hbg.out.up HT.out)
        clear bt_
        replace Hbt := Lib.hid (Hbt.out.up HT.out)
        replace HN7 := Lib.hid (HN7.out.up HT.out)
        replace HB := hbu HB HT.out
        replace HZS := sz HZS HT.out.size
        have out_ := Hout.out.c2
        have bg_ := Hbg.out.c3
        have bt_ := Hbt.out.c1
        replace HS6 := Lib.hid (Sl.setO HS6.out HNO.out 0 (.string (textS M (grp k).size)))
        replace HS6 := Lib.hid (Sl.setO HS6.out HNO.out 1 (.slice a6 n c6))
        have f12_out := Hout.out.frozen
        have o12_out_ := out_; clear out_
        have o12_bg_ := bg_; clear bg_
        have o12_bt_ := bt_; clear bt_
        obtain ⟨w12, hq12, hg9, hz9, hx9⟩ := put2 Hout 0 (.string (textS M (grp k).size)) 1 (.slice a6 n c6) [.string (textS M (grp k).size), .slice a6 n c6] rfl
        replace Hbg := Lib.hid (Hbg.out.grown hg9.out (sne (by have g0 := HZS.out; omega)))
        replace Hbt := Lib.hid (Hbt.out.grown hg9.out (sne (by have g0 := HZS.out; omega)))
        clear HN7
        replace HB := hbg HB hg9 (by have g0 := HZS.out; omega)
        replace HZS := sz HZS hz9.out
        replace Hout := hx9
        have HGR := Lib.hid (((below_grown HT.out).but _).trans hg9.out)
        clear hx9 hg9 hz9
        have out_ := Hout.out.c2
        have bg_ := Hbg.out.c3
        have bt_ := Hbt.out.c1
        rw [hq12] at HS6
        clear HT
        go_simp
        try rw [hq12]
        refine hK _ _ ⟨⟨⟨w12, HGR.out⟩, rfl⟩, ?_⟩
        clear hK K HGR
        clear hq12 o12_bt_ o12_bg_ o12_out_ f12_out
        repeat (refine tree_q rfl rfl ?_; go_big_quiet_step (fail); refine wpQuiet_nil ?_)
        refine tree_end ?_
        go_wp2_with fail
        have HPL := Lib.hid (show PA.length = n by rw [HRA.out]; exact ansL_len _ _ HNL.out HXL.out)
        have HFP := Lib.hid (show ∀ x, a6 = some x → w.heap.size ≤ x.block from fun x hx => by have h1 := HF9.out x hx; have h2 := HZS.out; omega)
        have HRP := Lib.hid (show ∀ W, Below w.heap.size w W → Sl W W.heap.size a6 ((ansL (grp k) PN NL xs).map Value.string) → ProveR 0 PC PA w (.returned (.tuple #[.agg #[.string (textS M (grp k).size), .slice a6 n c6], .int .i64 0])) W from fun W h1 h2 => ⟨h1, a6, c6, by rw [HRC.out, HPL.out], by rw [HRA.out]; exact h2, fun e => HC6.out e, by rw [HPL.out]; exact HN6.out, HFP.out⟩)
        simp [bodyPost, results, Tryz.results15, go_sem, out_]
        exact HRP.out _ HB.out HS6.out
end Go.Proofs.YtdlnnkbigeiilaaGreat

/- Prove, as the document says it, of any kind. Condition: the sizes of what came in. -/
namespace Go.Proofs.YtdlnnkbigeiilaaGreat
open Go.RowKit

theorem rProve_any (k : Int) (label : ByteArray) (hlb : label.size < 140737488355328) (l : List ClaimA) (al : Option Addr) (cl : Nat) (xs : List ByteArray) (ax : Option Addr) (cx : Nat) (hn : xs.length ≤ 8796093022207) (seed : ByteArray) (hsd : seed.size < 140737488355328) (w : World) (hC : ClaimsAt w al l) (hS : Sl w w.heap.size ax (xs.map Value.string)) :
    Calls Tryz.prog 15 #[.int .i64 k, .string label, .slice al l.length cl, .slice ax xs.length cx, .string seed] w (ProveR (prvE k l xs : Int) (if prvE k l xs = 0 then prvC k label l seed else ⟨#[]⟩) (if prvE k l xs = 0 then prvA k label l xs seed else []) w) := by
  by_cases hk : 1 ≤ k ∧ k ≤ 3
  · obtain ⟨j, rfl⟩ : ∃ j : Nat, k = (j : Int) := ⟨k.toNat, by omega⟩
    exact rProve_some j (by omega) (by omega) label hlb l l.length rfl xs hn seed hsd al ax cl cx w hC hS
  · have h1 : prvE k l xs = 1 := by unfold prvE openK; rw [if_neg hk]; rfl
    rw [h1]
    exact rProve_none k hk _ _ _ _ w
end Go.Proofs.YtdlnnkbigeiilaaGreat

/- The document's ciphers. No condition. -/
namespace Go.Proofs.YtdlnnkbigeiilaaGreat
open Go.RowKit

section
variable {G : GP} {aq ap : Option Addr} {cq cp : Nat}


set_option maxRecDepth 100000 in
set_option maxHeartbeats 1000000 in
theorem rRaise (ok : G.Ok) {n : Nat} {an : Option Addr} {cn : Nat} (hn : dl n ≤ 65536) (w : World) (hG : RG w G aq ap) (hN : NumAt w an n) :
    Calls Tryz.prog 80 #[.agg #[.int .i64 (G.size : Int), .slice aq (dl G.q.m) cq, .slice ap (dl G.p.m) cp], .slice an (dl n) cn] w fun e w' => NumR w e w' (lowN G (2 ^ n)) := by
  have OK := Lib.hid ok
  have HG := Lib.hid hG
  have HN := Lib.hid hN
  clear ok hG hN
  go_enter Tryz.func80, Tryz.ntmps80
  go_wp2_with fail
  obtain ⟨w1, hq1, hb9, hz9, Hbg⟩ := new1 w 86 [.int .i64 (G.size : Int), .slice aq (dl G.q.m) cq, .slice ap (dl G.p.m) cp]
  rw [hq1]
  clear hq1
  have HB := Lib.hid hb9
  have HZS := hz9
  clear hb9 hz9
  have bg_ := Hbg.out.c3
  go_wp2_with fail
  have HT := Lib.hid (show Below w1.heap.size w1 w1.drew from (Below.refl _ _).drew)
  have hl_bg := Hbg.out.lt
  refine wp_region_tree (fun wq9 => ∃ E : Over w1, wq9 = E.w) ((.qs [0, 2] (.a 1 (.a 3 (.qs [4] .done))))) (by kernel_rfl) (by kernel_rfl) (fun _ _ d _ _ h => by cases d <;> exact h) ⟨⟨_, HT.out⟩, rfl⟩ ?_
  have hov_bg := fun (E : Over w1) o => E.cell (b := w.heap.size) o hl_bg
  simp only [Tree.qs]
  repeat (refine tree_q rfl rfl ?_; go_big_quiet_step (fail); refine wpQuiet_nil ?_)
  refine tree_a rfl (fun K hK => ?_)
  go_simp
  refine (refOf_any 2 (by omega) _).mono ?_
  rintro e w2 ⟨a4, c4, rfl, hn9, hb9⟩
  replace HT := Lib.hid (below_up HT.out hb9)
  replace HZS := sz HZS (show w1.heap.size ≤ w2.heap.size from HT.out.size)
  clear hb9
  have HN4 := Lib.hid hn9
  clear hn9
  refine hK _ _ ⟨⟨⟨w2, HT.out⟩, rfl⟩, ?_⟩
  clear hK K
  repeat (refine tree_q rfl rfl ?_; go_big_quiet_step (fail); refine wpQuiet_nil ?_)
  refine tree_a rfl (fun K hK => ?_)
  go_simp
  refine (rPow OK.out (by decide) hn _ (HG.out.up (below_up HB.out HT.out)) HN4.out (HN.out.up (below_up HB.out HT.out))).mono ?_
  rintro e w3 ⟨a5, c5, rfl, hn9, hb9⟩
  replace HN4 := Lib.hid (HN4.out.up hb9)
  replace HT := Lib.hid (below_up HT.out hb9)
  replace HZS := sz HZS (show w1.heap.size ≤ w3.heap.size from HT.out.size)
  clear hb9
  have HN5 := Lib.hid hn9
  clear hn9
  refine hK _ _ ⟨⟨⟨w3, HT.out⟩, rfl⟩, ?_⟩
  clear hK K
  repeat (refine tree_q rfl rfl ?_; go_big_quiet_step (fail); refine wpQuiet_nil ?_)
  refine tree_end ?_
  clear hov_bg hl_bg
  clear bg_
  replace Hbg := Lib.hid (Hbg.out.up HT.out)
  replace HB := hbu HB HT.out
  replace HZS := sz HZS HT.out.size
  clear HT
  have bg_ := Hbg.out.c3
  go_wp2_with fail
  go_ret
  exact ⟨a5, c5, rfl, HN5.out, HB.out⟩
end
end Go.Proofs.YtdlnnkbigeiilaaGreat

/- GroupTells: what a kind has, of any kind, is what the document says. No condition. -/
namespace Go.Proofs.YtdlnnkbigeiilaaGreat
open Go.ChangeShapes Go.WideShapes Go.ChangeAt Go.RowKit

theorem refText_nil (size : Nat) (hs : size ≤ 1024) (w : World) : Calls Tryz.prog 49 #[.slice none 0 0, .int .i64 (size : Int)] w fun e w' => e = .returned (.string (textS 0 size)) ∧ Below w.heap.size w w' :=
  refText_any 0 size none 0 (by decide) hs w (NumAt.zero _ _)
theorem refText_nil0 (w : World) : Calls Tryz.prog 49 #[.slice none 0 0, .int .i64 0] w fun e w' => e = .returned (.string (textS 0 0)) ∧ Below w.heap.size w w' :=
  refText_nil 0 (by omega) w
theorem refText_two0 (a9 : Option Addr) (c9 : Nat) (w : World) (h : NumAt w a9 2) : Calls Tryz.prog 49 #[.slice a9 (dl 2) c9, .int .i64 0] w fun e w' => e = .returned (.string (textS 2 0)) ∧ Below w.heap.size w w' :=
  refText_any 2 0 a9 c9 (by decide) (by omega) w h
end Go.Proofs.YtdlnnkbigeiilaaGreat

/- Public, Sign and Signed, as the document says them. Conditions: the sizes of what came in. -/
namespace Go.Proofs.YtdlnnkbigeiilaaGreat
open Go.RowKit

set_option maxRecDepth 100000 in
set_option maxHeartbeats 1000000 in
theorem rPub_none (k : Int) (hk : ¬ (1 ≤ k ∧ k ≤ 3)) (x : ByteArray) (w : World) : Calls Tryz.prog 21 #[.int .i64 k, .string x] w (Gives (strE 1) w) := by
  unfold Gives strE
  go_enter Tryz.func21, Tryz.ntmps21
  go_wp2_with fail
  refine (refKind_none k hk w).mono ?_
  rintro e w1 ⟨rfl, hb9⟩
  have HB := Lib.hid hb9
  have HZS := Lib.hid hb9.size
  clear hb9
  obtain ⟨w2, hq2, hb9, hz9, Hbg⟩ := new1 w1 86 [.int .i64 0, .slice none 0 0, .slice none 0 0]
  replace HB := hbu HB hb9
  replace HZS := sz HZS hz9.out
  clear hb9 hz9
  have bg_ := Hbg.out.c3
  have f3_bg := Hbg.out.frozen
  have o3_bg_ := bg_; clear bg_
  obtain ⟨w3, hq3, hg9, hz9, hx9⟩ := put3 Hbg 0 (.int .i64 0) 1 (.slice none 0 0) 2 (.slice none 0 0) [.int .i64 0, .slice none 0 0, .slice none 0 0] rfl
  replace HB := hbg HB hg9 (by have g0 := HZS.out; omega)
  replace HZS := sz HZS hz9.out
  replace Hbg := hx9
  clear hx9 hg9 hz9
  have bg_ := Hbg.out.c3
  go_wp2_with fail
  clear hq3 o3_bg_ f3_bg hq2
  go_ret2
  exact ⟨rfl, HB.out⟩
set_option maxRecDepth 100000 in
set_option maxHeartbeats 1000000 in
theorem rPub_no (k : Nat) (h1 : 1 ≤ k) (h3 : k ≤ 3) (x : ByteArray) (hx : isSc (grp k).q.m (grp k).size x = false) (w : World) : Calls Tryz.prog 21 #[.int .i64 (k : Int), .string x] w (Gives (strE 6) w) := by
  have OK := Lib.hid (grp_ok k h1 h3)
  have hs0 : 0 < (grp k).size := by have h9 := of_decide_eq_true (size_gt0 k h1 h3); omega
  have HX := Lib.hid hx
  clear hx
  unfold Gives strE
  go_enter Tryz.func21, Tryz.ntmps21
  go_wp2_with fail
  refine (refKind_some k h1 h3 w).mono ?_
  rintro e w1 ⟨aq, cq, ap, cp, rfl, hq9, hp9, hb9⟩
  have HB := Lib.hid hb9
  have HZS := Lib.hid hb9.size
  have HRG := Lib.hid (RG.mk (G := grp k) hq9 hp9)
  clear hq9 hp9
  clear hb9
  have HK := Lib.hid (Below.refl w1.heap.size w1)
  obtain ⟨w2, hq2, hb9, hz9, Hbg⟩ := new1 w1 86 [.int .i64 ((grp k).size : Int), .slice aq (dl (grp k).q.m) cq, .slice ap (dl (grp k).p.m) cp]
  replace HK := hbu HK hb9
  replace HB := hbu HB hb9
  replace HZS := sz HZS hz9.out
  clear hb9 hz9
  have bg_ := Hbg.out.c3
  go_wp2_with fail
  clear hq2
  refine (rIsSc_b OK.out x _ HX.out w2 (HRG.out.up HK.out)).mono ?_
  rintro e w3 ⟨rfl, hb9⟩
  clear bg_
  replace Hbg := Lib.hid (Hbg.out.up hb9)
  replace HK := hbu HK hb9
  replace HB := hbu HB hb9
  replace HZS := sz HZS hb9.size
  clear hb9
  have bg_ := Hbg.out.c3
  go_wp2_with fail
  go_ret2
  exact ⟨rfl, HB.out⟩
set_option maxRecDepth 100000 in
set_option maxHeartbeats 1000000 in
theorem rPub_yes (k : Nat) (h1 : 1 ≤ k) (h3 : k ≤ 3) (x : ByteArray) (hx : isSc (grp k).q.m (grp k).size x = true) (w : World) : Calls Tryz.prog 21 #[.int .i64 (k : Int), .string x] w (Gives (.tuple #[.string (pubS k x), .int .i64 0]) w) := by
  have OK := Lib.hid (grp_ok k h1 h3)
  have hs0 : 0 < (grp k).size := by have h9 := of_decide_eq_true (size_gt0 k h1 h3); omega
  have HX := Lib.hid hx
  have HXS := Lib.hid (show x.size ≤ 1048576 by
    have h9 := hx
    unfold isSc at h9
    simp only [Bool.and_eq_true, decide_eq_true_eq] at h9
    have h8 := (grp_ok k h1 h3).size_le
    omega)
  have HL := Lib.hid (show dl (numOf x) ≤ 65536 from Nat.le_trans (dl_of_lt (numOf x) 16 (q_16 OK.out (isSc_lt' hx).2)) (by decide))
  have HP := Lib.hid (show pubS k x = textS (lowN (grp k) (2 ^ numOf x)) (grp k).size by unfold pubS; rw [Int.toNat_natCast, (isSc_lt' hx).1])
  generalize pubS k x = PS at *
  clear hx
  unfold Gives
  go_enter Tryz.func21, Tryz.ntmps21
  go_wp2_with fail
  refine (refKind_some k h1 h3 w).mono ?_
  rintro e w1 ⟨aq, cq, ap, cp, rfl, hq9, hp9, hb9⟩
  have HB := Lib.hid hb9
  have HZS := Lib.hid hb9.size
  have HRG := Lib.hid (RG.mk (G := grp k) hq9 hp9)
  clear hq9 hp9
  clear hb9
  have HK := Lib.hid (Below.refl w1.heap.size w1)
  obtain ⟨w2, hq2, hb9, hz9, Hbg⟩ := new1 w1 86 [.int .i64 ((grp k).size : Int), .slice aq (dl (grp k).q.m) cq, .slice ap (dl (grp k).p.m) cp]
  replace HK := hbu HK hb9
  replace HB := hbu HB hb9
  replace HZS := sz HZS hz9.out
  clear hb9 hz9
  have bg_ := Hbg.out.c3
  go_wp2_with fail
  clear hq2
  refine (rIsSc_b OK.out x _ HX.out w2 (HRG.out.up HK.out)).mono ?_
  rintro e w3 ⟨rfl, hb9⟩
  clear bg_
  replace Hbg := Lib.hid (Hbg.out.up hb9)
  replace HK := hbu HK hb9
  replace HB := hbu HB hb9
  replace HZS := sz HZS hb9.size
  clear hb9
  have bg_ := Hbg.out.c3
  go_wp2_with fail
  have HRW := Lib.hid (HRG.out.up HK.out)
  have HT := Lib.hid (show Below w3.heap.size w3 w3.drew from (Below.refl _ _).drew)
  have hl_bg := Hbg.out.lt
  refine wp_region_tree (fun wq9 => ∃ E : Over w3, wq9 = E.w) ((.qs [0, 1, 4, 5] (.a 2 (.a 3 (.a 6 (.qs [7, 8] .done)))))) (by kernel_rfl) (by kernel_rfl) (fun _ _ d _ _ h => by cases d <;> exact h) ⟨⟨_, HT.out⟩, rfl⟩ ?_
  have hov_bg := fun (E : Over w3) o => E.cell (b := w1.heap.size) o hl_bg
  simp only [Tree.qs]
  repeat (refine tree_q rfl rfl ?_; go_big_quiet_step (fail); refine wpQuiet_nil ?_)
  refine tree_a rfl (fun K hK => ?_)
  go_simp
  refine (refRead_any x HXS.out _).mono ?_
  rintro e w4 ⟨a5, c5, rfl, hn5, hb9⟩
  replace HT := Lib.hid (below_up HT.out hb9)
  replace HZS := sz HZS (show w3.heap.size ≤ w4.heap.size from HT.out.size)
  clear hb9
  have HN5 := Lib.hid hn5
  clear hn5
  refine hK _ _ ⟨⟨⟨w4, HT.out⟩, rfl⟩, ?_⟩
  clear hK K
  repeat (refine tree_q rfl rfl ?_; go_big_quiet_step (fail); refine wpQuiet_nil ?_)
  refine tree_a rfl (fun K hK => ?_)
  go_simp
  refine (rRaise OK.out HL.out _ (HRW.out.up HT.out) HN5.out).mono ?_
  rintro e w5 ⟨a6, c6, rfl, hn6, hb9⟩
  replace HN5 := Lib.hid (HN5.out.up hb9)
  replace HT := Lib.hid (below_up HT.out hb9)
  replace HZS := sz HZS (show w3.heap.size ≤ w5.heap.size from HT.out.size)
  clear hb9
  have HN6 := Lib.hid hn6
  clear hn6
  refine hK _ _ ⟨⟨⟨w5, HT.out⟩, rfl⟩, ?_⟩
  clear hK K
  repeat (refine tree_q rfl rfl ?_; go_big_quiet_step (fail); refine wpQuiet_nil ?_)
  refine tree_a rfl (fun K hK => ?_)
  go_simp
  refine (rText2 OK.out _ HN6.out).mono ?_
  rintro e w6 ⟨rfl, hb9⟩
  replace HN5 := Lib.hid (HN5.out.up hb9)
  replace HN6 := Lib.hid (HN6.out.up hb9)
  replace HT := Lib.hid (below_up HT.out hb9)
  replace HZS := sz HZS (show w3.heap.size ≤ w6.heap.size from HT.out.size)
  clear hb9
  refine hK _ _ ⟨⟨⟨w6, HT.out⟩, rfl⟩, ?_⟩
  clear hK K
  repeat (refine tree_q rfl rfl ?_; go_big_quiet_step (fail); refine wpQuiet_nil ?_)
  refine tree_end ?_
  clear hov_bg hl_bg
  clear bg_
  replace Hbg := Lib.hid (Hbg.out.up HT.out)
  replace HK := hbu HK HT.out
  replace HB := hbu HB HT.out
  replace HZS := sz HZS HT.out.size
  clear HT
  have bg_ := Hbg.out.c3
  go_wp2_with fail
  go_ret2
  exact ⟨by rw [HP.out]; rfl, HB.out⟩
def rbaseT (k : Int) : ByteArray := if 1 ≤ k ∧ k ≤ 3 then baseT k else textS 2 0
theorem rOf2 (w : World) : Calls Tryz.prog 57 #[.int .i64 2] w fun e w' => NumR w e w' 2 := refOf_any 2 (by decide) w
set_option maxRecDepth 100000 in
set_option maxHeartbeats 1000000 in
theorem rOwn_gen (k : Int) (z0 : Nat) (B : ByteArray) (p : ByteArray)
    (hK : ∀ w, Calls Tryz.prog 44 #[.int .i64 k] w fun e w' => ∃ vq vp, e = .returned (.agg #[.int .i64 (z0 : Int), vq, vp]) ∧ Below w.heap.size w w')
    (hT : ∀ (a : Option Addr) (c : Nat) w, NumAt w a 2 → Calls Tryz.prog 49 #[.slice a (dl 2) c, .int .i64 (z0 : Int)] w fun e w' => e = .returned (.string B) ∧ Below w.heap.size w w') (w : World) :
    Calls Tryz.prog 84 #[.int .i64 k, .string p] w fun e w' => ∃ ab ai a : Option Addr, e = .returned (.slice a 1 1) ∧ ClaimsAt w' a [ownA ab ai 1 1 B p] ∧ Below w.heap.size w w' := by
  have HKK := Lib.hid hK
  have HTT := Lib.hid hT
  clear hK hT
  go_enter Tryz.func84, Tryz.ntmps84
  go_wp2_with fail
  refine (rOf2 w).mono ?_
  rintro e w1 ⟨a2, c2, rfl, hn2, hb9⟩
  have HB := Lib.hid hb9
  have HZS := Lib.hid hb9.size
  have HN2 := Lib.hid hn2
  clear hn2
  clear hb9
  go_wp2_with fail
  refine (HKK.out w1).mono ?_
  rintro e w2 ⟨vq, vp, rfl, hb9⟩
  replace HN2 := Lib.hid (HN2.out.up hb9)
  replace HB := hbu HB hb9
  replace HZS := sz HZS hb9.size
  clear hb9
  have hfld : ∀ W : World, Sem.run Tryz.prog (Instr.field 86 (.agg #[.int .i64 (z0 : Int), vq, vp]) 0) W = .ok (.int .i64 (z0 : Int)) W := fun _ => rfl
  go_wp2_with fail
  clear hfld
  refine (HTT.out a2 c2 w2 HN2.out).mono ?_
  rintro e w3 ⟨rfl, hb9⟩
  replace HN2 := Lib.hid (HN2.out.up hb9)
  replace HB := hbu HB hb9
  replace HZS := sz HZS hb9.size
  clear hb9
  obtain ⟨w4, hq4, hb9, hz9, Hrb, Hri, Hrc⟩ := new3 w3 9 [.string B] 9 [.string p] 50 [.slice (some ⟨w3.heap.size, 0, none⟩) 1 1, .slice (some ⟨w3.heap.size + 1, 0, none⟩) 1 1]
  replace HN2 := Lib.hid (HN2.out.up hb9)
  replace HB := hbu HB hb9
  replace HZS := sz HZS hz9.out
  clear hb9 hz9
  have rb_ := Hrb.out.c1
  have ri_ := Hri.out.c1
  have rc_ := Hrc.out.c2
  go_wp2_with fail
  clear hq4
  go_ret
  exact ⟨_, _, _, rfl, ⟨Sl.ofB Hrc.out, fun c hc => by rw [List.mem_singleton.1 hc]; exact ⟨Sl.ofB Hrb.out, Sl.ofB Hri.out⟩⟩, HB.out⟩
theorem rOwn_any (k : Int) (p : ByteArray) (w : World) :
    Calls Tryz.prog 84 #[.int .i64 k, .string p] w fun e w' => ∃ ab ai a : Option Addr, e = .returned (.slice a 1 1) ∧ ClaimsAt w' a [ownA ab ai 1 1 (rbaseT k) p] ∧ Below w.heap.size w w' := by
  by_cases hk : 1 ≤ k ∧ k ≤ 3
  · obtain ⟨j, rfl⟩ : ∃ j : Nat, k = (j : Int) := ⟨k.toNat, by omega⟩
    have e1 : rbaseT (j : Int) = textS 2 (grp j).size := by unfold rbaseT baseT; rw [if_pos hk, Int.toNat_natCast, low2 j (by omega) (by omega)]
    rw [e1]
    exact rOwn_gen j (grp j).size _ p (fun w => (refKind_some j (by omega) (by omega) w).mono fun e w' ⟨_, _, _, _, h, _, _, hb⟩ => ⟨_, _, h, hb⟩) (fun a c w h => rText (grp_ok j (by omega) (by omega)) (by decide) w h) w
  · have e1 : rbaseT k = textS 2 0 := by unfold rbaseT; rw [if_neg hk]
    rw [e1]
    exact rOwn_gen k 0 _ p (fun w => (refKind_none k hk w).mono fun e w' ⟨h, hb⟩ => ⟨_, _, h, hb⟩) (fun a c w h => refText_two0 a c w h) w
theorem rtag1 {text : ByteArray} (ht : text.size < 140737488355328) (a : Option Addr) (c : Nat) (w : World) (hX : Sl w w.heap.size a [.string text]) :
    Calls Tryz.prog 83 #[.string signB, .slice a 1 c] w fun e w' => e = .returned (.string (sgnT text)) ∧ Below w.heap.size w w' :=
  rTag_any signB [text] 1 rfl (join_small signB [text] 0 (by simp) (by simpa using ht) (by decide)) a c w hX
set_option maxRecDepth 100000 in
set_option maxHeartbeats 1000000 in
theorem rSign_er (k er : Int) (hd : (er != 0) = true) (x text seed : ByteArray) (hP : ∀ w, Calls Tryz.prog 21 #[.int .i64 k, .string x] w (Gives (strE er) w)) (w : World) :
    Calls Tryz.prog 23 #[.int .i64 k, .string x, .string text, .string seed] w (ProveR er ⟨#[]⟩ [] w) := by
  unfold Gives strE at hP
  have HP := Lib.hid hP
  clear hP
  go_enter Tryz.func23, Tryz.ntmps23
  go_wp2_with fail
  obtain ⟨w1, hq1, hb9, hz9, Hout⟩ := new1 w 25 [.string ⟨#[]⟩, .slice none 0 0]
  rw [hq1]
  clear hq1
  have HB := Lib.hid hb9
  have HZS := hz9
  clear hb9 hz9
  have out_ := Hout.out.c2
  go_wp2_with fail
  refine (HP.out w1).mono ?_
  rintro e w2 ⟨rfl, hb9⟩
  clear out_
  replace Hout := Lib.hid (Hout.out.up hb9)
  replace HB := hbu HB hb9
  replace HZS := sz HZS hb9.size
  clear hb9
  have out_ := Hout.out.c2
  have f3_out := Hout.out.frozen
  have o3_out_ := out_; clear out_
  obtain ⟨w3, hq3, hg9, hz9, hx9⟩ := put2 Hout 0 (.string ⟨#[]⟩) 1 (.slice none 0 0) [.string ⟨#[]⟩, .slice none 0 0] rfl
  replace HB := hbg HB hg9 (by have g0 := HZS.out; omega)
  replace HZS := sz HZS hz9.out
  replace Hout := hx9
  clear hx9 hg9 hz9
  have out_ := Hout.out.c2
  go_wp2_with fail
  clear hq3 o3_out_ f3_out
  simp [bodyPost, results, Tryz.results23, go_sem, out_]
  exact proveR_none _ HB.out
set_option maxRecDepth 100000 in
set_option maxHeartbeats 1000000 in
theorem rSign_ok (k : Nat) (h1 : 1 ≤ k) (h3 : k ≤ 3) (x text seed : ByteArray) (ht : text.size < 140737488355328) (hsd : seed.size < 140737488355328) (hx : isSc (grp k).q.m (grp k).size x = true) (E : Nat) (C : ByteArray) (A : List ByteArray) (hE : prvE k [ownC (baseT k) (pubS k x)] [x] = E) (hC : (if E = 0 then prvC k (sgnT text) [ownC (baseT k) (pubS k x)] seed else ⟨#[]⟩) = C) (hA : (if E = 0 then prvA k (sgnT text) [ownC (baseT k) (pubS k x)] [x] seed else []) = A) (w : World) :
    Calls Tryz.prog 23 #[.int .i64 (k : Int), .string x, .string text, .string seed] w (ProveR (E : Int) C A w) := by
  have hP := fun w => rPub_yes k h1 h3 x hx w
  unfold Gives at hP
  have HPV := Lib.hid (fun ab ai ao ax w (hc : ClaimsAt w ao [ownA ab ai 1 1 (baseT k) (pubS k x)]) (hs : Sl w w.heap.size ax [.string x]) => rProve_any k (sgnT text) (by rw [sgnT_size]; decide) [ownA ab ai 1 1 (baseT k) (pubS k x)] ao 1 [x] ax 1 (by simp) seed hsd w hc hs)
  simp only [own_prvE, own_prvC, own_prvA, hE, hC, hA, List.length_singleton] at HPV
  have HTG := Lib.hid (fun a c w h => rtag1 ht a c w h)
  have HOW := Lib.hid (fun p w => rOwn_any k p w)
  rw [show rbaseT k = baseT k by unfold rbaseT; rw [if_pos (by omega)]] at HOW
  have HP := Lib.hid hP
  generalize baseT k = BT at *
  generalize pubS k x = PS at *
  generalize sgnT text = TT at *
  clear hP hE hC hA hx ht hsd
  go_enter Tryz.func23, Tryz.ntmps23
  go_wp2_with fail
  obtain ⟨w1, hq1, hb9, hz9, Hout⟩ := new1 w 25 [.string ⟨#[]⟩, .slice none 0 0]
  rw [hq1]
  clear hq1
  have HB := Lib.hid hb9
  have HZS := hz9
  clear hb9 hz9
  have out_ := Hout.out.c2
  go_wp2_with fail
  refine (HP.out w1).mono ?_
  rintro e w2 ⟨rfl, hb9⟩
  clear out_
  replace Hout := Lib.hid (Hout.out.up hb9)
  replace HB := hbu HB hb9
  replace HZS := sz HZS hb9.size
  clear hb9
  have out_ := Hout.out.c2
  have o3_out_ := out_; clear out_
  obtain ⟨w3, hq3, hb9, hz9, Hrt⟩ := new1 w2 9 [.string text]
  replace Hout := Lib.hid (Hout.out.up hb9)
  replace HB := hbu HB hb9
  replace HZS := sz HZS hz9.out
  clear hb9 hz9
  have out_ := Hout.out.c2
  have rt_ := Hrt.out.c1
  go_wp2_with fail
  clear hq3 o3_out_
  refine (HTG.out _ _ w3 (Sl.ofB Hrt.out)).mono ?_
  rintro e w4 ⟨rfl, hb9⟩
  clear out_
  replace Hout := Lib.hid (Hout.out.up hb9)
  clear rt_
  replace Hrt := Lib.hid (Hrt.out.up hb9)
  replace HB := hbu HB hb9
  replace HZS := sz HZS hb9.size
  clear hb9
  have out_ := Hout.out.c2
  have rt_ := Hrt.out.c1
  go_wp2_with fail
  refine (HOW.out PS w4).mono ?_
  rintro e w5 ⟨ab, ai, ao, rfl, hc9, hb9⟩
  clear out_
  replace Hout := Lib.hid (Hout.out.up hb9)
  clear rt_
  replace Hrt := Lib.hid (Hrt.out.up hb9)
  replace HB := hbu HB hb9
  replace HZS := sz HZS hb9.size
  have HC := Lib.hid hc9
  clear hc9
  clear hb9
  have out_ := Hout.out.c2
  have rt_ := Hrt.out.c1
  have o6_out_ := out_; clear out_
  have o6_rt_ := rt_; clear rt_
  obtain ⟨w6, hq6, hb9, hz9, Hrs⟩ := new1 w5 9 [.string x]
  replace Hout := Lib.hid (Hout.out.up hb9)
  replace Hrt := Lib.hid (Hrt.out.up hb9)
  replace HC := Lib.hid (HC.out.up hb9)
  replace HB := hbu HB hb9
  replace HZS := sz HZS hz9.out
  clear hb9 hz9
  have out_ := Hout.out.c2
  have rt_ := Hrt.out.c1
  have rs_ := Hrs.out.c1
  go_wp2_with fail
  clear hq6 o6_rt_ o6_out_
  refine (HPV.out ab ai ao _ w6 HC.out (Sl.ofB Hrs.out)).mono ?_
  rintro e w7 ⟨hb9, a1, c1, rfl, hs1, hz1, hc1, hf1⟩
  clear out_
  replace Hout := Lib.hid (Hout.out.up hb9)
  clear rt_
  replace Hrt := Lib.hid (Hrt.out.up hb9)
  clear rs_
  replace Hrs := Lib.hid (Hrs.out.up hb9)
  replace HC := Lib.hid (HC.out.up hb9)
  replace HB := hbu HB hb9
  replace HZS := sz HZS hb9.size
  have HS1 := Lib.hid hs1
  clear hs1
  have HZ1 := Lib.hid hz1
  clear hz1
  have HC1 := Lib.hid hc1
  clear hc1
  have HF1 := Lib.hid hf1
  clear hf1
  clear hb9
  have out_ := Hout.out.c2
  have rt_ := Hrt.out.c1
  have rs_ := Hrs.out.c1
  have HNO := Lib.hid (show ∀ y, a1 = some y → y.block ≠ w.heap.size from fun y hy e => by have g1 := HF1.out y hy; have g2 := HZS.out; omega)
  have HFW := Lib.hid (show ∀ y, a1 = some y → w.heap.size ≤ y.block from fun y hy => by have g1 := HF1.out y hy; have g2 := HZS.out; omega)
  clear HF1
  replace HS1 := Lib.hid (Sl.setO HS1.out HNO.out 0 (.string C))
  replace HS1 := Lib.hid (Sl.setO HS1.out HNO.out 1 (.slice a1 A.length c1))
  have HRP := Lib.hid (show ∀ W, Below w.heap.size w W → Sl W W.heap.size a1 (A.map Value.string) → ProveR (E : Int) C A w (.returned (.tuple #[.agg #[.string C, .slice a1 A.length c1], .int .i64 (E : Int)])) W from fun W h1 h2 => ⟨h1, a1, c1, rfl, h2, HZ1.out, HC1.out, HFW.out⟩)
  clear HC
  have f8_out := Hout.out.frozen
  have o8_out_ := out_; clear out_
  have o8_rt_ := rt_; clear rt_
  have o8_rs_ := rs_; clear rs_
  obtain ⟨w8, hq8, hg9, hz9, hx9⟩ := put2 Hout 0 (.string C) 1 (.slice a1 A.length c1) [.string C, .slice a1 A.length c1] rfl
  replace Hrt := Lib.hid (Hrt.out.grown hg9.out (sne (by have g0 := HZS.out; omega)))
  replace Hrs := Lib.hid (Hrs.out.grown hg9.out (sne (by have g0 := HZS.out; omega)))
  replace HB := hbg HB hg9 (by have g0 := HZS.out; omega)
  replace HZS := sz HZS hz9.out
  replace Hout := hx9
  clear hx9 hg9 hz9
  have out_ := Hout.out.c2
  have rt_ := Hrt.out.c1
  have rs_ := Hrs.out.c1
  rw [hq8] at HS1
  go_wp2_with fail
  clear hq8 o8_rs_ o8_rt_ o8_out_ f8_out
  simp [bodyPost, results, Tryz.results23, go_sem, out_]
  exact HRP.out _ HB.out HS1.out
theorem rSign_any (k : Int) (x text seed : ByteArray) (ht : text.size < 140737488355328) (hsd : seed.size < 140737488355328) (w : World) :
    Calls Tryz.prog 23 #[.int .i64 k, .string x, .string text, .string seed] w (ProveR (sgnE k x : Int) (sgnC k x text seed) (sgnA k x text seed) w) := by
  by_cases hk : 1 ≤ k ∧ k ≤ 3
  · obtain ⟨j, rfl⟩ : ∃ j : Nat, k = (j : Int) := ⟨k.toNat, by omega⟩
    cases hx : isSc (grp j).q.m (grp j).size x with
    | true =>
      have h0 : pubE (j : Int) x = 0 := by unfold pubE; rw [if_pos hk, Int.toNat_natCast, if_pos hx]
      have h1 : sgnE (j : Int) x = prvE j [ownC (baseT j) (pubS j x)] [x] := by unfold sgnE; rw [if_pos h0]
      exact rSign_ok j (by omega) (by omega) x text seed ht hsd hx _ _ _ h1.symm rfl rfl w
    | false =>
      have h0 : pubE (j : Int) x = 6 := by unfold pubE; rw [if_pos hk, Int.toNat_natCast, hx]; rfl
      have h1 : sgnE (j : Int) x = 6 := by unfold sgnE; rw [if_neg (by rw [h0]; decide), h0]
      unfold sgnC sgnA
      rw [h1]
      exact rSign_er j 6 (by decide) x text seed (fun w => rPub_no j (by omega) (by omega) x hx w) w
  · have h0 : pubE k x = 1 := by unfold pubE; rw [if_neg hk]
    have h1 : sgnE k x = 1 := by unfold sgnE; rw [if_neg (by rw [h0]; decide), h0]
    unfold sgnC sgnA
    rw [h1]
    exact rSign_er k 1 (by decide) x text seed (fun w => rPub_none k hk x w) w
theorem sgdK_ref (k : Int) (p text ch : ByteArray) (xs : List ByteArray) : verK k (sgnT text) [ownC (rbaseT k) p] ch xs = sgdK k p text ch xs := by
  unfold sgdK
  by_cases hk : 1 ≤ k ∧ k ≤ 3
  · rw [decide_eq_true hk, Bool.true_and, show rbaseT k = baseT k by unfold rbaseT; rw [if_pos hk]]
  · rw [decide_eq_false hk, Bool.false_and]
    have h1 : openK k [ownC (rbaseT k) p] xs = 1 := by unfold openK; rw [if_neg hk]
    unfold verK
    rw [h1]
    rfl
set_option maxRecDepth 100000 in
set_option maxHeartbeats 2000000 in
theorem rSigned_any (k : Int) (p text ch : ByteArray) (ht : text.size < 140737488355328) (xs : List ByteArray) (ax : Option Addr) (cx : Nat) (hn : xs.length ≤ 8796093022207) (w : World) (hS : Sl w w.heap.size ax (xs.map Value.string)) :
    Calls Tryz.prog 25 #[.int .i64 k, .string p, .string text, .agg #[.string ch, .slice ax xs.length cx]] w (Gives (.bool (sgdK k p text ch xs)) w) := by
  have HV := Lib.hid (fun ab ai ao w (hc : ClaimsAt w ao [ownA ab ai 1 1 (rbaseT k) p]) (hs : Sl w w.heap.size ax (xs.map Value.string)) => rVerify_any k (sgnT text) (by rw [sgnT_size]; decide) [ownA ab ai 1 1 (rbaseT k) p] ao 1 ch xs ax cx hn w hc hs)
  simp only [rverK_eq, own_verK, sgdK_ref, List.length_singleton] at HV
  have HTG := Lib.hid (fun a c w h => rtag1 ht a c w h)
  have HOW := Lib.hid (fun p w => rOwn_any k p w)
  have HS := Lib.hid hS
  generalize sgdK k p text ch xs = b at *
  generalize rbaseT k = BT at *
  generalize sgnT text = TT at *
  generalize xs.length = n at *
  clear ht hS hn
  unfold Gives
  go_enter Tryz.func25, Tryz.ntmps25
  go_wp2_with fail
  obtain ⟨w1, hq1, hb9, hz9, Hbp⟩ := new1 w 25 [.string ch, .slice ax n cx]
  rw [hq1]
  clear hq1
  have HB := Lib.hid hb9
  have HZS := hz9
  clear hb9 hz9
  have bp_ := Hbp.out.c2
  go_wp2_with fail
  have HS2 := Lib.hid (HS.out.up HB.out)
  have HT := Lib.hid (show Below w1.heap.size w1 w1.drew from (Below.refl _ _).drew)
  have hl_bp := Hbp.out.lt
  refine wp_region_tree (fun wq9 => ∃ E : Over w1, wq9 = E.w) ((.qs [0, 1, 4, 5, 7] (.a 2 (.a 3 (.a 6 (.a 8 (.qs [9] .done))))))) (by kernel_rfl) (by kernel_rfl) (fun _ _ d _ _ h => by cases d <;> exact h) ⟨⟨_, HT.out⟩, rfl⟩ ?_
  have hov_bp := fun (E : Over w1) o => E.cell (b := w.heap.size) o hl_bp
  simp only [Tree.qs]
  repeat (refine tree_q rfl rfl ?_; go_big_quiet_step (fail); refine wpQuiet_nil ?_)
  refine tree_a rfl (fun K hK => ?_)
  go_simp
  obtain ⟨w2, hq9, hb9, hz9, Hrt⟩ := new1D w1 9 [.string text]
  rw [hq9]
  clear hq9
  have HArt := Lib.hid HT.out.size
  replace HT := Lib.hid hb9
  replace HZS := sz HZS (show w1.heap.size ≤ w2.heap.size from HT.out.size)
  clear hb9 hz9
  refine hK _ _ ⟨⟨⟨w2, HT.out⟩, rfl⟩, ?_⟩
  clear hK K
  repeat (refine tree_q rfl rfl ?_; go_big_quiet_step (fail); refine wpQuiet_nil ?_)
  refine tree_a rfl (fun K hK => ?_)
  go_simp
  refine (HTG.out _ _ _ (Sl.ofB Hrt.out)).mono ?_
  rintro e w3 ⟨rfl, hb9⟩
  replace Hrt := Lib.hid (Hrt.out.up hb9)
  replace HT := Lib.hid (below_up HT.out hb9)
  replace HZS := sz HZS (show w1.heap.size ≤ w3.heap.size from HT.out.size)
  clear hb9
  refine hK _ _ ⟨⟨⟨w3, HT.out⟩, rfl⟩, ?_⟩
  clear hK K
  repeat (refine tree_q rfl rfl ?_; go_big_quiet_step (fail); refine wpQuiet_nil ?_)
  refine tree_a rfl (fun K hK => ?_)
  go_simp
  refine (HOW.out p _).mono ?_
  rintro e w4 ⟨ab, ai, ao, rfl, hc9, hb9⟩
  replace Hrt := Lib.hid (Hrt.out.up hb9)
  replace HT := Lib.hid (below_up HT.out hb9)
  replace HZS := sz HZS (show w1.heap.size ≤ w4.heap.size from HT.out.size)
  clear hb9
  have HC := Lib.hid hc9
  clear hc9
  refine hK _ _ ⟨⟨⟨w4, HT.out⟩, rfl⟩, ?_⟩
  clear hK K
  repeat (refine tree_q rfl rfl ?_; go_big_quiet_step (fail); refine wpQuiet_nil ?_)
  refine tree_a rfl (fun K hK => ?_)
  go_simp
  refine (HV.out ab ai ao _ HC.out (HS2.out.up HT.out)).mono ?_
  rintro e w5 ⟨rfl, hb9⟩
  replace Hrt := Lib.hid (Hrt.out.up hb9)
  replace HC := Lib.hid (HC.out.up hb9)
  replace HT := Lib.hid (below_up HT.out hb9)
  replace HZS := sz HZS (show w1.heap.size ≤ w5.heap.size from HT.out.size)
  clear hb9
  refine hK _ _ ⟨⟨⟨w5, HT.out⟩, rfl⟩, ?_⟩
  clear hK K
  repeat (refine tree_q rfl rfl ?_; go_big_quiet_step (fail); refine wpQuiet_nil ?_)
  refine tree_end ?_
  clear hov_bp hl_bp
  clear bp_
  replace Hbp := Lib.hid (Hbp.out.up HT.out)
  replace HB := hbu HB HT.out
  replace HZS := sz HZS HT.out.size
  clear HT
  have bp_ := Hbp.out.c2
  go_wp2_with fail
  go_ret
  exact ⟨rfl, HB.out⟩
end Go.Proofs.YtdlnnkbigeiilaaGreat

/- Completeness: a proof of what holds is found right. Plain. No condition. -/
namespace Go.Proofs.YtdlnnkbigeiilaaGreat
open Go.RowKit

theorem pm_exp {q p a : Nat} (hpp : IsPrime p) (hp : p = 2 * q + 1) (h0 : 0 < a) (ha : a < p) (m : Nat) : PM p (a ^ m) (a ^ (m % q)) := by
  have h := ((pm_euler hpp hp h0 ha).pow (m / q)).mul (PM.refl p (a ^ (m % q)))
  rw [Nat.one_pow, Nat.one_mul, ← Nat.pow_mul, ← Nat.pow_add, Nat.div_add_mod] at h
  exact h
theorem exp_law {q : Nat} (w N x : Nat) (hq : 0 < q) : (((w + N * x) % q) % q + (x % q) * ((q - N % q) % q)) % q = w % q := by
  have hc := Nat.mod_lt N hq
  have e : (w + N * x + x * (q - N % q)) % q = w % q := by
    have h1 : N * x = q * (N / q * x) + (N % q) * x := by
      conv => lhs; rw [← Nat.div_add_mod N q]
      rw [Nat.add_mul, Nat.mul_assoc]
    have h2 : (N % q) * x + x * (q - N % q) = q * x := by
      rw [Nat.mul_comm (N % q) x, ← Nat.mul_add, Nat.add_sub_cancel' (Nat.le_of_lt hc), Nat.mul_comm]
    have h3 : w + N * x + x * (q - N % q) = w + q * (N / q * x + x) := by
      rw [Nat.mul_add q, h1]
      omega
    rw [h3, Nat.add_mul_mod_self_left]
  rw [← e, Nat.mod_mod, Nat.add_mod (w + N * x), Nat.add_mod ((w + N * x) % q), Nat.mod_mod, Nat.mul_mod (x % q), Nat.mod_mod, Nat.mod_mod, ← Nat.mul_mod]
section
variable {G : GP}
theorem comp_one (ok : G.Ok) (hpp : IsPrime G.p.m) {b im : Nat} (hb : 0 < b) (hbq : b ≤ G.q.m) (w x N : Nat) (h : lowN G (b ^ (x % G.q.m)) = lowN G im) : lowN G (b ^ (((w + N * x) % G.q.m) % G.q.m) * im ^ ((G.q.m - N % G.q.m) % G.q.m)) = lowN G (b ^ (w % G.q.m)) := by
  refine lowN_eq ok ?_
  have hq := ok.q.pos
  have h1 : PM G.p.m im (b ^ (x % G.q.m)) := ((lowN_iff ok _ _).1 h).symm
  have h2 := (PM.refl G.p.m (b ^ (((w + N * x) % G.q.m) % G.q.m))).mul (h1.pow ((G.q.m - N % G.q.m) % G.q.m))
  rw [← Nat.pow_mul, ← Nat.pow_add] at h2
  have h3 := pm_exp hpp ok.twice hb (by have := ok.twice; omega) (((w + N * x) % G.q.m) % G.q.m + (x % G.q.m) * ((G.q.m - N % G.q.m) % G.q.m))
  rw [exp_law w N x hq] at h3
  exact h2.trans h3
theorem each_congr {v v' : Nat → Nat → Nat} {ms : List Nat} {j : Nat} (h : ∀ i, i < j → ∀ t, t < ms.getD i 0 → lowN G (v i t) = lowN G (v' i t)) : eachA G v ms j = eachA G v' ms j := by
  unfold eachA
  refine List.map_congr_left fun i hi => ?_
  unfold eachL
  refine List.map_congr_left fun t ht => ?_
  rw [h i (List.mem_range.1 hi) t (List.mem_range.1 ht)]
theorem zip_all {α β : Type} {f : α → β → Bool} {l : List α} {m : List β} (h : (List.zipWith f l m).all id = true) (i : Nat) (hl : i < l.length) (hm : i < m.length) : f l[i] m[i] = true := by
  have h1 := List.all_eq_true.1 h ((List.zipWith f l m)[i]'(by rw [List.length_zipWith]; omega)) (List.getElem_mem _)
  rw [List.getElem_zipWith] at h1
  exact h1
theorem isSc_text (ok : G.Ok) (N : Nat) : isSc G.q.m G.size (textS (N % G.q.m) G.size) = true := by
  unfold isSc
  rw [textS_size, numOf_mod ok]
  simp [Nat.mod_lt _ ok.q.pos]
theorem ansL_get (G : GP) (N : Nat) {ws xs : List ByteArray} {i : Nat} (hw : i < ws.length) (hx : i < xs.length) : (ansL G N ws xs)[i]? = some (ansF G N ws[i] xs[i]) := by
  unfold ansL
  rw [List.getElem?_eq_getElem (by rw [List.length_zipWith]; omega), List.getElem_zipWith]
end

theorem complete_any (k : Int) (label : ByteArray) (l : List ClaimA) (xs : List ByteArray) (seed : ByteArray) (h : prvE k l xs = 0) : verK k label l (prvC k label l seed) (prvA k label l xs seed) = true := by
  have ho : openK k l xs = 0 := by
    unfold prvE at h
    by_cases g : openK k l xs = 0
    · exact g
    · rw [if_neg g] at h; exact absurd h g
  have hh : holdP (grp k.toNat) l xs = true := by
    unfold prvE at h
    rw [if_pos ho] at h
    by_cases g : holdP (grp k.toNat) l xs = true
    · exact g
    · rw [if_neg g] at h; cases h
  obtain ⟨hk, hsh, hel, hxl, hxs⟩ := openK_ok ho
  obtain ⟨_, hl64, hc⟩ := shape_ok hsh
  have ok : (grp k.toNat).Ok := grp_ok _ (by omega) (by omega)
  have hpp := grp_prime_p k.toNat (by omega) (by omega)
  obtain ⟨N, hN⟩ : ∃ N, prvN k label l seed = N := ⟨_, rfl⟩
  have hNN : chN (sayFi (prvT k label l) (prvF k label l seed)) challengeB = N := hN
  obtain ⟨NL, hL⟩ : ∃ L, prvL k label l seed = L := ⟨_, rfl⟩
  have hNL : NL.length = l.length := by rw [← hL]; exact nonceL_len _ _ _
  have eC : prvC k label l seed = textS (N % (grp k.toNat).q.m) (grp k.toNat).size := by unfold prvC; rw [hN]
  have eA : prvA k label l xs seed = ansL (grp k.toNat) N NL xs := by unfold prvA; rw [hN, hL]
  have hAl : (ansL (grp k.toNat) N NL xs).length = l.length := ansL_len _ _ hNL hxl
  have hAs : (ansL (grp k.toNat) N NL xs).all (isSc (grp k.toNat).q.m (grp k.toNat).size) = true := List.all_eq_true.2 fun y hy => by
    obtain ⟨i, hi, rfl⟩ := List.getElem_of_mem (show y ∈ List.zipWith (ansF (grp k.toNat) N) NL xs from hy)
    rw [List.getElem_zipWith]
    exact isSc_text ok _
  have hw : wrongE (grp k.toNat) l = 0 := by unfold wrongE; rw [hsh, if_neg (by simp), if_pos hel]
  have hoA : openK k l (ansL (grp k.toNat) N NL xs) = 0 := by
    unfold openK openE scE
    rw [if_pos hk, if_neg (by rw [hw]; simp), if_pos hAl, if_pos hAs]
  have hR : verR k l (textS (N % (grp k.toNat).q.m) (grp k.toNat).size) (ansL (grp k.toNat) N NL xs) = prvF k label l seed := by
    unfold verR prvF
    rw [hL, numOf_mod ok]
    refine each_congr fun i hi t ht => ?_
    have e1 : (lens l).getD i 0 = l[i].bases.length := by unfold lens; simp [List.getD, hi]
    rw [e1] at ht
    obtain ⟨_, _, him⟩ := hc l[i] (List.getElem_mem _)
    have hti : t < l[i].images.length := by omega
    have hxi : i < xs.length := by omega
    have hni : i < NL.length := by omega
    have eL : l.getD i claim0 = l[i] := by simp [List.getD, hi]
    have eB : l[i].bases.getD t ⟨#[]⟩ = l[i].bases[t] := by simp [List.getD, ht]
    have eI : l[i].images.getD t ⟨#[]⟩ = l[i].images[t] := by simp [List.getD, hti]
    have eW : NL.getD i ⟨#[]⟩ = NL[i] := by simp [List.getD, hni]
    have eX : (ansL (grp k.toNat) N NL xs).getD i ⟨#[]⟩ = textS ((numOf NL[i] + N * numOf xs[i]) % (grp k.toNat).q.m) (grp k.toNat).size := by
      unfold List.getD
      rw [ansL_get (grp k.toNat) N hni hxi]
      rfl
    unfold valB valF
    rw [eL, eB, eI, eW, eX, numOf_mod ok]
    have he := List.all_eq_true.1 hel l[i] (List.getElem_mem _)
    unfold cElems at he
    have hb := List.all_eq_true.1 (Bool.and_eq_true _ _ ▸ he).1 l[i].bases[t] (List.getElem_mem _)
    unfold isEl at hb
    simp only [Bool.and_eq_true, decide_eq_true_eq] at hb
    have h2 := zip_all hh i hi hxi
    have h3 := zip_all (show (List.zipWith (hold2 (grp k.toNat) xs[i]) l[i].bases l[i].images).all id = true from h2) t ht hti
    exact comp_one ok hpp hb.1.2 hb.2 _ _ _ (of_decide_eq_true h3)
  rw [eC, eA]
  unfold verK
  rw [hoA, hR, isSc_text ok, numOf_mod ok, mont_mod]
  have hT : verT k label l (prvF k label l seed) = sayFi (prvT k label l) (prvF k label l seed) := rfl
  rw [hT, hNN]
  simp
end Go.Proofs.YtdlnnkbigeiilaaGreat

/- Lists of strings are compared: same of the package hustingslaw5. Condition: the lists that memory can hold. -/
namespace Go.Proofs.YtdlnnkbigeiilaaGreat
open Go.RowKit

theorem take_eq_snoc {l m : List ByteArray} {j : Nat} (hl : j < l.length) (hm : j < m.length) (h : l.take j = m.take j) (h1 : l[j] = m[j]) : l.take (j + 1) = m.take (j + 1) := by
  rw [List.take_succ_eq_append_getElem hl, List.take_succ_eq_append_getElem hm, h, h1]
set_option maxRecDepth 100000 in
set_option maxHeartbeats 1000000 in
theorem same5_any (l m : List ByteArray) (al am : Option Addr) (cl cm : Nat) (hl : l.length ≤ 8796093022207) (b : Bool) (hb : decide (l = m) = b) (w : World) (hL : Sl w w.heap.size al (l.map Value.string)) (hM : Sl w w.heap.size am (m.map Value.string)) :
    Calls Tryz.prog 16 #[.slice al l.length cl, .slice am m.length cm] w (Gives (.bool b) w) := by
  have HL := Lib.hid hL
  have HM := Lib.hid hM
  have HBB := Lib.hid hb
  clear hL hM hb
  unfold Gives
  by_cases h1 : l.length = m.length
  · have hd : ((l.length : Int) != (m.length : Int)) = false := by rw [bne_eq_false_iff_eq]; omega
    obtain ⟨n, hn⟩ : ∃ n, l.length = n := ⟨_, rfl⟩
    have hm : m.length = n := by omega
    have HNL := Lib.hid hn
    have HNM := Lib.hid hm
    rw [hn] at hd hl ⊢
    rw [hm] at hd ⊢
    clear h1 hn hm
    go_enter Tryz.func16, Tryz.ntmps16
    go_wp2_with fail
    go_loopw [13] (fun i wr => ∃ j : Nat, j ≤ n ∧ i = .int .i64 j ∧ Hid (Below w.heap.size w wr) ∧ Hid (l.take j = m.take j)) (fun i _ => n - (intOf i).toNat)
    case atStart => exact ⟨0, Nat.zero_le _, rfl, Below.refl _ _, rfl⟩
    case round =>
      obtain ⟨j, hj, rfl, HB, HT⟩ := hrel
      by_cases hjn : j < n
      · skip
        have hjl : j < l.length := by rw [HNL.out]; exact hjn
        have hjm : j < m.length := by rw [HNM.out]; exact hjn
        obtain ⟨b1, o1, rfl, hb10, hb1, hc1⟩ := HL.out.atUp HB.out j (by simpa using hjl)
        obtain ⟨b2, o2, rfl, hb20, hb2, hc2⟩ := HM.out.atUp HB.out j (by simpa using hjm)
        rw [List.getElem_map] at hc1 hc2
        have HTS := Lib.hid (take_eq_snoc hjl hjm HT.out)
        have HNE := Lib.hid (fun (h : ¬ l[j] = m[j]) => (show ¬ l = m from fun e => h (by subst e; rfl)))
        generalize l[j] = x at *
        generalize m[j] = y at *
        by_cases hxy : x = y
        · have HF := Lib.hid (HTS.out hxy)
          subst hxy
          go_wp2_with fail
          refine wp_region_over (by kernel_rfl) (by kernel_rfl) ?_
          have hov_b1 := fun (E : Over wr) o => E.cell (b := b1) o hb1
          have hov_b2 := fun (E : Over wr) o => E.cell (b := b2) o hb2
          repeat (go_big_quiet_step (first | fail))
          all_goals (try unfold elV limbV)
          repeat (go_big_quiet_step (first | fail))
          all_goals (try unfold elV limbV)
          repeat (go_big_quiet_step (first | fail))
          all_goals (try unfold ciphV)
          refine wpQuiet_nil ?_
          rintro _ ⟨E, rfl⟩
          clear hov_b1 hov_b2
          replace HB := hbu HB E.h
          have HZS := Lib.hid E.h.size
          obtain ⟨w1, hq9⟩ : ∃ W9 : World, E.w = W9 := ⟨_, rfl⟩
          rw [hq9] at HB HZS ⊢
          clear hq9 E
          go_wp2_with fail
          go_roundw
          case rel => exact ⟨j + 1, by omega, by go_num, HB, HF⟩
          case measure => simp [intOf]; omega
        · obtain rfl : b = false := by rw [← HBB.out]; exact decide_eq_false (HNE.out hxy)
          have hcd := toList_bne hxy
          clear hxy
          go_wp2_with fail
          refine wp_region_over (by kernel_rfl) (by kernel_rfl) ?_
          have hov_b1 := fun (E : Over wr) o => E.cell (b := b1) o hb1
          have hov_b2 := fun (E : Over wr) o => E.cell (b := b2) o hb2
          repeat (go_big_quiet_step (first | fail))
          all_goals (try unfold elV limbV)
          repeat (go_big_quiet_step (first | fail))
          all_goals (try unfold elV limbV)
          repeat (go_big_quiet_step (first | fail))
          all_goals (try unfold ciphV)
          refine wpQuiet_nil ?_
          rintro _ ⟨E, rfl⟩
          clear hov_b1 hov_b2
          replace HB := hbu HB E.h
          have HZS := Lib.hid E.h.size
          obtain ⟨w1, hq9⟩ : ∃ W9 : World, E.w = W9 := ⟨_, rfl⟩
          rw [hq9] at HB HZS ⊢
          clear hq9 E
          go_wp2_with fail
          go_ret
          exact ⟨rfl, HB.out⟩
      · have hjn' : j = n := by omega
        subst hjn'
        obtain rfl : b = true := by
          rw [← HBB.out]
          refine decide_eq_true ?_
          have h9 := HT.out
          rwa [List.take_of_length_le (by rw [HNL.out]; exact Nat.le_refl _), List.take_of_length_le (by rw [HNM.out]; exact Nat.le_refl _)] at h9
        go_wp2_with fail
        go_ret
        exact ⟨rfl, HB.out⟩
  · have hd : ((l.length : Int) != (m.length : Int)) = true := by rw [bne_iff_ne]; omega
    obtain rfl : b = false := by rw [← HBB.out]; exact decide_eq_false (fun e => h1 (by rw [e]))
    clear h1
    go_enter Tryz.func16, Tryz.ntmps16
    go_wp2_with fail
    go_ret
    exact ⟨rfl, Below.refl _ _⟩
end Go.Proofs.YtdlnnkbigeiilaaGreat

/- Small words for opening arguments of deep types: slices of elements of any size, whatever each element is. No condition. -/
namespace Go.Proofs.YtdlnnkbigeiilaaGreat
open Go.ChangeShapes Go.WideShapes Go.ChangeAt Go.RowKit

/-! What the bound of the second form gives. -/
theorem flat_range (g : Nat → Value) (k len : Nat) : ((List.range len).map fun i => (List.range k).map fun j => g (i * k + j)).flatten = (List.range (len * k)).map g := by
  induction len with
  | zero => simp
  | succ m ih =>
    rw [List.range_succ, List.map_append, List.flatten_append, ih, Nat.succ_mul, List.range_add, List.map_append]
    simp [List.map_map, Function.comp_def]
section
variable {H : Type} {enc : TypeId × Value → H} {P : Program} {w : World}

/-- A list of lists of values each of which is of one shape. -/
theorem list_shapes {α : Type} (f : α → List Value) (R : α → Prop) : ∀ css : List (List Value), (∀ l ∈ css, ∃ x, l = f x ∧ R x) → ∃ xs : List α, xs.length = css.length ∧ css.flatten = xs.flatMap f ∧ ∀ x ∈ xs, R x
  | [], _ => ⟨[], rfl, rfl, by simp⟩
  | l :: css, h => by
    obtain ⟨x, rfl, hR⟩ := h l (by simp)
    obtain ⟨xs, h1, h2, h3⟩ := list_shapes f R css (fun c hc => h c (by simp [hc]))
    refine ⟨x :: xs, by simp [h1], by simp [h2], ?_⟩
    intro y hy
    rcases List.mem_cons.1 hy with rfl | hy
    · exact hR
    · exact h3 y hy
theorem list2 {cs : List Value} (h : cs.length = 2) : ∃ a b, cs = [a, b] := by
  match cs, h with
  | [a, b], _ => exact ⟨a, b, rfl⟩
/-- A cell that is a string. -/
theorem open_str {sp : Nat → Bool} {held : Bool} {t : TypeId} {fuel : Nat} {c : Value} {y : DataW H × List MemPlace} (ht : P.underlying t = some .string) (h : DataW.trod enc P w 0 sp held fuel t [c] = some y) : ∃ s : ByteArray, c = .string s := by
  obtain ⟨s, hs, _⟩ := DataW.trod_string ht h
  simp only [List.cons.injEq, and_true] at hs
  exact ⟨s, hs⟩
end

end Go.Proofs.YtdlnnkbigeiilaaGreat

/- Arguments of deep types are opened, with what the form's own reach says of each part's size. No condition. -/
namespace Go.Proofs.YtdlnnkbigeiilaaGreat
open Go.ChangeShapes Go.WideShapes Go.ChangeAt Go.RowKit

/-- No part of a datum is above the form's reach. -/
def Wt {H : Type} (P : Program) (t : TypeId) (d : DataW H) : Prop := ∀ n ∈ DataW.weights P t d, n ≤ reachBytes
theorem weightsAll_mem {H : Type} {P : Program} {e : TypeId} : ∀ {l : List (DataW H)} {d : DataW H}, d ∈ l → ∀ n ∈ DataW.weights P e d, n ∈ DataW.weightsAll P e l
  | x :: l, d, hd, n, hn => by
    simp only [DataW.weightsAll, List.mem_append]
    rcases List.mem_cons.1 hd with rfl | h
    · exact Or.inl hn
    · exact Or.inr (weightsAll_mem h n hn)
theorem Wt.slice {H : Type} {P : Program} {t e : TypeId} {elems spare : List (DataW H)} (ht : P.underlying t = some (.slice e)) (h : Wt P t (.slice elems spare)) : elems.length * P.bytesOf e ≤ reachBytes ∧ ∀ d ∈ elems, Wt P e d := by
  unfold Wt at h
  simp only [DataW.weights, ht, List.mem_cons, List.mem_append] at h
  refine ⟨Nat.le_trans (Nat.mul_le_mul_right _ (Nat.le_add_right _ _)) (h _ (Or.inl rfl)), fun d hd n hn => h n (Or.inr (Or.inl (weightsAll_mem hd n hn)))⟩
theorem Wt.agg {H : Type} {P : Program} {t : TypeId} {fs : Array Go.Field} {parts : List (DataW H)} (ht : P.underlying t = some (.struct fs)) (h : Wt P t (.agg parts)) : ∀ (j : Nat) (f : Go.Field) (d : DataW H), fs[j]? = some f → parts[j]? = some d → Wt P f.type d := by
  intro j f d hj hd n hn
  unfold Wt at h
  simp only [DataW.weights, ht] at h
  exact h n (DataW.weights_mem_each (ts := fs.toList.map (·.type)) (by rw [List.getElem?_map, Array.getElem?_toList, hj]; rfl) hd n hn)
theorem Wt.arg {H : Type} {P : Program} {ts : List TypeId} {ds : List (DataW H)} (h : (DataW.weightsEach P ts ds).all (· ≤ reachBytes) = true) {j : Nat} {t : TypeId} {d : DataW H} (ht : ts[j]? = some t) (hd : ds[j]? = some d) : Wt P t d :=
  fun n hn => of_decide_eq_true (List.all_eq_true.1 h _ (DataW.weights_mem_each ht hd n hn))
section
variable {H : Type} {enc : TypeId × Value → H} {P : Program} {w : World}

/-- A cell that is a slice of elements of k cells: all its elements' cells, each element with its own reading. -/
theorem open_flatW {sp : Nat → Bool} {held : Bool} {t e : TypeId} {k fuel : Nat} {c : Value} {y : DataW H × List MemPlace} (ht : P.underlying t = some (.slice e)) (hk : P.cellsOf e = k) (hk0 : 0 < k) (hW : Wt P t y.1)
    (h : DataW.trod enc P w 0 sp held fuel t [c] = some y) :
    ∃ (a : Option Addr) (cap : Nat) (css : List (List Value)), c = .slice a css.length cap ∧ css.length * P.bytesOf e ≤ reachBytes ∧ (a = none → cap = 0) ∧ (∀ l ∈ css, l.length = k) ∧ Sl w w.heap.size a css.flatten ∧
      ∀ l ∈ css, ∃ n y', Wt P e y'.1 ∧ DataW.trod enc P w 0 sp held n e l = some y' := by
  have hlt := DataW.trod_lt _ _ _ _ h
  rcases DataW.trod_slice ht h with ⟨hcs, _⟩ | ⟨x, len, cap, elems, rest, n, _, hcs, hx, hb, hl, hm, hlen, hel, _, _⟩
  · simp only [List.cons.injEq, and_true] at hcs
    exact ⟨none, 0, [], hcs, by simp, fun _ => rfl, by simp, Or.inl rfl, by simp⟩
  simp only [List.cons.injEq, and_true] at hcs
  subst hcs
  by_cases h0 : len = 0
  · subst h0
    exact ⟨some x, cap, [], rfl, by simp, by simp, by simp, Or.inl rfl, by simp⟩
  have hbk := Wt.slice (elems := elems.map (·.1)) (spare := rest.map (·.1)) ht (by rw [hx] at hW; exact hW)
  have each : ∀ i, i < len → ∃ l y', w.cells? 0 (x.add (i * k)) k = some l ∧ Wt P e y'.1 ∧ DataW.trod enc P w 0 sp held n e l = some y' := by
    intro i hi
    have h1 := hel i hi
    rw [hk, show elems[i]? = some (elems[i]'(by omega)) from List.getElem?_eq_getElem (by omega), Option.bind_eq_some_iff] at h1
    obtain ⟨l, hl, hy⟩ := h1
    exact ⟨l, _, hl, hbk.2 _ (List.mem_map.2 ⟨_, List.getElem_mem _, rfl⟩), hy⟩
  obtain ⟨b, off, spot⟩ := x
  have hspot : spot = none := by
    obtain ⟨l, _, h1, _⟩ := each 0 (by omega)
    obtain ⟨_, h2, h3⟩ := World.cells?_some h1
    have h4 := h3 0 hk0
    obtain ⟨v, hv⟩ : ∃ v, l[0]? = some v := ⟨_, List.getElem?_eq_getElem (by omega)⟩
    rw [hv, Deep.add_add, Nat.zero_mul, Nat.zero_add] at h4
    simpa [Addr.add] using World.cell?_spot h4
  subst hspot
  have hbW : b < w.heap.size := hlt (.cell b off) (by
    rw [hx]
    exact List.mem_append_left _ (MemPlace.mem_row.2 ⟨0, by rw [hk]; have : 0 < (elems.length + rest.length) * k := Nat.mul_pos (by omega) hk0; omega, by simp⟩))
  have hL : ∀ i, i < len → ((List.range k).map fun j => (w.cell? ⟨b, off + (i * k + j), none⟩).getD (.bool false)).length = k ∧
      (∀ j, j < k → w.cell? ⟨b, off + (i * k + j), none⟩ = some ((w.cell? ⟨b, off + (i * k + j), none⟩).getD (.bool false))) ∧
      ∃ y', Wt P e y'.1 ∧ DataW.trod enc P w 0 sp held n e ((List.range k).map fun j => (w.cell? ⟨b, off + (i * k + j), none⟩).getD (.bool false)) = some y' := by
    intro i hi
    obtain ⟨l, y', h1, h2b, h2⟩ := each i hi
    obtain ⟨_, h3, h4⟩ := World.cells?_some h1
    have h5 : ∀ j, j < k → w.cell? ⟨b, off + (i * k + j), none⟩ = l[j]? := by
      intro j hj
      have := h4 j hj
      rwa [Deep.add_add, add_plain] at this
    have e1 : (List.range k).map (fun j => (w.cell? ⟨b, off + (i * k + j), none⟩).getD (.bool false)) = l := by
      apply List.ext_getElem?
      intro j
      by_cases hj : j < k
      · rw [List.getElem?_map, List.getElem?_range hj, Option.map_some, h5 j hj, List.getElem?_eq_getElem (show j < l.length by omega), Option.getD_some]
      · rw [List.getElem?_eq_none (by simp; omega), List.getElem?_eq_none (by omega)]
    refine ⟨by simp, ?_, ?_⟩
    · intro j hj
      rw [h5 j hj, List.getElem?_eq_getElem (show j < l.length by omega), Option.getD_some]
    · rw [e1]; exact ⟨y', h2b, h2⟩
  refine ⟨some ⟨b, off, none⟩, cap, (List.range len).map fun i => (List.range k).map fun j => (w.cell? ⟨b, off + (i * k + j), none⟩).getD (.bool false), by simp, ?_, by simp, ?_, Or.inr ⟨b, off, rfl, hbW, ?_⟩, ?_⟩
  · have := hbk.1; rw [List.length_map, hlen] at this; simpa using this
  · intro l hl
    obtain ⟨i, _, rfl⟩ := List.mem_map.1 hl
    simp
  · have hflat := flat_range (fun m => (w.cell? ⟨b, off + m, none⟩).getD (.bool false)) k len
    intro i v hv
    rw [hflat] at hv
    have hi : i < len * k := by have := (List.getElem?_eq_some_iff.1 hv).1; simpa using this
    have hq : i / k < len := Nat.div_lt_of_lt_mul (by rwa [Nat.mul_comm] at hi)
    have hc := (hL (i / k) hq).2.1 (i % k) (Nat.mod_lt _ hk0)
    rw [show i / k * k + i % k = i by rw [Nat.mul_comm]; exact Nat.div_add_mod i k] at hc
    rw [hc, ← hv, List.getElem?_map, List.getElem?_range hi, Option.map_some]
  · intro l hl
    obtain ⟨i, hi, rfl⟩ := List.mem_map.1 hl
    obtain ⟨y', hyb, hy⟩ := (hL i (List.mem_range.1 hi)).2.2
    exact ⟨n, y', hyb, hy⟩
/-- The same, each element of a shape that is known. -/
theorem open_elsW {α : Type} (f : α → List Value) (R : α → Prop) {sp : Nat → Bool} {held : Bool} {t e : TypeId} {k fuel : Nat} {c : Value} {y : DataW H × List MemPlace} (ht : P.underlying t = some (.slice e)) (hk : P.cellsOf e = k) (hk0 : 0 < k) (hW : Wt P t y.1)
    (hel : ∀ n l y', l.length = k → Wt P e y'.1 → DataW.trod enc P w 0 sp held n e l = some y' → ∃ x, l = f x ∧ R x) (h : DataW.trod enc P w 0 sp held fuel t [c] = some y) :
    ∃ (a : Option Addr) (cap : Nat) (xs : List α), c = .slice a xs.length cap ∧ xs.length * P.bytesOf e ≤ reachBytes ∧ (a = none → cap = 0) ∧ Sl w w.heap.size a (xs.flatMap f) ∧ ∀ x ∈ xs, R x := by
  obtain ⟨a, cap, css, rfl, hlB, hno, hl, hs, he⟩ := open_flatW ht hk hk0 hW h
  obtain ⟨xs, h1, h2, h3⟩ := list_shapes f R css (fun l hm => by
    obtain ⟨n, y', hyb, hy⟩ := he l hm
    exact hel n l y' (hl l hm) hyb hy)
  exact ⟨a, cap, xs, by rw [h1], by rw [h1]; exact hlB, hno, h2 ▸ hs, h3⟩
/-- A struct whose fields are of one cell each. -/
theorem open_cellsW {sp : Nat → Bool} {held : Bool} {t : TypeId} {fs : Array Go.Field} {fuel : Nat} {cs : List Value} {y : DataW H × List MemPlace} (hs : P.underlying t = some (.struct fs)) (hone : Go.Deep.oneCellFields P fs = true) (hC : P.cellsOf t = fs.size) (hW : Wt P t y.1)
    (h : DataW.trod enc P w 0 sp held fuel t cs = some y) :
    cs.length = fs.size ∧ ∀ (j : Nat) (f : Go.Field) (c : Value), fs[j]? = some f → cs[j]? = some c → ∃ n y', Wt P f.type y'.1 ∧ DataW.trod enc P w 0 sp held n f.type [c] = some y' := by
  obtain ⟨ys, n, _, hy, hcl, hlen, hg⟩ := DataW.trod_struct hs h
  have hbk := Wt.agg (parts := ys.map (·.1)) hs (by rw [hy] at hW; exact hW)
  refine ⟨by omega, fun j f c hj hc => ?_⟩
  obtain ⟨ho, hk⟩ := Go.Deep.hone_of hone j f hj
  have hjf : j < fs.size := (Array.getElem?_eq_some_iff.1 hj).1
  have h1 := hg j f hj
  have hjc := (List.getElem?_eq_some_iff.1 hc).1
  rw [ho, hk, List.drop_eq_getElem_cons hjc, List.take_succ_cons, List.take_zero, (List.getElem?_eq_some_iff.1 hc).2, List.getElem?_eq_getElem (show j < ys.length by omega)] at h1
  exact ⟨n, _, hbk j f _ hj (by rw [List.getElem?_map, List.getElem?_eq_getElem (show j < ys.length by omega)]; rfl), h1⟩
/-- A cell that is a slice of strings. -/
theorem open_strsW {sp : Nat → Bool} {held : Bool} {t e : TypeId} {fuel : Nat} {c : Value} {y : DataW H × List MemPlace} (ht : P.underlying t = some (.slice e)) (he : P.underlying e = some .string) (hk : P.cellsOf e = 1) (hW : Wt P t y.1) (h : DataW.trod enc P w 0 sp held fuel t [c] = some y) :
    ∃ (a : Option Addr) (cap : Nat) (bs : List ByteArray), c = .slice a bs.length cap ∧ bs.length * P.bytesOf e ≤ reachBytes ∧ (a = none → cap = 0) ∧ Sl w w.heap.size a (bs.map Value.string) := by
  obtain ⟨a, cap, xs, h1, hb, hno, h2, _⟩ := open_elsW (fun s : ByteArray => [Value.string s]) (fun _ => True) ht hk (by omega) hW (fun n l y' hl _ hy => by
    match l, hl with
    | [c'], _ =>
      obtain ⟨s, rfl⟩ := open_str he hy
      exact ⟨s, rfl, trivial⟩) h
  refine ⟨a, cap, xs, h1, hb, hno, ?_⟩
  rw [← List.flatMap_singleton' (xs.map Value.string), List.flatMap_map]
  exact h2
end

end Go.Proofs.YtdlnnkbigeiilaaGreat

/- How many cells, how many bytes the arguments' types have. No condition. -/
namespace Go.Proofs.YtdlnnkbigeiilaaGreat
open Go.ChangeShapes Go.WideShapes Go.ChangeAt Go.RowKit

theorem proof_cells : Tryz.prog.cellsOf 25 = 2 := by kernel_rfl
theorem str_cells : Tryz.prog.cellsOf 9 = 1 := by kernel_rfl
theorem str_bytes : Tryz.prog.bytesOf 9 = 16 := by kernel_rfl
theorem reach16 {n : Nat} (h : n * 16 ≤ reachBytes) : n ≤ 8796093022206 := by unfold reachBytes at h; omega
end Go.Proofs.YtdlnnkbigeiilaaGreat

/- Arguments of the laws of chapter 5 are opened: proofs, lists of lists, claims. Condition: they are as the row says. -/
namespace Go.Proofs.YtdlnnkbigeiilaaGreat
open Go.ChangeShapes Go.WideShapes Go.ChangeAt Go.RowKit

section
variable {H : Type} {enc : TypeId × Value → H} {w : World}
theorem open_prf {sp : Nat → Bool} {held : Bool} (fuel : Nat) (cs : List Value) (y : DataW H × List MemPlace) (hW : Wt Tryz.prog 25 y.1) (h : DataW.trod enc Tryz.prog w 0 sp held fuel 25 cs = some y) :
    ∃ p : PrfA, cs = p.cells ∧ p.At w ∧ p.l.length ≤ 8796093022206 := by
  obtain ⟨h1, h2⟩ := open_cellsW Tryz.underlying25 (by kernel_rfl) proof_cells hW h
  obtain ⟨a, b, rfl⟩ := list2 h1
  obtain ⟨_, _, _, ha⟩ := h2 0 _ _ rfl rfl
  obtain ⟨_, _, hw, hb⟩ := h2 1 _ _ rfl rfl
  obtain ⟨s, rfl⟩ := open_str Tryz.underlying9 ha
  obtain ⟨al, cap, l, rfl, hn, hno, hs⟩ := open_strsW Tryz.underlying23 Tryz.underlying9 str_cells hw hb
  rw [str_bytes] at hn
  exact ⟨⟨s, al, cap, l⟩, rfl, ⟨hs, hno⟩, reach16 hn⟩
end
theorem agg_of {cs : Array Value} {l : List Value} (h : cs.toList = l) : Value.agg cs = .agg l.toArray := by rw [← h]
section
variable {H : Type} {enc : TypeId × Value → H} {w : World}
end

end Go.Proofs.YtdlnnkbigeiilaaGreat

/- Arguments of the laws: strings with their sizes, lists of strings with sizes, claims with the room of their lists. Condition: they are as the row says. -/
namespace Go.Proofs.YtdlnnkbigeiilaaGreat
open Go.ChangeShapes Go.WideShapes Go.ChangeAt Go.RowKit

theorem Wt.str {H : Type} {enc : TypeId × Value → H} {P : Program} {w : World} {sp : Nat → Bool} {held : Bool} {t : TypeId} {fuel : Nat} {s : ByteArray} {y : DataW H × List MemPlace} (ht : P.underlying t = some .string) (hW : Wt P t y.1) (h : DataW.trod enc P w 0 sp held fuel t [.string s] = some y) : s.size ≤ reachBytes := by
  obtain ⟨s', hs, hy, _⟩ := DataW.trod_string ht h
  simp only [List.cons.injEq, and_true, Value.string.injEq] at hs
  subst hs
  rw [hy] at hW
  exact hW s.data.toList.length (by simp [DataW.weights])
theorem reach_lt : reachBytes < 140737488355328 := by decide
section
variable {H : Type} {enc : TypeId × Value → H} {w : World}
end

end Go.Proofs.YtdlnnkbigeiilaaGreat

namespace Go.Proofs.YtdlnnkbigeiilaaGreat
open Go.ChangeShapes Go.WideShapes Go.ChangeAt Go.RowKit

def pubP (k : Int) (x : ByteArray) : ByteArray := if pubE k x = 0 then pubS k x else ⟨#[]⟩
theorem sPub_any (k : Int) (x : ByteArray) (w : World) : Calls Tryz.prog 20 #[.int .i64 k, .string x] w (Gives (.tuple #[.string (pubP k x), .int .i64 (pubE k x : Int)]) w) := by
  by_cases hk : 1 ≤ k ∧ k ≤ 3
  · obtain ⟨j, rfl⟩ : ∃ j : Nat, k = (j : Int) := ⟨k.toNat, by omega⟩
    cases hx : isSc (grp j).q.m (grp j).size x with
    | true =>
      have h0 : pubE (j : Int) x = 0 := by unfold pubE; rw [if_pos hk, Int.toNat_natCast, if_pos hx]
      unfold pubP
      rw [h0]
      have h := pub_some j (by omega) (by omega) x true hx w
      simp only [if_true] at h
      exact h
    | false =>
      have h0 : pubE (j : Int) x = 6 := by unfold pubE; rw [if_pos hk, Int.toNat_natCast, hx]; rfl
      unfold pubP
      rw [h0]
      have h := pub_some j (by omega) (by omega) x false hx w
      simp only [Bool.false_eq_true, if_false] at h
      exact h
  · have h0 : pubE k x = 1 := by unfold pubE; rw [if_neg hk]
    unfold pubP
    rw [h0]
    exact pub_none k hk x w
theorem rPub_any (k : Int) (x : ByteArray) (w : World) : Calls Tryz.prog 21 #[.int .i64 k, .string x] w (Gives (.tuple #[.string (pubP k x), .int .i64 (pubE k x : Int)]) w) := by
  by_cases hk : 1 ≤ k ∧ k ≤ 3
  · obtain ⟨j, rfl⟩ : ∃ j : Nat, k = (j : Int) := ⟨k.toNat, by omega⟩
    cases hx : isSc (grp j).q.m (grp j).size x with
    | true =>
      have h0 : pubE (j : Int) x = 0 := by unfold pubE; rw [if_pos hk, Int.toNat_natCast, if_pos hx]
      unfold pubP
      rw [h0]
      exact rPub_yes j (by omega) (by omega) x hx w
    | false =>
      have h0 : pubE (j : Int) x = 6 := by unfold pubE; rw [if_pos hk, Int.toNat_natCast, hx]; rfl
      unfold pubP
      rw [h0]
      exact rPub_no j (by omega) (by omega) x hx w
  · have h0 : pubE k x = 1 := by unfold pubE; rw [if_neg hk]
    unfold pubP
    rw [h0]
    exact rPub_none k hk x w
/-- What is signed is found right, and nothing else is. -/
theorem signs_law (k : Int) (x text seed : ByteArray) : sgdK k (pubP k x) text (sgnC k x text seed) (sgnA k x text seed) = decide (sgnE k x = 0) := by
  by_cases hE : sgnE k x = 0
  · rw [decide_eq_true hE]
    have hP : pubE k x = 0 := by
      by_cases g : pubE k x = 0
      · exact g
      · unfold sgnE at hE; rw [if_neg g] at hE; exact absurd hE g
    have hk : 1 ≤ k ∧ k ≤ 3 := by
      by_cases g : 1 ≤ k ∧ k ≤ 3
      · exact g
      · unfold pubE at hP; rw [if_neg g] at hP; cases hP
    have h1 : prvE k [ownC (baseT k) (pubS k x)] [x] = 0 := by
      have h2 := hE
      unfold sgnE at h2
      rwa [if_pos hP] at h2
    unfold sgdK sgnC sgnA pubP
    rw [if_pos hE, if_pos hE, if_pos hP, decide_eq_true hk, Bool.true_and]
    exact complete_any k _ _ _ seed h1
  · rw [decide_eq_false hE]
    unfold sgdK sgnC sgnA
    rw [if_neg hE, if_neg hE]
    have h1 : openK k [ownC (baseT k) (pubP k x)] [] ≠ 0 := fun h => by
      have h2 := (openK_ok h).2.2.2.1
      simp at h2
    unfold verK
    rw [decide_eq_false h1, Bool.false_and, Bool.and_false]
theorem sgnA_len (k : Int) (x text seed : ByteArray) : (sgnA k x text seed).length ≤ 8796093022207 := by
  unfold sgnA
  by_cases g : sgnE k x = 0
  · rw [if_pos g]
    unfold prvA ansL
    rw [List.length_zipWith]
    exact Nat.le_trans (Nat.min_le_right _ _) (by simp)
  · rw [if_neg g]; exact Nat.zero_le _
set_option maxRecDepth 100000 in
set_option maxHeartbeats 4000000 in
theorem sigmaSigns_any (k : Int) (x text seed pub ch : ByteArray) (ht : text.size < 140737488355328) (hsd : seed.size < 140737488355328) (xs : List ByteArray) (ax : Option Addr) (cx : Nat) (hn : xs.length ≤ 8796093022207) (w : World) (hS : Sl w w.heap.size ax (xs.map Value.string)) :
    Calls Tryz.prog 7 #[.int .i64 k, .string x, .string text, .string seed, .string pub, .agg #[.string ch, .slice ax xs.length cx]] w fun e w' => e = .returned (.bool true) ∧ Below w.heap.size w w' := by
  have H1 := Lib.hid (fun w => sPub_any k x w)
  have H2 := Lib.hid (fun w => rPub_any k x w)
  have H3 := Lib.hid (fun w => sSign_any k x text seed ht hsd w)
  have H4 := Lib.hid (fun w => rSign_any k x text seed ht hsd w)
  have H5 := Lib.hid (fun w1 (hb : Below w.heap.size w w1) => sSigned_any k pub text ch ht xs ax cx hn w1 (hS.up hb))
  have H6 := Lib.hid (fun w1 (hb : Below w.heap.size w w1) => rSigned_any k pub text ch ht xs ax cx hn w1 (hS.up hb))
  have H7 := Lib.hid (fun a c w1 (h : Sl w1 w1.heap.size a ((sgnA k x text seed).map Value.string)) => sSigned_any k (pubP k x) text (sgnC k x text seed) ht (sgnA k x text seed) a c (sgnA_len k x text seed) w1 h)
  rw [signs_law] at H7
  have HLL := Lib.hid (sgnA_len k x text seed)
  unfold Gives at H1 H2 H5 H6 H7
  generalize sgdK k pub text ch xs = b at *
  generalize pubP k x = P at *
  generalize pubE k x = pe at *
  generalize sgnC k x text seed = C at *
  generalize sgnA k x text seed = A at *
  generalize sgnE k x = E at *
  generalize xs.length = m at *
  obtain ⟨q, hq⟩ : ∃ q, A.length = q := ⟨_, rfl⟩
  have HQ := Lib.hid hq
  rw [hq] at H7
  have HSM := Lib.hid (HQ.out ▸ fun a1 a2 c1 c2 w1 h1 h2 => same5_any A A a1 a2 c1 c2 HLL.out true (by simp) w1 h1 h2)
  obtain ⟨d, hd⟩ : ∃ d, decide (E = 0) = d := ⟨_, rfl⟩
  have hde : ((E : Int) == 0) = d := by rw [← hd]; by_cases g : E = 0 <;> simp [g]
  rw [hd] at H7
  clear hS hn ht hsd hq hd
  go_enter Tryz.func7, Tryz.ntmps7
  go_wp2_with fail
  obtain ⟨w1, hq1, hb9, hz9, Hbp⟩ := new1 w 25 [.string ch, .slice ax m cx]
  rw [hq1]
  clear hq1
  have HB := Lib.hid hb9
  have HZS := hz9
  clear hb9 hz9
  have bp_ := Hbp.out.c2
  go_wp2_with fail
  refine (H1.out w1).mono ?_
  rintro e w2 ⟨rfl, hb9⟩
  clear bp_
  replace Hbp := Lib.hid (Hbp.out.up hb9)
  replace HB := hbu HB hb9
  replace HZS := sz HZS hb9.size
  clear hb9
  have bp_ := Hbp.out.c2
  go_wp2_with fail
  refine (H2.out w2).mono ?_
  rintro e w3 ⟨rfl, hb9⟩
  clear bp_
  replace Hbp := Lib.hid (Hbp.out.up hb9)
  replace HB := hbu HB hb9
  replace HZS := sz HZS hb9.size
  clear hb9
  have bp_ := Hbp.out.c2
  go_wp2_with fail
  refine (H3.out w3).mono ?_
  rintro e w4 ⟨hb9, a1, c1, rfl, hs1, _, _⟩
  clear bp_
  replace Hbp := Lib.hid (Hbp.out.up hb9)
  replace HB := hbu HB hb9
  replace HZS := sz HZS hb9.size
  have HS1 := Lib.hid hs1
  clear hs1
  clear hb9
  have bp_ := Hbp.out.c2
  have BS1 := Lib.hid (Below.refl w4.heap.size w4)
  rw [HQ.out]
  have o5_bp_ := bp_; clear bp_
  obtain ⟨w5, hq5, hb9, hz9, Hbq⟩ := new1 w4 25 [.string C, .slice a1 q c1]
  replace Hbp := Lib.hid (Hbp.out.up hb9)
  replace BS1 := hbu BS1 hb9
  replace HB := hbu HB hb9
  replace HZS := sz HZS hz9.out
  clear hb9 hz9
  have bp_ := Hbp.out.c2
  have bq_ := Hbq.out.c2
  go_wp2_with fail
  clear hq5 o5_bp_
  refine (H4.out w5).mono ?_
  rintro e w6 ⟨hb9, a2, c2, rfl, hs2, _, _⟩
  clear bp_
  replace Hbp := Lib.hid (Hbp.out.up hb9)
  clear bq_
  replace Hbq := Lib.hid (Hbq.out.up hb9)
  replace BS1 := hbu BS1 hb9
  replace HB := hbu HB hb9
  replace HZS := sz HZS hb9.size
  have HS2 := Lib.hid hs2
  clear hs2
  clear hb9
  have bp_ := Hbp.out.c2
  have bq_ := Hbq.out.c2
  have BS2 := Lib.hid (Below.refl w6.heap.size w6)
  rw [HQ.out]
  have o7_bp_ := bp_; clear bp_
  have o7_bq_ := bq_; clear bq_
  obtain ⟨w7, hq7, hb9, hz9, Hbr⟩ := new1 w6 25 [.string C, .slice a2 q c2]
  replace Hbp := Lib.hid (Hbp.out.up hb9)
  replace Hbq := Lib.hid (Hbq.out.up hb9)
  replace BS1 := hbu BS1 hb9
  replace BS2 := hbu BS2 hb9
  replace HB := hbu HB hb9
  replace HZS := sz HZS hz9.out
  clear hb9 hz9
  have bp_ := Hbp.out.c2
  have bq_ := Hbq.out.c2
  have br_ := Hbr.out.c2
  go_wp2_with fail
  clear hq7 o7_bq_ o7_bp_
  refine (HSM.out a1 a2 c1 c2 w7 (HS1.out.up BS1.out) (HS2.out.up BS2.out)).mono ?_
  rintro e w8 ⟨rfl, hb9⟩
  clear bp_
  replace Hbp := Lib.hid (Hbp.out.up hb9)
  clear bq_
  replace Hbq := Lib.hid (Hbq.out.up hb9)
  clear br_
  replace Hbr := Lib.hid (Hbr.out.up hb9)
  replace BS1 := hbu BS1 hb9
  replace BS2 := hbu BS2 hb9
  replace HB := hbu HB hb9
  replace HZS := sz HZS hb9.size
  clear hb9
  have bp_ := Hbp.out.c2
  have bq_ := Hbq.out.c2
  have br_ := Hbr.out.c2
  go_wp2_with fail
  have HW := Lib.hid HB.out
  have HSW := Lib.hid (HS1.out.up BS1.out)
  have HT := Lib.hid (show Below w8.heap.size w8 w8.drew from (Below.refl _ _).drew)
  have hl_bp := Hbp.out.lt
  have hl_bq := Hbq.out.lt
  have hl_br := Hbr.out.lt
  refine wp_region_tree (fun wq9 => ∃ E : Over w8, wq9 = E.w) ((.qs [0, 1, 2, 3, 5, 6, 7, 8] (.a 4 (.a 9 (.qs [10, 11, 12, 13, 14, 15, 17, 18] (.a 16 (.qs [19, 20, 21] .done))))))) (by kernel_rfl) (by kernel_rfl) (fun _ _ d _ _ h => by cases d <;> exact h) ⟨⟨_, HT.out⟩, rfl⟩ ?_
  have hov_bp := fun (E : Over w8) o => E.cell (b := w.heap.size) o hl_bp
  have hov_bq := fun (E : Over w8) o => E.cell (b := w4.heap.size) o hl_bq
  have hov_br := fun (E : Over w8) o => E.cell (b := w6.heap.size) o hl_br
  simp only [Tree.qs]
  repeat (refine tree_q rfl rfl ?_; go_big_quiet_step (fail); refine wpQuiet_nil ?_)
  refine tree_a rfl (fun K hK => ?_)
  go_simp
  refine (H5.out _ (below_up HW.out HT.out)).mono ?_
  rintro e w9 ⟨rfl, hb9⟩
  replace HT := Lib.hid (below_up HT.out hb9)
  replace HZS := sz HZS (show w8.heap.size ≤ w9.heap.size from HT.out.size)
  clear hb9
  refine hK _ _ ⟨⟨⟨w9, HT.out⟩, rfl⟩, ?_⟩
  clear hK K
  repeat (refine tree_q rfl rfl ?_; go_big_quiet_step (fail); refine wpQuiet_nil ?_)
  refine tree_a rfl (fun K hK => ?_)
  go_simp
  refine (H6.out _ (below_up HW.out HT.out)).mono ?_
  rintro e w10 ⟨rfl, hb9⟩
  replace HT := Lib.hid (below_up HT.out hb9)
  replace HZS := sz HZS (show w8.heap.size ≤ w10.heap.size from HT.out.size)
  clear hb9
  refine hK _ _ ⟨⟨⟨w10, HT.out⟩, rfl⟩, ?_⟩
  clear hK K
  repeat (refine tree_q rfl rfl ?_; go_big_quiet_step (fail); refine wpQuiet_nil ?_)
  refine tree_a rfl (fun K hK => ?_)
  go_simp
  refine (H7.out a1 c1 _ (HSW.out.up HT.out)).mono ?_
  rintro e w11 ⟨rfl, hb9⟩
  replace HT := Lib.hid (below_up HT.out hb9)
  replace HZS := sz HZS (show w8.heap.size ≤ w11.heap.size from HT.out.size)
  clear hb9
  refine hK _ _ ⟨⟨⟨w11, HT.out⟩, rfl⟩, ?_⟩
  clear hK K
  repeat (refine tree_q rfl rfl ?_; go_big_quiet_step (fail); refine wpQuiet_nil ?_)
  refine tree_end ?_
  clear hov_bp hl_bp hov_bq hl_bq hov_br hl_br
  clear bp_
  replace Hbp := Lib.hid (Hbp.out.up HT.out)
  clear bq_
  replace Hbq := Lib.hid (Hbq.out.up HT.out)
  clear br_
  replace Hbr := Lib.hid (Hbr.out.up HT.out)
  replace BS1 := hbu BS1 HT.out
  replace BS2 := hbu BS2 HT.out
  replace HB := hbu HB HT.out
  replace HZS := sz HZS HT.out.size
  clear HT
  have bp_ := Hbp.out.c2
  have bq_ := Hbq.out.c2
  have br_ := Hbr.out.c2
  go_wp2_with fail
  go_ret
  exact ⟨by simp, HB.out⟩
set_option maxRecDepth 100000 in
theorem sigmaSigns_calls {H : Type} (enc : TypeId × Value → H) (W : World) (base : Nat) {v0 v1 v2 v3 v4 v5 : Value} {d0 d1 d2 d3 d4 d5 : DataW H} {p0 p1 p2 p3 p4 p5 : List MemPlace}
    (h0 : DataW.Trod enc Tryz.prog W 0 (fun _ => true) true 3 v0 d0 p0) (h1 : DataW.Trod enc Tryz.prog W 0 (fun _ => true) true 9 v1 d1 p1) (h2 : DataW.Trod enc Tryz.prog W 0 (fun _ => true) true 9 v2 d2 p2) (h3 : DataW.Trod enc Tryz.prog W 0 (fun _ => true) true 9 v3 d3 p3) (h4 : DataW.Trod enc Tryz.prog W 0 (fun _ => true) true 9 v4 d4 p4) (h5 : DataW.Trod enc Tryz.prog W 0 (fun _ => true) true 25 v5 d5 p5)
    (k0 : Value.okWide Tryz.prog W .any base 3 v0) (k1 : Value.okWide Tryz.prog W .any base 9 v1) (k2 : Value.okWide Tryz.prog W .any base 9 v2) (k3 : Value.okWide Tryz.prog W .any base 9 v3) (k4 : Value.okWide Tryz.prog W .any base 9 v4) (k5 : Value.okWide Tryz.prog W .any base 25 v5)
    (_lt0 : ∀ x ∈ p0, x.block < W.heap.size) (_lt1 : ∀ x ∈ p1, x.block < W.heap.size) (_lt2 : ∀ x ∈ p2, x.block < W.heap.size) (_lt3 : ∀ x ∈ p3, x.block < W.heap.size) (_lt4 : ∀ x ∈ p4, x.block < W.heap.size) (_lt5 : ∀ x ∈ p5, x.block < W.heap.size)
    (hsz : (DataW.weightsEach Tryz.prog ([3, 9, 9, 9, 9, 25] ++ Rows.sigmaSignsSpec.plain.varTypes Tryz.prog) ([d0, d1, d2, d3, d4, d5] ++ [])).all (· ≤ reachBytes) = true) :
    Calls Tryz.prog 7 #[v0, v1, v2, v3, v4, v5] W fun e w' => e = .returned (.bool true) ∧ Below W.heap.size W w' := by
  obtain ⟨k, rfl, _, _, _⟩ := open_int Tryz.underlying3 k0 h0
  obtain ⟨c5, rfl, _⟩ := okWide_struct Tryz.underlying25 k5
  obtain ⟨f1, h1⟩ := h1
  obtain ⟨f2, h2⟩ := h2
  obtain ⟨f3, h3⟩ := h3
  obtain ⟨f4, h4⟩ := h4
  obtain ⟨f5, h5⟩ := h5
  obtain ⟨x, rfl, _⟩ := Go.ChangeMaps.open_string Tryz.underlying9 k1 ⟨f1, h1⟩
  obtain ⟨text, rfl, _⟩ := Go.ChangeMaps.open_string Tryz.underlying9 k2 ⟨f2, h2⟩
  obtain ⟨seed, rfl, _⟩ := Go.ChangeMaps.open_string Tryz.underlying9 k3 ⟨f3, h3⟩
  obtain ⟨pub, rfl, _⟩ := Go.ChangeMaps.open_string Tryz.underlying9 k4 ⟨f4, h4⟩
  obtain ⟨p, hp, hpa, hpl⟩ := open_prf f5 _ _ (Wt.arg hsz (j := 5) rfl rfl) h5
  rw [agg_of (show c5.toList = _ from hp)]
  exact sigmaSigns_any k x text seed pub p.c (Nat.lt_of_le_of_lt (Wt.str Tryz.underlying9 (Wt.arg hsz (j := 2) rfl rfl) h2) reach_lt) (Nat.lt_of_le_of_lt (Wt.str Tryz.underlying9 (Wt.arg hsz (j := 3) rfl rfl) h3) reach_lt) p.l p.aa p.ca (by omega) W hpa.s
set_option maxRecDepth 100000 in
theorem sigmaSigns_lifted (os : Os) (started : os.Started) (H : Type) (enc : TypeId × Value → H) :
    ReturnsInHanded {} Tryz.checked os 7 .any (Rows.sigmaSignsSpec.pre6 enc Tryz.prog Tryz.f7 Rows.sigmaSignsRow.domain false) (Rows.sigmaSignsSpec.post enc Tryz.prog Tryz.f7 false true false false) := by
  refine returnsInHanded_of_change_sized (C := Tryz.checked) law_own started (by kernel_rfl) Tryz.func7
    (ChangeSpec.witness6 (enc := enc) (C := Tryz.checked) false ⟨#[], #[.int .i64 0, .string ⟨#[]⟩, .string ⟨#[]⟩, .string ⟨#[]⟩, .string ⟨#[]⟩, .agg #[.string ⟨#[]⟩, .slice none 0 0]], []⟩ 8 (by kernel_rfl) (by kernel_rfl) (by kernel_rfl) (by kernel_rfl)) ?_
  intro W base args ds gs before hval0 hW _ hsz0 _
  have hsz : (DataW.weightsEach Tryz.prog (Tryz.f7.params.toList ++ Rows.sigmaSignsSpec.plain.varTypes Tryz.prog) (ds ++ gs)).all (· ≤ reachBytes) = true := hsz0
  clear hsz0
  have hval : ∀ (j : Nat) t v, Tryz.f7.params[j]? = some t → args[j]? = some v → Value.okWide Tryz.prog W .any base t v := hval0
  have hW' := hW
  obtain ⟨p, q, hA0, hV, rfl, _, _⟩ := hW
  have hA : DataW.TrodAll enc Tryz.prog W 0 (fun _ => true) true Tryz.f7.params.toList args.toList ds p := hA0
  rw [Tryz.params7] at hA hval hsz
  obtain ⟨v0, vs0, d0, ds0, p0, q0, hargs, rfl, rfl, h0, r0⟩ := trodAll_cons hA
  obtain ⟨v1, vs1, d1, ds1, p1, q1, rfl, rfl, rfl, h1, r1⟩ := trodAll_cons r0
  obtain ⟨v2, vs2, d2, ds2, p2, q2, rfl, rfl, rfl, h2, r2⟩ := trodAll_cons r1
  obtain ⟨v3, vs3, d3, ds3, p3, q3, rfl, rfl, rfl, h3, r3⟩ := trodAll_cons r2
  obtain ⟨v4, vs4, d4, ds4, p4, q4, rfl, rfl, rfl, h4, r4⟩ := trodAll_cons r3
  obtain ⟨v5, vs5, d5, ds5, p5, q5, rfl, rfl, rfl, h5, r5⟩ := trodAll_cons r4
  obtain ⟨rfl, rfl, rfl⟩ := trodAll_nil r5
  obtain rfl : args = #[v0, v1, v2, v3, v4, v5] := by cases args; simp_all
  obtain ⟨rfl, rfl⟩ := trodVars_none hV
  have lt0 : ∀ x ∈ p0, x.block < W.heap.size := by obtain ⟨m, hm⟩ := h0; exact DataW.trod_lt m _ _ _ hm
  have lt1 : ∀ x ∈ p1, x.block < W.heap.size := by obtain ⟨m, hm⟩ := h1; exact DataW.trod_lt m _ _ _ hm
  have lt2 : ∀ x ∈ p2, x.block < W.heap.size := by obtain ⟨m, hm⟩ := h2; exact DataW.trod_lt m _ _ _ hm
  have lt3 : ∀ x ∈ p3, x.block < W.heap.size := by obtain ⟨m, hm⟩ := h3; exact DataW.trod_lt m _ _ _ hm
  have lt4 : ∀ x ∈ p4, x.block < W.heap.size := by obtain ⟨m, hm⟩ := h4; exact DataW.trod_lt m _ _ _ hm
  have lt5 : ∀ x ∈ p5, x.block < W.heap.size := by obtain ⟨m, hm⟩ := h5; exact DataW.trod_lt m _ _ _ hm
  clear hA0 hval0
  refine (sigmaSigns_calls enc W base h0 h1 h2 h3 h4 h5 (hval 0 3 v0 rfl rfl) (hval 1 9 v1 rfl rfl) (hval 2 9 v2 rfl rfl) (hval 3 9 v3 rfl rfl) (hval 4 9 v4 rfl rfl) (hval 5 25 v5 rfl rfl) lt0 lt1 lt2 lt3 lt4 lt5 hsz).mono fun e W' ⟨he, bel⟩ => ?_
  subst he
  exact ⟨_, rfl, _, _, _, [], _, [], hW', trodAll_mk1 (shut_bool Tryz.underlying4 _), (trodAll_cons_mk (Below.trod law_laidOut (by kernel_rfl) (of_decide_eq_true (by kernel_rfl)) h0 bel lt0) (trodAll_cons_mk (Below.trod law_laidOut (by kernel_rfl) (of_decide_eq_true (by kernel_rfl)) h1 bel lt1) (trodAll_cons_mk (Below.trod law_laidOut (by kernel_rfl) (of_decide_eq_true (by kernel_rfl)) h2 bel lt2) (trodAll_cons_mk (Below.trod law_laidOut (by kernel_rfl) (of_decide_eq_true (by kernel_rfl)) h3 bel lt3) (trodAll_cons_mk (Below.trod law_laidOut (by kernel_rfl) (of_decide_eq_true (by kernel_rfl)) h4 bel lt4) (trodAll_cons_mk (Below.trod law_laidOut (by kernel_rfl) (of_decide_eq_true (by kernel_rfl)) h5 bel lt5) trodAll_mk0)))))), rfl, bel.frame _, fun h => by cases h⟩
theorem sigmaSigns_holds : Rows.SigmaSignsSaid :=
  OpenClaim.holds_of_wide 7 Tryz.f7 rfl rfl rfl rfl rfl rfl rfl ⟨rfl, rfl, rfl, rfl, rfl⟩ rfl rfl rfl rfl rfl (by kernel_rfl) Tryz.func7 (by kernel_rfl)
    (of_decide_eq_true (by kernel_rfl)) (by unfold Func.isWrapper; first | (rw [if_pos (by decide +kernel)]; kernel_rfl) | (rw [if_neg (by decide +kernel)]; exact ⟨rfl, rfl⟩))
    (fun os started H enc _ => sigmaSigns_lifted os started H enc)
#print axioms sigmaSigns_holds



end Go.Proofs.YtdlnnkbigeiilaaGreat
