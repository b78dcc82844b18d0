/- SigmaForks: two answers to two challenges behind the same firsts of all sets give the secrets of one of the sets. No condition. -/
import Derived.Test.YtipgjookfdkciaaZSigmaForks3

set_option maxRecDepth 100000
set_option maxHeartbeats 4000000
set_option linter.unusedVariables false
set_option linter.unusedSimpArgs false
namespace Go.Proofs.Ytipgjookfdkciaa
open Go.RowKit
def hold2 (G : GP) (x : ByteArray) (b m : ByteArray) : Bool := decide (lowN G (numOf b ^ (numOf x % G.q.m)) = lowN G (numOf m))
def hold1 (G : GP) (k : ClaimA) (x : ByteArray) : Bool := (List.zipWith (hold2 G x) k.bases k.images).all id
def holdP (G : GP) (l : List ClaimA) (xs : List ByteArray) : Bool := (List.zipWith (hold1 G) l xs).all id
theorem gSame_b (G : GP) (ok : G.Ok) (gb x y : Nat) (b : Bool) (hb : decide (lowN G x = lowN G y) = b) (w : World) (hG : GroupAt w gb G) :
  Calls Try.prog 157 #[.pointer (some ⟨gb, 0, none⟩), elV G x, elV G y] w (Gives (.bool b) w) := by
 subst hb
 exact gSame_any G ok gb x y w hG
theorem zalls_snoc {α β : Type} {f : α → β → Bool} {l : List α} {m : List β} {j : Nat} (hl : j < l.length) (hm : j < m.length) (h : ((List.zipWith f l m).take j).all id = true) (h1 : f l[j] m[j] = true) : ((List.zipWith f l m).take (j + 1)).all id = true := by
 rw [List.take_succ_eq_append_getElem (by rw [List.length_zipWith]; omega), List.all_append, h, List.getElem_zipWith, h1]
 rfl
theorem zalls_not {α β : Type} {f : α → β → Bool} {l : List α} {m : List β} {j : Nat} (hl : j < l.length) (hm : j < m.length) (h1 : f l[j] m[j] = false) : (List.zipWith f l m).all id = false := by
 rw [List.all_eq_false]
 exact ⟨(List.zipWith f l m)[j]'(by rw [List.length_zipWith]; omega), List.getElem_mem _, by rw [List.getElem_zipWith]; simp [h1]⟩
theorem zalls_end {α β : Type} {f : α → β → Bool} {l : List α} {m : List β} {n : Nat} (hl : l.length = n) (h : ((List.zipWith f l m).take n).all id = true) : (List.zipWith f l m).all id = true := by
 rwa [List.take_of_length_le (by rw [List.length_zipWith]; omega)] at h
theorem holds_any (G : GP) (ok : G.Ok) (gb : Nat) (rs : List ClaimR) (n : Nat) (hrs : rs.length = n) (a : Option Addr) (c : Nat) (xs : List ByteArray) (hxs : xs.length = n) (ax : Option Addr) (cx : Nat) (hn : n ≤ 64) (hsh : ∀ r ∈ rs, r.k.bases.length ≤ 8 ∧ r.k.images.length = r.k.bases.length) (b : Bool) (hb : holdP G (rs.map ClaimR.k) xs = b) (w : World) (hG : GroupAt w gb G) (hS : SetAt G w a rs) (hX : Sl w w.heap.size ax (xs.flatMap (limC G.q.m))) :
  Calls Try.prog 113 #[.agg #[.pointer (some ⟨gb, 0, none⟩), .slice a n c], .slice ax n cx] w (Gives (.bool b) w) := by
 have HRS := Lib.hid hrs
 have HXS := Lib.hid hxs
 have HSH := Lib.hid hsh
 have HBB := Lib.hid hb
 have HG := Lib.hid hG
 have OK := Lib.hid ok
 have HS := Lib.hid hS
 have HX := Lib.hid hX
 clear hrs hxs hsh hb hG ok hS hX
 unfold Gives
 go_enter Try.func113, Try.ntmps113
 go_wp2_with fail
 obtain ⟨w1, hq1, hb9, hz9, Hbs⟩ := new1 w 157 [.pointer (some ⟨gb, 0, none⟩), .slice a n c]
 rw [hq1]
 clear hq1
 replace HG := Lib.hid (HG.out.up hb9)
 have HB := Lib.hid hb9
 have HZS := hz9
 clear hb9 hz9
 have bs_ := Hbs.out.c2
 have BL := Lib.hid (Below.refl w1.heap.size w1)
 go_wp2_with fail
 go_loopw [12] (fun i wr => ∃ j : Nat, j ≤ n ∧ i = .int .i64 j ∧ Hid (Below w1.heap.size w1 wr) ∧ Hid (((List.zipWith (hold1 G) (rs.map ClaimR.k) xs).take j).all id = true)) (fun i _ => n - (intOf i).toNat)
 case atStart => exact ⟨0, Nat.zero_le _, rfl, BL, rfl⟩
 case round =>
  obtain ⟨j, hj, rfl, HL9, HAL⟩ := hrel
  have hb9 := HL9.out
  clear HL9 bs_
  replace Hbs := Lib.hid (Hbs.out.up hb9)
  replace HG := Lib.hid (HG.out.up hb9)
  replace BL := hbu BL hb9
  replace HB := hbu HB hb9
  replace HZS := sz HZS hb9.size
  clear hb9
  have bs_ := Hbs.out.c2
  by_cases hjn : j < n
  ·have hjr : j < rs.length := by rw [HRS.out]; exact hjn
   have hjx : j < xs.length := by rw [HXS.out]; exact hjn
   obtain ⟨ba, oa, rfl, hba⟩ := HS.out.at j hjr
   obtain ⟨bx, ox, rfl, hbx0⟩ := HX.out.adr (flat_ne (limC_len _) (by omega) (List.length_pos_iff.1 (by omega)))
   have HSA := Lib.hid (HS.out.up HB.out)
   have hcx := ((HX.out.up HB.out).elemS (limC_len _) (by omega) j hjx).2
   have hca := HSA.out.cells (Below.refl _ _) j hjr
   have HAT := Lib.hid (HSA.out.e _ (List.getElem_mem hjr))
   have HSJ := Lib.hid (HSH.out _ (List.getElem_mem hjr))
   have HSN := Lib.hid (zalls_snoc (f := hold1 G) (l := rs.map ClaimR.k) (m := xs) (by simpa using hjr) hjx HAL.out)
   have HNO := Lib.hid (zalls_not (f := hold1 G) (l := rs.map ClaimR.k) (m := xs) (by simpa using hjr) hjx)
   rw [List.getElem_map] at HSN HNO
   have HPW := Lib.hid (fun (w1 : World) (x : Nat) (h1 : GroupAt w1 gb G) (h2 : SetAt G w1 (some ⟨ba, oa, none⟩) rs) => powers_any G OK.out gb rs (some ⟨ba, oa, none⟩) c j hjr x HSJ.out.1 w1 h1 h2)
   rw [HRS.out] at HPW
   generalize rs[j] = r at *
   generalize xs[j] = x at *
   have hca_0 := hca 0 _ rfl
   rw [Nat.add_zero] at hca_0
   have hca_1 := hca 1 _ rfl
   have hca_2 := hca 2 _ rfl
   clear hca
   have hcx_0 := hcx 0 _ rfl
   rw [Nat.add_zero] at hcx_0
   have hcx_1 := hcx 1 _ rfl
   have hcx_2 := hcx 2 _ rfl
   have hcx_3 := hcx 3 _ rfl
   clear hcx
   have hbx := Nat.lt_of_lt_of_le hbx0 HB.out.size
   have BR := Lib.hid (Below.refl wr.heap.size wr)
   have o2_bs_ := bs_; clear bs_
   obtain ⟨w2, hq2, hb9, hz9, Hbc⟩ := new1 wr 199 [.pointer (some ⟨r.pb, r.po, none⟩), .slice (some ⟨r.bb, r.bo, none⟩) r.k.bases.length r.bc, .slice (some ⟨r.ib, r.io, none⟩) r.k.images.length r.ic]
   replace Hbs := Lib.hid (Hbs.out.up hb9)
   replace HG := Lib.hid (HG.out.up hb9)
   replace BL := hbu BL hb9
   replace BR := hbu BR hb9
   replace HB := hbu HB hb9
   replace HZS := sz HZS hz9.out
   clear hb9 hz9
   have bs_ := Hbs.out.c2
   have bc_ := Hbc.out.c3
   go_wp2_with fail
   clear hq2 o2_bs_
   have hbx' := Nat.lt_of_lt_of_le hbx BR.out.size
   have hcx_0' := (BR.out.cell (p := ⟨bx, ox + j * 4, none⟩) hbx).trans hcx_0
   have hcx_1' := (BR.out.cell (p := ⟨bx, ox + j * 4 + 1, none⟩) hbx).trans hcx_1
   have hcx_2' := (BR.out.cell (p := ⟨bx, ox + j * 4 + 2, none⟩) hbx).trans hcx_2
   have hcx_3' := (BR.out.cell (p := ⟨bx, ox + j * 4 + 3, none⟩) hbx).trans hcx_3
   clear hca_0 hca_1 hca_2 hcx_0 hcx_1 hcx_2 hcx_3
   have HT := Lib.hid (show Below w2.heap.size w2 w2.drew from (Below.refl _ _).drew)
   have hl_bs := Hbs.out.lt
   have hl_bc := Hbc.out.lt
   refine wp_region_tree (fun wq9 => ∃ E : Over w2, wq9 = E.w) ((.qs [0, 1, 2, 3, 4, 5, 8] (.a 6 (.qs [7] .done)))) (by kernel_rfl) (by kernel_rfl) (fun _ _ d _ _ h => by cases d <;> exact h) ⟨⟨_, HT.out⟩, rfl⟩ ?_
   have hov_bs := fun (E : Over w2) o => E.cell (b := w.heap.size) o hl_bs
   have hov_bc := fun (E : Over w2) o => E.cell (b := wr.heap.size) o hl_bc
   have hov_bx := fun (E : Over w2) o => E.cell (b := bx) o hbx'
   simp only [Tree.qs]
   repeat (refine tree_q rfl rfl ?_; go_big_quiet_step (fail); refine wpQuiet_nil ?_)
   refine tree_a rfl (fun K hK => ?_)
   go_simp
   refine (HPW.out _ (numOf x) (HG.out.up HT.out) (HSA.out.up (below_up BR.out HT.out))).mono ?_
   rintro e w3 ⟨a9, c9, rfl, hb9, hs9⟩
   replace HT := Lib.hid (below_up HT.out hb9)
   replace HZS := sz HZS (show w2.heap.size ≤ w3.heap.size from HT.out.size)
   clear hb9
   have HP := Lib.hid hs9
   clear hs9
   refine hK _ _ ⟨⟨⟨w3, HT.out⟩, rfl⟩, ?_⟩
   clear hK K
   repeat (refine tree_q rfl rfl ?_; go_big_quiet_step (fail); refine wpQuiet_nil ?_)
   refine tree_end ?_
   clear hov_bs hl_bs hov_bc hl_bc hov_bx bs_
   replace Hbs := Lib.hid (Hbs.out.up HT.out)
   clear bc_
   replace Hbc := Lib.hid (Hbc.out.up HT.out)
   replace HG := Lib.hid (HG.out.up HT.out)
   replace BL := hbu BL HT.out
   replace BR := hbu BR HT.out
   replace HB := hbu HB HT.out
   replace HZS := sz HZS HT.out.size
   clear HT
   have bs_ := Hbs.out.c2
   have bc_ := Hbc.out.c3
   clear hcx_0' hcx_1' hcx_2' hcx_3' hbx'
   have hm8 := HSJ.out.1
   obtain ⟨wo, rfl⟩ : ∃ wo : World, wo = wr := ⟨_, rfl⟩
   have BI := Lib.hid (Below.refl w3.heap.size w3)
   go_wp2_with fail
   go_loopw [25] (fun i wr => ∃ t : Nat, t ≤ r.k.bases.length ∧ i = .int .i64 t ∧ Hid (Below w3.heap.size w3 wr) ∧ Hid (((List.zipWith (hold2 G x) r.k.bases r.k.images).take t).all id = true)) (fun i _ => r.k.bases.length - (intOf i).toNat)
   case atStart => exact ⟨0, Nat.zero_le _, rfl, BI, rfl⟩
   case round =>
    obtain ⟨t, ht, rfl, HL9, HAI⟩ := hrel
    have hb9 := HL9.out
    clear HL9 bs_
    replace Hbs := Lib.hid (Hbs.out.up hb9)
    clear bc_
    replace Hbc := Lib.hid (Hbc.out.up hb9)
    replace HG := Lib.hid (HG.out.up hb9)
    replace BL := hbu BL hb9
    replace BR := hbu BR hb9
    replace BI := hbu BI hb9
    replace HB := hbu HB hb9
    replace HZS := sz HZS hb9.size
    clear hb9
    have bs_ := Hbs.out.c2
    have bc_ := Hbc.out.c3
    by_cases htm : t < r.k.bases.length
    ·have hti : t < r.k.images.length := by rw [HSJ.out.2]; exact htm
     obtain ⟨b9, o9, rfl, hb90, hb9', hcp⟩ := HP.out.elemUp BI.out (powC_len G _) (by omega) t htm
     have hci := ((HAT.out.i.up BR.out).elemS (limC_len _) (by omega) t hti).2
     have hil := Nat.lt_of_lt_of_le HAT.out.il BR.out.size
     have HTN := Lib.hid (zalls_snoc (f := hold2 G x) htm hti HAI.out)
     have HTO := Lib.hid (zalls_not (f := hold2 G x) htm hti)
     generalize r.k.bases[t] = bb at *
     generalize r.k.images[t] = mm at *
     obtain ⟨q, hq⟩ : ∃ q, hold2 G x bb mm = q := ⟨_, rfl⟩
     have HQ := Lib.hid hq
     clear hq
     have hcp_0 := hcp 0 _ rfl
     rw [Nat.add_zero] at hcp_0
     have hcp_1 := hcp 1 _ rfl
     have hcp_2 := hcp 2 _ rfl
     have hcp_3 := hcp 3 _ rfl
     clear hcp
     have hci_0 := hci 0 _ rfl
     rw [Nat.add_zero] at hci_0
     have hci_1 := hci 1 _ rfl
     have hci_2 := hci 2 _ rfl
     have hci_3 := hci 3 _ rfl
     clear hci
     have BQ := Lib.hid (Below.refl wr.heap.size wr)
     have o4_bs_ := bs_; clear bs_
     have o4_bc_ := bc_; clear bc_
     obtain ⟨w4, hq4, hb9, hz9, Hbp⟩ := new1 wr 111 [.int .u64 (dig (mont G.p.m (numOf bb ^ (numOf x % G.q.m))) 0 : Int), .int .u64 (dig (mont G.p.m (numOf bb ^ (numOf x % G.q.m))) 1 : Int), .int .u64 (dig (mont G.p.m (numOf bb ^ (numOf x % G.q.m))) 2 : Int), .int .u64 (dig (mont G.p.m (numOf bb ^ (numOf x % G.q.m))) 3 : Int)]
     replace Hbs := Lib.hid (Hbs.out.up hb9)
     replace Hbc := Lib.hid (Hbc.out.up hb9)
     replace HG := Lib.hid (HG.out.up hb9)
     replace BL := hbu BL hb9
     replace BR := hbu BR hb9
     replace BI := hbu BI hb9
     replace BQ := hbu BQ hb9
     replace HB := hbu HB hb9
     replace HZS := sz HZS hz9.out
     clear hb9 hz9
     have bs_ := Hbs.out.c2
     have bc_ := Hbc.out.c3
     have bp_ := Hbp.out.c4
     go_wp2_with fail
     clear hq4 o4_bc_ o4_bs_
     have hil' := Nat.lt_of_lt_of_le hil BQ.out.size
     have hci_0' := (BQ.out.cell (p := ⟨r.ib, r.io + t * 4, none⟩) hil).trans hci_0
     have hci_1' := (BQ.out.cell (p := ⟨r.ib, r.io + t * 4 + 1, none⟩) hil).trans hci_1
     have hci_2' := (BQ.out.cell (p := ⟨r.ib, r.io + t * 4 + 2, none⟩) hil).trans hci_2
     have hci_3' := (BQ.out.cell (p := ⟨r.ib, r.io + t * 4 + 3, none⟩) hil).trans hci_3
     clear hci_0 hci_1 hci_2 hci_3 hcp_0 hcp_1 hcp_2 hcp_3
     have hl_bs := Hbs.out.lt
     have hl_bc := Hbc.out.lt
     have hl_bp := Hbp.out.lt
     refine wp_region_over (by kernel_rfl) (by kernel_rfl) ?_
     have hov_bs := fun (E : Over w4) o => E.cell (b := w.heap.size) o hl_bs
     have hov_bc := fun (E : Over w4) o => E.cell (b := wo.heap.size) o hl_bc
     have hov_bp := fun (E : Over w4) o => E.cell (b := wr.heap.size) o hl_bp
     have hov_r_ib := fun (E : Over w4) o => E.cell (b := r.ib) o hil'
     repeat (go_big_quiet_step (first | (go_at_call 157; exact calls_over (gSame_b G OK.out gb (numOf bb ^ (numOf x % G.q.m)) (numOf mm) q HQ.out _ (HG.out.up (Over.h _))))))
     all_goals (try unfold elV limbV)
     repeat (go_big_quiet_step (first | (go_at_call 157; exact calls_over (gSame_b G OK.out gb (numOf bb ^ (numOf x % G.q.m)) (numOf mm) q HQ.out _ (HG.out.up (Over.h _))))))
     all_goals (try unfold elV limbV)
     repeat (go_big_quiet_step (first | (go_at_call 157; exact calls_over (gSame_b G OK.out gb (numOf bb ^ (numOf x % G.q.m)) (numOf mm) q HQ.out _ (HG.out.up (Over.h _))))))
     all_goals (try unfold ciphV)
     refine wpQuiet_nil ?_
     rintro _ ⟨E, rfl⟩
     clear hov_bs hl_bs hov_bc hl_bc hov_bp hl_bp hov_r_ib bs_
     replace Hbs := Lib.hid (Hbs.out.up E.h)
     clear bc_
     replace Hbc := Lib.hid (Hbc.out.up E.h)
     clear bp_
     replace Hbp := Lib.hid (Hbp.out.up E.h)
     replace HG := Lib.hid (HG.out.up E.h)
     replace BL := hbu BL E.h
     replace BR := hbu BR E.h
     replace BI := hbu BI E.h
     replace BQ := hbu BQ E.h
     replace HB := hbu HB E.h
     replace HZS := sz HZS E.h.size
     obtain ⟨w5, hq9⟩ : ∃ W9 : World, E.w = W9 := ⟨_, rfl⟩
     rw [hq9] at Hbs Hbc Hbp HG BL BR BI BQ HB HZS ⊢
     clear hq9 E
     have bs_ := Hbs.out.c2
     have bc_ := Hbc.out.c3
     have bp_ := Hbp.out.c4
     cases q
     ·obtain rfl : b = false := by rw [← HBB.out]; exact HNO.out (HTO.out HQ.out)
      go_wp2_with fail
      go_ret
      exact ⟨rfl, HB.out⟩
     ·go_wp2_with fail
      go_roundw
      case rel => exact ⟨t + 1, by omega, by go_num, BI, HTN.out HQ.out⟩
      case measure => simp [intOf]; omega
    ·have htm' : t = r.k.bases.length := by omega
     subst htm'
     have HHT := Lib.hid (HSN.out (zalls_end rfl HAI.out))
     go_wp2_with fail
     go_roundw
     case rel => exact ⟨j + 1, by omega, by go_num, BL, HHT⟩
     case measure => simp [intOf]; omega
  ·have hjn' : j = n := by omega
   subst hjn'
   obtain rfl : b = true := by rw [← HBB.out]; exact zalls_end (by rw [List.length_map]; exact HRS.out) HAL.out
   go_wp2_with fail
   go_ret
   exact ⟨rfl, HB.out⟩
end Go.Proofs.Ytipgjookfdkciaa
namespace Go.Proofs.Ytipgjookfdkciaa
open Go.RowKit
def claim0 : ClaimA := ⟨none, 0, [], none, 0, []⟩
def valF (G : GP) (l : List ClaimA) (xs : List ByteArray) (i t : Nat) : Nat := numOf ((l.getD i claim0).bases.getD t ⟨#[]⟩) ^ (numOf (xs.getD i ⟨#[]⟩) % G.q.m)
def valB (G : GP) (y : Nat) (l : List ClaimA) (xs : List ByteArray) (i t : Nat) : Nat := valF G l xs i t * numOf ((l.getD i claim0).images.getD t ⟨#[]⟩) ^ (y % G.q.m)
theorem valF_eq (G : GP) {rs : List ClaimR} {xs : List ByteArray} {i t : Nat} (hi : i < rs.length) (hx : i < xs.length) (ht : t < rs[i].k.bases.length) : valF G (rs.map ClaimR.k) xs i t = numOf rs[i].k.bases[t] ^ (numOf xs[i] % G.q.m) := by
 unfold valF
 simp [List.getD, hi, hx, ht]
theorem valB_eq (G : GP) (y : Nat) {rs : List ClaimR} {xs : List ByteArray} {i t : Nat} (hi : i < rs.length) (hx : i < xs.length) (ht : t < rs[i].k.bases.length) (hti : t < rs[i].k.images.length) : valB G y (rs.map ClaimR.k) xs i t = numOf rs[i].k.bases[t] ^ (numOf xs[i] % G.q.m) * numOf rs[i].k.images[t] ^ (y % G.q.m) := by
 unfold valB
 rw [valF_eq G hi hx ht]
 simp [List.getD, hi, hti]
def lens (l : List ClaimA) : List Nat := l.map fun k => k.bases.length
theorem back_any (G : GP) (ok : G.Ok) (gb y : Nat) (hy : y ≤ G.q.m) (rs : List ClaimR) (n : Nat) (hrs : rs.length = n) (hn : n ≤ 64) (hm8 : ∀ r ∈ rs, r.k.bases.length ≤ 8 ∧ r.k.images.length = r.k.bases.length) (a : Option Addr) (c : Nat) (xs : List ByteArray) (hxs : xs.length = n) (ax : Option Addr) (cx : Nat) (w : World) (hG : GroupAt w gb G) (hS : SetAt G w a rs) (hX : Sl w w.heap.size ax (xs.flatMap (limC G.q.m))) :
  Calls Try.prog 118 #[.agg #[.pointer (some ⟨gb, 0, none⟩), .slice a n c], scV G y, .slice ax n cx] w (RowsF (eachA G (valB G (G.q.m - y) (rs.map ClaimR.k) xs) (lens (rs.map ClaimR.k)) n) w) := by
 have HRS := Lib.hid hrs
 have HXS := Lib.hid hxs
 have HM8 := Lib.hid hm8
 have HG := Lib.hid hG
 have OK := Lib.hid ok
 have HS := Lib.hid hS
 have HX := Lib.hid hX
 have HY := Lib.hid hy
 have HML := Lib.hid (show rs.map (fun r => r.k.bases.length) = lens (rs.map ClaimR.k) by unfold lens; rw [List.map_map]; rfl)
 have HLG := Lib.hid (show ∀ i (hi : i < rs.length), (lens (rs.map ClaimR.k)).getD i 0 = rs[i].k.bases.length from fun i hi => by unfold lens; simp [List.getD, hi])
 clear hrs hxs hm8 hG ok hS hX hy
 unfold scV limbV
 go_enter Try.func118, Try.ntmps118
 go_wp2_with fail
 obtain ⟨w1, hq1, hb9, hz9, Hbs, Hbc, Hbx⟩ := new3 w 157 [.pointer (some ⟨gb, 0, none⟩), .slice a n c] 91 [.int .u64 (dig (mont G.q.m y) 0 : Int), .int .u64 (dig (mont G.q.m y) 1 : Int), .int .u64 (dig (mont G.q.m y) 2 : Int), .int .u64 (dig (mont G.q.m y) 3 : Int)] 84 [.slice ax n cx]
 rw [hq1]
 clear hq1
 replace HG := Lib.hid (HG.out.up hb9)
 have HB := Lib.hid hb9
 have HZS := hz9
 clear hb9 hz9
 have bs_ := Hbs.out.c2
 have bc_ := Hbc.out.c4
 have bx_ := Hbx.out.c1
 go_wp2_with fail
 refine (gNeg_any G OK.out gb y HY.out w1 HG.out).mono ?_
 rintro e w2 ⟨rfl, hb9⟩
 clear bs_
 replace Hbs := Lib.hid (Hbs.out.up hb9)
 clear bc_
 replace Hbc := Lib.hid (Hbc.out.up hb9)
 clear bx_
 replace Hbx := Lib.hid (Hbx.out.up hb9)
 replace HG := Lib.hid (HG.out.up hb9)
 replace HB := hbu HB hb9
 replace HZS := sz HZS hb9.size
 clear hb9
 have bs_ := Hbs.out.c2
 have bc_ := Hbc.out.c4
 have bx_ := Hbx.out.c1
 unfold scV limbV
 have o3_bs_ := bs_; clear bs_
 have o3_bc_ := bc_; clear bc_
 have o3_bx_ := bx_; clear bx_
 obtain ⟨w3, hq3, hb9, hz9, Hbm⟩ := new1 w2 91 [.int .u64 (dig (mont G.q.m (G.q.m - y)) 0 : Int), .int .u64 (dig (mont G.q.m (G.q.m - y)) 1 : Int), .int .u64 (dig (mont G.q.m (G.q.m - y)) 2 : Int), .int .u64 (dig (mont G.q.m (G.q.m - y)) 3 : Int)]
 replace Hbs := Lib.hid (Hbs.out.up hb9)
 replace Hbc := Lib.hid (Hbc.out.up hb9)
 replace Hbx := Lib.hid (Hbx.out.up hb9)
 replace HG := Lib.hid (HG.out.up hb9)
 replace HB := hbu HB hb9
 replace HZS := sz HZS hz9.out
 clear hb9 hz9
 have bs_ := Hbs.out.c2
 have bc_ := Hbc.out.c4
 have bx_ := Hbx.out.c1
 have bm_ := Hbm.out.c4
 go_wp2_with fail
 clear hq3 o3_bx_ o3_bc_ o3_bs_
 have HB9 := Lib.hid HB.out.size
 refine (eachBack G OK.out gb rs n HRS.out hn (lens (rs.map ClaimR.k)) HML.out (fun r hr => (HM8.out r hr).1) a c _ _ _ (valB G (G.q.m - y) (rs.map ClaimR.k) xs) w3 HG.out (HS.out.up HB.out) (fun w9 hb9 i t hi ht => by rw [HLG.out i (by rw [HRS.out]; exact hi)] at ht; have hti := (HM8.out _ (List.getElem_mem (show i < rs.length by rw [HRS.out]; exact hi))).2; rw [valB_eq G _ (by rw [HRS.out]; exact hi) (by rw [HXS.out]; exact hi) ht (by omega)]; exact back1_any G OK.out gb _ _ _ (G.q.m - y) rs n a c xs ax cx i t (by rw [HRS.out]; exact hi) (by rw [HXS.out]; exact hi) ht (by omega) w9 (HG.out.up hb9) (HS.out.up (below_up HB.out hb9)) (HX.out.up (below_up HB.out hb9)) HRS.out HXS.out (Hbs.out.up hb9) (Hbx.out.up hb9) (Hbm.out.up hb9))).mono ?_
 rintro e w4 ⟨hb9, a9, c9, ro, rfl, hm9, hr9, hz9⟩
 clear bs_
 replace Hbs := Lib.hid (Hbs.out.up hb9)
 clear bc_
 replace Hbc := Lib.hid (Hbc.out.up hb9)
 clear bx_
 replace Hbx := Lib.hid (Hbx.out.up hb9)
 clear bm_
 replace Hbm := Lib.hid (Hbm.out.up hb9)
 replace HG := Lib.hid (HG.out.up hb9)
 replace HB := hbu HB hb9
 replace HZS := sz HZS hb9.size
 have HMR := Lib.hid hm9
 clear hm9
 have HRR := Lib.hid hr9
 clear hr9
 have HZR := Lib.hid hz9
 clear hz9 hb9
 have bs_ := Hbs.out.c2
 have bc_ := Hbc.out.c4
 have bx_ := Hbx.out.c1
 have bm_ := Hbm.out.c4
 go_wp2_with fail
 go_ret
 exact ⟨HB.out, a9, c9, ro, rfl, HMR.out, HRR.out, fresh_le HZR.out HB9.out⟩
end Go.Proofs.Ytipgjookfdkciaa
namespace Go.Proofs.Ytipgjookfdkciaa
open Go.RowKit
def openK (k : Int) (l : List ClaimA) (xs : List ByteArray) : Nat := if 1 ≤ k ∧ k ≤ 3 then openE (grp k.toNat) l xs else 1
def holdK (k : Int) (l : List ClaimA) (xs : List ByteArray) : Bool := decide (openK k l xs = 0) && holdP (grp k.toNat) l xs
def backE (k : Int) (l : List ClaimA) (ch : ByteArray) (xs : List ByteArray) : Nat := if openK k l xs ≠ 0 then openK k l xs else if isSc (grp k.toNat).q.m (grp k.toNat).size ch = true then 0 else 6
def backK (k : Int) (l : List ClaimA) (ch : ByteArray) (xs : List ByteArray) : List (List ByteArray) := if backE k l ch xs = 0 then eachA (grp k.toNat) (valB (grp k.toNat) ((grp k.toNat).q.m - numOf ch) l xs) (lens l) l.length else []
def RowsE (er : Int) (L : List (List ByteArray)) (w : World) (e : Ending) (w' : World) : Prop :=
 Below w.heap.size w w' ∧ ∃ a c ro, e = .returned (.tuple #[.slice a L.length c, .int .i64 er]) ∧ ro.map RowA.l = L ∧ RowsAt w' a ro ∧ (∀ r ∈ ro, r.Ok)
theorem rowsE_none (er : Int) {w w' : World} (h : Below w.heap.size w w') : RowsE er [] w (.returned (.tuple #[.slice none 0 0, .int .i64 er])) w' := ⟨h, none, 0, [], rfl, rfl, ⟨Or.inl rfl, fun _ h => by cases h⟩, fun _ h => by cases h⟩
theorem open_any (k : Int) (l : List ClaimA) (al : Option Addr) (cl : Nat) (xs : List ByteArray) (ax : Option Addr) (cx : Nat) (hn : xs.length ≤ 8796093022207) (w : World) (hC : ClaimsAt w al l) (hS : Sl w w.heap.size ax (xs.map Value.string)) :
  Calls Try.prog 112 #[.int .i64 k, .slice al l.length cl, .slice ax xs.length cx] w (OpenS (grp k.toNat) (openK k l xs) l xs w) := by
 unfold openK
 by_cases hk : 1 ≤ k ∧ k ≤ 3
 ·rw [if_pos hk]
  obtain ⟨j, rfl⟩ : ∃ j : Nat, k = j := ⟨k.toNat, by omega⟩
  exact open_some j (by omega) (by omega) l al cl xs ax cx hn w hC hS
 ·rw [if_neg hk]
  refine (open_none k hk l xs _ _ w).mono ?_
  rintro e w' ⟨hb, p, q, n9, c9, v, he, _⟩
  exact ⟨hb, p, q, n9, c9, v, he, fun h => by cases h⟩
theorem openK_ok {k : Int} {l : List ClaimA} {xs : List ByteArray} (h : openK k l xs = 0) : (1 ≤ k ∧ k ≤ 3) ∧ shapeE l = 0 ∧ l.all (cElems (grp k.toNat)) = true ∧ xs.length = l.length ∧ xs.all (isSc (grp k.toNat).q.m (grp k.toNat).size) = true := by
 unfold openK at h
 by_cases hk : 1 ≤ k ∧ k ≤ 3
 ·rw [if_pos hk] at h
  unfold openE at h
  by_cases hw : wrongE (grp k.toNat) l = 0
  ·rw [if_neg (by simpa using hw)] at h
   unfold scE at h
   by_cases hl : xs.length = l.length
   ·rw [if_pos hl] at h
    by_cases ha : xs.all (isSc (grp k.toNat).q.m (grp k.toNat).size) = true
    ·exact ⟨hk, (wrong_ok hw).1, (wrong_ok hw).2, hl, ha⟩
    ·rw [if_neg ha] at h; cases h
   ·rw [if_neg hl] at h; cases h
  ·rw [if_pos hw] at h; exact absurd h hw
 ·rw [if_neg hk] at h; cases h
theorem sHolds_any (k : Int) (l : List ClaimA) (al : Option Addr) (cl : Nat) (xs : List ByteArray) (ax : Option Addr) (cx : Nat) (hn : xs.length ≤ 8796093022207) (w : World) (hC : ClaimsAt w al l) (hS : Sl w w.heap.size ax (xs.map Value.string)) :
  Calls Try.prog 44 #[.int .i64 k, .slice al l.length cl, .slice ax xs.length cx] w (Gives (.bool (holdK k l xs)) w) := by
 have HC := Lib.hid hC
 have HS := Lib.hid hS
 obtain ⟨b, hb⟩ : ∃ b, holdK k l xs = b := ⟨_, rfl⟩
 rw [hb]
 have HO := Lib.hid (open_any k l al cl xs ax cx hn w hC hS)
 obtain ⟨z, hz⟩ : ∃ z, openK k l xs = z := ⟨_, rfl⟩
 rw [hz] at HO
 clear hC hS
 unfold holdK at hb
 rw [hz] at hb
 have HBB := Lib.hid hb
 clear hb
 unfold Gives
 by_cases h0 : z = 0
 ·subst h0
  go_enter Try.func44, Try.ntmps44
  go_wp2_with fail
  refine (HO.out).mono ?_
  rintro e w1 ⟨hb9, pp, qa, qn, qc, v, rfl, hok⟩
  have HB := Lib.hid hb9
  have HZS := Lib.hid hb9.size
  have HOK := Lib.hid hok
  clear hok hb9
  obtain ⟨gb, rs, a, c, a', c', e1, e2, rfl, hrk, hg9, hs9, hp9, hx9⟩ := HOK.out rfl
  obtain rfl := Value.pointer.inj e1
  obtain ⟨rfl, rfl, rfl⟩ := Value.slice.inj e2
  obtain ⟨hk9, hsh, hel, hxl, hxa⟩ := openK_ok hz
  have HRK := Lib.hid hrk
  have HRL := Lib.hid (show rs.length = l.length by rw [← hrk, List.length_map])
  have HG := Lib.hid hg9
  have HST := Lib.hid hs9
  have HXX := Lib.hid hx9
  have HXL := Lib.hid hxl
  have HXA := Lib.hid hxa
  have hl64 := (shape_ok hsh).2.1
  have HSHP := Lib.hid (show ∀ r ∈ rs, r.k.bases.length ≤ 8 ∧ r.k.images.length = r.k.bases.length from fun r hr => by
   have h9 := (shape_ok hsh).2.2 r.k (by rw [← hrk]; exact List.mem_map.2 ⟨r, hr, rfl⟩)
   exact ⟨h9.2.1, h9.2.2⟩)
  have OK := Lib.hid (grp_ok k.toNat (by omega) (by omega))
  rw [show xs.length = rs.length by rw [HXL.out, HRL.out]]
  clear hrk hg9 hs9 hp9 hx9 hsh hel hxl hxa HOK
  have BS := Lib.hid (Below.refl w1.heap.size w1)
  obtain ⟨w2, hq2, hb9, hz9, Hbs⟩ := new1 w1 157 [.pointer (some ⟨gb, 0, none⟩), .slice qa rs.length qc]
  replace BS := hbu BS hb9
  replace HB := hbu HB hb9
  replace HZS := sz HZS hz9.out
  clear hb9 hz9
  have bs_ := Hbs.out.c2
  go_wp2_with fail
  clear hq2
  refine (holds_any (grp k.toNat) OK.out gb rs rs.length rfl qa qc xs (by rw [HXL.out, HRL.out]) a' c' (by rw [HRL.out]; exact hl64) HSHP.out b (by rw [HRK.out, ← HBB.out]; simp) w2 (HG.out.up BS.out) (HST.out.up BS.out) (HXX.out.up BS.out)).mono ?_
  rintro e w3 ⟨rfl, hb9⟩
  clear bs_
  replace Hbs := Lib.hid (Hbs.out.up hb9)
  replace BS := hbu BS hb9
  replace HB := hbu HB hb9
  replace HZS := sz HZS hb9.size
  clear hb9
  have bs_ := Hbs.out.c2
  go_wp2_with fail
  go_ret
  exact ⟨rfl, HB.out⟩
 ·obtain rfl : b = false := by rw [← HBB.out, decide_eq_false h0]; rfl
  have hd : ((z : Int) == 0) = false := by simp; omega
  clear h0 hz
  go_enter Try.func44, Try.ntmps44
  go_wp2_with fail
  refine (HO.out).mono ?_
  rintro e w1 ⟨hb9, pp, qa, qn, qc, v, rfl, _⟩
  have HB := Lib.hid hb9
  have HZS := Lib.hid hb9.size
  clear hb9
  obtain ⟨w2, hq2, hb9, hz9, Hbs⟩ := new1 w1 157 [.pointer pp, .slice qa qn qc]
  replace HB := hbu HB hb9
  replace HZS := sz HZS hz9.out
  clear hb9 hz9
  have bs_ := Hbs.out.c2
  go_wp2_with fail
  clear hq2
  go_ret
  exact ⟨rfl, HB.out⟩
theorem sBack_any (k : Int) (l : List ClaimA) (al : Option Addr) (cl : Nat) (ch : ByteArray) (xs : List ByteArray) (ax : Option Addr) (cx : Nat) (hn : xs.length ≤ 8796093022207) (w : World) (hC : ClaimsAt w al l) (hS : Sl w w.heap.size ax (xs.map Value.string)) :
  Calls Try.prog 49 #[.int .i64 k, .slice al l.length cl, .string ch, .slice ax xs.length cx] w (RowsE (backE k l ch xs : Int) (backK k l ch xs) w) := by
 have HC := Lib.hid hC
 have HS := Lib.hid hS
 have HO := Lib.hid (open_any k l al cl xs ax cx hn w hC hS)
 obtain ⟨er, her⟩ : ∃ er, backE k l ch xs = er := ⟨_, rfl⟩
 obtain ⟨L, hL⟩ : ∃ L, backK k l ch xs = L := ⟨_, rfl⟩
 obtain ⟨z, hz⟩ : ∃ z, openK k l xs = z := ⟨_, rfl⟩
 obtain ⟨bc, hbc⟩ : ∃ b, isSc (grp k.toNat).q.m (grp k.toNat).size ch = b := ⟨_, rfl⟩
 have HZ := Lib.hid (show z ≠ 0 → er = z ∧ L = [] from fun h => by
  have e1 : er = z := by rw [← her]; unfold backE; rw [hz, if_pos h]
  exact ⟨e1, by rw [← hL]; unfold backK; rw [her, e1, if_neg h]⟩)
 have HF := Lib.hid (show z = 0 → bc = false → er = 6 ∧ L = [] from fun h g => by
  have e1 : er = 6 := by rw [← her]; unfold backE; rw [hz, if_neg (by simpa using h), hbc, g, if_neg (by decide)]
  exact ⟨e1, by rw [← hL]; unfold backK; rw [her, e1, if_neg (by decide)]⟩)
 have HT := Lib.hid (show z = 0 → bc = true → er = 0 ∧ L = eachA (grp k.toNat) (valB (grp k.toNat) ((grp k.toNat).q.m - numOf ch) l xs) (lens l) l.length from fun h g => by
  have e1 : er = 0 := by rw [← her]; unfold backE; rw [hz, if_neg (by simpa using h), hbc, g, if_pos rfl]
  exact ⟨e1, by rw [← hL]; unfold backK; rw [her, e1, if_pos rfl]⟩)
 rw [her, hL]
 rw [hz] at HO
 have HBC := Lib.hid hbc
 clear hC hS hbc her hL
 by_cases h0 : z = 0
 ·subst h0
  go_enter Try.func49, Try.ntmps49
  go_wp2_with fail
  refine (HO.out).mono ?_
  rintro e w1 ⟨hb9, pp, qa, qn, qc, v, rfl, hok⟩
  have HB := Lib.hid hb9
  have HZS := Lib.hid hb9.size
  have HOK := Lib.hid hok
  clear hok hb9
  obtain ⟨gb, rs, a, c, a', c', e1, e2, rfl, hrk, hg9, hs9, hp9, hx9⟩ := HOK.out rfl
  obtain rfl := Value.pointer.inj e1
  obtain ⟨rfl, rfl, rfl⟩ := Value.slice.inj e2
  obtain ⟨hk9, hsh, hel, hxl, hxa⟩ := openK_ok hz
  have HRK := Lib.hid hrk
  have HRL := Lib.hid (show rs.length = l.length by rw [← hrk, List.length_map])
  have HG := Lib.hid hg9
  have HST := Lib.hid hs9
  have HXX := Lib.hid hx9
  have HXL := Lib.hid hxl
  have HXA := Lib.hid hxa
  have hl64 := (shape_ok hsh).2.1
  have HSHP := Lib.hid (show ∀ r ∈ rs, r.k.bases.length ≤ 8 ∧ r.k.images.length = r.k.bases.length from fun r hr => by
   have h9 := (shape_ok hsh).2.2 r.k (by rw [← hrk]; exact List.mem_map.2 ⟨r, hr, rfl⟩)
   exact ⟨h9.2.1, h9.2.2⟩)
  have OK := Lib.hid (grp_ok k.toNat (by omega) (by omega))
  rw [show xs.length = rs.length by rw [HXL.out, HRL.out]]
  clear hrk hg9 hs9 hp9 hx9 hsh hel hxl hxa HOK
  have BS := Lib.hid (Below.refl w1.heap.size w1)
  obtain ⟨w2, hq2, hb9, hz9, Hbs⟩ := new1 w1 157 [.pointer (some ⟨gb, 0, none⟩), .slice qa rs.length qc]
  replace BS := hbu BS hb9
  replace HB := hbu HB hb9
  replace HZS := sz HZS hz9.out
  clear hb9 hz9
  have bs_ := Hbs.out.c2
  go_wp2_with fail
  clear hq2
  refine (gScalar_m (grp k.toNat) OK.out gb ch bc HBC.out w2 (HG.out.up BS.out)).mono ?_
  rintro e w3 ⟨x, rfl, hb9, hx9⟩
  clear bs_
  replace Hbs := Lib.hid (Hbs.out.up hb9)
  replace BS := hbu BS hb9
  replace HB := hbu HB hb9
  replace HZS := sz HZS hb9.size
  have HX := Lib.hid hx9
  clear hx9 hb9
  have bs_ := Hbs.out.c2
  unfold limbV
  have o4_bs_ := bs_; clear bs_
  obtain ⟨w4, hq4, hb9, hz9, Hbx⟩ := new1 w3 91 [.int .u64 (dig (x) 0 : Int), .int .u64 (dig (x) 1 : Int), .int .u64 (dig (x) 2 : Int), .int .u64 (dig (x) 3 : Int)]
  replace Hbs := Lib.hid (Hbs.out.up hb9)
  replace BS := hbu BS hb9
  replace HB := hbu HB hb9
  replace HZS := sz HZS hz9.out
  clear hb9 hz9
  have bs_ := Hbs.out.c2
  have bx_ := Hbx.out.c4
  cases bc
  ·obtain ⟨rfl, rfl⟩ := HF.out (by simp) (by simp)
   go_wp2_with fail
   clear hq4 o4_bs_
   go_ret2
   exact rowsE_none _ HB.out
  ·obtain ⟨rfl, rfl⟩ := HT.out (by simp) (by simp)
   obtain rfl : x = mont (grp k.toNat).q.m (numOf ch) := HX.out rfl
   go_wp2_with fail
   clear hq4 o4_bs_
   refine (back_any (grp k.toNat) OK.out gb (numOf ch) (isSc_le HBC.out) rs rs.length rfl (by rw [HRL.out]; exact hl64) HSHP.out qa qc xs (by rw [HXL.out, HRL.out]) a' c' w4 (HG.out.up BS.out) (HST.out.up BS.out) (HXX.out.up BS.out)).mono ?_
   rintro e w5 ⟨hb9, a9, c9, ro, rfl, hm9, hr9, hz9⟩
   clear bs_
   replace Hbs := Lib.hid (Hbs.out.up hb9)
   clear bx_
   replace Hbx := Lib.hid (Hbx.out.up hb9)
   replace BS := hbu BS hb9
   replace HB := hbu HB hb9
   replace HZS := sz HZS hb9.size
   have HMR := Lib.hid hm9
   clear hm9
   have HRR := Lib.hid hr9
   clear hr9
   have HZR := Lib.hid hz9
   clear hz9 hb9
   have bs_ := Hbs.out.c2
   have bx_ := Hbx.out.c4
   rw [HRK.out, HRL.out] at HMR ⊢
   go_wp2_with fail
   go_ret2
   exact ⟨HB.out, a9, c9, ro, rfl, HMR.out, HRR.out, HZR.out.1⟩
 ·obtain ⟨rfl, rfl⟩ := HZ.out h0
  have hd : ((er : Int) != 0) = true := by simp; omega
  clear h0 hz
  go_enter Try.func49, Try.ntmps49
  go_wp2_with fail
  refine (HO.out).mono ?_
  rintro e w1 ⟨hb9, pp, qa, qn, qc, v, rfl, _⟩
  have HB := Lib.hid hb9
  have HZS := Lib.hid hb9.size
  clear hb9
  obtain ⟨w2, hq2, hb9, hz9, Hbs⟩ := new1 w1 157 [.pointer pp, .slice qa qn qc]
  replace HB := hbu HB hb9
  replace HZS := sz HZS hz9.out
  clear hb9 hz9
  have bs_ := Hbs.out.c2
  go_wp2_with fail
  clear hq2
  go_ret2
  exact rowsE_none _ HB.out
end Go.Proofs.Ytipgjookfdkciaa
namespace Go.Proofs.Ytipgjookfdkciaa
open Go.RowKit
theorem isSc_lt' {G : GP} {s : ByteArray} (h : isSc G.q.m G.size s = true) : numOf s % G.q.m = numOf s ∧ numOf s < G.q.m := by
 unfold isSc at h
 simp only [Bool.and_eq_true, decide_eq_true_eq] at h
 exact ⟨Nat.mod_eq_of_lt h.2, h.2⟩
theorem isSc_inj {G : GP} {s t : ByteArray} (h : isSc G.q.m G.size s = true) (g : isSc G.q.m G.size t = true) (e : numOf s = numOf t) : s = t := numOf_inj (by rw [isSc_size h, isSc_size g]) e
theorem T_eq {k : Nat} (h1 : 1 ≤ k) (h3 : k ≤ 3) {x y : Nat} : textS (lowN (grp k) x) (grp k).size = textS (lowN (grp k) y) (grp k).size ↔ lowN (grp k) x = lowN (grp k) y :=
 ⟨fun h => T_inj (grp_ok k h1 h3) (grp_fits k h1 h3) (lowN_le (grp_ok k h1 h3) x) (lowN_le (grp_ok k h1 h3) y) h, fun h => by rw [h]⟩
end Go.Proofs.Ytipgjookfdkciaa
namespace Go.Proofs.Ytipgjookfdkciaa
open Go.RowKit
structure AllOk (G : GP) (l : List ClaimA) (xs : List ByteArray) : Prop where
 len : ∀ c ∈ l, c.images.length = c.bases.length
 bs : ∀ c ∈ l, ∀ s ∈ c.bases, isEl G.q.m G.size s = true
 ims : ∀ c ∈ l, ∀ s ∈ c.images, isEl G.q.m G.size s = true
 xl : xs.length = l.length
 xs : ∀ s ∈ xs, isSc G.q.m G.size s = true
theorem allOk {k : Int} {l : List ClaimA} {xs : List ByteArray} (h : openK k l xs = 0) : (1 ≤ k ∧ k ≤ 3) ∧ AllOk (grp k.toNat) l xs := by
 obtain ⟨hk, hs, he, hxl, hxa⟩ := openK_ok h
 have hs := shape_ok hs
 have hc : ∀ c ∈ l, c.bases.all (isEl (grp k.toNat).q.m (grp k.toNat).size) = true ∧ c.images.all (isEl (grp k.toNat).q.m (grp k.toNat).size) = true := fun c hc => by
  have h9 : (c.bases.all (isEl (grp k.toNat).q.m (grp k.toNat).size) && c.images.all (isEl (grp k.toNat).q.m (grp k.toNat).size)) = true := List.all_eq_true.1 he c hc
  exact (Bool.and_eq_true _ _).mp h9
 exact ⟨hk, fun c h => (hs.2.2 c h).2.2, fun c h s g => List.all_eq_true.1 (hc c h).1 s g, fun c h s g => List.all_eq_true.1 (hc c h).2 s g, hxl, fun s g => List.all_eq_true.1 hxa s g⟩
theorem backE_ok {k : Int} {l : List ClaimA} {ch : ByteArray} {xs : List ByteArray} (h : backE k l ch xs = 0) : openK k l xs = 0 ∧ isSc (grp k.toNat).q.m (grp k.toNat).size ch = true := by
 unfold backE at h
 by_cases g : openK k l xs = 0
 ·rw [if_neg (by simpa using g)] at h
  refine ⟨g, ?_⟩
  by_cases f : isSc (grp k.toNat).q.m (grp k.toNat).size ch = true
  ·exact f
  ·rw [if_neg f] at h; cases h
 ·rw [if_pos g] at h
  exact absurd h g
end Go.Proofs.Ytipgjookfdkciaa
namespace Go.Proofs.Ytipgjookfdkciaa
open Go.RowKit
theorem pm_exp {q p a m n : Nat} (hpp : IsPrime p) (hp : p = 2 * q + 1) (h0 : 0 < a) (ha : a < p) (h : m % q = n % q) : PM p (a ^ m) (a ^ n) := by
 have h1 := pm_pow_mod hpp hp h0 ha m
 rw [h] at h1
 exact h1.symm.trans (pm_pow_mod hpp hp h0 ha n)
theorem sub_mod_zero {q c : Nat} (h : c < q) : ((q - c) % q + c) % q = 0 % q := by
 rw [Nat.mod_add_mod, Nat.sub_add_cancel (Nat.le_of_lt h), Nat.mod_self, Nat.zero_mod]
theorem diff_ne {q c d : Nat} (hc : c < q) (hd : d < q) (hne : c ≠ d) : ¬ q ∣ (c + (q - d)) % q := by
 intro h
 have h1 := fun (g : 0 < (c + (q - d)) % q) => Nat.le_of_dvd g h
 rcases Nat.lt_or_ge c d with g | g
 ·rw [Nat.mod_eq_of_lt (show c + (q - d) < q by omega)] at h h1
  have := h1 (by omega)
  omega
 ·have e : c + (q - d) = c - d + q := by omega
  rw [e, Nat.add_mod_right, Nat.mod_eq_of_lt (show c - d < q by omega)] at h h1
  have := h1 (by omega)
  omega
theorem inv_mod {q v : Nat} (hqp : IsPrime q) (hq : 1 < q) (hv : ¬ q ∣ v) : v * (v ^ (q - 2) % q) % q = 1 % q := by
 rw [Nat.mul_mod_mod, Nat.mul_comm, ← Nat.pow_succ, show (q - 2).succ = q - 1 by omega]
 exact fermat hqp hv
theorem sound2 {q p B M c1 c2 x1 x2 u v d : Nat} (hqp : IsPrime q) (hpp : IsPrime p) (hp : p = 2 * q + 1) (hq : 1 < q) (hB0 : 0 < B) (hB : B < p) (hM0 : 0 < M) (hM : M < p) (hc1 : c1 < q) (hc2 : c2 < q) (_hx1 : x1 < q) (hx2 : x2 < q) (hne : c1 ≠ c2)
  (h : PM p (B ^ x1 * M ^ ((q - c1) % q)) (B ^ x2 * M ^ ((q - c2) % q))) (hu : (x1 + (q - x2)) % q = u) (hv : (c1 + (q - c2)) % q = v) (hd : v ^ (q - 2) % q = d) : PM p (B ^ (d * u % q)) M := by
 have hvn : ¬ q ∣ v := by rw [← hv]; exact diff_ne hc1 hc2 hne
 have h1 := h.mul (PM.refl p (B ^ (q - x2) * M ^ c1))
 rw [show B ^ x1 * M ^ ((q - c1) % q) * (B ^ (q - x2) * M ^ c1) = B ^ (x1 + (q - x2)) * M ^ ((q - c1) % q + c1) by rw [Nat.pow_add, Nat.pow_add]; ac_rfl,
  show B ^ x2 * M ^ ((q - c2) % q) * (B ^ (q - x2) * M ^ c1) = B ^ (x2 + (q - x2)) * M ^ ((q - c2) % q + c1) by rw [Nat.pow_add, Nat.pow_add]; ac_rfl] at h1
 have e1 : PM p (B ^ (x1 + (q - x2)) * M ^ ((q - c1) % q + c1)) (B ^ u * M ^ 0) :=
  (pm_exp hpp hp hB0 hB (by rw [← hu, Nat.mod_mod])).mul (pm_exp hpp hp hM0 hM (sub_mod_zero hc1))
 have e2 : PM p (B ^ (x2 + (q - x2)) * M ^ ((q - c2) % q + c1)) (B ^ 0 * M ^ v) :=
  (pm_exp hpp hp hB0 hB (by rw [show x2 + (q - x2) = q by omega, Nat.mod_self, Nat.zero_mod])).mul (pm_exp hpp hp hM0 hM (by rw [← hv, Nat.mod_mod, Nat.mod_add_mod, Nat.add_comm]))
 have h2 : PM p (B ^ u) (M ^ v) := by
  have h3 := (e1.symm.trans h1).trans e2
  rwa [Nat.pow_zero, Nat.pow_zero, Nat.mul_one, Nat.one_mul] at h3
 refine (pm_exp hpp hp hB0 hB (show d * u % q % q = u * d % q by rw [Nat.mod_mod, Nat.mul_comm])).trans ?_
 rw [Nat.pow_mul]
 refine (h2.pow d).trans ?_
 rw [← Nat.pow_mul]
 have h4 := pm_exp hpp hp hM0 hM (show v * d % q = 1 % q by rw [← hd]; exact inv_mod hqp hq hvn)
 rwa [Nat.pow_one] at h4
theorem eachA_inj {G : GP} {v v' : Nat → Nat → Nat} {ms : List Nat} {n : Nat} (h : eachA G v ms n = eachA G v' ms n) {i t : Nat} (hi : i < n) (ht : t < ms.getD i 0) : textS (lowN G (v i t)) G.size = textS (lowN G (v' i t)) G.size := by
 unfold eachA at h
 have h1 := List.map_inj_left.1 h i (List.mem_range.2 hi)
 unfold eachL at h1
 exact List.map_inj_left.1 h1 t (List.mem_range.2 ht)
theorem zip_all {α β : Type} {f : α → β → Bool} {l : List α} {m : List β} (h : ∀ i (hl : i < l.length) (hm : i < m.length), f l[i] m[i] = true) : (List.zipWith f l m).all id = true := by
 rw [List.all_eq_true]
 intro x hx
 obtain ⟨i, hi, rfl⟩ := List.getElem_of_mem hx
 rw [List.getElem_zipWith]
 exact h i _ _
theorem openK_zero {k : Int} (h1 : 1 ≤ k ∧ k ≤ 3) {l : List ClaimA} {xs : List ByteArray} (hs : shapeE l = 0) (he : l.all (cElems (grp k.toNat)) = true) (hl : xs.length = l.length) (ha : xs.all (isSc (grp k.toNat).q.m (grp k.toNat).size) = true) : openK k l xs = 0 := by
 unfold openK
 rw [if_pos h1]
 unfold openE
 rw [(wrong_elems hs).1 he, if_neg (by simp)]
 unfold scE
 rw [if_pos hl, if_pos ha]
theorem exF_num {k : Nat} (h1 : 1 ≤ k) (h3 : k ≤ 3) (d : Nat) (x y : ByteArray) : numOf (exF (grp k) d x y) = d * ((numOf x + ((grp k).q.m - numOf y)) % (grp k).q.m) % (grp k).q.m :=
 T_num (grp_ok k h1 h3) (Nat.le_of_lt (Nat.mod_lt _ (grp_ok k h1 h3).q.pos)) (grp_fits k h1 h3)
theorem exF_sc {k : Nat} (h1 : 1 ≤ k) (h3 : k ≤ 3) (d : Nat) (x y : ByteArray) : isSc (grp k).q.m (grp k).size (exF (grp k) d x y) = true :=
 T_sc (grp_ok k h1 h3) (grp_fits k h1 h3) (Nat.mod_lt _ (grp_ok k h1 h3).q.pos)
theorem isEl_bd {G : GP} (ok : G.Ok) {s : ByteArray} (h : isEl G.q.m G.size s = true) : 0 < numOf s ∧ numOf s < G.p.m := by
 unfold isEl at h
 simp only [Bool.and_eq_true, decide_eq_true_eq] at h
 have := ok.twice
 exact ⟨by omega, by omega⟩
theorem sound_any {k : Int} {l : List ClaimA} {p q : PrfA} (h1 : backE k l p.c p.l = 0) (h2 : backE k l q.c q.l = 0) (he : backK k l p.c p.l = backK k l q.c q.l) (hne : p.c ≠ q.c) :
  exEk k p q = 0 ∧ (exLk k p q).length = l.length ∧ holdK k l (exLk k p q) = true := by
 obtain ⟨o1, s1⟩ := backE_ok h1
 obtain ⟨o2, s2⟩ := backE_ok h2
 obtain ⟨hk, hsh, hel, hxl, hxa⟩ := openK_ok o1
 obtain ⟨_, _, _, hyl, hya⟩ := openK_ok o2
 obtain ⟨_, a1⟩ := allOk o1
 obtain ⟨_, a2⟩ := allOk o2
 obtain ⟨j, rfl⟩ : ∃ j : Nat, k = j := ⟨k.toNat, by omega⟩
 simp only [Int.toNat_natCast] at *
 have k1 : 1 ≤ j := by omega
 have k3 : j ≤ 3 := by omega
 have ok := grp_ok j k1 k3
 have hpp := grp_prime_p j k1 k3
 have hqp := grp_prime_q j k1 k3
 have hq : 1 < (grp j).q.m := by have := ok.odd; omega
 have hl0 := (shape_ok hsh).1
 have eE : exE (grp j) p q = 0 := by
  unfold exE
  rw [if_pos ⟨by omega, by omega⟩, if_pos, if_neg hne]
  rw [List.all_cons, List.all_cons, s1, s2, hxa, hya]
  rfl
 have eK : exEk (j : Int) p q = 0 := by
  unfold exEk
  rw [if_pos (by omega)]
  exact eE
 have eL : exLk (j : Int) p q = List.zipWith (exF (grp j) (exI (grp j) p.c q.c)) p.l q.l := by
  unfold exLk
  rw [if_pos (by omega)]
  unfold exL
  simp only [Int.toNat_natCast]
  rw [if_pos eE]
 have hlen : (exLk (j : Int) p q).length = l.length := by rw [eL, List.length_zipWith, hxl, hyl, Nat.min_self]
 refine ⟨eK, hlen, ?_⟩
 have hop : openK (j : Int) l (exLk (j : Int) p q) = 0 := by
  refine openK_zero (by omega) hsh hel hlen ?_
  rw [List.all_eq_true]
  intro x hx
  rw [eL] at hx
  obtain ⟨i, hi, rfl⟩ := List.getElem_of_mem hx
  rw [List.getElem_zipWith]
  exact exF_sc k1 k3 _ _ _
 unfold holdK
 rw [hop, decide_eq_true rfl, Bool.true_and]
 simp only [Int.toNat_natCast]
 unfold backK at he
 rw [if_pos h1, if_pos h2] at he
 simp only [Int.toNat_natCast] at he
 unfold holdP
 refine zip_all fun i hi hz => ?_
 unfold hold1
 refine zip_all fun t hb hm => ?_
 unfold hold2
 rw [decide_eq_true_eq]
 have hlt : t < (lens l).getD i 0 := by
  have e : (lens l).getD i 0 = l[i].bases.length := by unfold lens; simp [List.getD, hi]
  omega
 have h9 := (T_eq k1 k3).1 (eachA_inj he hi hlt)
 have hx : i < p.l.length := by omega
 have hy : i < q.l.length := by omega
 have sx := isSc_lt' (a1.xs _ (List.getElem_mem hx))
 have sy := isSc_lt' (a2.xs _ (List.getElem_mem hy))
 have bb := isEl_bd ok (a1.bs _ (List.getElem_mem hi) _ (List.getElem_mem hb))
 have mm := isEl_bd ok (a1.ims _ (List.getElem_mem hi) _ (List.getElem_mem hm))
 have n1 := isSc_lt' s1
 have n2 := isSc_lt' s2
 have hcd : numOf p.c ≠ numOf q.c := fun e => hne (isSc_inj s1 s2 e)
 have ev : ∀ (y : Nat) (xs : List ByteArray) (hxs : i < xs.length), valB (grp j) y l xs i t = numOf l[i].bases[t] ^ (numOf xs[i] % (grp j).q.m) * numOf l[i].images[t] ^ (y % (grp j).q.m) := fun y xs hxs => by
  unfold valB valF
  simp [List.getD, hi, hb, hm, hxs]
 rw [ev _ _ hx, ev _ _ hy, sx.1, sy.1] at h9
 refine (lowN_iff ok _ _).2 ?_
 have hz' : numOf (exLk (j : Int) p q)[i] = exI (grp j) p.c q.c * ((numOf p.l[i] + ((grp j).q.m - numOf q.l[i])) % (grp j).q.m) % (grp j).q.m := by
  rw [← exF_num k1 k3, ← List.getElem_zipWith (f := exF (grp j) (exI (grp j) p.c q.c)) (l := p.l) (l' := q.l) (i := i) (h := by rw [List.length_zipWith]; omega)]
  congr 1
  exact getElem_congr_coll eL
 rw [hz', Nat.mod_mod]
 exact sound2 hqp hpp ok.twice hq bb.1 bb.2 mm.1 mm.2 n1.2 n2.2 sx.2 sy.2 hcd ((lowN_iff ok _ _).1 h9) rfl rfl rfl
end Go.Proofs.Ytipgjookfdkciaa
namespace Go.Proofs.Ytipgjookfdkciaa
open Go.RowKit
def prfAt (x : EithA) (i : Nat) : PrfA := ⟨x.cs.getD i ⟨#[]⟩, (x.rs.getD i ⟨none, 0, []⟩).a, (x.rs.getD i ⟨none, 0, []⟩).c, (x.rs.getD i ⟨none, 0, []⟩).l⟩
def EE (k : Int) (x y : EithA) (i : Nat) : Int := exEk k (prfAt x i) (prfAt y i)
def XX (k : Int) (x y : EithA) (i : Nat) : List ByteArray := exLk k (prfAt x i) (prfAt y i)
def AnySpec (k : Int) (x y : EithA) (er : Int) (idx : Nat) (lst : List ByteArray) : Prop :=
 (¬ (1 ≤ k ∧ k ≤ 3) ∧ er = 1 ∧ idx = 0 ∧ lst = []) ∨ ((1 ≤ k ∧ k ≤ 3) ∧ fitB x y = false ∧ er = 2 ∧ idx = 0 ∧ lst = []) ∨
 ((1 ≤ k ∧ k ≤ 3) ∧ fitB x y = true ∧ ((∃ i, i < x.cs.length ∧ EE k x y i = 6) ∧ er = 6 ∧ idx = 0 ∧ lst = [] ∨
   (∀ i, i < x.cs.length → EE k x y i ≠ 6) ∧ (∀ i, i < x.cs.length → EE k x y i ≠ 0) ∧ er = 9 ∧ idx = 0 ∧ lst = [] ∨
   (∀ i, i < x.cs.length → EE k x y i ≠ 6) ∧ ∃ f, f < x.cs.length ∧ EE k x y f = 0 ∧ (∀ i, i < f → EE k x y i ≠ 0) ∧ er = 0 ∧ idx = f ∧ lst = XX k x y f))
def AnyR (er : Int) (idx : Nat) (lst : List ByteArray) (w : World) (e : Ending) (w' : World) : Prop :=
 Below w.heap.size w w' ∧ ∃ a c, e = .returned (.tuple #[.int .i64 (idx : Int), .slice a lst.length c, .int .i64 er]) ∧ Sl w' w'.heap.size a (lst.map Value.string)
def AnyA (k : Int) (x y : EithA) (w : World) (e : Ending) (w' : World) : Prop := ∃ er idx lst, AnySpec k x y er idx lst ∧ AnyR er idx lst w e w'
theorem prfAt_eq {x : EithA} {i : Nat} (hi : i < x.cs.length) (hi2 : i < x.rs.length) : prfAt x i = ⟨x.cs[i], x.rs[i].a, x.rs[i].c, x.rs[i].l⟩ := by
 unfold prfAt
 simp [List.getD, hi, hi2]
theorem prfAt_cells {x : EithA} {w0 w : World} (h : x.At w0) (hb : Below w0.heap.size w0 w) (i : Nat) (hi : i < x.cs.length) (hr : x.rs.length = x.cs.length) :
  (prfAt x i).At w0 ∧ (∃ b off, x.ac = some ⟨b, off, none⟩ ∧ b < w.heap.size ∧ w.cell? ⟨b, off + i, none⟩ = some (.string (prfAt x i).c)) ∧ (∃ b off, x.ar = some ⟨b, off, none⟩ ∧ b < w.heap.size ∧ w.cell? ⟨b, off + i, none⟩ = some (.slice (prfAt x i).aa (prfAt x i).l.length (prfAt x i).ca)) := by
 have hi2 : i < x.rs.length := by omega
 rw [prfAt_eq hi hi2]
 obtain ⟨b, o, h1, _, h2, h3⟩ := h.c.atUp hb i (by simpa using hi)
 rw [List.getElem_map] at h3
 obtain ⟨b', o', g1, _, g2, g3⟩ := h.r.cell hb i hi2
 exact ⟨⟨h.r.one i hi2, h.n _ (List.getElem_mem hi2)⟩, ⟨b, o, h1, h2, h3⟩, ⟨b', o', g1, g2, g3⟩⟩
theorem fitB_lens {x y : EithA} (h : fitB x y = true) : x.cs.length ≠ 0 ∧ y.cs.length = x.cs.length ∧ x.rs.length = x.cs.length ∧ y.rs.length = x.cs.length ∧ ∀ i, i < x.cs.length → (prfAt x i).l.length ≠ 0 ∧ (prfAt x i).l.length = (prfAt y i).l.length := by
 unfold fitB at h
 simp only [Bool.and_eq_true, decide_eq_true_eq] at h
 obtain ⟨⟨h1, h2, h3, h4⟩, h5⟩ := h
 refine ⟨h1, h2, h3, h4, fun i hi => ?_⟩
 have h6 := List.all_eq_true.1 h5 ((List.zipWith fit2 x.rs y.rs)[i]'(by rw [List.length_zipWith]; omega)) (List.getElem_mem _)
 rw [List.getElem_zipWith] at h6
 unfold fit2 at h6
 simp only [id, decide_eq_true_eq] at h6
 rw [prfAt_eq hi (by omega), prfAt_eq (show i < y.cs.length by omega) (by omega)]
 exact h6
theorem EE_vals {k : Int} (hk : 1 ≤ k ∧ k ≤ 3) {x y : EithA} {i : Nat} (h : (prfAt x i).l.length ≠ 0 ∧ (prfAt x i).l.length = (prfAt y i).l.length) : EE k x y i = 0 ∧ (XX k x y i).length ≠ 0 ∨ EE k x y i = 6 ∨ EE k x y i = 9 := by
 unfold EE XX exEk exLk
 rw [if_pos hk, if_pos hk]
 have he : exE (grp k.toNat) (prfAt x i) (prfAt y i) = 0 ∨ exE (grp k.toNat) (prfAt x i) (prfAt y i) = 6 ∨ exE (grp k.toNat) (prfAt x i) (prfAt y i) = 9 := by
  unfold exE
  rw [if_pos ⟨h.2, h.1⟩]
  split
  ·split
   ·exact Or.inr (Or.inr rfl)
   ·exact Or.inl rfl
  ·exact Or.inr (Or.inl rfl)
 rcases he with he | he | he
 ·refine Or.inl ⟨he, ?_⟩
  unfold exL
  rw [if_pos he, List.length_zipWith]
  omega
 ·exact Or.inr (Or.inl he)
 ·exact Or.inr (Or.inr he)
theorem exAny_none (k : Int) (hk : ¬ (1 ≤ k ∧ k ≤ 3)) (x y : EithA) (w : World) : Calls Try.prog 18 #[.int .i64 k, x.val, y.val] w (AnyR 1 0 [] w) := by
 unfold EithA.val
 generalize x.cs.length = n1 at *
 generalize x.rs.length = n2 at *
 generalize y.cs.length = n3 at *
 generalize y.rs.length = n4 at *
 go_enter Try.func18, Try.ntmps18
 go_wp2_with fail
 obtain ⟨w1, hq1, hb9, hz9, Hbx, Hby⟩ := new2 w 27 [.slice x.ac n1 x.cc, .slice x.ar n2 x.cr] 27 [.slice y.ac n3 y.cc, .slice y.ar n4 y.cr]
 rw [hq1]
 clear hq1
 have HB := Lib.hid hb9
 have HZS := hz9
 clear hb9 hz9
 have bx_ := Hbx.out.c2
 have by_ := Hby.out.c2
 go_wp2_with fail
 refine (of_none k hk _).mono ?_
 rintro e w2 ⟨rfl, rfl⟩
 go_wp2_with fail
 simp [bodyPost, results, Try.results18, go_sem]
 exact ⟨HB.out, none, 0, rfl, Or.inl rfl⟩
theorem exAny_form (k : Nat) (h1 : 1 ≤ k) (h3 : k ≤ 3) (x y : EithA) (hn : x.cs.length ≤ 8796093022206) (hf : fitB x y = false) (w : World) (hX : x.At w) (hY : y.At w) : Calls Try.prog 18 #[.int .i64 (k : Int), x.val, y.val] w (AnyR 2 0 [] w) := by
 have HF := Lib.hid (fun w1 (hb : Below w.heap.size w w1) => fits_any x y hn w1 (hX.up hb) (hY.up hb))
 rw [hf] at HF
 unfold EithA.val at HF
 clear hX hY hf hn
 unfold EithA.val
 generalize x.cs.length = n1 at *
 generalize x.rs.length = n2 at *
 generalize y.cs.length = n3 at *
 generalize y.rs.length = n4 at *
 go_enter Try.func18, Try.ntmps18
 go_wp2_with fail
 obtain ⟨w1, hq1, hb9, hz9, Hbx, Hby⟩ := new2 w 27 [.slice x.ac n1 x.cc, .slice x.ar n2 x.cr] 27 [.slice y.ac n3 y.cc, .slice y.ar n4 y.cr]
 rw [hq1]
 clear hq1
 have HB := Lib.hid hb9
 have HZS := hz9
 clear hb9 hz9
 have bx_ := Hbx.out.c2
 have by_ := Hby.out.c2
 go_wp2_with fail
 refine (of_some k h1 h3 w1).mono ?_
 rintro e w2 ⟨rfl, hg9, hb9⟩
 clear bx_
 replace Hbx := Lib.hid (Hbx.out.up hb9)
 clear by_
 replace Hby := Lib.hid (Hby.out.up hb9)
 replace HB := hbu HB hb9
 replace HZS := sz HZS hb9.size
 have HG := Lib.hid hg9
 clear hg9 hb9
 have bx_ := Hbx.out.c2
 have by_ := Hby.out.c2
 go_wp2_with fail
 refine (HF.out _ HB.out).mono ?_
 rintro e w3 ⟨rfl, hb9⟩
 clear bx_
 replace Hbx := Lib.hid (Hbx.out.up hb9)
 clear by_
 replace Hby := Lib.hid (Hby.out.up hb9)
 replace HG := Lib.hid (HG.out.up hb9)
 replace HB := hbu HB hb9
 replace HZS := sz HZS hb9.size
 clear hb9
 have bx_ := Hbx.out.c2
 have by_ := Hby.out.c2
 go_wp2_with fail
 simp [bodyPost, results, Try.results18, go_sem]
 exact ⟨HB.out, none, 0, rfl, Or.inl rfl⟩
theorem exAny_body (k : Nat) (h1 : 1 ≤ k) (h3 : k ≤ 3) (x y : EithA) (n : Nat) (hxn : x.cs.length = n) (hn0 : n ≠ 0) (hn : n ≤ 8796093022206) (hf : fitB x y = true) (hl : ∀ i, i < n → (prfAt x i).l.length ≤ 8796093022206) (ac ar bc br : Option Addr) (hac : x.ac = ac) (har : x.ar = ar) (hbc : y.ac = bc) (hbr : y.ar = br) (w : World) (hX : x.At w) (hY : y.At w) :
  Calls Try.prog 18 #[.int .i64 (k : Int), .agg #[.slice ac n x.cc, .slice ar n x.cr], .agg #[.slice bc n y.cc, .slice br n y.cr]] w (AnyA (k : Int) x y w) := by
 obtain ⟨f1, f2, f3, f4, f5⟩ := fitB_lens hf
 have hk : (1 : Int) ≤ (k : Int) ∧ (k : Int) ≤ 3 := by omega
 have HN := Lib.hid (show x.cs.length = n ∧ x.rs.length = n ∧ y.cs.length = n ∧ y.rs.length = n by omega)
 have HV := Lib.hid (fun i (hi : i < n) => EE_vals hk (f5 i (by omega)))
 have HLE := Lib.hid hl
 have HFB := Lib.hid hf
 have HX := Lib.hid hX
 have HY := Lib.hid hY
 have HSP := Lib.hid (fun (er : Int) (idx : Nat) (lst : List ByteArray) (h : _ ∨ _ ∨ _) => (show AnySpec (k : Int) x y er idx lst from Or.inr (Or.inr ⟨hk, hf, h⟩)))
 have HFI := Lib.hid (fun w1 (hb : Below w.heap.size w w1) => fits_any x y (by omega) w1 (hX.up hb) (hY.up hb))
 unfold EithA.val at HFI
 rw [hf, HN.out.1, HN.out.2.1, HN.out.2.2.1, HN.out.2.2.2, hac, har, hbc, hbr] at HFI
 rw [HN.out.1] at HSP
 have HAC := Lib.hid hac
 have HAR := Lib.hid har
 have HBC := Lib.hid hbc
 have HBR := Lib.hid hbr
 clear hX hY hf f1 f2 f3 f4 f5 hl hk hac har hbc hbr
 have hnil := fun (W : World) (a : Option Addr) (n c : Nat) => Lib.run_eql_slice_nil (P := Try.prog) W 22 9 a n c 0 0 Try.underlying22
 go_enter Try.func18, Try.ntmps18
 go_wp2_with fail
 obtain ⟨w1, hq1, hb9, hz9, Hbx, Hby⟩ := new2 w 27 [.slice ac n x.cc, .slice ar n x.cr] 27 [.slice bc n y.cc, .slice br n y.cr]
 rw [hq1]
 clear hq1
 have HB := Lib.hid hb9
 have HZS := hz9
 clear hb9 hz9
 have bx_ := Hbx.out.c2
 have by_ := Hby.out.c2
 go_wp2_with fail
 refine (of_some k h1 h3 w1).mono ?_
 rintro e w2 ⟨rfl, hg9, hb9⟩
 clear bx_
 replace Hbx := Lib.hid (Hbx.out.up hb9)
 clear by_
 replace Hby := Lib.hid (Hby.out.up hb9)
 replace HB := hbu HB hb9
 replace HZS := sz HZS hb9.size
 have HG := Lib.hid hg9
 clear hg9 hb9
 have bx_ := Hbx.out.c2
 have by_ := Hby.out.c2
 go_wp2_with fail
 refine (HFI.out _ HB.out).mono ?_
 rintro e w3 ⟨rfl, hb9⟩
 clear bx_
 replace Hbx := Lib.hid (Hbx.out.up hb9)
 clear by_
 replace Hby := Lib.hid (Hby.out.up hb9)
 replace HG := Lib.hid (HG.out.up hb9)
 replace HB := hbu HB hb9
 replace HZS := sz HZS hb9.size
 clear hb9
 have bx_ := Hbx.out.c2
 have by_ := Hby.out.c2
 have BL := Lib.hid (Below.refl w3.heap.size w3)
 go_wp2_with fail
 go_loopw [9, 10, 24] (fun u v i wr => ∃ j : Nat, j ≤ n ∧ i = .int .i64 j ∧ Hid (Below w3.heap.size w3 wr) ∧ Hid (∀ i, i < j → EE k x y i ≠ 6) ∧ (u = .int .i64 0 ∧ v = .slice none 0 0 ∧ Hid (∀ i, i < j → EE k x y i ≠ 0) ∨ ∃ (f : Nat) (b o c : Nat), u = .int .i64 f ∧ v = .slice (some ⟨b, o, none⟩) (XX k x y f).length c ∧ Hid (f < j ∧ EE k x y f = 0 ∧ ∀ i, i < f → EE k x y i ≠ 0) ∧ Hid (Sl wr wr.heap.size (some ⟨b, o, none⟩) ((XX k x y f).map Value.string)))) (fun _ _ i _ => n - (intOf i).toNat)
 case atStart => exact ⟨0, Nat.zero_le _, rfl, BL, fun _ h => absurd h (by omega), Or.inl ⟨rfl, rfl, fun _ h => absurd h (by omega)⟩⟩
 case round =>
  obtain ⟨j, hj, rfl, HL9, H6, ⟨rfl, rfl, H0⟩ | ⟨f, b, o, c, rfl, rfl, HF, HS⟩⟩ := hrel
  ·have hb9 := HL9.out
   clear HL9 bx_
   replace Hbx := Lib.hid (Hbx.out.up hb9)
   clear by_
   replace Hby := Lib.hid (Hby.out.up hb9)
   replace HG := Lib.hid (HG.out.up hb9)
   replace BL := hbu BL hb9
   replace HB := hbu HB hb9
   replace HZS := sz HZS hb9.size
   clear hb9
   have bx_ := Hbx.out.c2
   have by_ := Hby.out.c2
   have BS := Lib.hid (Below.refl wr.heap.size wr)
   by_cases hjn : j < n
   ·obtain ⟨hpx, ⟨b1, o1, e1, hb1, hc1⟩, ⟨b2, o2, e2, hb2, hc2⟩⟩ := prfAt_cells HX.out HB.out j (by rw [HN.out.1]; exact hjn) (by rw [HN.out.1]; exact HN.out.2.1)
    obtain ⟨hpy, ⟨b3, o3, e3, hb3, hc3⟩, ⟨b4, o4, e4, hb4, hc4⟩⟩ := prfAt_cells HY.out HB.out j (by rw [HN.out.2.2.1]; exact hjn) (by rw [HN.out.2.2.1]; exact HN.out.2.2.2)
    have HPX := Lib.hid hpx
    have HPY := Lib.hid hpy
    have HEV := Lib.hid (HV.out j hjn)
    have HPL := Lib.hid (HLE.out j hjn)
    have HEJ := Lib.hid (show EE k x y j = exEk k (prfAt x j) (prfAt y j) from rfl)
    have HXJ := Lib.hid (show XX k x y j = exLk k (prfAt x j) (prfAt y j) from rfl)
    generalize prfAt x j = P at *
    generalize prfAt y j = Q at *
    obtain rfl := HAC.out.symm.trans e1
    obtain rfl := HAR.out.symm.trans e2
    obtain rfl := HBC.out.symm.trans e3
    obtain rfl := HBR.out.symm.trans e4
    obtain ⟨z, hz⟩ : ∃ z, exEk (k : Int) P Q = z := ⟨_, rfl⟩
    have HZ := Lib.hid hz
    have HPC := Lib.hid (fun w1 h1 h2 => ext_any (k : Int) P Q HPL.out w1 h1 h2)
    rw [hz] at HPC
    unfold PrfA.val at HPC
    clear hpx hpy e1 e2 e3 e4 hz
    go_wp2_with fail
    have HT := Lib.hid (show Below wr.heap.size wr wr.drew from (Below.refl _ _).drew)
    have hl_bx := Hbx.out.lt
    have hl_by := Hby.out.lt
    refine wp_region_tree (fun wq9 => ∃ E : Over wr, wq9 = E.w) ((.qs [0, 1, 2, 3, 4, 5, 6, 7, 8, 9, 10, 11, 12, 13, 14, 15, 16, 17, 18, 19, 20, 21, 22] (.a 23 (.qs [24, 25, 26, 27, 28] .done)))) (by kernel_rfl) (by kernel_rfl) (fun _ _ d _ _ h => by cases d <;> exact h) ⟨⟨_, HT.out⟩, rfl⟩ ?_
    have hov_bx := fun (E : Over wr) o => E.cell (b := w.heap.size) o hl_bx
    have hov_by := fun (E : Over wr) o => E.cell (b := w.heap.size + 1) o hl_by
    have hov_b1 := fun (E : Over wr) o => E.cell (b := b1) o hb1
    have hov_b2 := fun (E : Over wr) o => E.cell (b := b2) o hb2
    have hov_b3 := fun (E : Over wr) o => E.cell (b := b3) o hb3
    have hov_b4 := fun (E : Over wr) o => E.cell (b := b4) o hb4
    simp only [Tree.qs]
    repeat (refine tree_q rfl rfl ?_; go_big_quiet_step (fail); refine wpQuiet_nil ?_)
    refine tree_a rfl (fun K hK => ?_)
    go_simp
    refine (HPC.out _ (HPX.out.up (below_up HB.out HT.out)) (HPY.out.up (below_up HB.out HT.out))).mono ?_
    rintro e w4 ⟨hb9, a9, c9, rfl, hs9, hn9, hc9⟩
    replace HT := Lib.hid (below_up HT.out hb9)
    replace HZS := sz HZS (show wr.heap.size ≤ w4.heap.size from HT.out.size)
    clear hb9
    have HSL := Lib.hid hs9
    clear hs9
    have HNL := Lib.hid hn9
    clear hn9 hc9
    refine hK _ _ ⟨⟨⟨w4, HT.out⟩, rfl⟩, ?_⟩
    clear hK K
    repeat (refine tree_q rfl rfl ?_; go_big_quiet_step (fail); refine wpQuiet_nil ?_)
    refine tree_end ?_
    clear hov_bx hl_bx hov_by hl_by hov_b1 hov_b2 hov_b3 hov_b4 bx_
    replace Hbx := Lib.hid (Hbx.out.up HT.out)
    clear by_
    replace Hby := Lib.hid (Hby.out.up HT.out)
    replace HG := Lib.hid (HG.out.up HT.out)
    replace BL := hbu BL HT.out
    replace BS := hbu BS HT.out
    replace HB := hbu HB HT.out
    replace HZS := sz HZS HT.out.size
    clear HT
    have bx_ := Hbx.out.c2
    have by_ := Hby.out.c2
    have hev := HEV.out
    rw [HEJ.out, HXJ.out, HZ.out] at hev
    have hj6 : z ≠ 6 → ∀ i, i < j + 1 → EE (k : Int) x y i ≠ 6 := fun h i hi => by
     by_cases h9 : i < j
     ·exact H6.out i h9
     ·obtain rfl : i = j := by omega
      rw [HEJ.out, HZ.out]; exact h
    have HJ6 := Lib.hid hj6
    clear hj6
    rcases hev with ⟨rfl, hlen⟩ | rfl | rfl
    ·obtain ⟨b9, o9, rfl, _⟩ := HSL.out.adr (by simp only [ne_eq, List.map_eq_nil_iff]; exact fun e => hlen (by rw [e]; rfl))
     clear hlen
     go_wp2_with fail
     go_roundw
     case rel => exact ⟨j + 1, by omega, by go_num, BL, HJ6.out (by decide), Or.inr ⟨j, b9, o9, c9, rfl, by rw [HXJ.out], ⟨by omega, by rw [HEJ.out, HZ.out], H0.out⟩, by rw [HXJ.out]; exact HSL⟩⟩
     case measure => simp [intOf]; omega
    ·go_wp2_with fail
     simp [bodyPost, results, Try.results18, go_sem]
     exact ⟨6, 0, [], HSP.out _ _ _ (Or.inl ⟨⟨j, hjn, by rw [HEJ.out, HZ.out]⟩, rfl, rfl, rfl⟩), HB.out, none, 0, rfl, Or.inl rfl⟩
    ·go_wp2_with fail
     go_roundw
     case rel => exact ⟨j + 1, by omega, by go_num, BL, HJ6.out (by decide), Or.inl ⟨rfl, rfl, fun i hi => by
      by_cases h9 : i < j
      ·exact H0.out i h9
      ·obtain rfl : i = j := by omega
       rw [HEJ.out, HZ.out]; decide⟩⟩
     case measure => simp [intOf]; omega
   ·have hjn' : j = n := by omega
    subst hjn'
    go_wp2_with fail
    simp [bodyPost, results, Try.results18, go_sem]
    exact ⟨9, 0, [], HSP.out _ _ _ (Or.inr (Or.inl ⟨H6.out, H0.out, rfl, rfl, rfl⟩)), HB.out, none, 0, rfl, Or.inl rfl⟩
  ·have hb9 := HL9.out
   clear HL9 bx_
   replace Hbx := Lib.hid (Hbx.out.up hb9)
   clear by_
   replace Hby := Lib.hid (Hby.out.up hb9)
   replace HG := Lib.hid (HG.out.up hb9)
   replace BL := hbu BL hb9
   replace HB := hbu HB hb9
   replace HZS := sz HZS hb9.size
   clear hb9
   have bx_ := Hbx.out.c2
   have by_ := Hby.out.c2
   have BS := Lib.hid (Below.refl wr.heap.size wr)
   by_cases hjn : j < n
   ·obtain ⟨hpx, ⟨b1, o1, e1, hb1, hc1⟩, ⟨b2, o2, e2, hb2, hc2⟩⟩ := prfAt_cells HX.out HB.out j (by rw [HN.out.1]; exact hjn) (by rw [HN.out.1]; exact HN.out.2.1)
    obtain ⟨hpy, ⟨b3, o3, e3, hb3, hc3⟩, ⟨b4, o4, e4, hb4, hc4⟩⟩ := prfAt_cells HY.out HB.out j (by rw [HN.out.2.2.1]; exact hjn) (by rw [HN.out.2.2.1]; exact HN.out.2.2.2)
    have HPX := Lib.hid hpx
    have HPY := Lib.hid hpy
    have HEV := Lib.hid (HV.out j hjn)
    have HPL := Lib.hid (HLE.out j hjn)
    have HEJ := Lib.hid (show EE k x y j = exEk k (prfAt x j) (prfAt y j) from rfl)
    have HXJ := Lib.hid (show XX k x y j = exLk k (prfAt x j) (prfAt y j) from rfl)
    generalize prfAt x j = P at *
    generalize prfAt y j = Q at *
    obtain rfl := HAC.out.symm.trans e1
    obtain rfl := HAR.out.symm.trans e2
    obtain rfl := HBC.out.symm.trans e3
    obtain rfl := HBR.out.symm.trans e4
    obtain ⟨z, hz⟩ : ∃ z, exEk (k : Int) P Q = z := ⟨_, rfl⟩
    have HZ := Lib.hid hz
    have HPC := Lib.hid (fun w1 h1 h2 => ext_any (k : Int) P Q HPL.out w1 h1 h2)
    rw [hz] at HPC
    unfold PrfA.val at HPC
    clear hpx hpy e1 e2 e3 e4 hz
    go_wp2_with fail
    have HT := Lib.hid (show Below wr.heap.size wr wr.drew from (Below.refl _ _).drew)
    have hl_bx := Hbx.out.lt
    have hl_by := Hby.out.lt
    refine wp_region_tree (fun wq9 => ∃ E : Over wr, wq9 = E.w) ((.qs [0, 1, 2, 3, 4, 5, 6, 7, 8, 9, 10, 11, 12, 13, 14, 15, 16, 17, 18, 19, 20, 21, 22] (.a 23 (.qs [24, 25, 26, 27, 28] .done)))) (by kernel_rfl) (by kernel_rfl) (fun _ _ d _ _ h => by cases d <;> exact h) ⟨⟨_, HT.out⟩, rfl⟩ ?_
    have hov_bx := fun (E : Over wr) o => E.cell (b := w.heap.size) o hl_bx
    have hov_by := fun (E : Over wr) o => E.cell (b := w.heap.size + 1) o hl_by
    have hov_b1 := fun (E : Over wr) o => E.cell (b := b1) o hb1
    have hov_b2 := fun (E : Over wr) o => E.cell (b := b2) o hb2
    have hov_b3 := fun (E : Over wr) o => E.cell (b := b3) o hb3
    have hov_b4 := fun (E : Over wr) o => E.cell (b := b4) o hb4
    simp only [Tree.qs]
    repeat (refine tree_q rfl rfl ?_; go_big_quiet_step (fail); refine wpQuiet_nil ?_)
    refine tree_a rfl (fun K hK => ?_)
    go_simp
    refine (HPC.out _ (HPX.out.up (below_up HB.out HT.out)) (HPY.out.up (below_up HB.out HT.out))).mono ?_
    rintro e w4 ⟨hb9, a9, c9, rfl, hs9, hn9, hc9⟩
    replace HT := Lib.hid (below_up HT.out hb9)
    replace HZS := sz HZS (show wr.heap.size ≤ w4.heap.size from HT.out.size)
    clear hb9
    have HSL := Lib.hid hs9
    clear hs9
    have HNL := Lib.hid hn9
    clear hn9 hc9
    refine hK _ _ ⟨⟨⟨w4, HT.out⟩, rfl⟩, ?_⟩
    clear hK K
    repeat (refine tree_q rfl rfl ?_; go_big_quiet_step (fail); refine wpQuiet_nil ?_)
    refine tree_end ?_
    clear hov_bx hl_bx hov_by hl_by hov_b1 hov_b2 hov_b3 hov_b4 bx_
    replace Hbx := Lib.hid (Hbx.out.up HT.out)
    clear by_
    replace Hby := Lib.hid (Hby.out.up HT.out)
    replace HG := Lib.hid (HG.out.up HT.out)
    replace BL := hbu BL HT.out
    replace BS := hbu BS HT.out
    replace HB := hbu HB HT.out
    replace HZS := sz HZS HT.out.size
    clear HT
    have bx_ := Hbx.out.c2
    have by_ := Hby.out.c2
    have hev := HEV.out
    rw [HEJ.out, HXJ.out, HZ.out] at hev
    have hj6 : z ≠ 6 → ∀ i, i < j + 1 → EE (k : Int) x y i ≠ 6 := fun h i hi => by
     by_cases h9 : i < j
     ·exact H6.out i h9
     ·obtain rfl : i = j := by omega
      rw [HEJ.out, HZ.out]; exact h
    have HJ6 := Lib.hid hj6
    clear hj6
    rcases hev with ⟨rfl, hlen⟩ | rfl | rfl
    ·clear hlen
     go_wp2_with fail
     go_roundw
     case rel => exact ⟨j + 1, by omega, by go_num, BL, HJ6.out (by decide), Or.inr ⟨f, b, o, c, rfl, rfl, ⟨by have := HF.out.1; omega, HF.out.2⟩, HS.out.up BS.out⟩⟩
     case measure => simp [intOf]; omega
    ·go_wp2_with fail
     simp [bodyPost, results, Try.results18, go_sem]
     exact ⟨6, 0, [], HSP.out _ _ _ (Or.inl ⟨⟨j, hjn, by rw [HEJ.out, HZ.out]⟩, rfl, rfl, rfl⟩), HB.out, none, 0, rfl, Or.inl rfl⟩
    ·go_wp2_with fail
     go_roundw
     case rel => exact ⟨j + 1, by omega, by go_num, BL, HJ6.out (by decide), Or.inr ⟨f, b, o, c, rfl, rfl, ⟨by have := HF.out.1; omega, HF.out.2⟩, HS.out.up BS.out⟩⟩
     case measure => simp [intOf]; omega
   ·have hjn' : j = n := by omega
    subst hjn'
    go_wp2_with fail
    simp [bodyPost, results, Try.results18, go_sem]
    exact ⟨0, f, XX (k : Int) x y f, HSP.out _ _ _ (Or.inr (Or.inr ⟨H6.out, f, HF.out.1, HF.out.2.1, HF.out.2.2, rfl, rfl, rfl⟩)), HB.out, _, c, rfl, HS.out⟩
theorem exAny_any (k : Int) (x y : EithA) (hn : x.cs.length ≤ 8796093022206) (hl : ∀ r ∈ x.rs, r.l.length ≤ 8796093022206) (w : World) (hX : x.At w) (hY : y.At w) : Calls Try.prog 18 #[.int .i64 k, x.val, y.val] w (AnyA k x y w) := by
 by_cases hk : 1 ≤ k ∧ k ≤ 3
 ·obtain ⟨j, rfl⟩ : ∃ j : Nat, k = j := ⟨k.toNat, by omega⟩
  cases hf : fitB x y with
  | false => exact (exAny_form j (by omega) (by omega) x y hn hf w hX hY).mono fun e w' h => ⟨2, 0, [], Or.inr (Or.inl ⟨hk, hf, rfl, rfl, rfl⟩), h⟩
  | true =>
   obtain ⟨f1, f2, f3, f4, f5⟩ := fitB_lens hf
   have h := exAny_body j (by omega) (by omega) x y _ rfl f1 hn hf (fun i hi => by rw [prfAt_eq hi (by omega)]; exact hl _ (List.getElem_mem _)) _ _ _ _ rfl rfl rfl rfl w hX hY
   unfold EithA.val
   rwa [f2, f3, f4]
 ·exact (exAny_none k hk x y w).mono fun e w' h => ⟨1, 0, [], Or.inl ⟨hk, rfl, rfl, rfl⟩, h⟩
end Go.Proofs.Ytipgjookfdkciaa
namespace Go.Proofs.Ytipgjookfdkciaa
open Go.RowKit
def ForkOk (k : Int) (l : List ClaimA) (p q : PrfA) : Prop := backE k l p.c p.l = 0 ∧ backE k l q.c q.l = 0 ∧ backK k l p.c p.l = backK k l q.c q.l
theorem back_lens {k : Int} {l : List ClaimA} {p q : PrfA} (h1 : backE k l p.c p.l = 0) (h2 : backE k l q.c q.l = 0) : (1 ≤ k ∧ k ≤ 3) ∧ p.l.length ≠ 0 ∧ p.l.length = q.l.length ∧
  ((p.c :: p.l).all (isSc (grp k.toNat).q.m (grp k.toNat).size) && (q.c :: q.l).all (isSc (grp k.toNat).q.m (grp k.toNat).size)) = true := by
 obtain ⟨o1, s1⟩ := backE_ok h1
 obtain ⟨o2, s2⟩ := backE_ok h2
 obtain ⟨hk, hsh, _, hxl, hxa⟩ := openK_ok o1
 obtain ⟨_, _, _, hyl, hya⟩ := openK_ok o2
 have hl0 := (shape_ok hsh).1
 refine ⟨hk, by omega, by omega, ?_⟩
 rw [List.all_cons, List.all_cons, s1, s2, hxa, hya]
 rfl
theorem fork_same {k : Int} {l : List ClaimA} {p q : PrfA} (h1 : backE k l p.c p.l = 0) (h2 : backE k l q.c q.l = 0) (h : p.c = q.c) : exEk k p q = 9 := by
 obtain ⟨hk, a1, a2, a3⟩ := back_lens h1 h2
 unfold exEk
 rw [if_pos hk]
 unfold exE
 rw [if_pos ⟨a2, a1⟩, if_pos a3, if_pos h]
theorem fork_val {k : Int} {l : List ClaimA} {p q : PrfA} (h : ForkOk k l p q) : exEk k p q = if p.c = q.c then 9 else 0 := by
 by_cases hc : p.c = q.c
 ·rw [if_pos hc]; exact fork_same h.1 h.2.1 hc
 ·rw [if_neg hc]; exact (sound_any h.1 h.2.1 h.2.2 hc).1
theorem forks_plain {k : Int} {ls : List (List ClaimA)} {x y : EithA} {n : Nat} (hn : n ≠ 0) (h1 : x.cs.length = n) (h2 : y.cs.length = n) (h3 : x.rs.length = n) (h4 : y.rs.length = n) (h : ∀ i, i < n → ForkOk k (ls.getD i []) (prfAt x i) (prfAt y i))
  {er : Int} {idx : Nat} {lst : List ByteArray} (hs : AnySpec k x y er idx lst) :
  (x.cs = y.cs → er = 9) ∧ (x.cs ≠ y.cs → er = 0 ∧ idx < n ∧ lst.length = (ls.getD idx []).length ∧ holdK k (ls.getD idx []) lst = true) := by
 have hc : ∀ i (hx : i < x.cs.length) (hy : i < y.cs.length), (prfAt x i).c = x.cs[i] ∧ (prfAt y i).c = y.cs[i] := fun i hx hy => by
  rw [prfAt_eq hx (by omega), prfAt_eq hy (by omega)]
  exact ⟨rfl, rfl⟩
 have h0 := h 0 (by omega)
 have hk := (back_lens h0.1 h0.2.1).1
 have hfit : fitB x y = true := by
  unfold fitB
  rw [decide_eq_true ⟨by omega, by omega, by omega, by omega⟩, Bool.true_and]
  refine zip_all fun i hi hm => ?_
  have hb := back_lens (h i (by omega)).1 (h i (by omega)).2.1
  rw [prfAt_eq (by omega) hi, prfAt_eq (by omega) hm] at hb
  unfold fit2
  exact decide_eq_true ⟨hb.2.1, hb.2.2.1⟩
 have hne : x.cs ≠ y.cs → ∃ i, i < n ∧ (prfAt x i).c ≠ (prfAt y i).c := fun e => Classical.byContradiction fun g => e (List.ext_getElem (by omega) fun i hx hy => by
  have e1 := hc i hx hy
  rw [← e1.1, ← e1.2]
  exact Classical.byContradiction fun g' => g ⟨i, by omega, g'⟩)
 rcases hs with ⟨g, _⟩ | ⟨_, g, _⟩ | ⟨_, _, ⟨⟨i, hi, g⟩, _⟩ | ⟨_, g, rfl, _⟩ | ⟨_, f, hf, g, _, rfl, rfl, rfl⟩⟩
 ·exact absurd hk g
 ·rw [hfit] at g; cases g
 ·exfalso
  have h9 := fork_val (h i (by omega))
  unfold EE at g
  rw [h9] at g
  split at g <;> omega
 ·refine ⟨fun _ => rfl, fun e => ?_⟩
  exfalso
  obtain ⟨i, hi, hd⟩ := hne e
  have h9 := fork_val (h i hi)
  rw [if_neg hd] at h9
  exact g i (by omega) h9
 ·have hd : (prfAt x idx).c ≠ (prfAt y idx).c := fun e => by
   have h9 := fork_val (h idx (by omega))
   rw [if_pos e] at h9
   unfold EE at g
   omega
  refine ⟨fun e => ?_, fun _ => ?_⟩
  ·exfalso
   have e1 := hc idx (by omega) (by omega)
   exact hd (by rw [e1.1, e1.2]; congr 1)
  ·obtain ⟨_, a2, a3⟩ := sound_any (h idx (by omega)).1 (h idx (by omega)).2.1 (h idx (by omega)).2.2 hd
   exact ⟨rfl, by omega, a2, a3⟩
end Go.Proofs.Ytipgjookfdkciaa
namespace Go.Proofs.Ytipgjookfdkciaa
open Go.RowKit
theorem eachA_small (G : GP) (v : Nat → Nat → Nat) {l : List ClaimA} (hn : l.length ≤ 64) (hb : ∀ c ∈ l, c.bases.length ≤ 8) : (eachA G v (lens l) l.length).length ≤ 64 ∧ ∀ r ∈ eachA G v (lens l) l.length, r.length ≤ 8 := by
 refine ⟨by rw [eachA_len]; exact hn, fun r hr => ?_⟩
 unfold eachA at hr
 obtain ⟨i, hi, rfl⟩ := List.mem_map.1 hr
 have hi := List.mem_range.1 hi
 rw [eachL_len]
 have e : (lens l).getD i 0 = l[i].bases.length := by unfold lens; simp [List.getD, hi]
 rw [e]
 exact hb _ (List.getElem_mem hi)
theorem small_if {P : Prop} [Decidable P] {L : List (List ByteArray)} (h : P → L.length ≤ 64 ∧ ∀ r ∈ L, r.length ≤ 8) : (if P then L else []).length ≤ 64 ∧ ∀ r ∈ (if P then L else []), r.length ≤ 8 := by
 by_cases p : P
 ·rw [if_pos p]; exact h p
 ·rw [if_neg p]; exact ⟨Nat.zero_le _, fun _ h => by cases h⟩
theorem backK_small (k : Int) (l : List ClaimA) (ch : ByteArray) (xs : List ByteArray) : (backK k l ch xs).length ≤ 64 ∧ ∀ r ∈ backK k l ch xs, r.length ≤ 8 := by
 unfold backK
 refine small_if fun h => ?_
 have hs := shape_ok (openK_ok (backE_ok h).1).2.1
 exact eachA_small _ _ hs.2.1 fun c hc => (hs.2.2 c hc).2.1
end Go.Proofs.Ytipgjookfdkciaa
namespace Go.Proofs.Ytipgjookfdkciaa
open Go.ChangeShapes Go.WideShapes Go.ChangeAt Go.RowKit
theorem flat_range (g : Nat → Value) (k len : Nat) : ((List.range len).map fun i => (List.range k).map fun j => g (i * k + j)).flatten = (List.range (len * k)).map g := by
 induction len with
 | zero => simp
 | succ m ih =>
  rw [List.range_succ, List.map_append, List.flatten_append, ih, Nat.succ_mul, List.range_add, List.map_append]
  simp [List.map_map, Function.comp_def]
section
variable {H : Type} {enc : TypeId × Value → H} {P : Program} {w : World}
theorem list_shapes {α : Type} (f : α → List Value) (R : α → Prop) : ∀ css : List (List Value), (∀ l ∈ css, ∃ x, l = f x ∧ R x) → ∃ xs : List α, xs.length = css.length ∧ css.flatten = xs.flatMap f ∧ ∀ x ∈ xs, R x
 | [], _ => ⟨[], rfl, rfl, by simp⟩
 | l :: css, h => by
  obtain ⟨x, rfl, hR⟩ := h l (by simp)
  obtain ⟨xs, h1, h2, h3⟩ := list_shapes f R css (fun c hc => h c (by simp [hc]))
  refine ⟨x :: xs, by simp [h1], by simp [h2], ?_⟩
  intro y hy
  rcases List.mem_cons.1 hy with rfl | hy
  ·exact hR
  ·exact h3 y hy
theorem list2 {cs : List Value} (h : cs.length = 2) : ∃ a b, cs = [a, b] := by
 match cs, h with
 | [a, b], _ => exact ⟨a, b, rfl⟩
theorem open_str {sp : Nat → Bool} {held : Bool} {t : TypeId} {fuel : Nat} {c : Value} {y : DataW H × List MemPlace} (ht : P.underlying t = some .string) (h : DataW.trod enc P w 0 sp held fuel t [c] = some y) : ∃ s : ByteArray, c = .string s := by
 obtain ⟨s, hs, _⟩ := DataW.trod_string ht h
 simp only [List.cons.injEq, and_true] at hs
 exact ⟨s, hs⟩
end
end Go.Proofs.Ytipgjookfdkciaa
namespace Go.Proofs.Ytipgjookfdkciaa
open Go.ChangeShapes Go.WideShapes Go.ChangeAt Go.RowKit
def Wt {H : Type} (P : Program) (t : TypeId) (d : DataW H) : Prop := ∀ n ∈ DataW.weights P t d, n ≤ reachBytes
theorem weightsAll_mem {H : Type} {P : Program} {e : TypeId} : ∀ {l : List (DataW H)} {d : DataW H}, d ∈ l → ∀ n ∈ DataW.weights P e d, n ∈ DataW.weightsAll P e l
 | x :: l, d, hd, n, hn => by
  simp only [DataW.weightsAll, List.mem_append]
  rcases List.mem_cons.1 hd with rfl | h
  ·exact Or.inl hn
  ·exact Or.inr (weightsAll_mem h n hn)
theorem Wt.slice {H : Type} {P : Program} {t e : TypeId} {elems spare : List (DataW H)} (ht : P.underlying t = some (.slice e)) (h : Wt P t (.slice elems spare)) : elems.length * P.bytesOf e ≤ reachBytes ∧ ∀ d ∈ elems, Wt P e d := by
 unfold Wt at h
 simp only [DataW.weights, ht, List.mem_cons, List.mem_append] at h
 refine ⟨Nat.le_trans (Nat.mul_le_mul_right _ (Nat.le_add_right _ _)) (h _ (Or.inl rfl)), fun d hd n hn => h n (Or.inr (Or.inl (weightsAll_mem hd n hn)))⟩
theorem Wt.agg {H : Type} {P : Program} {t : TypeId} {fs : Array Go.Field} {parts : List (DataW H)} (ht : P.underlying t = some (.struct fs)) (h : Wt P t (.agg parts)) : ∀ (j : Nat) (f : Go.Field) (d : DataW H), fs[j]? = some f → parts[j]? = some d → Wt P f.type d := by
 intro j f d hj hd n hn
 unfold Wt at h
 simp only [DataW.weights, ht] at h
 exact h n (DataW.weights_mem_each (ts := fs.toList.map (·.type)) (by rw [List.getElem?_map, Array.getElem?_toList, hj]; rfl) hd n hn)
theorem Wt.arg {H : Type} {P : Program} {ts : List TypeId} {ds : List (DataW H)} (h : (DataW.weightsEach P ts ds).all (· ≤ reachBytes) = true) {j : Nat} {t : TypeId} {d : DataW H} (ht : ts[j]? = some t) (hd : ds[j]? = some d) : Wt P t d :=
 fun n hn => of_decide_eq_true (List.all_eq_true.1 h _ (DataW.weights_mem_each ht hd n hn))
section
variable {H : Type} {enc : TypeId × Value → H} {P : Program} {w : World}
theorem open_flatW {sp : Nat → Bool} {held : Bool} {t e : TypeId} {k fuel : Nat} {c : Value} {y : DataW H × List MemPlace} (ht : P.underlying t = some (.slice e)) (hk : P.cellsOf e = k) (hk0 : 0 < k) (hW : Wt P t y.1)
  (h : DataW.trod enc P w 0 sp held fuel t [c] = some y) :
  ∃ (a : Option Addr) (cap : Nat) (css : List (List Value)), c = .slice a css.length cap ∧ css.length * P.bytesOf e ≤ reachBytes ∧ (a = none → cap = 0) ∧ (∀ l ∈ css, l.length = k) ∧ Sl w w.heap.size a css.flatten ∧
   ∀ l ∈ css, ∃ n y', Wt P e y'.1 ∧ DataW.trod enc P w 0 sp held n e l = some y' := by
 have hlt := DataW.trod_lt _ _ _ _ h
 rcases DataW.trod_slice ht h with ⟨hcs, _⟩ | ⟨x, len, cap, elems, rest, n, _, hcs, hx, hb, hl, hm, hlen, hel, _, _⟩
 ·simp only [List.cons.injEq, and_true] at hcs
  exact ⟨none, 0, [], hcs, by simp, fun _ => rfl, by simp, Or.inl rfl, by simp⟩
 simp only [List.cons.injEq, and_true] at hcs
 subst hcs
 by_cases h0 : len = 0
 ·subst h0
  exact ⟨some x, cap, [], rfl, by simp, by simp, by simp, Or.inl rfl, by simp⟩
 have hbk := Wt.slice (elems := elems.map (·.1)) (spare := rest.map (·.1)) ht (by rw [hx] at hW; exact hW)
 have each : ∀ i, i < len → ∃ l y', w.cells? 0 (x.add (i * k)) k = some l ∧ Wt P e y'.1 ∧ DataW.trod enc P w 0 sp held n e l = some y' := by
  intro i hi
  have h1 := hel i hi
  rw [hk, show elems[i]? = some (elems[i]'(by omega)) from List.getElem?_eq_getElem (by omega), Option.bind_eq_some_iff] at h1
  obtain ⟨l, hl, hy⟩ := h1
  exact ⟨l, _, hl, hbk.2 _ (List.mem_map.2 ⟨_, List.getElem_mem _, rfl⟩), hy⟩
 obtain ⟨b, off, spot⟩ := x
 have hspot : spot = none := by
  obtain ⟨l, _, h1, _⟩ := each 0 (by omega)
  obtain ⟨_, h2, h3⟩ := World.cells?_some h1
  have h4 := h3 0 hk0
  obtain ⟨v, hv⟩ : ∃ v, l[0]? = some v := ⟨_, List.getElem?_eq_getElem (by omega)⟩
  rw [hv, Deep.add_add, Nat.zero_mul, Nat.zero_add] at h4
  simpa [Addr.add] using World.cell?_spot h4
 subst hspot
 have hbW : b < w.heap.size := hlt (.cell b off) (by
  rw [hx]
  exact List.mem_append_left _ (MemPlace.mem_row.2 ⟨0, by rw [hk]; have : 0 < (elems.length + rest.length) * k := Nat.mul_pos (by omega) hk0; omega, by simp⟩))
 have hL : ∀ i, i < len → ((List.range k).map fun j => (w.cell? ⟨b, off + (i * k + j), none⟩).getD (.bool false)).length = k ∧
   (∀ j, j < k → w.cell? ⟨b, off + (i * k + j), none⟩ = some ((w.cell? ⟨b, off + (i * k + j), none⟩).getD (.bool false))) ∧
   ∃ y', Wt P e y'.1 ∧ DataW.trod enc P w 0 sp held n e ((List.range k).map fun j => (w.cell? ⟨b, off + (i * k + j), none⟩).getD (.bool false)) = some y' := by
  intro i hi
  obtain ⟨l, y', h1, h2b, h2⟩ := each i hi
  obtain ⟨_, h3, h4⟩ := World.cells?_some h1
  have h5 : ∀ j, j < k → w.cell? ⟨b, off + (i * k + j), none⟩ = l[j]? := by
   intro j hj
   have := h4 j hj
   rwa [Deep.add_add, add_plain] at this
  have e1 : (List.range k).map (fun j => (w.cell? ⟨b, off + (i * k + j), none⟩).getD (.bool false)) = l := by
   apply List.ext_getElem?
   intro j
   by_cases hj : j < k
   ·rw [List.getElem?_map, List.getElem?_range hj, Option.map_some, h5 j hj, List.getElem?_eq_getElem (show j < l.length by omega), Option.getD_some]
   ·rw [List.getElem?_eq_none (by simp; omega), List.getElem?_eq_none (by omega)]
  refine ⟨by simp, ?_, ?_⟩
  ·intro j hj
   rw [h5 j hj, List.getElem?_eq_getElem (show j < l.length by omega), Option.getD_some]
  ·rw [e1]; exact ⟨y', h2b, h2⟩
 refine ⟨some ⟨b, off, none⟩, cap, (List.range len).map fun i => (List.range k).map fun j => (w.cell? ⟨b, off + (i * k + j), none⟩).getD (.bool false), by simp, ?_, by simp, ?_, Or.inr ⟨b, off, rfl, hbW, ?_⟩, ?_⟩
 ·have := hbk.1; rw [List.length_map, hlen] at this; simpa using this
 ·intro l hl
  obtain ⟨i, _, rfl⟩ := List.mem_map.1 hl
  simp
 ·have hflat := flat_range (fun m => (w.cell? ⟨b, off + m, none⟩).getD (.bool false)) k len
  intro i v hv
  rw [hflat] at hv
  have hi : i < len * k := by have := (List.getElem?_eq_some_iff.1 hv).1; simpa using this
  have hq : i / k < len := Nat.div_lt_of_lt_mul (by rwa [Nat.mul_comm] at hi)
  have hc := (hL (i / k) hq).2.1 (i % k) (Nat.mod_lt _ hk0)
  rw [show i / k * k + i % k = i by rw [Nat.mul_comm]; exact Nat.div_add_mod i k] at hc
  rw [hc, ← hv, List.getElem?_map, List.getElem?_range hi, Option.map_some]
 ·intro l hl
  obtain ⟨i, hi, rfl⟩ := List.mem_map.1 hl
  obtain ⟨y', hyb, hy⟩ := (hL i (List.mem_range.1 hi)).2.2
  exact ⟨n, y', hyb, hy⟩
theorem open_elsW {α : Type} (f : α → List Value) (R : α → Prop) {sp : Nat → Bool} {held : Bool} {t e : TypeId} {k fuel : Nat} {c : Value} {y : DataW H × List MemPlace} (ht : P.underlying t = some (.slice e)) (hk : P.cellsOf e = k) (hk0 : 0 < k) (hW : Wt P t y.1)
  (hel : ∀ n l y', l.length = k → Wt P e y'.1 → DataW.trod enc P w 0 sp held n e l = some y' → ∃ x, l = f x ∧ R x) (h : DataW.trod enc P w 0 sp held fuel t [c] = some y) :
  ∃ (a : Option Addr) (cap : Nat) (xs : List α), c = .slice a xs.length cap ∧ xs.length * P.bytesOf e ≤ reachBytes ∧ (a = none → cap = 0) ∧ Sl w w.heap.size a (xs.flatMap f) ∧ ∀ x ∈ xs, R x := by
 obtain ⟨a, cap, css, rfl, hlB, hno, hl, hs, he⟩ := open_flatW ht hk hk0 hW h
 obtain ⟨xs, h1, h2, h3⟩ := list_shapes f R css (fun l hm => by
  obtain ⟨n, y', hyb, hy⟩ := he l hm
  exact hel n l y' (hl l hm) hyb hy)
 exact ⟨a, cap, xs, by rw [h1], by rw [h1]; exact hlB, hno, h2 ▸ hs, h3⟩
theorem open_cellsW {sp : Nat → Bool} {held : Bool} {t : TypeId} {fs : Array Go.Field} {fuel : Nat} {cs : List Value} {y : DataW H × List MemPlace} (hs : P.underlying t = some (.struct fs)) (hone : Go.Deep.oneCellFields P fs = true) (hC : P.cellsOf t = fs.size) (hW : Wt P t y.1)
  (h : DataW.trod enc P w 0 sp held fuel t cs = some y) :
  cs.length = fs.size ∧ ∀ (j : Nat) (f : Go.Field) (c : Value), fs[j]? = some f → cs[j]? = some c → ∃ n y', Wt P f.type y'.1 ∧ DataW.trod enc P w 0 sp held n f.type [c] = some y' := by
 obtain ⟨ys, n, _, hy, hcl, hlen, hg⟩ := DataW.trod_struct hs h
 have hbk := Wt.agg (parts := ys.map (·.1)) hs (by rw [hy] at hW; exact hW)
 refine ⟨by omega, fun j f c hj hc => ?_⟩
 obtain ⟨ho, hk⟩ := Go.Deep.hone_of hone j f hj
 have hjf : j < fs.size := (Array.getElem?_eq_some_iff.1 hj).1
 have h1 := hg j f hj
 have hjc := (List.getElem?_eq_some_iff.1 hc).1
 rw [ho, hk, List.drop_eq_getElem_cons hjc, List.take_succ_cons, List.take_zero, (List.getElem?_eq_some_iff.1 hc).2, List.getElem?_eq_getElem (show j < ys.length by omega)] at h1
 exact ⟨n, _, hbk j f _ hj (by rw [List.getElem?_map, List.getElem?_eq_getElem (show j < ys.length by omega)]; rfl), h1⟩
theorem open_strsW {sp : Nat → Bool} {held : Bool} {t e : TypeId} {fuel : Nat} {c : Value} {y : DataW H × List MemPlace} (ht : P.underlying t = some (.slice e)) (he : P.underlying e = some .string) (hk : P.cellsOf e = 1) (hW : Wt P t y.1) (h : DataW.trod enc P w 0 sp held fuel t [c] = some y) :
  ∃ (a : Option Addr) (cap : Nat) (bs : List ByteArray), c = .slice a bs.length cap ∧ bs.length * P.bytesOf e ≤ reachBytes ∧ (a = none → cap = 0) ∧ Sl w w.heap.size a (bs.map Value.string) := by
 obtain ⟨a, cap, xs, h1, hb, hno, h2, _⟩ := open_elsW (fun s : ByteArray => [Value.string s]) (fun _ => True) ht hk (by omega) hW (fun n l y' hl _ hy => by
  match l, hl with
  | [c'], _ =>
   obtain ⟨s, rfl⟩ := open_str he hy
   exact ⟨s, rfl, trivial⟩) h
 refine ⟨a, cap, xs, h1, hb, hno, ?_⟩
 rw [← List.flatMap_singleton' (xs.map Value.string), List.flatMap_map]
 exact h2
end
end Go.Proofs.Ytipgjookfdkciaa
namespace Go.Proofs.Ytipgjookfdkciaa
open Go.ChangeShapes Go.WideShapes Go.ChangeAt Go.RowKit
theorem either_cells : Try.prog.cellsOf 27 = 2 := by kernel_rfl
theorem str_cells : Try.prog.cellsOf 9 = 1 := by kernel_rfl
theorem strs_cells : Try.prog.cellsOf 22 = 1 := by kernel_rfl
theorem str_bytes : Try.prog.bytesOf 9 = 16 := by kernel_rfl
theorem strs_bytes : Try.prog.bytesOf 22 = 24 := by kernel_rfl
theorem reach16 {n : Nat} (h : n * 16 ≤ reachBytes) : n ≤ 8796093022206 := by unfold reachBytes at h; omega
theorem reach24 {n : Nat} (h : n * 24 ≤ reachBytes) : n ≤ 8796093022206 := by unfold reachBytes at h; omega
end Go.Proofs.Ytipgjookfdkciaa
namespace Go.Proofs.Ytipgjookfdkciaa
open Go.ChangeShapes Go.WideShapes Go.ChangeAt Go.RowKit
section
variable {H : Type} {enc : TypeId × Value → H} {w : World}
theorem open_rows {sp : Nat → Bool} {held : Bool} (fuel : Nat) (c : Value) (y : DataW H × List MemPlace) (hW : Wt Try.prog 25 y.1) (h : DataW.trod enc Try.prog w 0 sp held fuel 25 [c] = some y) :
  ∃ (a : Option Addr) (cap : Nat) (rs : List RowA), c = .slice a rs.length cap ∧ rs.length ≤ 8796093022206 ∧ RowsAt w a rs ∧ (∀ r ∈ rs, r.a = none → r.c = 0) ∧ (∀ r ∈ rs, r.l.length ≤ 8796093022206) := by
 obtain ⟨a, cap, rs, h1, h2, _, h4, h5⟩ := open_elsW (e := 22) RowA.cells (fun r => RowA.At w r ∧ (r.a = none → r.c = 0) ∧ r.l.length ≤ 8796093022206) Try.underlying25 strs_cells (by omega) hW (fun n l y' hl hW' hy => by
  match l, hl with
  | [c'], _ =>
   obtain ⟨al, cp, bs, rfl, hn, hno, hs⟩ := open_strsW Try.underlying22 Try.underlying9 str_cells hW' hy
   rw [str_bytes] at hn
   exact ⟨⟨al, cp, bs⟩, rfl, hs, hno, reach16 hn⟩) h
 rw [strs_bytes] at h2
 exact ⟨a, cap, rs, h1, reach24 h2, ⟨h4, fun r hr => (h5 r hr).1⟩, fun r hr => (h5 r hr).2.1, fun r hr => (h5 r hr).2.2⟩
theorem open_eith {sp : Nat → Bool} {held : Bool} (fuel : Nat) (cs : List Value) (y : DataW H × List MemPlace) (hW : Wt Try.prog 27 y.1) (h : DataW.trod enc Try.prog w 0 sp held fuel 27 cs = some y) :
  ∃ x : EithA, cs = [.slice x.ac x.cs.length x.cc, .slice x.ar x.rs.length x.cr] ∧ x.At w ∧ x.cs.length ≤ 8796093022206 ∧ ∀ r ∈ x.rs, r.l.length ≤ 8796093022206 := by
 obtain ⟨h1, h2⟩ := open_cellsW Try.underlying27 (by kernel_rfl) either_cells hW h
 obtain ⟨a, b, rfl⟩ := list2 h1
 obtain ⟨_, _, hwa, ha⟩ := h2 0 _ _ rfl rfl
 obtain ⟨_, _, hwb, hb⟩ := h2 1 _ _ rfl rfl
 obtain ⟨al, cap, l, rfl, hn, hno, hs⟩ := open_strsW Try.underlying22 Try.underlying9 str_cells hwa ha
 obtain ⟨ar, cr, rs, rfl, hn2, hr, hno2, hr2⟩ := open_rows _ _ _ hwb hb
 rw [str_bytes] at hn
 exact ⟨⟨al, cap, l, ar, cr, rs⟩, rfl, ⟨hs, hr, hno2⟩, reach16 hn, hr2⟩
end
theorem agg_of {cs : Array Value} {l : List Value} (h : cs.toList = l) : Value.agg cs = .agg l.toArray := by rw [← h]
theorem claim_cells : Try.prog.cellsOf 70 = 2 := by kernel_rfl
section
variable {H : Type} {enc : TypeId × Value → H} {w : World}
theorem open_claims {sp : Nat → Bool} {held : Bool} (fuel : Nat) (c : Value) (y : DataW H × List MemPlace) (hW : Wt Try.prog 58 y.1) (h : DataW.trod enc Try.prog w 0 sp held fuel 58 [c] = some y) :
  ∃ (a : Option Addr) (cap : Nat) (l : List ClaimA), c = .slice a l.length cap ∧ ClaimsAt w a l := by
 obtain ⟨a, cap, rs, h1, _, _, h4, h5⟩ := open_elsW (e := 70) ClaimA.cells (fun r => ClaimA.At w r) Try.underlying58 claim_cells (by omega) hW (fun n l y' hl hW' hy => by
  obtain ⟨g1, g2⟩ := open_cellsW Try.underlying70 (by kernel_rfl) claim_cells hW' hy
  obtain ⟨x1, x2, rfl⟩ := list2 g1
  obtain ⟨_, _, hwa, ha⟩ := g2 0 _ _ rfl rfl
  obtain ⟨_, _, hwb, hb⟩ := g2 1 _ _ rfl rfl
  obtain ⟨al, cp, bs, rfl, _, _, hs⟩ := open_strsW Try.underlying22 Try.underlying9 str_cells hwa ha
  obtain ⟨ai, ci, is, rfl, _, _, hi⟩ := open_strsW Try.underlying22 Try.underlying9 str_cells hwb hb
  exact ⟨⟨al, cp, bs, ai, ci, is⟩, rfl, hs, hi⟩) h
 exact ⟨a, cap, rs, h1, ⟨h4, fun c hc => h5 c hc⟩⟩
end
end Go.Proofs.Ytipgjookfdkciaa
namespace Go.Proofs.Ytipgjookfdkciaa
open Go.RowKit
section
variable {G : GP} {aq ap : Option Addr} {cq cp : Nat}
end
theorem toList_ne {a b : ByteArray} (h : ¬ a = b) : ¬ a.toList = b.toList := fun e => h (by
 have h9 : (a == b) = true := by rw [beq_toListBytes]; exact beq_iff_eq.2 e
 obtain ⟨x⟩ := a
 obtain ⟨y⟩ := b
 have h10 : (x == y) = true := h9
 rw [eq_of_beq h10])
theorem toList_bne {a b : ByteArray} (h : ¬ a = b) : (a.toList == b.toList) = false := beq_eq_false_iff_ne.2 (toList_ne h)
section
variable {G : GP} {aq ap : Option Addr} {cq cp : Nat}
end
end Go.Proofs.Ytipgjookfdkciaa
namespace Go.Proofs.Ytipgjookfdkciaa
open Go.RowKit
theorem take_eq_snoc {l m : List ByteArray} {j : Nat} (hl : j < l.length) (hm : j < m.length) (h : l.take j = m.take j) (h1 : l[j] = m[j]) : l.take (j + 1) = m.take (j + 1) := by
 rw [List.take_succ_eq_append_getElem hl, List.take_succ_eq_append_getElem hm, h, h1]
theorem same5_any (l m : List ByteArray) (al am : Option Addr) (cl cm : Nat) (hl : l.length ≤ 8796093022207) (b : Bool) (hb : decide (l = m) = b) (w : World) (hL : Sl w w.heap.size al (l.map Value.string)) (hM : Sl w w.heap.size am (m.map Value.string)) :
  Calls Try.prog 17 #[.slice al l.length cl, .slice am m.length cm] w (Gives (.bool b) w) := by
 have HL := Lib.hid hL
 have HM := Lib.hid hM
 have HBB := Lib.hid hb
 clear hL hM hb
 unfold Gives
 by_cases h1 : l.length = m.length
 ·have hd : ((l.length : Int) != (m.length : Int)) = false := by rw [bne_eq_false_iff_eq]; omega
  obtain ⟨n, hn⟩ : ∃ n, l.length = n := ⟨_, rfl⟩
  have hm : m.length = n := by omega
  have HNL := Lib.hid hn
  have HNM := Lib.hid hm
  rw [hn] at hd hl ⊢
  rw [hm] at hd ⊢
  clear h1 hn hm
  go_enter Try.func17, Try.ntmps17
  go_wp2_with fail
  go_loopw [13] (fun i wr => ∃ j : Nat, j ≤ n ∧ i = .int .i64 j ∧ Hid (Below w.heap.size w wr) ∧ Hid (l.take j = m.take j)) (fun i _ => n - (intOf i).toNat)
  case atStart => exact ⟨0, Nat.zero_le _, rfl, Below.refl _ _, rfl⟩
  case round =>
   obtain ⟨j, hj, rfl, HB, HT⟩ := hrel
   by_cases hjn : j < n
   ·skip
    have hjl : j < l.length := by rw [HNL.out]; exact hjn
    have hjm : j < m.length := by rw [HNM.out]; exact hjn
    obtain ⟨b1, o1, rfl, hb10, hb1, hc1⟩ := HL.out.atUp HB.out j (by simpa using hjl)
    obtain ⟨b2, o2, rfl, hb20, hb2, hc2⟩ := HM.out.atUp HB.out j (by simpa using hjm)
    rw [List.getElem_map] at hc1 hc2
    have HTS := Lib.hid (take_eq_snoc hjl hjm HT.out)
    have HNE := Lib.hid (fun (h : ¬ l[j] = m[j]) => (show ¬ l = m from fun e => h (by subst e; rfl)))
    generalize l[j] = x at *
    generalize m[j] = y at *
    by_cases hxy : x = y
    ·have HF := Lib.hid (HTS.out hxy)
     subst hxy
     go_wp2_with fail
     refine wp_region_over (by kernel_rfl) (by kernel_rfl) ?_
     have hov_b1 := fun (E : Over wr) o => E.cell (b := b1) o hb1
     have hov_b2 := fun (E : Over wr) o => E.cell (b := b2) o hb2
     repeat (go_big_quiet_step (first | fail))
     all_goals (try unfold elV limbV)
     repeat (go_big_quiet_step (first | fail))
     all_goals (try unfold elV limbV)
     repeat (go_big_quiet_step (first | fail))
     all_goals (try unfold ciphV)
     refine wpQuiet_nil ?_
     rintro _ ⟨E, rfl⟩
     clear hov_b1 hov_b2
     replace HB := hbu HB E.h
     have HZS := Lib.hid E.h.size
     obtain ⟨w1, hq9⟩ : ∃ W9 : World, E.w = W9 := ⟨_, rfl⟩
     rw [hq9] at HB HZS ⊢
     clear hq9 E
     go_wp2_with fail
     go_roundw
     case rel => exact ⟨j + 1, by omega, by go_num, HB, HF⟩
     case measure => simp [intOf]; omega
    ·obtain rfl : b = false := by rw [← HBB.out]; exact decide_eq_false (HNE.out hxy)
     have hcd := toList_bne hxy
     clear hxy
     go_wp2_with fail
     refine wp_region_over (by kernel_rfl) (by kernel_rfl) ?_
     have hov_b1 := fun (E : Over wr) o => E.cell (b := b1) o hb1
     have hov_b2 := fun (E : Over wr) o => E.cell (b := b2) o hb2
     repeat (go_big_quiet_step (first | fail))
     all_goals (try unfold elV limbV)
     repeat (go_big_quiet_step (first | fail))
     all_goals (try unfold elV limbV)
     repeat (go_big_quiet_step (first | fail))
     all_goals (try unfold ciphV)
     refine wpQuiet_nil ?_
     rintro _ ⟨E, rfl⟩
     clear hov_b1 hov_b2
     replace HB := hbu HB E.h
     have HZS := Lib.hid E.h.size
     obtain ⟨w1, hq9⟩ : ∃ W9 : World, E.w = W9 := ⟨_, rfl⟩
     rw [hq9] at HB HZS ⊢
     clear hq9 E
     go_wp2_with fail
     go_ret
     exact ⟨rfl, HB.out⟩
   ·have hjn' : j = n := by omega
    subst hjn'
    obtain rfl : b = true := by
     rw [← HBB.out]
     refine decide_eq_true ?_
     have h9 := HT.out
     rwa [List.take_of_length_le (by rw [HNL.out]; exact Nat.le_refl _), List.take_of_length_le (by rw [HNM.out]; exact Nat.le_refl _)] at h9
    go_wp2_with fail
    go_ret
    exact ⟨rfl, HB.out⟩
 ·have hd : ((l.length : Int) != (m.length : Int)) = true := by rw [bne_iff_ne]; omega
  obtain rfl : b = false := by rw [← HBB.out]; exact decide_eq_false (fun e => h1 (by rw [e]))
  clear h1
  go_enter Try.func17, Try.ntmps17
  go_wp2_with fail
  go_ret
  exact ⟨rfl, Below.refl _ _⟩
end Go.Proofs.Ytipgjookfdkciaa
namespace Go.Proofs.Ytipgjookfdkciaa
open Go.RowKit
theorem take_rows {L M : List (List ByteArray)} {j : Nat} (hl : j < L.length) (hm : j < M.length) (h : L.take j = M.take j) (h1 : L[j] = M[j]) : L.take (j + 1) = M.take (j + 1) := by
 rw [List.take_succ_eq_append_getElem hl, List.take_succ_eq_append_getElem hm, h, h1]
theorem sameLists5_any (L M : List (List ByteArray)) (n m : Nat) (hL : L.length = n) (hM : M.length = m) (hn : n ≤ 8796093022206) (hr : ∀ r ∈ L, r.length ≤ 8796093022206) (ro so : List RowA) (h1 : ro.map RowA.l = L) (h2 : so.map RowA.l = M) (b : Bool) (hb : decide (L = M) = b) (a1 a2 : Option Addr) (c1 c2 : Nat) (w : World) (hR : RowsAt w a1 ro) (hS : RowsAt w a2 so) :
  Calls Try.prog 48 #[.slice a1 n c1, .slice a2 m c2] w (Gives (.bool b) w) := by
 have hn1 : ro.length = n := by rw [← hL, ← h1, List.length_map]
 have hn2 : so.length = m := by rw [← hM, ← h2, List.length_map]
 have HN1 := Lib.hid hn1
 have HN2 := Lib.hid hn2
 have HLL := Lib.hid hL
 have HLM := Lib.hid hM
 have HBB := Lib.hid hb
 have HE := Lib.hid (fun i (g1 : i < ro.length) (g2 : i < L.length) => (show L[i] = ro[i].l by subst h1; simp))
 have HF := Lib.hid (fun i (g1 : i < so.length) (g2 : i < M.length) => (show M[i] = so[i].l by subst h2; simp))
 have HLE := Lib.hid (fun i (g1 : i < ro.length) => (show ro[i].l.length ≤ 8796093022207 by
  have := hr ro[i].l (by rw [← h1]; exact List.mem_map.2 ⟨_, List.getElem_mem g1, rfl⟩)
  omega))
 have HR := Lib.hid hR
 have HS := Lib.hid hS
 clear hn1 hn2 h1 h2 hr hR hS hL hM hb
 unfold Gives
 by_cases hnm : n = m
 ·subst hnm
  have hd : ((n : Int) != (n : Int)) = false := by simp
  go_enter Try.func48, Try.ntmps48
  go_wp2_with fail
  go_loopw [13] (fun i wr => ∃ j : Nat, j ≤ n ∧ i = .int .i64 j ∧ Hid (Below w.heap.size w wr) ∧ Hid (L.take j = M.take j)) (fun i _ => n - (intOf i).toNat)
  case atStart => exact ⟨0, Nat.zero_le _, rfl, Below.refl _ _, rfl⟩
  case round =>
   obtain ⟨j, hj, rfl, HB, HT⟩ := hrel
   by_cases hjn : j < n
   ·skip
    have g1 : j < ro.length := by rw [HN1.out]; exact hjn
    have g2 : j < so.length := by rw [HN2.out]; exact hjn
    have g3 : j < L.length := by rw [HLL.out]; exact hjn
    have g4 : j < M.length := by rw [HLM.out]; exact hjn
    obtain ⟨b1, o1, rfl, hb10, hb1, hc1⟩ := HR.out.cell HB.out j g1
    obtain ⟨b2, o2, rfl, hb20, hb2, hc2⟩ := HS.out.cell HB.out j g2
    have HP := Lib.hid (show Sl wr wr.heap.size ro[j].a (ro[j].l.map Value.string) from (HR.out.up HB.out).one j g1)
    have HQ := Lib.hid (show Sl wr wr.heap.size so[j].a (so[j].l.map Value.string) from (HS.out.up HB.out).one j g2)
    have HYE := Lib.hid (fun (e : ro[j].l = so[j].l) => take_rows g3 g4 HT.out ((HE.out j g1 g3).trans (e.trans (HF.out j g2 g4).symm)))
    have HNE := Lib.hid (fun (e : ¬ ro[j].l = so[j].l) => (show ¬ L = M from fun e' => e ((HE.out j g1 g3).symm.trans (Eq.trans (by subst e'; rfl) (HF.out j g2 g4)))))
    have HLJ := Lib.hid (HLE.out j g1)
    generalize ro[j] = r at *
    generalize so[j] = s at *
    obtain ⟨bj, hbj⟩ : ∃ x, decide (r.l = s.l) = x := ⟨_, rfl⟩
    have HBJ := Lib.hid hbj
    cases bj
    ·obtain rfl : b = false := by rw [← HBB.out]; exact decide_eq_false (HNE.out (of_decide_eq_false hbj))
     clear hbj
     go_wp2_with fail
     refine wp_region_over (by kernel_rfl) (by kernel_rfl) ?_
     have hov_b1 := fun (E : Over wr) o => E.cell (b := b1) o hb1
     have hov_b2 := fun (E : Over wr) o => E.cell (b := b2) o hb2
     repeat (go_big_quiet_step (first | (go_at_call 17; exact calls_over (same5_any r.l s.l r.a s.a r.c s.c HLJ.out false HBJ.out _ (HP.out.up (Over.h _)) (HQ.out.up (Over.h _))))))
     all_goals (try unfold elV limbV)
     repeat (go_big_quiet_step (first | (go_at_call 17; exact calls_over (same5_any r.l s.l r.a s.a r.c s.c HLJ.out false HBJ.out _ (HP.out.up (Over.h _)) (HQ.out.up (Over.h _))))))
     all_goals (try unfold elV limbV)
     repeat (go_big_quiet_step (first | (go_at_call 17; exact calls_over (same5_any r.l s.l r.a s.a r.c s.c HLJ.out false HBJ.out _ (HP.out.up (Over.h _)) (HQ.out.up (Over.h _))))))
     all_goals (try unfold ciphV)
     refine wpQuiet_nil ?_
     rintro _ ⟨E, rfl⟩
     clear hov_b1 hov_b2
     replace HB := hbu HB E.h
     have HZS := Lib.hid E.h.size
     obtain ⟨w1, hq9⟩ : ∃ W9 : World, E.w = W9 := ⟨_, rfl⟩
     rw [hq9] at HB HZS ⊢
     clear hq9 E
     go_wp2_with fail
     go_ret
     exact ⟨rfl, HB.out⟩
    ·have HTS := Lib.hid (HYE.out (of_decide_eq_true hbj))
     clear hbj
     go_wp2_with fail
     refine wp_region_over (by kernel_rfl) (by kernel_rfl) ?_
     have hov_b1 := fun (E : Over wr) o => E.cell (b := b1) o hb1
     have hov_b2 := fun (E : Over wr) o => E.cell (b := b2) o hb2
     repeat (go_big_quiet_step (first | (go_at_call 17; exact calls_over (same5_any r.l s.l r.a s.a r.c s.c HLJ.out true HBJ.out _ (HP.out.up (Over.h _)) (HQ.out.up (Over.h _))))))
     all_goals (try unfold elV limbV)
     repeat (go_big_quiet_step (first | (go_at_call 17; exact calls_over (same5_any r.l s.l r.a s.a r.c s.c HLJ.out true HBJ.out _ (HP.out.up (Over.h _)) (HQ.out.up (Over.h _))))))
     all_goals (try unfold elV limbV)
     repeat (go_big_quiet_step (first | (go_at_call 17; exact calls_over (same5_any r.l s.l r.a s.a r.c s.c HLJ.out true HBJ.out _ (HP.out.up (Over.h _)) (HQ.out.up (Over.h _))))))
     all_goals (try unfold ciphV)
     refine wpQuiet_nil ?_
     rintro _ ⟨E, rfl⟩
     clear hov_b1 hov_b2
     replace HB := hbu HB E.h
     have HZS := Lib.hid E.h.size
     obtain ⟨w1, hq9⟩ : ∃ W9 : World, E.w = W9 := ⟨_, rfl⟩
     rw [hq9] at HB HZS ⊢
     clear hq9 E
     go_wp2_with fail
     go_roundw
     case rel => exact ⟨j + 1, by omega, by go_num, HB, HTS⟩
     case measure => simp [intOf]; omega
   ·have hjn' : j = n := by omega
    subst hjn'
    obtain rfl : b = true := by
     rw [← HBB.out]
     refine decide_eq_true ?_
     have h9 := HT.out
     rwa [List.take_of_length_le (by rw [HLL.out]; exact Nat.le_refl _), List.take_of_length_le (by rw [HLM.out]; exact Nat.le_refl _)] at h9
    go_wp2_with fail
    go_ret
    exact ⟨rfl, HB.out⟩
 ·have hd : ((n : Int) != (m : Int)) = true := by rw [bne_iff_ne]; omega
  obtain rfl : b = false := by rw [← HBB.out]; exact decide_eq_false (fun e => hnm (by rw [← HLL.out, ← HLM.out, e]))
  clear hnm
  go_enter Try.func48, Try.ntmps48
  go_wp2_with fail
  go_ret
  exact ⟨rfl, Below.refl _ _⟩
end Go.Proofs.Ytipgjookfdkciaa
namespace Go.Proofs.Ytipgjookfdkciaa
open Go.ChangeShapes Go.WideShapes Go.ChangeAt Go.RowKit
theorem forks_off (k : Int) (n m1 m2 m3 m4 : Nat) (al ac ar bc br : Option Addr) (cl cc cr dc dr : Nat) (h : ¬ (n ≠ 0 ∧ m1 = n ∧ m3 = n ∧ m2 = n ∧ m4 = n)) (w : World) :
  Calls Try.prog 13 #[.int .i64 k, .slice al n cl, .agg #[.slice ac m1 cc, .slice ar m2 cr], .agg #[.slice bc m3 dc, .slice br m4 dr]] w fun e w' => e = .returned (.bool true) ∧ Below w.heap.size w w' := by
 by_cases g0 : n = 0
 ·have hd0 : ((n : Int) == 0) = true := by simp; omega
  clear h g0
  go_enter Try.func13, Try.ntmps13
  go_wp2_with fail
  obtain ⟨w1, hq1, hb9, hz9, Hba, Hbb⟩ := new2 w 27 [.slice ac m1 cc, .slice ar m2 cr] 27 [.slice bc m3 dc, .slice br m4 dr]
  rw [hq1]
  clear hq1
  have HB := Lib.hid hb9
  have HZS := hz9
  clear hb9 hz9
  have ba_ := Hba.out.c2
  have bb_ := Hbb.out.c2
  go_wp2_with fail
  go_ret
  exact ⟨rfl, HB.out⟩
 have hd0 : ((n : Int) == 0) = false := by simp; omega
 by_cases g1 : m1 = n
 case neg =>
  have hd1 : ((m1 : Int) != (n : Int)) = true := by simp; omega
  clear h g0 g1
  go_enter Try.func13, Try.ntmps13
  go_wp2_with fail
  obtain ⟨w1, hq1, hb9, hz9, Hba, Hbb⟩ := new2 w 27 [.slice ac m1 cc, .slice ar m2 cr] 27 [.slice bc m3 dc, .slice br m4 dr]
  rw [hq1]
  clear hq1
  have HB := Lib.hid hb9
  have HZS := hz9
  clear hb9 hz9
  have ba_ := Hba.out.c2
  have bb_ := Hbb.out.c2
  go_wp2_with fail
  go_ret
  exact ⟨rfl, HB.out⟩
 have hd1 : ((m1 : Int) != (n : Int)) = false := by simp; omega
 by_cases g2 : m3 = n
 case neg =>
  have hd2 : ((m3 : Int) != (n : Int)) = true := by simp; omega
  clear h g0 g1 g2
  go_enter Try.func13, Try.ntmps13
  go_wp2_with fail
  obtain ⟨w1, hq1, hb9, hz9, Hba, Hbb⟩ := new2 w 27 [.slice ac m1 cc, .slice ar m2 cr] 27 [.slice bc m3 dc, .slice br m4 dr]
  rw [hq1]
  clear hq1
  have HB := Lib.hid hb9
  have HZS := hz9
  clear hb9 hz9
  have ba_ := Hba.out.c2
  have bb_ := Hbb.out.c2
  go_wp2_with fail
  go_ret
  exact ⟨rfl, HB.out⟩
 have hd2 : ((m3 : Int) != (n : Int)) = false := by simp; omega
 by_cases g3 : m2 = n
 case neg =>
  have hd3 : ((m2 : Int) != (n : Int)) = true := by simp; omega
  clear h g0 g1 g2 g3
  go_enter Try.func13, Try.ntmps13
  go_wp2_with fail
  obtain ⟨w1, hq1, hb9, hz9, Hba, Hbb⟩ := new2 w 27 [.slice ac m1 cc, .slice ar m2 cr] 27 [.slice bc m3 dc, .slice br m4 dr]
  rw [hq1]
  clear hq1
  have HB := Lib.hid hb9
  have HZS := hz9
  clear hb9 hz9
  have ba_ := Hba.out.c2
  have bb_ := Hbb.out.c2
  go_wp2_with fail
  go_ret
  exact ⟨rfl, HB.out⟩
 have hd3 : ((m2 : Int) != (n : Int)) = false := by simp; omega
 have hd4 : ((m4 : Int) != (n : Int)) = true := by simp; omega
 clear h g0 g1 g2 g3
 go_enter Try.func13, Try.ntmps13
 go_wp2_with fail
 obtain ⟨w1, hq1, hb9, hz9, Hba, Hbb⟩ := new2 w 27 [.slice ac m1 cc, .slice ar m2 cr] 27 [.slice bc m3 dc, .slice br m4 dr]
 rw [hq1]
 clear hq1
 have HB := Lib.hid hb9
 have HZS := hz9
 clear hb9 hz9
 have ba_ := Hba.out.c2
 have bb_ := Hbb.out.c2
 go_wp2_with fail
 go_ret
 exact ⟨rfl, HB.out⟩
theorem backK_len9 {k : Int} {l : List ClaimA} {ch : ByteArray} {xs : List ByteArray} (h : backE k l ch xs = 0) : (backK k l ch xs).length = l.length := by
 unfold backK
 rw [if_pos h, eachA_len]
theorem forks_body (k : Int) (ss : List SetA) (n : Nat) (hn : ss.length = n) (h0 : n ≠ 0) (al : Option Addr) (cl : Nat) (x y : EithA) (g1 : x.cs.length = n) (g2 : y.cs.length = n) (g3 : x.rs.length = n) (g4 : y.rs.length = n) (hx2 : n ≤ 8796093022206) (hxr : ∀ r ∈ x.rs, r.l.length ≤ 8796093022206) (hyr : ∀ r ∈ y.rs, r.l.length ≤ 8796093022206) (ac ar bc br : Option Addr) (cc cr dc dr : Nat) (eac : x.ac = ac) (ear : x.ar = ar) (ebc : y.ac = bc) (ebr : y.ar = br) (ecc : x.cc = cc) (ecr : x.cr = cr) (edc : y.cc = dc) (edr : y.cr = dr) (w : World) (hC : SetsAt w al ss) (hx : x.At w) (hy : y.At w) :
  Calls Try.prog 13 #[.int .i64 k, .slice al n cl, .agg #[.slice ac n cc, .slice ar n cr], .agg #[.slice bc n dc, .slice br n dr]] w fun e w' => e = .returned (.bool true) ∧ Below w.heap.size w w' := by
 have HEX := Lib.hid (fun w1 (hb : Below w.heap.size w w1) => exAny_any k x y (by omega) hxr w1 (hx.up hb) (hy.up hb))
 unfold EithA.val AnyA AnyR at HEX
 rw [g1, g2, g3, g4, eac, ear, ebc, ebr, ecc, ecr, edc, edr] at HEX
 have HFP := Lib.hid (fun (h : ∀ i, i < n → ForkOk k ((ss.map SetA.l).getD i []) (prfAt x i) (prfAt y i)) er idx lst (hs : AnySpec k x y er idx lst) => forks_plain (ls := ss.map SetA.l) h0 g1 g2 g3 g4 h hs)
 have HC := Lib.hid hC
 have HXC := Lib.hid (show Sl w w.heap.size ac (x.cs.map Value.string) from eac ▸ hx.c)
 have HYC := Lib.hid (show Sl w w.heap.size bc (y.cs.map Value.string) from ebc ▸ hy.c)
 have HXR := Lib.hid (show RowsAt w ar x.rs from ear ▸ hx.r)
 have HYR := Lib.hid (show RowsAt w br y.rs from ebr ▸ hy.r)
 have HSM := Lib.hid (fun b hb w h1 h2 => same5_any x.cs y.cs ac bc cc dc (by omega) b hb w h1 h2)
 rw [g1, g2] at HSM
 have HN := Lib.hid hn
 have HG1 := Lib.hid g1
 have HG2 := Lib.hid g2
 have HG3 := Lib.hid g3
 have HG4 := Lib.hid g4
 have HRX := Lib.hid hxr
 have HRY := Lib.hid hyr
 have HPX := Lib.hid (fun j (h1 : j < x.cs.length) (h2 : j < x.rs.length) => prfAt_eq (x := x) h1 h2)
 have HPY := Lib.hid (fun j (h1 : j < y.cs.length) (h2 : j < y.rs.length) => prfAt_eq (x := y) h1 h2)
 have hd0 : ((n : Int) == 0) = false := by simp; omega
 have hd1 : ((n : Int) != (n : Int)) = false := by simp
 clear hn g1 g2 g3 g4 hxr hyr eac ear ebc ebr ecc ecr edc edr hC hx hy
 generalize x.cs = xcs at *
 generalize y.cs = ycs at *
 generalize x.rs = xrs at *
 generalize y.rs = yrs at *
 go_enter Try.func13, Try.ntmps13
 go_wp2_with fail
 obtain ⟨w1, hq1, hb9, hz9, Hba, Hbb⟩ := new2 w 27 [.slice ac n cc, .slice ar n cr] 27 [.slice bc n dc, .slice br n dr]
 rw [hq1]
 clear hq1
 have HB := Lib.hid hb9
 have HZS := hz9
 clear hb9 hz9
 have ba_ := Hba.out.c2
 have bb_ := Hbb.out.c2
 have BL := Lib.hid (Below.refl w1.heap.size w1)
 go_wp2_with fail
 go_loopw [55] (fun i wr => ∃ j : Nat, j ≤ n ∧ i = .int .i64 j ∧ Hid (∀ i, i < j → ForkOk k ((ss.map SetA.l).getD i []) (prfAt x i) (prfAt y i)) ∧ Hid (Below w1.heap.size w1 wr)) (fun i _ => n - (intOf i).toNat)
 case atStart => exact ⟨0, Nat.zero_le _, rfl, Lib.hid (fun _ h => absurd h (by omega)), BL⟩
 case round =>
  obtain ⟨j, hj, rfl, HFK, HL9⟩ := hrel
  have hb9 := HL9.out
  clear HL9 ba_
  replace Hba := Lib.hid (Hba.out.up hb9)
  clear bb_
  replace Hbb := Lib.hid (Hbb.out.up hb9)
  replace BL := hbu BL hb9
  replace HB := hbu HB hb9
  replace HZS := sz HZS hb9.size
  clear hb9
  have ba_ := Hba.out.c2
  have bb_ := Hbb.out.c2
  by_cases hjn : j < n
  ·have hjs : j < ss.length := by rw [HN.out]; exact hjn
   have hj1 : j < xcs.length := by rw [HG1.out]; exact hjn
   have hj2 : j < ycs.length := by rw [HG2.out]; exact hjn
   have hj3 : j < xrs.length := by rw [HG3.out]; exact hjn
   have hj4 : j < yrs.length := by rw [HG4.out]; exact hjn
   obtain ⟨bl, ol, rfl, hbl0, hc⟩ := (HC.out.s.up HB.out).elem SetA.cells_len (by omega) j hjs
   have hc_0 := hc 0 _ rfl
   rw [Nat.add_zero] at hc_0
   clear hc
   rw [Nat.mul_one] at hc_0
   obtain ⟨b1, o1, rfl, hb1, hc1⟩ := (HXC.out.up HB.out).at j (by simpa using hj1)
   obtain ⟨b2, o2, rfl, hb2, hc2⟩ := (HYC.out.up HB.out).at j (by simpa using hj2)
   rw [List.getElem_map] at hc1 hc2
   obtain ⟨b3, o3, rfl, hb3, hc3⟩ := (HXR.out.s.up HB.out).elem RowA.cells_len (by omega) j hj3
   obtain ⟨b4, o4, rfl, hb4, hc4⟩ := (HYR.out.s.up HB.out).elem RowA.cells_len (by omega) j hj4
   have hc3_0 := hc3 0 _ rfl
   rw [Nat.add_zero] at hc3_0
   clear hc3
   have hc4_0 := hc4 0 _ rfl
   rw [Nat.add_zero] at hc4_0
   clear hc4
   rw [Nat.mul_one] at hc3_0 hc4_0
   have HAT := Lib.hid (HC.out.one j hjs)
   have HA3 := Lib.hid (HXR.out.one j hj3)
   have HA4 := Lib.hid (HYR.out.one j hj4)
   have HB3 := Lib.hid (HRX.out _ (List.getElem_mem hj3))
   have HB4 := Lib.hid (HRY.out _ (List.getElem_mem hj4))
   have HLJ := Lib.hid (show (ss.map SetA.l).getD j [] = ss[j].l by rw [List.getD_eq_getElem?_getD, List.getElem?_map, List.getElem?_eq_getElem hjs]; rfl)
   have HQX := Lib.hid (HPX.out j hj1 hj3)
   have HQY := Lib.hid (HPY.out j hj2 hj4)
   have HFS := Lib.hid (fun (h : ForkOk k ((ss.map SetA.l).getD j []) (prfAt x j) (prfAt y j)) i (hi : i < j + 1) => (by
    by_cases e : i = j
    ·rw [e]; exact h
    ·exact HFK.out i (by omega) : ForkOk k ((ss.map SetA.l).getD i []) (prfAt x i) (prfAt y i)))
   rw [HLJ.out, HQX.out, HQY.out] at HFS
   clear HLJ HQX HQY HFK
   generalize ss[j] = s at *
   generalize xcs[j] = c1 at *
   generalize ycs[j] = c2 at *
   generalize xrs[j] = r1 at *
   generalize yrs[j] = r2 at *
   clear hjs hj1 hj2 hj3 hj4
   have HK1 := Lib.hid (fun W h1 h2 => sBack_any k s.l s.a s.c c1 r1.l r1.a r1.c (by have := HB3.out; omega) W h1 h2)
   have HK2 := Lib.hid (fun W h1 h2 => sBack_any k s.l s.a s.c c2 r2.l r2.a r2.c (by have := HB4.out; omega) W h1 h2)
   have SB1 := Lib.hid (backK_small k s.l c1 r1.l)
   have SB2 := Lib.hid (backK_small k s.l c2 r2.l)
   have HL1 := Lib.hid (fun h => backK_len9 (k := k) (l := s.l) (ch := c1) (xs := r1.l) h)
   unfold ForkOk at HFS
   dsimp only at HFS
   generalize backK k s.l c1 r1.l = L1 at *
   generalize backK k s.l c2 r2.l = L2 at *
   generalize backE k s.l c1 r1.l = e1 at *
   generalize backE k s.l c2 r2.l = e2 at *
   unfold RowsE at HK1 HK2
   obtain ⟨n1, hn1⟩ : ∃ n, L1.length = n := ⟨_, rfl⟩
   obtain ⟨n2, hn2⟩ : ∃ n, L2.length = n := ⟨_, rfl⟩
   rw [hn1] at HK1 HL1
   rw [hn2] at HK2
   have HN1 := Lib.hid hn1
   have HN2 := Lib.hid hn2
   have hn16 : n1 ≤ 64 := by rw [← hn1]; exact SB1.out.1
   have hn26 : n2 ≤ 64 := by rw [← hn2]; exact SB2.out.1
   have SR1 := Lib.hid (fun r hr => Nat.le_trans (SB1.out.2 r hr) (by decide : 8 ≤ 8796093022206))
   have HC2 := Lib.hid hc2
   have HC4 := Lib.hid hc4_0
   have HD2 := Lib.hid hb2
   have HD4 := Lib.hid hb4
   clear hn1 hn2 SB1 SB2 hc2 hc4_0 hb2 hb4 bb_
   have BR := Lib.hid (Below.refl wr.heap.size wr)
   go_wp2_with fail
   have HT := Lib.hid (show Below wr.heap.size wr wr.drew from (Below.refl _ _).drew)
   have hl_ba := Hba.out.lt
   refine wp_region_tree (fun wq9 => ∃ E : Over wr, wq9 = E.w) ((.qs [0, 1, 2, 3, 4, 5, 6, 7, 8, 9, 10, 11] (.a 12 (.qs [13, 14, 15, 16, 17] .done)))) (by kernel_rfl) (by kernel_rfl) (fun _ _ d _ _ h => by cases d <;> exact h) ⟨⟨_, HT.out⟩, rfl⟩ ?_
   have hov_ba := fun (E : Over wr) o => E.cell (b := w.heap.size) o hl_ba
   have hov_b1 := fun (E : Over wr) o => E.cell (b := b1) o hb1
   have hov_b3 := fun (E : Over wr) o => E.cell (b := b3) o hb3
   simp only [Tree.qs]
   repeat (refine tree_q rfl rfl ?_; go_big_quiet_step (fail); refine wpQuiet_nil ?_)
   refine tree_a rfl (fun K hK => ?_)
   go_simp
   refine (HK1.out _ (HAT.out.up (below_up HB.out HT.out)) (HA3.out.up (below_up HB.out HT.out))).mono ?_
   rintro e w2 ⟨hb9, a1, d1, ro1, rfl, hm1, hr1, _⟩
   replace HT := Lib.hid (below_up HT.out hb9)
   replace HZS := sz HZS (show wr.heap.size ≤ w2.heap.size from HT.out.size)
   clear hb9
   have HM1 := Lib.hid hm1
   clear hm1
   have HR1 := Lib.hid hr1
   clear hr1
   refine hK _ _ ⟨⟨⟨w2, HT.out⟩, rfl⟩, ?_⟩
   clear hK K
   repeat (refine tree_q rfl rfl ?_; go_big_quiet_step (fail); refine wpQuiet_nil ?_)
   refine tree_end ?_
   clear hov_ba hl_ba hov_b1 hov_b3 ba_
   replace Hba := Lib.hid (Hba.out.up HT.out)
   replace Hbb := Lib.hid (Hbb.out.up HT.out)
   replace BL := hbu BL HT.out
   replace BR := hbu BR HT.out
   replace HB := hbu HB HT.out
   replace HZS := sz HZS HT.out.size
   clear HT
   have ba_ := Hba.out.c2
   clear hc1 hc3_0 hb1 hb3
   have hc2 := (BR.out.cell (p := ⟨b2, o2 + j, none⟩) HD2.out).trans HC2.out
   have hc4 := (BR.out.cell (p := ⟨b4, o4 + j, none⟩) HD4.out).trans HC4.out
   have hb2 := Nat.lt_of_lt_of_le HD2.out BR.out.size
   have hb4 := Nat.lt_of_lt_of_le HD4.out BR.out.size
   clear BR ba_
   have bb_ := Hbb.out.c2
   go_wp2_with fail
   have HT := Lib.hid (show Below w2.heap.size w2 w2.drew from (Below.refl _ _).drew)
   have hl_bb := Hbb.out.lt
   refine wp_region_tree (fun wq9 => ∃ E : Over w2, wq9 = E.w) ((.qs [0, 1, 2, 3, 4, 5, 6, 7, 8, 9, 10, 11] (.a 12 (.qs [13, 14, 15, 16, 17] .done)))) (by kernel_rfl) (by kernel_rfl) (fun _ _ d _ _ h => by cases d <;> exact h) ⟨⟨_, HT.out⟩, rfl⟩ ?_
   have hov_bb := fun (E : Over w2) o => E.cell (b := w.heap.size + 1) o hl_bb
   have hov_b2 := fun (E : Over w2) o => E.cell (b := b2) o hb2
   have hov_b4 := fun (E : Over w2) o => E.cell (b := b4) o hb4
   simp only [Tree.qs]
   repeat (refine tree_q rfl rfl ?_; go_big_quiet_step (fail); refine wpQuiet_nil ?_)
   refine tree_a rfl (fun K hK => ?_)
   go_simp
   refine (HK2.out _ (HAT.out.up (below_up HB.out HT.out)) (HA4.out.up (below_up HB.out HT.out))).mono ?_
   rintro e w3 ⟨hb9, a2, d2, ro2, rfl, hm2, hr2, _⟩
   replace HT := Lib.hid (below_up HT.out hb9)
   replace HZS := sz HZS (show w2.heap.size ≤ w3.heap.size from HT.out.size)
   clear hb9
   have HM2 := Lib.hid hm2
   clear hm2
   have HR2 := Lib.hid hr2
   clear hr2
   refine hK _ _ ⟨⟨⟨w3, HT.out⟩, rfl⟩, ?_⟩
   clear hK K
   repeat (refine tree_q rfl rfl ?_; go_big_quiet_step (fail); refine wpQuiet_nil ?_)
   refine tree_end ?_
   clear hov_bb hl_bb hov_b2 hov_b4
   replace Hba := Lib.hid (Hba.out.up HT.out)
   clear bb_
   replace Hbb := Lib.hid (Hbb.out.up HT.out)
   replace HR1 := Lib.hid (HR1.out.up HT.out)
   replace BL := hbu BL HT.out
   replace HB := hbu HB HT.out
   replace HZS := sz HZS HT.out.size
   clear HT
   have bb_ := Hbb.out.c2
   clear hc2 hc4 hb2 hb4 bb_
   by_cases z1 : e1 = 0
   case neg =>
    have hdz : ((e1 : Int) != 0) = true := by simp; omega
    clear z1 HL1 HFS
    go_wp2_with fail
    go_ret
    exact ⟨rfl, HB.out⟩
   by_cases z2 : e2 = 0
   case neg =>
    have hdz : ((e2 : Int) != 0) = true := by simp; omega
    subst z1
    clear z2 HL1 HFS
    go_wp2_with fail
    go_ret
    exact ⟨rfl, HB.out⟩
   subst z1
   subst z2
   obtain ⟨b, hb⟩ : ∃ b, decide (L1 = L2) = b := ⟨_, rfl⟩
   have HBB := Lib.hid hb
   have HLN := Lib.hid (HL1.out rfl)
   clear hb HL1
   cases b
   ·have hdl : ((n1 : Int) == (s.l.length : Int)) = true := by have h9 := HLN.out; simp; omega
    clear HFS
    go_wp2_with fail
    refine (sameLists5_any L1 L2 n1 n2 HN1.out HN2.out (by omega) SR1.out ro1 ro2 HM1.out HM2.out false HBB.out a1 a2 d1 d2 w3 HR1.out HR2.out).mono ?_
    rintro e w4 ⟨rfl, hb9⟩
    replace Hba := Lib.hid (Hba.out.up hb9)
    replace Hbb := Lib.hid (Hbb.out.up hb9)
    replace HR1 := Lib.hid (HR1.out.up hb9)
    replace HR2 := Lib.hid (HR2.out.up hb9)
    replace BL := hbu BL hb9
    replace HB := hbu HB hb9
    replace HZS := sz HZS hb9.size
    clear hb9
    go_wp2_with fail
    go_ret
    exact ⟨rfl, HB.out⟩
   ·have HFS2 := Lib.hid (HFS.out ⟨rfl, rfl, of_decide_eq_true HBB.out⟩)
    clear HFS
    go_wp2_with fail
    refine (sameLists5_any L1 L2 n1 n2 HN1.out HN2.out (by omega) SR1.out ro1 ro2 HM1.out HM2.out true HBB.out a1 a2 d1 d2 w3 HR1.out HR2.out).mono ?_
    rintro e w4 ⟨rfl, hb9⟩
    replace Hba := Lib.hid (Hba.out.up hb9)
    replace Hbb := Lib.hid (Hbb.out.up hb9)
    replace HR1 := Lib.hid (HR1.out.up hb9)
    replace HR2 := Lib.hid (HR2.out.up hb9)
    replace BL := hbu BL hb9
    replace HB := hbu HB hb9
    replace HZS := sz HZS hb9.size
    clear hb9
    go_wp2_with fail
    go_roundw
    case rel => exact ⟨j + 1, by omega, by go_num, HFS2, BL⟩
    case measure => simp [intOf]; omega
  ·have hjn' : j = n := by omega
   subst hjn'
   go_wp2_with fail
   refine (HEX.out wr HB.out).mono ?_
   rintro e w2 ⟨er, idx, lst, hsp, hb9, a3, c3, rfl, hs3⟩
   clear ba_
   replace Hba := Lib.hid (Hba.out.up hb9)
   clear bb_
   replace Hbb := Lib.hid (Hbb.out.up hb9)
   replace BL := hbu BL hb9
   replace HB := hbu HB hb9
   replace HZS := sz HZS hb9.size
   have HS3 := Lib.hid hs3
   clear hs3 hb9
   have ba_ := Hba.out.c2
   have bb_ := Hbb.out.c2
   have hfp := HFP.out HFK.out er idx lst hsp
   clear hsp HFP HFK HEX
   obtain ⟨b, hb⟩ : ∃ b, decide (xcs = ycs) = b := ⟨_, rfl⟩
   have HSB := Lib.hid (HSM.out b hb)
   clear HSM
   have BE := Lib.hid (Below.refl w2.heap.size w2)
   cases b
   ·obtain ⟨rfl, hi, hll, hh⟩ := hfp.2 (of_decide_eq_false hb)
    have hjs : idx < ss.length := by rw [HN.out]; exact hi
    have HLJ := Lib.hid (show (ss.map SetA.l).getD idx [] = ss[idx].l by rw [List.getD_eq_getElem?_getD, List.getElem?_map, List.getElem?_eq_getElem hjs]; rfl)
    rw [HLJ.out] at hll hh
    obtain ⟨bl, ol, rfl, hbl0, hc⟩ := HC.out.s.elem SetA.cells_len (by omega) idx hjs
    have hc_0 := hc 0 _ rfl
    rw [Nat.add_zero] at hc_0
    clear hc
    rw [Nat.mul_one] at hc_0
    have HC0 := Lib.hid hc_0
    have HBL := Lib.hid hbl0
    have HAT := Lib.hid (HC.out.one idx hjs)
    have HL8 := Lib.hid (show ss[idx].l.length ≤ 64 by
     unfold holdK at hh
     simp only [Bool.and_eq_true, decide_eq_true_eq] at hh
     exact (shape_ok (openK_ok hh.1).2.1).2.1)
    clear hc_0 hbl0 hfp HLJ hb
    generalize ss[idx] = s at *
    clear hjs
    have HHO := Lib.hid (fun W h1 h2 => by
     have h9 := sHolds_any k s.l s.a s.c lst a3 c3 (by rw [hll]; have := HL8.out; omega) W h1 h2
     rw [hh] at h9
     exact h9)
    unfold Gives at HHO
    have hg0 : decide ((idx : Int) ≥ 0) = true := by simp
    have hg1 : decide ((idx : Int) < (j : Int)) = true := by simp; omega
    generalize lst.length = ml at *
    clear hll hh
    go_wp2_with fail
    refine (HSB.out w2 (HXC.out.up HB.out) (HYC.out.up HB.out)).mono ?_
    rintro e w3 ⟨rfl, hb9⟩
    clear ba_
    replace Hba := Lib.hid (Hba.out.up hb9)
    clear bb_
    replace Hbb := Lib.hid (Hbb.out.up hb9)
    replace BL := hbu BL hb9
    replace BE := hbu BE hb9
    replace HB := hbu HB hb9
    replace HZS := sz HZS hb9.size
    clear hb9
    have ba_ := Hba.out.c2
    have bb_ := Hbb.out.c2
    have hc_0 := (HB.out.cell (p := ⟨bl, ol + idx, none⟩) HBL.out).trans HC0.out
    go_wp2_with fail
    refine (HHO.out w3 (HAT.out.up HB.out) (HS3.out.up BE.out)).mono ?_
    rintro e w4 ⟨rfl, hb9⟩
    clear ba_
    replace Hba := Lib.hid (Hba.out.up hb9)
    clear bb_
    replace Hbb := Lib.hid (Hbb.out.up hb9)
    replace BL := hbu BL hb9
    replace BE := hbu BE hb9
    replace HB := hbu HB hb9
    replace HZS := sz HZS hb9.size
    clear hb9
    have ba_ := Hba.out.c2
    have bb_ := Hbb.out.c2
    go_wp2_with fail
    go_ret
    exact ⟨rfl, HB.out⟩
   ·obtain rfl := hfp.1 (of_decide_eq_true hb)
    clear hfp hb
    go_wp2_with fail
    refine (HSB.out w2 (HXC.out.up HB.out) (HYC.out.up HB.out)).mono ?_
    rintro e w3 ⟨rfl, hb9⟩
    clear ba_
    replace Hba := Lib.hid (Hba.out.up hb9)
    clear bb_
    replace Hbb := Lib.hid (Hbb.out.up hb9)
    replace BL := hbu BL hb9
    replace BE := hbu BE hb9
    replace HB := hbu HB hb9
    replace HZS := sz HZS hb9.size
    clear hb9
    have ba_ := Hba.out.c2
    have bb_ := Hbb.out.c2
    go_wp2_with fail
    go_ret
    exact ⟨rfl, HB.out⟩
theorem sigmaForks_any (k : Int) (ss : List SetA) (al : Option Addr) (cl : Nat) (x y : EithA) (hx2 : x.cs.length ≤ 8796093022206) (hxr : ∀ r ∈ x.rs, r.l.length ≤ 8796093022206) (hyr : ∀ r ∈ y.rs, r.l.length ≤ 8796093022206) (w : World) (hC : SetsAt w al ss) (hx : x.At w) (hy : y.At w) :
  Calls Try.prog 13 #[.int .i64 k, .slice al ss.length cl, x.val, y.val] w fun e w' => e = .returned (.bool true) ∧ Below w.heap.size w w' := by
 unfold EithA.val
 by_cases h : ss.length ≠ 0 ∧ x.cs.length = ss.length ∧ y.cs.length = ss.length ∧ x.rs.length = ss.length ∧ y.rs.length = ss.length
 ·obtain ⟨h0, g1, g2, g3, g4⟩ := h
  rw [g1, g2, g3, g4]
  exact forks_body k ss _ rfl h0 al cl x y g1 g2 g3 g4 (by omega) hxr hyr _ _ _ _ _ _ _ _ rfl rfl rfl rfl rfl rfl rfl rfl w hC hx hy
 ·exact forks_off k ss.length x.cs.length x.rs.length y.cs.length y.rs.length al _ _ _ _ cl _ _ _ _ h w
theorem claims_cells : Try.prog.cellsOf 58 = 1 := by kernel_rfl
section
variable {H : Type} {enc : TypeId × Value → H} {w : World}
theorem open_sets {sp : Nat → Bool} {held : Bool} (fuel : Nat) (c : Value) (y : DataW H × List MemPlace) (hW : Wt Try.prog 73 y.1) (h : DataW.trod enc Try.prog w 0 sp held fuel 73 [c] = some y) :
  ∃ (a : Option Addr) (cap : Nat) (ss : List SetA), c = .slice a ss.length cap ∧ SetsAt w a ss := by
 obtain ⟨a, cap, rs, h1, _, _, h4, h5⟩ := open_elsW (e := 58) SetA.cells (fun s => ClaimsAt w s.a s.l) Try.underlying73 claims_cells (by omega) hW (fun n l y' hl hW' hy => by
  match l, hl with
  | [c'], _ =>
   obtain ⟨al, cp, cs, rfl, hC⟩ := open_claims _ _ _ hW' hy
   exact ⟨⟨al, cp, cs⟩, rfl, hC⟩) h
 exact ⟨a, cap, rs, h1, ⟨h4, fun s hs => h5 s hs⟩⟩
end
theorem sigmaForks_calls {H : Type} (enc : TypeId × Value → H) (W : World) (base : Nat) {v0 v1 v2 v3 : Value} {d0 d1 d2 d3 : DataW H} {p0 p1 p2 p3 : List MemPlace}
  (h0 : DataW.Trod enc Try.prog W 0 (fun _ => true) true 3 v0 d0 p0) (h1 : DataW.Trod enc Try.prog W 0 (fun _ => true) true 73 v1 d1 p1) (h2 : DataW.Trod enc Try.prog W 0 (fun _ => true) true 27 v2 d2 p2) (h3 : DataW.Trod enc Try.prog W 0 (fun _ => true) true 27 v3 d3 p3)
  (k0 : Value.okWide Try.prog W .any base 3 v0) (k1 : Value.okWide Try.prog W .any base 73 v1) (k2 : Value.okWide Try.prog W .any base 27 v2) (k3 : Value.okWide Try.prog W .any base 27 v3)
  (_lt0 : ∀ x ∈ p0, x.block < W.heap.size) (_lt1 : ∀ x ∈ p1, x.block < W.heap.size) (_lt2 : ∀ x ∈ p2, x.block < W.heap.size) (_lt3 : ∀ x ∈ p3, x.block < W.heap.size)
  (hsz : (DataW.weightsEach Try.prog ([3, 73, 27, 27] ++ Rows.sigmaForksSpec.plain.varTypes Try.prog) ([d0, d1, d2, d3] ++ [])).all (· ≤ reachBytes) = true) :
  Calls Try.prog 13 #[v0, v1, v2, v3] W fun e w' => e = .returned (.bool true) ∧ Below W.heap.size W w' := by
 obtain ⟨k, rfl, _, _, _⟩ := open_int Try.underlying3 k0 h0
 obtain ⟨b1, n1, m1, rfl⟩ := okWide_slice Try.underlying73 k1
 obtain ⟨c2, rfl, _⟩ := okWide_struct Try.underlying27 k2
 obtain ⟨c3, rfl, _⟩ := okWide_struct Try.underlying27 k3
 obtain ⟨f1, h1⟩ := h1
 obtain ⟨f2, h2⟩ := h2
 obtain ⟨f3, h3⟩ := h3
 obtain ⟨al, cl, ss, e1, hC⟩ := open_sets f1 _ _ (Wt.arg hsz (j := 1) rfl rfl) h1
 obtain ⟨x, hx, hxa, hx2, hxr⟩ := open_eith f2 _ _ (Wt.arg hsz (j := 2) rfl rfl) h2
 obtain ⟨y, hy, hya, _, hyr⟩ := open_eith f3 _ _ (Wt.arg hsz (j := 3) rfl rfl) h3
 rw [e1, agg_of (show c2.toList = _ from hx), agg_of (show c3.toList = _ from hy)]
 exact sigmaForks_any k ss al cl x y hx2 hxr hyr W hC hxa hya
theorem sigmaForks_lifted (os : Os) (started : os.Started) (H : Type) (enc : TypeId × Value → H) :
  ReturnsInHanded {} Try.checked os 13 .any (Rows.sigmaForksSpec.pre6 enc Try.prog Try.f13 Rows.sigmaForksRow.domain false) (Rows.sigmaForksSpec.post enc Try.prog Try.f13 false true false false) := by
 refine returnsInHanded_of_change_sized (C := Try.checked) law_own started (by kernel_rfl) Try.func13
  (ChangeSpec.witness6 (enc := enc) (C := Try.checked) false ⟨#[], #[.int .i64 0, .slice none 0 0, .agg #[.slice none 0 0, .slice none 0 0], .agg #[.slice none 0 0, .slice none 0 0]], []⟩ 8 (by kernel_rfl) (by kernel_rfl) (by kernel_rfl) (by kernel_rfl)) ?_
 intro W base args ds gs before hval0 hW _ hsz0 _
 have hsz : (DataW.weightsEach Try.prog (Try.f13.params.toList ++ Rows.sigmaForksSpec.plain.varTypes Try.prog) (ds ++ gs)).all (· ≤ reachBytes) = true := hsz0
 clear hsz0
 have hval : ∀ (j : Nat) t v, Try.f13.params[j]? = some t → args[j]? = some v → Value.okWide Try.prog W .any base t v := hval0
 have hW' := hW
 obtain ⟨p, q, hA0, hV, rfl, _, _⟩ := hW
 have hA : DataW.TrodAll enc Try.prog W 0 (fun _ => true) true Try.f13.params.toList args.toList ds p := hA0
 rw [Try.params13] at hA hval hsz
 obtain ⟨v0, vs0, d0, ds0, p0, q0, hargs, rfl, rfl, h0, r0⟩ := trodAll_cons hA
 obtain ⟨v1, vs1, d1, ds1, p1, q1, rfl, rfl, rfl, h1, r1⟩ := trodAll_cons r0
 obtain ⟨v2, vs2, d2, ds2, p2, q2, rfl, rfl, rfl, h2, r2⟩ := trodAll_cons r1
 obtain ⟨v3, vs3, d3, ds3, p3, q3, rfl, rfl, rfl, h3, r3⟩ := trodAll_cons r2
 obtain ⟨rfl, rfl, rfl⟩ := trodAll_nil r3
 obtain rfl : args = #[v0, v1, v2, v3] := by cases args; simp_all
 obtain ⟨rfl, rfl⟩ := trodVars_none hV
 have lt0 : ∀ x ∈ p0, x.block < W.heap.size := by obtain ⟨m, hm⟩ := h0; exact DataW.trod_lt m _ _ _ hm
 have lt1 : ∀ x ∈ p1, x.block < W.heap.size := by obtain ⟨m, hm⟩ := h1; exact DataW.trod_lt m _ _ _ hm
 have lt2 : ∀ x ∈ p2, x.block < W.heap.size := by obtain ⟨m, hm⟩ := h2; exact DataW.trod_lt m _ _ _ hm
 have lt3 : ∀ x ∈ p3, x.block < W.heap.size := by obtain ⟨m, hm⟩ := h3; exact DataW.trod_lt m _ _ _ hm
 clear hA0 hval0
 refine (sigmaForks_calls enc W base h0 h1 h2 h3 (hval 0 3 v0 rfl rfl) (hval 1 73 v1 rfl rfl) (hval 2 27 v2 rfl rfl) (hval 3 27 v3 rfl rfl) lt0 lt1 lt2 lt3 hsz).mono fun e W' ⟨he, bel⟩ => ?_
 subst he
 exact ⟨_, rfl, _, _, _, [], _, [], hW', trodAll_mk1 (shut_bool Try.underlying4 _), (trodAll_cons_mk (Below.trod law_laidOut (by kernel_rfl) (of_decide_eq_true (by kernel_rfl)) h0 bel lt0) (trodAll_cons_mk (Below.trod law_laidOut (by kernel_rfl) (of_decide_eq_true (by kernel_rfl)) h1 bel lt1) (trodAll_cons_mk (Below.trod law_laidOut (by kernel_rfl) (of_decide_eq_true (by kernel_rfl)) h2 bel lt2) (trodAll_cons_mk (Below.trod law_laidOut (by kernel_rfl) (of_decide_eq_true (by kernel_rfl)) h3 bel lt3) trodAll_mk0)))), rfl, bel.frame _, fun h => by cases h⟩
theorem sigmaForks_holds : Rows.SigmaForksSaid :=
 OpenClaim.holds_of_wide 13 Try.f13 rfl rfl rfl rfl rfl rfl rfl ⟨rfl, rfl, rfl, rfl, rfl⟩ rfl rfl rfl rfl rfl (by kernel_rfl) Try.func13 (by kernel_rfl)
  (of_decide_eq_true (by kernel_rfl)) (by unfold Func.isWrapper; first | (rw [if_pos (by decide +kernel)]; kernel_rfl) | (rw [if_neg (by decide +kernel)]; exact ⟨rfl, rfl⟩))
  (fun os started H enc _ => sigmaForks_lifted os started H enc)
#print axioms sigmaForks_holds
end Go.Proofs.Ytipgjookfdkciaa
