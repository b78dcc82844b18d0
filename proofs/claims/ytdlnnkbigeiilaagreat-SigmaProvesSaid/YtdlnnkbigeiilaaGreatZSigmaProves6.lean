/- Texts of this seat, one behind the other: what SigmaProves leans on. No condition beyond those that each names. -/
import Derived.Test.YtdlnnkbigeiilaaGreatZSigmaProves5
import Derived.Outline
import Derived.Lib.Join

/- Claims hold: holds, Holds of the package sigma. Condition: the lists that memory can hold. -/
namespace Go.Proofs.YtdlnnkbigeiilaaGreat
open Go.RowKit

def hold2 (G : GP) (x : ByteArray) (b m : ByteArray) : Bool := decide (lowN G (numOf b ^ (numOf x % G.q.m)) = lowN G (numOf m))
def hold1 (G : GP) (k : ClaimA) (x : ByteArray) : Bool := (List.zipWith (hold2 G x) k.bases k.images).all id
def holdP (G : GP) (l : List ClaimA) (xs : List ByteArray) : Bool := (List.zipWith (hold1 G) l xs).all id
theorem gSame_b (G : GP) (ok : G.Ok) (gb x y : Nat) (b : Bool) (hb : decide (lowN G x = lowN G y) = b) (w : World) (hG : GroupAt w gb G) :
    Calls Tryz.prog 119 #[.pointer (some ⟨gb, 0, none⟩), elV G x, elV G y] w (Gives (.bool b) w) := by
  subst hb
  exact gSame_any G ok gb x y w hG
theorem zalls_snoc {α β : Type} {f : α → β → Bool} {l : List α} {m : List β} {j : Nat} (hl : j < l.length) (hm : j < m.length) (h : ((List.zipWith f l m).take j).all id = true) (h1 : f l[j] m[j] = true) : ((List.zipWith f l m).take (j + 1)).all id = true := by
  rw [List.take_succ_eq_append_getElem (by rw [List.length_zipWith]; omega), List.all_append, h, List.getElem_zipWith, h1]
  rfl
theorem zalls_not {α β : Type} {f : α → β → Bool} {l : List α} {m : List β} {j : Nat} (hl : j < l.length) (hm : j < m.length) (h1 : f l[j] m[j] = false) : (List.zipWith f l m).all id = false := by
  rw [List.all_eq_false]
  exact ⟨(List.zipWith f l m)[j]'(by rw [List.length_zipWith]; omega), List.getElem_mem _, by rw [List.getElem_zipWith]; simp [h1]⟩
theorem zalls_end {α β : Type} {f : α → β → Bool} {l : List α} {m : List β} {n : Nat} (hl : l.length = n) (h : ((List.zipWith f l m).take n).all id = true) : (List.zipWith f l m).all id = true := by
  rwa [List.take_of_length_le (by rw [List.length_zipWith]; omega)] at h
set_option maxRecDepth 100000 in
set_option maxHeartbeats 4000000 in
theorem holds_any (G : GP) (ok : G.Ok) (gb : Nat) (rs : List ClaimR) (n : Nat) (hrs : rs.length = n) (a : Option Addr) (c : Nat) (xs : List ByteArray) (hxs : xs.length = n) (ax : Option Addr) (cx : Nat) (hn : n ≤ 64) (hsh : ∀ r ∈ rs, r.k.bases.length ≤ 8 ∧ r.k.images.length = r.k.bases.length) (b : Bool) (hb : holdP G (rs.map ClaimR.k) xs = b) (w : World) (hG : GroupAt w gb G) (hS : SetAt G w a rs) (hX : Sl w w.heap.size ax (xs.flatMap (limC G.q.m))) :
    Calls Tryz.prog 64 #[.agg #[.pointer (some ⟨gb, 0, none⟩), .slice a n c], .slice ax n cx] w (Gives (.bool b) w) := by
  have HRS := Lib.hid hrs
  have HXS := Lib.hid hxs
  have HSH := Lib.hid hsh
  have HBB := Lib.hid hb
  have HG := Lib.hid hG
  have OK := Lib.hid ok
  have HS := Lib.hid hS
  have HX := Lib.hid hX
  clear hrs hxs hsh hb hG ok hS hX
  unfold Gives
  go_enter Tryz.func64, Tryz.ntmps64
  go_wp2_with fail
  obtain ⟨w1, hq1, hb9, hz9, Hbs⟩ := new1 w 64 [.pointer (some ⟨gb, 0, none⟩), .slice a n c]
  rw [hq1]
  clear hq1
  replace HG := Lib.hid (HG.out.up hb9)
  have HB := Lib.hid hb9
  have HZS := hz9
  clear hb9 hz9
  have bs_ := Hbs.out.c2
  have BL := Lib.hid (Below.refl w1.heap.size w1)
  go_wp2_with fail
  go_loopw [12] (fun i wr => ∃ j : Nat, j ≤ n ∧ i = .int .i64 j ∧ Hid (Below w1.heap.size w1 wr) ∧ Hid (((List.zipWith (hold1 G) (rs.map ClaimR.k) xs).take j).all id = true)) (fun i _ => n - (intOf i).toNat)
  case atStart => exact ⟨0, Nat.zero_le _, rfl, BL, rfl⟩
  case round =>
    obtain ⟨j, hj, rfl, HL9, HAL⟩ := hrel
    have hb9 := HL9.out
    clear HL9
    clear bs_
    replace Hbs := Lib.hid (Hbs.out.up hb9)
    replace HG := Lib.hid (HG.out.up hb9)
    replace BL := hbu BL hb9
    replace HB := hbu HB hb9
    replace HZS := sz HZS hb9.size
    clear hb9
    have bs_ := Hbs.out.c2
    by_cases hjn : j < n
    · have hjr : j < rs.length := by rw [HRS.out]; exact hjn
      have hjx : j < xs.length := by rw [HXS.out]; exact hjn
      obtain ⟨ba, oa, rfl, hba⟩ := HS.out.at j hjr
      obtain ⟨bx, ox, rfl, hbx0⟩ := HX.out.adr (flat_ne (limC_len _) (by omega) (List.length_pos_iff.1 (by omega)))
      have HSA := Lib.hid (HS.out.up HB.out)
      have hcx := ((HX.out.up HB.out).elemS (limC_len _) (by omega) j hjx).2
      have hca := HSA.out.cells (Below.refl _ _) j hjr
      have HAT := Lib.hid (HSA.out.e _ (List.getElem_mem hjr))
      have HSJ := Lib.hid (HSH.out _ (List.getElem_mem hjr))
      have HSN := Lib.hid (zalls_snoc (f := hold1 G) (l := rs.map ClaimR.k) (m := xs) (by simpa using hjr) hjx HAL.out)
      have HNO := Lib.hid (zalls_not (f := hold1 G) (l := rs.map ClaimR.k) (m := xs) (by simpa using hjr) hjx)
      rw [List.getElem_map] at HSN HNO
      have HPW := Lib.hid (fun (w1 : World) (x : Nat) (h1 : GroupAt w1 gb G) (h2 : SetAt G w1 (some ⟨ba, oa, none⟩) rs) => powers_any G OK.out gb rs (some ⟨ba, oa, none⟩) c j hjr x HSJ.out.1 w1 h1 h2)
      rw [HRS.out] at HPW
      generalize rs[j] = r at *
      generalize xs[j] = x at *
      have hca_0 := hca 0 _ rfl
      rw [Nat.add_zero] at hca_0
      have hca_1 := hca 1 _ rfl
      have hca_2 := hca 2 _ rfl
      clear hca
      have hcx_0 := hcx 0 _ rfl
      rw [Nat.add_zero] at hcx_0
      have hcx_1 := hcx 1 _ rfl
      have hcx_2 := hcx 2 _ rfl
      have hcx_3 := hcx 3 _ rfl
      clear hcx
      have hbx := Nat.lt_of_lt_of_le hbx0 HB.out.size
      have BR := Lib.hid (Below.refl wr.heap.size wr)
      have o2_bs_ := bs_; clear bs_
      obtain ⟨w2, hq2, hb9, hz9, Hbc⟩ := new1 wr 154 [.pointer (some ⟨r.pb, r.po, none⟩), .slice (some ⟨r.bb, r.bo, none⟩) r.k.bases.length r.bc, .slice (some ⟨r.ib, r.io, none⟩) r.k.images.length r.ic]
      replace Hbs := Lib.hid (Hbs.out.up hb9)
      replace HG := Lib.hid (HG.out.up hb9)
      replace BL := hbu BL hb9
      replace BR := hbu BR hb9
      replace HB := hbu HB hb9
      replace HZS := sz HZS hz9.out
      clear hb9 hz9
      have bs_ := Hbs.out.c2
      have bc_ := Hbc.out.c3
      go_wp2_with fail
      clear hq2 o2_bs_
      have hbx' := Nat.lt_of_lt_of_le hbx BR.out.size
      have hcx_0' := (BR.out.cell (p := ⟨bx, ox + j * 4, none⟩) hbx).trans hcx_0
      have hcx_1' := (BR.out.cell (p := ⟨bx, ox + j * 4 + 1, none⟩) hbx).trans hcx_1
      have hcx_2' := (BR.out.cell (p := ⟨bx, ox + j * 4 + 2, none⟩) hbx).trans hcx_2
      have hcx_3' := (BR.out.cell (p := ⟨bx, ox + j * 4 + 3, none⟩) hbx).trans hcx_3
      clear hca_0 hca_1 hca_2 hcx_0 hcx_1 hcx_2 hcx_3
      have HT := Lib.hid (show Below w2.heap.size w2 w2.drew from (Below.refl _ _).drew)
      have hl_bs := Hbs.out.lt
      have hl_bc := Hbc.out.lt
      refine wp_region_tree (fun wq9 => ∃ E : Over w2, wq9 = E.w) ((.qs [0, 1, 2, 3, 4, 5, 8] (.a 6 (.qs [7] .done)))) (by kernel_rfl) (by kernel_rfl) (fun _ _ d _ _ h => by cases d <;> exact h) ⟨⟨_, HT.out⟩, rfl⟩ ?_
      have hov_bs := fun (E : Over w2) o => E.cell (b := w.heap.size) o hl_bs
      have hov_bc := fun (E : Over w2) o => E.cell (b := wr.heap.size) o hl_bc
      have hov_bx := fun (E : Over w2) o => E.cell (b := bx) o hbx'
      simp only [Tree.qs]
      repeat (refine tree_q rfl rfl ?_; go_big_quiet_step (fail); refine wpQuiet_nil ?_)
      refine tree_a rfl (fun K hK => ?_)
      go_simp
      refine (HPW.out _ (numOf x) (HG.out.up HT.out) (HSA.out.up (below_up BR.out HT.out))).mono ?_
      rintro e w3 ⟨a9, c9, rfl, hb9, hs9⟩
      replace HT := Lib.hid (below_up HT.out hb9)
      replace HZS := sz HZS (show w2.heap.size ≤ w3.heap.size from HT.out.size)
      clear hb9
      have HP := Lib.hid hs9
      clear hs9
      refine hK _ _ ⟨⟨⟨w3, HT.out⟩, rfl⟩, ?_⟩
      clear hK K
      repeat (refine tree_q rfl rfl ?_; go_big_quiet_step (fail); refine wpQuiet_nil ?_)
      refine tree_end ?_
      clear hov_bs hl_bs hov_bc hl_bc hov_bx
      clear bs_
      replace Hbs := Lib.hid (Hbs.out.up HT.out)
      clear bc_
      replace Hbc := Lib.hid (Hbc.out.up HT.out)
      replace HG := Lib.hid (HG.out.up HT.out)
      replace BL := hbu BL HT.out
      replace BR := hbu BR HT.out
      replace HB := hbu HB HT.out
      replace HZS := sz HZS HT.out.size
      clear HT
      have bs_ := Hbs.out.c2
      have bc_ := Hbc.out.c3
      clear hcx_0' hcx_1' hcx_2' hcx_3' hbx'
      have hm8 := HSJ.out.1
      obtain ⟨wo, rfl⟩ : ∃ wo : World, wo = wr := ⟨_, rfl⟩
      have BI := Lib.hid (Below.refl w3.heap.size w3)
      go_wp2_with fail
      go_loopw [25] (fun i wr => ∃ t : Nat, t ≤ r.k.bases.length ∧ i = .int .i64 t ∧ Hid (Below w3.heap.size w3 wr) ∧ Hid (((List.zipWith (hold2 G x) r.k.bases r.k.images).take t).all id = true)) (fun i _ => r.k.bases.length - (intOf i).toNat)
      case atStart => exact ⟨0, Nat.zero_le _, rfl, BI, rfl⟩
      case round =>
        obtain ⟨t, ht, rfl, HL9, HAI⟩ := hrel
        have hb9 := HL9.out
        clear HL9
        clear bs_
        replace Hbs := Lib.hid (Hbs.out.up hb9)
        clear bc_
        replace Hbc := Lib.hid (Hbc.out.up hb9)
        replace HG := Lib.hid (HG.out.up hb9)
        replace BL := hbu BL hb9
        replace BR := hbu BR hb9
        replace BI := hbu BI hb9
        replace HB := hbu HB hb9
        replace HZS := sz HZS hb9.size
        clear hb9
        have bs_ := Hbs.out.c2
        have bc_ := Hbc.out.c3
        by_cases htm : t < r.k.bases.length
        · have hti : t < r.k.images.length := by rw [HSJ.out.2]; exact htm
          obtain ⟨b9, o9, rfl, hb90, hb9', hcp⟩ := HP.out.elemUp BI.out (powC_len G _) (by omega) t htm
          have hci := ((HAT.out.i.up BR.out).elemS (limC_len _) (by omega) t hti).2
          have hil := Nat.lt_of_lt_of_le HAT.out.il BR.out.size
          have HTN := Lib.hid (zalls_snoc (f := hold2 G x) htm hti HAI.out)
          have HTO := Lib.hid (zalls_not (f := hold2 G x) htm hti)
          generalize r.k.bases[t] = bb at *
          generalize r.k.images[t] = mm at *
          obtain ⟨q, hq⟩ : ∃ q, hold2 G x bb mm = q := ⟨_, rfl⟩
          have HQ := Lib.hid hq
          clear hq
          have hcp_0 := hcp 0 _ rfl
          rw [Nat.add_zero] at hcp_0
          have hcp_1 := hcp 1 _ rfl
          have hcp_2 := hcp 2 _ rfl
          have hcp_3 := hcp 3 _ rfl
          clear hcp
          have hci_0 := hci 0 _ rfl
          rw [Nat.add_zero] at hci_0
          have hci_1 := hci 1 _ rfl
          have hci_2 := hci 2 _ rfl
          have hci_3 := hci 3 _ rfl
          clear hci
          have BQ := Lib.hid (Below.refl wr.heap.size wr)
          have o4_bs_ := bs_; clear bs_
          have o4_bc_ := bc_; clear bc_
          obtain ⟨w4, hq4, hb9, hz9, Hbp⟩ := new1 wr 127 [.int .u64 (dig (mont G.p.m (numOf bb ^ (numOf x % G.q.m))) 0 : Int), .int .u64 (dig (mont G.p.m (numOf bb ^ (numOf x % G.q.m))) 1 : Int), .int .u64 (dig (mont G.p.m (numOf bb ^ (numOf x % G.q.m))) 2 : Int), .int .u64 (dig (mont G.p.m (numOf bb ^ (numOf x % G.q.m))) 3 : Int)]
          replace Hbs := Lib.hid (Hbs.out.up hb9)
          replace Hbc := Lib.hid (Hbc.out.up hb9)
          replace HG := Lib.hid (HG.out.up hb9)
          replace BL := hbu BL hb9
          replace BR := hbu BR hb9
          replace BI := hbu BI hb9
          replace BQ := hbu BQ hb9
          replace HB := hbu HB hb9
          replace HZS := sz HZS hz9.out
          clear hb9 hz9
          have bs_ := Hbs.out.c2
          have bc_ := Hbc.out.c3
          have bp_ := Hbp.out.c4
          go_wp2_with fail
          clear hq4 o4_bc_ o4_bs_
          have hil' := Nat.lt_of_lt_of_le hil BQ.out.size
          have hci_0' := (BQ.out.cell (p := ⟨r.ib, r.io + t * 4, none⟩) hil).trans hci_0
          have hci_1' := (BQ.out.cell (p := ⟨r.ib, r.io + t * 4 + 1, none⟩) hil).trans hci_1
          have hci_2' := (BQ.out.cell (p := ⟨r.ib, r.io + t * 4 + 2, none⟩) hil).trans hci_2
          have hci_3' := (BQ.out.cell (p := ⟨r.ib, r.io + t * 4 + 3, none⟩) hil).trans hci_3
          clear hci_0 hci_1 hci_2 hci_3 hcp_0 hcp_1 hcp_2 hcp_3
          have hl_bs := Hbs.out.lt
          have hl_bc := Hbc.out.lt
          have hl_bp := Hbp.out.lt
          refine wp_region_over (by kernel_rfl) (by kernel_rfl) ?_
          have hov_bs := fun (E : Over w4) o => E.cell (b := w.heap.size) o hl_bs
          have hov_bc := fun (E : Over w4) o => E.cell (b := wo.heap.size) o hl_bc
          have hov_bp := fun (E : Over w4) o => E.cell (b := wr.heap.size) o hl_bp
          have hov_r_ib := fun (E : Over w4) o => E.cell (b := r.ib) o hil'
          repeat (go_big_quiet_step (first | (go_at_call 119; exact calls_over (gSame_b G OK.out gb (numOf bb ^ (numOf x % G.q.m)) (numOf mm) q HQ.out _ (HG.out.up (Over.h _))))))
          all_goals (try unfold elV limbV)
          repeat (go_big_quiet_step (first | (go_at_call 119; exact calls_over (gSame_b G OK.out gb (numOf bb ^ (numOf x % G.q.m)) (numOf mm) q HQ.out _ (HG.out.up (Over.h _))))))
          all_goals (try unfold elV limbV)
          repeat (go_big_quiet_step (first | (go_at_call 119; exact calls_over (gSame_b G OK.out gb (numOf bb ^ (numOf x % G.q.m)) (numOf mm) q HQ.out _ (HG.out.up (Over.h _))))))
          all_goals (try unfold ciphV)
          refine wpQuiet_nil ?_
          rintro _ ⟨E, rfl⟩
          clear hov_bs hl_bs hov_bc hl_bc hov_bp hl_bp hov_r_ib
          clear bs_
          replace Hbs := Lib.hid (Hbs.out.up E.h)
          clear bc_
          replace Hbc := Lib.hid (Hbc.out.up E.h)
          clear bp_
          replace Hbp := Lib.hid (Hbp.out.up E.h)
          replace HG := Lib.hid (HG.out.up E.h)
          replace BL := hbu BL E.h
          replace BR := hbu BR E.h
          replace BI := hbu BI E.h
          replace BQ := hbu BQ E.h
          replace HB := hbu HB E.h
          replace HZS := sz HZS E.h.size
          obtain ⟨w5, hq9⟩ : ∃ W9 : World, E.w = W9 := ⟨_, rfl⟩
          rw [hq9] at Hbs Hbc Hbp HG BL BR BI BQ HB HZS ⊢
          clear hq9 E
          have bs_ := Hbs.out.c2
          have bc_ := Hbc.out.c3
          have bp_ := Hbp.out.c4
          cases q
          · obtain rfl : b = false := by rw [← HBB.out]; exact HNO.out (HTO.out HQ.out)
            go_wp2_with fail
            go_ret
            exact ⟨rfl, HB.out⟩
          · go_wp2_with fail
            go_roundw
            case rel => exact ⟨t + 1, by omega, by go_num, BI, HTN.out HQ.out⟩
            case measure => simp [intOf]; omega
        · have htm' : t = r.k.bases.length := by omega
          subst htm'
          have HHT := Lib.hid (HSN.out (zalls_end rfl HAI.out))
          go_wp2_with fail
          go_roundw
          case rel => exact ⟨j + 1, by omega, by go_num, BL, HHT⟩
          case measure => simp [intOf]; omega
    · have hjn' : j = n := by omega
      subst hjn'
      obtain rfl : b = true := by rw [← HBB.out]; exact zalls_end (by rw [List.length_map]; exact HRS.out) HAL.out
      go_wp2_with fail
      go_ret
      exact ⟨rfl, HB.out⟩
end Go.Proofs.YtdlnnkbigeiilaaGreat

/- Holds, First, Back of the package sigma. Condition: the lists that memory can hold. -/
namespace Go.Proofs.YtdlnnkbigeiilaaGreat
open Go.RowKit

def claim0 : ClaimA := ⟨none, 0, [], none, 0, []⟩
def valF (G : GP) (l : List ClaimA) (xs : List ByteArray) (i t : Nat) : Nat := numOf ((l.getD i claim0).bases.getD t ⟨#[]⟩) ^ (numOf (xs.getD i ⟨#[]⟩) % G.q.m)
def valB (G : GP) (y : Nat) (l : List ClaimA) (xs : List ByteArray) (i t : Nat) : Nat := valF G l xs i t * numOf ((l.getD i claim0).images.getD t ⟨#[]⟩) ^ (y % G.q.m)
theorem valF_eq (G : GP) {rs : List ClaimR} {xs : List ByteArray} {i t : Nat} (hi : i < rs.length) (hx : i < xs.length) (ht : t < rs[i].k.bases.length) : valF G (rs.map ClaimR.k) xs i t = numOf rs[i].k.bases[t] ^ (numOf xs[i] % G.q.m) := by
  unfold valF
  simp [List.getD, hi, hx, ht]
def lens (l : List ClaimA) : List Nat := l.map fun k => k.bases.length
set_option maxRecDepth 100000 in
set_option maxHeartbeats 2000000 in
theorem firsts_any (G : GP) (ok : G.Ok) (gb : Nat) (rs : List ClaimR) (n : Nat) (hrs : rs.length = n) (hn : n ≤ 64) (hm8 : ∀ r ∈ rs, r.k.bases.length ≤ 8) (a : Option Addr) (c : Nat) (xs : List ByteArray) (hxs : xs.length = n) (ax : Option Addr) (cx : Nat) (w : World) (hG : GroupAt w gb G) (hS : SetAt G w a rs) (hX : Sl w w.heap.size ax (xs.flatMap (limC G.q.m))) :
    Calls Tryz.prog 67 #[.agg #[.pointer (some ⟨gb, 0, none⟩), .slice a n c], .slice ax n cx] w (RowsF (eachA G (valF G (rs.map ClaimR.k) xs) (lens (rs.map ClaimR.k)) n) w) := by
  have HRS := Lib.hid hrs
  have HXS := Lib.hid hxs
  have HM8 := Lib.hid hm8
  have HG := Lib.hid hG
  have OK := Lib.hid ok
  have HS := Lib.hid hS
  have HX := Lib.hid hX
  have HML := Lib.hid (show rs.map (fun r => r.k.bases.length) = lens (rs.map ClaimR.k) by unfold lens; rw [List.map_map]; rfl)
  have HLG := Lib.hid (show ∀ i (hi : i < rs.length), (lens (rs.map ClaimR.k)).getD i 0 = rs[i].k.bases.length from fun i hi => by unfold lens; simp [List.getD, hi])
  clear hrs hxs hm8 hG ok hS hX
  go_enter Tryz.func67, Tryz.ntmps67
  go_wp2_with fail
  obtain ⟨w1, hq1, hb9, hz9, Hbs, Hbx⟩ := new2 w 64 [.pointer (some ⟨gb, 0, none⟩), .slice a n c] 65 [.slice ax n cx]
  rw [hq1]
  clear hq1
  replace HG := Lib.hid (HG.out.up hb9)
  have HB := Lib.hid hb9
  have HZS := hz9
  clear hb9 hz9
  have bs_ := Hbs.out.c2
  have bx_ := Hbx.out.c1
  go_wp2_with fail
  have HB9 := Lib.hid HB.out.size
  refine (eachFirst G OK.out gb rs n HRS.out hn (lens (rs.map ClaimR.k)) HML.out HM8.out a c _ _ (valF G (rs.map ClaimR.k) xs) w1 HG.out (HS.out.up HB.out) (fun w9 hb9 i t hi ht => by rw [HLG.out i (by rw [HRS.out]; exact hi)] at ht; rw [valF_eq G (by rw [HRS.out]; exact hi) (by rw [HXS.out]; exact hi) ht]; exact first1_any G OK.out gb _ _ rs n a c xs ax cx i t (by rw [HRS.out]; exact hi) (by rw [HXS.out]; exact hi) ht w9 (HG.out.up hb9) (HS.out.up (below_up HB.out hb9)) (HX.out.up (below_up HB.out hb9)) HRS.out HXS.out (Hbs.out.up hb9) (Hbx.out.up hb9))).mono ?_
  rintro e w2 ⟨hb9, a9, c9, ro, rfl, hm9, hr9, hz9⟩
  clear bs_
  replace Hbs := Lib.hid (Hbs.out.up hb9)
  clear bx_
  replace Hbx := Lib.hid (Hbx.out.up hb9)
  replace HG := Lib.hid (HG.out.up hb9)
  replace HB := hbu HB hb9
  replace HZS := sz HZS hb9.size
  have HMR := Lib.hid hm9
  clear hm9
  have HRR := Lib.hid hr9
  clear hr9
  have HZR := Lib.hid hz9
  clear hz9
  clear hb9
  have bs_ := Hbs.out.c2
  have bx_ := Hbx.out.c1
  go_wp2_with fail
  go_ret
  exact ⟨HB.out, a9, c9, ro, rfl, HMR.out, HRR.out, fresh_le HZR.out HB9.out⟩
end Go.Proofs.YtdlnnkbigeiilaaGreat

/- Holds, First, Back of the package sigma, of any kind. Condition: the lists that memory can hold. -/
namespace Go.Proofs.YtdlnnkbigeiilaaGreat
open Go.RowKit

def openK (k : Int) (l : List ClaimA) (xs : List ByteArray) : Nat := if 1 ≤ k ∧ k ≤ 3 then openE (grp k.toNat) l xs else 1
def firstK (k : Int) (l : List ClaimA) (xs : List ByteArray) : List (List ByteArray) := if openK k l xs = 0 then eachA (grp k.toNat) (valF (grp k.toNat) l xs) (lens l) l.length else []
theorem open_any (k : Int) (l : List ClaimA) (al : Option Addr) (cl : Nat) (xs : List ByteArray) (ax : Option Addr) (cx : Nat) (hn : xs.length ≤ 8796093022207) (w : World) (hC : ClaimsAt w al l) (hS : Sl w w.heap.size ax (xs.map Value.string)) :
    Calls Tryz.prog 36 #[.int .i64 k, .slice al l.length cl, .slice ax xs.length cx] w (OpenS (grp k.toNat) (openK k l xs) l xs w) := by
  unfold openK
  by_cases hk : 1 ≤ k ∧ k ≤ 3
  · rw [if_pos hk]
    obtain ⟨j, rfl⟩ : ∃ j : Nat, k = j := ⟨k.toNat, by omega⟩
    exact open_some j (by omega) (by omega) l al cl xs ax cx hn w hC hS
  · rw [if_neg hk]
    refine (open_none k hk l xs _ _ w).mono ?_
    rintro e w' ⟨hb, p, q, n9, c9, v, he, _⟩
    exact ⟨hb, p, q, n9, c9, v, he, fun h => by cases h⟩
theorem openK_ok {k : Int} {l : List ClaimA} {xs : List ByteArray} (h : openK k l xs = 0) : (1 ≤ k ∧ k ≤ 3) ∧ shapeE l = 0 ∧ l.all (cElems (grp k.toNat)) = true ∧ xs.length = l.length ∧ xs.all (isSc (grp k.toNat).q.m (grp k.toNat).size) = true := by
  unfold openK at h
  by_cases hk : 1 ≤ k ∧ k ≤ 3
  · rw [if_pos hk] at h
    unfold openE at h
    by_cases hw : wrongE (grp k.toNat) l = 0
    · rw [if_neg (by simpa using hw)] at h
      unfold scE at h
      by_cases hl : xs.length = l.length
      · rw [if_pos hl] at h
        by_cases ha : xs.all (isSc (grp k.toNat).q.m (grp k.toNat).size) = true
        · exact ⟨hk, (wrong_ok hw).1, (wrong_ok hw).2, hl, ha⟩
        · rw [if_neg ha] at h; cases h
      · rw [if_neg hl] at h; cases h
    · rw [if_pos hw] at h; exact absurd h hw
  · rw [if_neg hk] at h; cases h
end Go.Proofs.YtdlnnkbigeiilaaGreat

/- What is wrong with claims and scalars, as the document says it; powers; Extract. Condition: the lists that memory can hold. -/
namespace Go.Proofs.YtdlnnkbigeiilaaGreat
open Go.RowKit

section
variable {G : GP} {aq ap : Option Addr} {cq cp : Nat}

theorem rIsSc_b (ok : G.Ok) (s : ByteArray) (b : Bool) (hb : isSc G.q.m G.size s = b) (w : World) (hG : RG w G aq ap) :
    Calls Tryz.prog 58 #[.agg #[.int .i64 (G.size : Int), .slice aq (dl G.q.m) cq, .slice ap (dl G.p.m) cp], .string s] w (Gives (.bool b) w) := by
  subst hb
  exact rIsSc ok s w hG
theorem rIsEl_b (ok : G.Ok) (s : ByteArray) (b : Bool) (hb : isEl G.q.m G.size s = b) (w : World) (hG : RG w G aq ap) :
    Calls Tryz.prog 125 #[.agg #[.int .i64 (G.size : Int), .slice aq (dl G.q.m) cq, .slice ap (dl G.p.m) cp], .string s] w (Gives (.bool b) w) := by
  subst hb
  exact rIsEl ok s w hG
set_option maxRecDepth 100000 in
set_option maxHeartbeats 1000000 in
theorem rWrongSc (ok : G.Ok) (n : Nat) (l : List ByteArray) (al : Option Addr) (cl : Nat) (hlen : l.length ≤ 8796093022207) (w : World) (hG : RG w G aq ap) (hS : Sl w w.heap.size al (l.map Value.string)) :
    Calls Tryz.prog 59 #[.agg #[.int .i64 (G.size : Int), .slice aq (dl G.q.m) cq, .slice ap (dl G.p.m) cp], .int .i64 (n : Int), .slice al l.length cl] w (Gives (.int .i64 (scE G n l : Int)) w) := by
  have OK := Lib.hid ok
  have HG := Lib.hid hG
  have HS := Lib.hid hS
  clear ok hG hS
  obtain ⟨z, hz⟩ : ∃ z, scE G n l = z := ⟨_, rfl⟩
  have hzz : z = if l.length = n then if l.all (isSc G.q.m G.size) = true then 0 else 6 else 2 := hz.symm
  rw [hz]
  clear hz
  unfold Gives
  by_cases h1 : l.length = n
  · have hd : ((l.length : Int) != (n : Int)) = false := by simp; omega
    rw [if_pos h1] at hzz
    have HZZ := Lib.hid hzz
    clear hzz h1
    go_enter Tryz.func59, Tryz.ntmps59
    go_wp2_with fail
    obtain ⟨w1, hq1, hb9, hz9, Hbg⟩ := new1 w 86 [.int .i64 (G.size : Int), .slice aq (dl G.q.m) cq, .slice ap (dl G.p.m) cp]
    rw [hq1]
    clear hq1
    have HB := Lib.hid hb9
    have HZS := hz9
    clear hb9 hz9
    have bg_ := Hbg.out.c3
    go_wp2_with fail
    go_loopw [15] (fun i wr => ∃ j : Nat, j ≤ l.length ∧ i = .int .i64 j ∧ Hid (Below w1.heap.size w1 wr) ∧ Hid ((l.take j).all (isSc G.q.m G.size) = true)) (fun i _ => l.length - (intOf i).toNat)
    case atStart => exact ⟨0, Nat.zero_le _, rfl, Below.refl _ _, rfl⟩
    case round =>
      obtain ⟨j, hj, rfl, HL9, HAL⟩ := hrel
      have hb9 := HL9.out
      clear HL9
      have BL := Lib.hid (Below.refl w1.heap.size w1)
      clear bg_
      replace Hbg := Lib.hid (Hbg.out.up hb9)
      replace BL := hbu BL hb9
      replace HB := hbu HB hb9
      replace HZS := sz HZS hb9.size
      clear hb9
      have bg_ := Hbg.out.c3
      by_cases hjl : j < l.length
      · obtain ⟨bl, ol, rfl, hbl, hc⟩ := (HS.out.up HB.out).at j (by simpa using hjl)
        rw [List.getElem_map] at hc
        obtain ⟨bj, hbj⟩ : ∃ x, isSc G.q.m G.size l[j] = x := ⟨_, rfl⟩
        have HBJ := Lib.hid hbj
        clear hbj
        go_wp2_with fail
        refine (rIsSc_b OK.out l[j] bj HBJ.out wr (HG.out.up HB.out)).mono ?_
        rintro e w2 ⟨rfl, hb9⟩
        clear bg_
        replace Hbg := Lib.hid (Hbg.out.up hb9)
        replace BL := hbu BL hb9
        replace HB := hbu HB hb9
        replace HZS := sz HZS hb9.size
        clear hb9
        have bg_ := Hbg.out.c3
        cases bj
        · go_wp2_with fail
          go_ret
          exact ⟨by rw [HZZ.out, if_neg (by rw [all_not hjl HBJ.out]; decide)]; rfl, HB.out⟩
        · go_wp2_with fail
          go_roundw
          case rel => exact ⟨j + 1, by omega, by go_num, BL, all_snoc hjl HAL.out HBJ.out⟩
          case measure => simp [intOf]; omega
      · have hjn : j = l.length := by omega
        subst hjn
        go_wp2_with fail
        go_ret
        exact ⟨by rw [HZZ.out, if_pos (all_take_true HAL.out)]; rfl, HB.out⟩
  · have hd : ((l.length : Int) != (n : Int)) = true := by simp; omega
    obtain rfl : z = 2 := by rw [hzz, if_neg h1]
    clear hzz h1
    go_enter Tryz.func59, Tryz.ntmps59
    go_wp2_with fail
    obtain ⟨w1, hq1, hb9, hz9, Hbg⟩ := new1 w 86 [.int .i64 (G.size : Int), .slice aq (dl G.q.m) cq, .slice ap (dl G.p.m) cp]
    rw [hq1]
    clear hq1
    have HB := Lib.hid hb9
    have HZS := hz9
    clear hb9 hz9
    have bg_ := Hbg.out.c3
    go_wp2_with fail
    go_ret
    exact ⟨rfl, HB.out⟩
set_option maxRecDepth 100000 in
set_option maxHeartbeats 1000000 in
theorem rPower5 (ok : G.Ok) (b : ByteArray) (hb : b.size ≤ 32) {n : Nat} {an : Option Addr} {cn : Nat} (hn : dl n ≤ 65536) (w : World) (hG : RG w G aq ap) (hN : NumAt w an n) :
    Calls Tryz.prog 117 #[.agg #[.int .i64 (G.size : Int), .slice aq (dl G.q.m) cq, .slice ap (dl G.p.m) cp], .string b, .slice an (dl n) cn] w fun e w' => NumR w e w' (lowN G (numOf b ^ n)) := by
  have OK := Lib.hid ok
  have HG := Lib.hid hG
  have HN := Lib.hid hN
  clear ok hG hN
  go_enter Tryz.func117, Tryz.ntmps117
  go_wp2_with fail
  obtain ⟨w1, hq1, hb9, hz9, Hbg⟩ := new1 w 86 [.int .i64 (G.size : Int), .slice aq (dl G.q.m) cq, .slice ap (dl G.p.m) cp]
  rw [hq1]
  clear hq1
  have HB := Lib.hid hb9
  have HZS := hz9
  clear hb9 hz9
  have bg_ := Hbg.out.c3
  go_wp2_with fail
  have HT := Lib.hid (show Below w1.heap.size w1 w1.drew from (Below.refl _ _).drew)
  have hl_bg := Hbg.out.lt
  refine wp_region_tree (fun wq9 => ∃ E : Over w1, wq9 = E.w) ((.qs [0, 1, 3] (.a 2 (.a 4 (.qs [5] .done))))) (by kernel_rfl) (by kernel_rfl) (fun _ _ d _ _ h => by cases d <;> exact h) ⟨⟨_, HT.out⟩, rfl⟩ ?_
  have hov_bg := fun (E : Over w1) o => E.cell (b := w.heap.size) o hl_bg
  simp only [Tree.qs]
  repeat (refine tree_q rfl rfl ?_; go_big_quiet_step (fail); refine wpQuiet_nil ?_)
  refine tree_a rfl (fun K hK => ?_)
  go_simp
  refine (refRead_any b (by omega) _).mono ?_
  rintro e w2 ⟨a4, c4, rfl, hn9, hb9⟩
  replace HT := Lib.hid (below_up HT.out hb9)
  replace HZS := sz HZS (show w1.heap.size ≤ w2.heap.size from HT.out.size)
  clear hb9
  have HN4 := Lib.hid hn9
  clear hn9
  refine hK _ _ ⟨⟨⟨w2, HT.out⟩, rfl⟩, ?_⟩
  clear hK K
  repeat (refine tree_q rfl rfl ?_; go_big_quiet_step (fail); refine wpQuiet_nil ?_)
  refine tree_a rfl (fun K hK => ?_)
  go_simp
  refine (rPow OK.out (numOf_16 b hb) hn _ (HG.out.up (below_up HB.out HT.out)) HN4.out (HN.out.up (below_up HB.out HT.out))).mono ?_
  rintro e w3 ⟨a5, c5, rfl, hn9, hb9⟩
  replace HN4 := Lib.hid (HN4.out.up hb9)
  replace HT := Lib.hid (below_up HT.out hb9)
  replace HZS := sz HZS (show w1.heap.size ≤ w3.heap.size from HT.out.size)
  clear hb9
  have HN5 := Lib.hid hn9
  clear hn9
  refine hK _ _ ⟨⟨⟨w3, HT.out⟩, rfl⟩, ?_⟩
  clear hK K
  repeat (refine tree_q rfl rfl ?_; go_big_quiet_step (fail); refine wpQuiet_nil ?_)
  refine tree_end ?_
  clear hov_bg hl_bg
  clear bg_
  replace Hbg := Lib.hid (Hbg.out.up HT.out)
  replace HB := hbu HB HT.out
  replace HZS := sz HZS HT.out.size
  clear HT
  have bg_ := Hbg.out.c3
  go_wp2_with fail
  go_ret
  exact ⟨a5, c5, rfl, HN5.out, HB.out⟩
end

theorem size_n0 (k : Nat) (h1 : 1 ≤ k) (h3 : k ≤ 3) : (((grp k).size : Int) == 0) = false := by
  obtain rfl | rfl | rfl : k = 1 ∨ k = 2 ∨ k = 3 := by omega
  all_goals rfl
theorem size_gt0 (k : Nat) (h1 : 1 ≤ k) (h3 : k ≤ 3) : decide (((grp k).size : Int) > 0) = true := by
  obtain rfl | rfl | rfl : k = 1 ∨ k = 2 ∨ k = 3 := by omega
  all_goals rfl
theorem toList_ne {a b : ByteArray} (h : ¬ a = b) : ¬ a.toList = b.toList := fun e => h (by
  have h9 : (a == b) = true := by rw [beq_toListBytes]; exact beq_iff_eq.2 e
  obtain ⟨x⟩ := a
  obtain ⟨y⟩ := b
  have h10 : (x == y) = true := h9
  rw [eq_of_beq h10])
theorem toList_bne {a b : ByteArray} (h : ¬ a = b) : (a.toList == b.toList) = false := beq_eq_false_iff_ne.2 (toList_ne h)
theorem sc_len {G : GP} (ok : G.Ok) {s : ByteArray} (h : isSc G.q.m G.size s = true) : s.size ≤ 32 := by rw [isSc_size h]; exact ok.size_le
theorem el_len {G : GP} (ok : G.Ok) {s : ByteArray} (h : isEl G.q.m G.size s = true) : s.size ≤ 32 := by rw [isEl_size h]; exact ok.size_le
/-- Reckoning with scalars, spelled so that no simp turns it. -/
def mulQ (G : GP) (a b : Nat) : Nat := a * b % G.q.m
def addQ (G : GP) (a b : Nat) : Nat := (a + b) % G.q.m
def subQ (G : GP) (a b : Nat) : Nat := (a + (G.q.m - b)) % G.q.m
section
variable {G : GP} {aq ap : Option Addr} {cq cp : Nat}
theorem mulQ_lt (ok : G.Ok) (a b : Nat) : mulQ G a b < G.q.m := Nat.mod_lt _ ok.q.pos
theorem addQ_lt (ok : G.Ok) (a b : Nat) : addQ G a b < G.q.m := Nat.mod_lt _ ok.q.pos
theorem subQ_lt (ok : G.Ok) (a b : Nat) : subQ G a b < G.q.m := Nat.mod_lt _ ok.q.pos
theorem q_16 (ok : G.Ok) {x : Nat} (h : x < G.q.m) : x < DD ^ 16 := Nat.lt_trans h ok.q.lt4
theorem rMulQ (ok : G.Ok) {a b : Nat} {aa ab : Option Addr} {ca cb : Nat} (ha : a < DD ^ 16) (hb : b < DD ^ 16) (w : World) (hG : RG w G aq ap) (hA : NumAt w aa a) (hB : NumAt w ab b) :
    Calls Tryz.prog 126 #[.agg #[.int .i64 (G.size : Int), .slice aq (dl G.q.m) cq, .slice ap (dl G.p.m) cp], .slice aa (dl a) ca, .slice ab (dl b) cb] w fun e w' => NumR w e w' (mulQ G a b) := rMul ok ha hb w hG hA hB
theorem rAddQ (ok : G.Ok) {a b : Nat} {aa ab : Option Addr} {ca cb : Nat} (ha : a < DD ^ 16) (hb : b < DD ^ 16) (w : World) (hG : RG w G aq ap) (hA : NumAt w aa a) (hB : NumAt w ab b) :
    Calls Tryz.prog 60 #[.agg #[.int .i64 (G.size : Int), .slice aq (dl G.q.m) cq, .slice ap (dl G.p.m) cp], .slice aa (dl a) ca, .slice ab (dl b) cb] w fun e w' => NumR w e w' (addQ G a b) := rAdd ok ha hb w hG hA hB
theorem rSubQ (ok : G.Ok) {a b : Nat} {aa ab : Option Addr} {ca cb : Nat} (ha : a < DD ^ 16) (hb : b ≤ G.q.m) (w : World) (hG : RG w G aq ap) (hA : NumAt w aa a) (hB : NumAt w ab b) :
    Calls Tryz.prog 77 #[.agg #[.int .i64 (G.size : Int), .slice aq (dl G.q.m) cq, .slice ap (dl G.p.m) cp], .slice aa (dl a) ca, .slice ab (dl b) cb] w fun e w' => NumR w e w' (subQ G a b) := rSub ok ha hb w hG hA hB
theorem rTextQ (ok : G.Ok) {x : Nat} {an : Option Addr} {cn : Nat} (hx : x < G.q.m) (w : World) (hN : NumAt w an x) :
    Calls Tryz.prog 49 #[.slice an (dl x) cn, .int .i64 (G.size : Int)] w fun e w' => e = .returned (.string (textS x G.size)) ∧ Below w.heap.size w w' :=
  rText ok (q_16 ok hx) w hN
end

end Go.Proofs.YtdlnnkbigeiilaaGreat

/- What is wrong with claims, as the document says it. No condition. -/
namespace Go.Proofs.YtdlnnkbigeiilaaGreat
open Go.RowKit

theorem w_long {G : GP} {l : List ClaimA} {z : Nat} (hz : wrongE G l = z) (h : 64 < l.length ∨ l.any cLong = true) : z = 3 := by
  have hs : shapeE l = 3 := by
    unfold shapeE
    rw [if_pos]
    rcases h with h | h
    · rw [decide_eq_true h]; rfl
    · rw [h, Bool.or_true]
  rw [← hz]
  unfold wrongE
  rw [hs]
  rfl
theorem w_form {G : GP} {l : List ClaimA} {z : Nat} (hz : wrongE G l = z) (h1 : ¬ 64 < l.length) (h2 : l.any cLong = false) (h : l.length = 0 ∨ l.any cForm = true) : z = 2 := by
  have hs : shapeE l = 2 := by
    unfold shapeE
    rw [if_neg (by rw [decide_eq_false h1, h2]; decide), if_pos]
    rcases h with h | h
    · rw [decide_eq_true h]; rfl
    · rw [h, Bool.or_true]
  rw [← hz]
  unfold wrongE
  rw [hs]
  rfl
theorem w_elem {G : GP} {l : List ClaimA} {z : Nat} (hz : wrongE G l = z) (h1 : ¬ 64 < l.length) (h2 : l.any cLong = false) (h3 : ¬ l.length = 0) (h4 : l.any cForm = false) : z = if l.all (cElems G) = true then 0 else 7 := by
  have hs : shapeE l = 0 := by
    unfold shapeE
    rw [if_neg (by rw [decide_eq_false h1, h2]; decide), if_neg (by rw [decide_eq_false h3, h4]; decide)]
  rw [← hz]
  unfold wrongE
  rw [hs]
  rfl
theorem any_take_false {α : Type} {f : α → Bool} {l : List α} {n : Nat} (hl : l.length = n) (h : (l.take n).any f = false) : l.any f = false := by rwa [List.take_of_length_le (by omega)] at h
theorem any_one {α : Type} {f : α → Bool} {l : List α} (h : l.any f = false) {j : Nat} (hj : j < l.length) : f l[j] = false := by
  have h9 := List.any_eq_false.1 h _ (List.getElem_mem hj)
  simpa using h9
section
variable {G : GP} {aq ap : Option Addr} {cq cp : Nat}

set_option maxRecDepth 100000 in
set_option maxHeartbeats 4000000 in
theorem rWrong (ok : G.Ok) (l : List ClaimA) (n : Nat) (hn : l.length = n) (z : Nat) (hz : wrongE G l = z) (al : Option Addr) (cl : Nat) (w : World) (hG : RG w G aq ap) (hC : ClaimsAt w al l) :
    Calls Tryz.prog 70 #[.agg #[.int .i64 (G.size : Int), .slice aq (dl G.q.m) cq, .slice ap (dl G.p.m) cp], .slice al n cl] w (Gives (.int .i64 (z : Int)) w) := by
  have OK := Lib.hid ok
  have HG := Lib.hid hG
  have HC := Lib.hid hC
  have HN := Lib.hid hn
  have HZ := Lib.hid hz
  clear ok hG hC hn hz
  unfold Gives
  by_cases h64 : 64 < n
  · have hd : decide ((n : Int) > 64) = true := by simp; omega
    obtain rfl : z = 3 := w_long HZ.out (Or.inl (by rw [HN.out]; exact h64))
    clear h64
    go_enter Tryz.func70, Tryz.ntmps70
    go_wp2_with fail
    obtain ⟨w1, hq1, hb9, hz9, Hbg⟩ := new1 w 86 [.int .i64 (G.size : Int), .slice aq (dl G.q.m) cq, .slice ap (dl G.p.m) cp]
    rw [hq1]
    clear hq1
    have HB := Lib.hid hb9
    have HZS := hz9
    clear hb9 hz9
    have bg_ := Hbg.out.c3
    go_wp2_with fail
    go_ret
    exact ⟨rfl, HB.out⟩
  have hd : decide ((n : Int) > 64) = false := by simp; omega
  have H64 := Lib.hid (show ¬ 64 < l.length by rw [HN.out]; exact h64)
  go_enter Tryz.func70, Tryz.ntmps70
  go_wp2_with fail
  obtain ⟨w1, hq1, hb9, hz9, Hbg⟩ := new1 w 86 [.int .i64 (G.size : Int), .slice aq (dl G.q.m) cq, .slice ap (dl G.p.m) cp]
  rw [hq1]
  clear hq1
  have HB := Lib.hid hb9
  have HZS := hz9
  clear hb9 hz9
  have bg_ := Hbg.out.c3
  have BL := Lib.hid (Below.refl w1.heap.size w1)
  go_wp2_with fail
  go_loopw [17] (fun i wr => ∃ j : Nat, j ≤ n ∧ i = .int .i64 j ∧ Hid (Below w1.heap.size w1 wr) ∧ Hid ((l.take j).any cLong = false)) (fun i _ => n - (intOf i).toNat)
  case atStart => exact ⟨0, Nat.zero_le _, rfl, BL, rfl⟩
  case round =>
    obtain ⟨j, hj, rfl, HL9, HAL⟩ := hrel
    have hb9 := HL9.out
    clear HL9
    clear bg_
    replace Hbg := Lib.hid (Hbg.out.up hb9)
    replace BL := hbu BL hb9
    replace HB := hbu HB hb9
    replace HZS := sz HZS hb9.size
    clear hb9
    have bg_ := Hbg.out.c3
    by_cases hjn : j < n
    · have hjl : j < l.length := by rw [HN.out]; exact hjn
      obtain ⟨bl, ol, rfl, hbl0, hc⟩ := (HC.out.s.up HB.out).elem ClaimA.cells_len (by omega) j hjl
      have hc_0 := hc 0 _ rfl
      rw [Nat.add_zero] at hc_0
      have hc_1 := hc 1 _ rfl
      clear hc
      have HS1 := Lib.hid (any_snoc (f := cLong) hjl HAL.out)
      have HS2 := Lib.hid (any_take_true (f := cLong) hjl)
      have hcl : cLong l[j] = (decide (8 < l[j].bases.length) || decide (8 < l[j].images.length)) := rfl
      generalize l[j] = c at *
      generalize c.bases.length = n1 at *
      generalize c.images.length = n2 at *
      by_cases h1 : 8 < n1
      · obtain rfl : z = 3 := w_long HZ.out (Or.inr (HS2.out (by rw [hcl]; simp [h1])))
        have hd1 : decide ((n1 : Int) > 8) = true := by simp; omega
        clear hcl h1
        have o2_bg_ := bg_; clear bg_
        obtain ⟨w2, hq2, hb9, hz9, Hbc⟩ := new1 wr 50 [.slice c.ab n1 c.cb, .slice c.ai n2 c.ci]
        replace Hbg := Lib.hid (Hbg.out.up hb9)
        replace BL := hbu BL hb9
        replace HB := hbu HB hb9
        replace HZS := sz HZS hz9.out
        clear hb9 hz9
        have bg_ := Hbg.out.c3
        have bc_ := Hbc.out.c2
        go_wp2_with fail
        clear hq2 o2_bg_
        go_ret
        exact ⟨rfl, HB.out⟩
      have hd1 : decide ((n1 : Int) > 8) = false := by simp; omega
      by_cases h2 : 8 < n2
      · obtain rfl : z = 3 := w_long HZ.out (Or.inr (HS2.out (by rw [hcl]; simp [h2])))
        have hd2 : decide ((n2 : Int) > 8) = true := by simp; omega
        clear hcl h1 h2
        have o2_bg_ := bg_; clear bg_
        obtain ⟨w2, hq2, hb9, hz9, Hbc⟩ := new1 wr 50 [.slice c.ab n1 c.cb, .slice c.ai n2 c.ci]
        replace Hbg := Lib.hid (Hbg.out.up hb9)
        replace BL := hbu BL hb9
        replace HB := hbu HB hb9
        replace HZS := sz HZS hz9.out
        clear hb9 hz9
        have bg_ := Hbg.out.c3
        have bc_ := Hbc.out.c2
        go_wp2_with fail
        clear hq2 o2_bg_
        go_ret
        exact ⟨rfl, HB.out⟩
      have hd2 : decide ((n2 : Int) > 8) = false := by simp; omega
      have HS3 := Lib.hid (HS1.out (by rw [hcl]; simp [h1, h2]))
      clear hcl h1 h2
      have o2_bg_ := bg_; clear bg_
      obtain ⟨w2, hq2, hb9, hz9, Hbc⟩ := new1 wr 50 [.slice c.ab n1 c.cb, .slice c.ai n2 c.ci]
      replace Hbg := Lib.hid (Hbg.out.up hb9)
      replace BL := hbu BL hb9
      replace HB := hbu HB hb9
      replace HZS := sz HZS hz9.out
      clear hb9 hz9
      have bg_ := Hbg.out.c3
      have bc_ := Hbc.out.c2
      go_wp2_with fail
      go_roundw
      case rel => exact ⟨j + 1, by omega, by go_num, BL, HS3.out⟩
      case measure => simp [intOf]; omega
    · have hjn' : j = n := by omega
      subst hjn'
      have HLG := Lib.hid (any_take_false HN.out HAL.out)
      clear HAL hj hjn
      by_cases h0 : j = 0
      · obtain rfl : z = 2 := w_form HZ.out H64.out HLG.out (Or.inl (by rw [HN.out]; exact h0))
        have hd0 : ((j : Int) == 0) = true := by simp; omega
        clear h0
        go_wp2_with fail
        go_ret
        exact ⟨rfl, HB.out⟩
      have H0 := Lib.hid (show ¬ l.length = 0 by rw [HN.out]; exact h0)
      have hd0 : ((j : Int) == 0) = false := by simp; omega
      generalize j = n at *
      clear h0
      obtain ⟨wo, rfl⟩ : ∃ wo : World, wo = wr := ⟨_, rfl⟩
      have BM := Lib.hid (Below.refl wo.heap.size wo)
      go_wp2_with fail
      go_loopw [37] (fun i wr => ∃ j : Nat, j ≤ n ∧ i = .int .i64 j ∧ Hid (Below wo.heap.size wo wr) ∧ Hid ((l.take j).any cForm = false)) (fun i _ => n - (intOf i).toNat)
      case atStart => exact ⟨0, Nat.zero_le _, rfl, BM, rfl⟩
      case round =>
        obtain ⟨j, hj, rfl, HL9, HAL⟩ := hrel
        have hb9 := HL9.out
        clear HL9
        clear bg_
        replace Hbg := Lib.hid (Hbg.out.up hb9)
        replace BL := hbu BL hb9
        replace BM := hbu BM hb9
        replace HB := hbu HB hb9
        replace HZS := sz HZS hb9.size
        clear hb9
        have bg_ := Hbg.out.c3
        by_cases hjn : j < n
        · have hjl : j < l.length := by rw [HN.out]; exact hjn
          obtain ⟨bl, ol, rfl, hbl0, hc⟩ := (HC.out.s.up HB.out).elem ClaimA.cells_len (by omega) j hjl
          have hc_0 := hc 0 _ rfl
          rw [Nat.add_zero] at hc_0
          have hc_1 := hc 1 _ rfl
          clear hc
          have HS1 := Lib.hid (any_snoc (f := cForm) hjl HAL.out)
          have HS2 := Lib.hid (any_take_true (f := cForm) hjl)
          have hcl : cForm l[j] = (decide (l[j].bases.length = 0) || decide (l[j].bases.length ≠ l[j].images.length)) := rfl
          generalize l[j] = c at *
          generalize c.bases.length = n1 at *
          generalize c.images.length = n2 at *
          by_cases h1 : n1 = 0
          · obtain rfl : z = 2 := w_form HZ.out H64.out HLG.out (Or.inr (HS2.out (by rw [hcl]; simp [h1])))
            have hd1 : ((n1 : Int) == 0) = true := by simp; omega
            clear hcl h1
            have o2_bg_ := bg_; clear bg_
            obtain ⟨w2, hq2, hb9, hz9, Hbc⟩ := new1 wr 50 [.slice c.ab n1 c.cb, .slice c.ai n2 c.ci]
            replace Hbg := Lib.hid (Hbg.out.up hb9)
            replace BL := hbu BL hb9
            replace BM := hbu BM hb9
            replace HB := hbu HB hb9
            replace HZS := sz HZS hz9.out
            clear hb9 hz9
            have bg_ := Hbg.out.c3
            have bc_ := Hbc.out.c2
            go_wp2_with fail
            clear hq2 o2_bg_
            go_ret
            exact ⟨rfl, HB.out⟩
          have hd1 : ((n1 : Int) == 0) = false := by simp; omega
          by_cases h2 : n1 ≠ n2
          · obtain rfl : z = 2 := w_form HZ.out H64.out HLG.out (Or.inr (HS2.out (by rw [hcl]; simp [h2])))
            have hd2 : ((n1 : Int) != (n2 : Int)) = true := by simp; omega
            clear hcl h1 h2
            have o2_bg_ := bg_; clear bg_
            obtain ⟨w2, hq2, hb9, hz9, Hbc⟩ := new1 wr 50 [.slice c.ab n1 c.cb, .slice c.ai n2 c.ci]
            replace Hbg := Lib.hid (Hbg.out.up hb9)
            replace BL := hbu BL hb9
            replace BM := hbu BM hb9
            replace HB := hbu HB hb9
            replace HZS := sz HZS hz9.out
            clear hb9 hz9
            have bg_ := Hbg.out.c3
            have bc_ := Hbc.out.c2
            go_wp2_with fail
            clear hq2 o2_bg_
            go_ret
            exact ⟨rfl, HB.out⟩
          have hd2 : ((n1 : Int) != (n2 : Int)) = false := by simp; omega
          have HS3 := Lib.hid (HS1.out (by rw [hcl]; simp [h1]; omega))
          clear hcl h1 h2
          have o2_bg_ := bg_; clear bg_
          obtain ⟨w2, hq2, hb9, hz9, Hbc⟩ := new1 wr 50 [.slice c.ab n1 c.cb, .slice c.ai n2 c.ci]
          replace Hbg := Lib.hid (Hbg.out.up hb9)
          replace BL := hbu BL hb9
          replace BM := hbu BM hb9
          replace HB := hbu HB hb9
          replace HZS := sz HZS hz9.out
          clear hb9 hz9
          have bg_ := Hbg.out.c3
          have bc_ := Hbc.out.c2
          go_wp2_with fail
          go_roundw
          case rel => exact ⟨j + 1, by omega, by go_num, BM, HS3.out⟩
          case measure => simp [intOf]; omega
        · have hjn' : j = n := by omega
          subst hjn'
          have HLF := Lib.hid (any_take_false HN.out HAL.out)
          have HZE := Lib.hid (w_elem HZ.out H64.out HLG.out H0.out HLF.out)
          clear HAL hj hjn
          generalize j = n at *
          obtain ⟨wo2, rfl⟩ : ∃ wo2 : World, wo2 = wr := ⟨_, rfl⟩
          have BN := Lib.hid (Below.refl wo2.heap.size wo2)
          go_wp2_with fail
          go_loopw [57] (fun i wr => ∃ j : Nat, j ≤ n ∧ i = .int .i64 j ∧ Hid (Below wo2.heap.size wo2 wr) ∧ Hid ((l.take j).all (cElems G) = true)) (fun i _ => n - (intOf i).toNat)
          case atStart => exact ⟨0, Nat.zero_le _, rfl, BN, rfl⟩
          case round =>
            obtain ⟨j, hj, rfl, HL9, HAL⟩ := hrel
            have hb9 := HL9.out
            clear HL9
            clear bg_
            replace Hbg := Lib.hid (Hbg.out.up hb9)
            replace BL := hbu BL hb9
            replace BM := hbu BM hb9
            replace BN := hbu BN hb9
            replace HB := hbu HB hb9
            replace HZS := sz HZS hb9.size
            clear hb9
            have bg_ := Hbg.out.c3
            by_cases hjn : j < n
            · have hjl : j < l.length := by rw [HN.out]; exact hjn
              obtain ⟨bl, ol, rfl, hbl0, hc⟩ := (HC.out.s.up HB.out).elem ClaimA.cells_len (by omega) j hjl
              have hc_0 := hc 0 _ rfl
              rw [Nat.add_zero] at hc_0
              have hc_1 := hc 1 _ rfl
              clear hc
              have HAT := Lib.hid ((HC.out.up HB.out).one j hjl)
              have HFJ := Lib.hid (any_one HLF.out hjl)
              have HLJ := Lib.hid (any_one HLG.out hjl)
              have HSN := Lib.hid (all_snoc (f := cElems G) hjl HAL.out)
              have HNO := Lib.hid (all_not (f := cElems G) hjl)
              generalize l[j] = c at *
              have hlens : c.images.length = c.bases.length ∧ c.bases.length ≤ 8 := by
                have g1 := HFJ.out
                have g2 := HLJ.out
                unfold cForm at g1
                unfold cLong at g2
                simp at g1 g2
                omega
              have HLEN := Lib.hid hlens.1
              have hl8 := hlens.2
              clear hlens
              have HAB := Lib.hid HAT.out.b
              have HAJ := Lib.hid HAT.out.i
              have HSN2 := Lib.hid (show c.bases.all (isEl G.q.m G.size) = true → c.images.all (isEl G.q.m G.size) = true → _ from fun h1 h2 => HSN.out (show (c.bases.all (isEl G.q.m G.size) && c.images.all (isEl G.q.m G.size)) = true by rw [h1, h2]; rfl))
              have HNO2 := Lib.hid (show (c.bases.all (isEl G.q.m G.size) && c.images.all (isEl G.q.m G.size)) = false → _ from HNO.out)
              clear HAT HFJ HLJ HSN HNO
              generalize c.bases = bs at *
              generalize c.images = ims at *
              generalize c.ab = ab at *
              generalize c.ai = ai at *
              generalize c.cb = cb at *
              generalize c.ci = ci at *
              have BR := Lib.hid (Below.refl wr.heap.size wr)
              have o2_bg_ := bg_; clear bg_
              obtain ⟨w2, hq2, hb9, hz9, Hbc⟩ := new1 wr 50 [.slice ab bs.length cb, .slice ai ims.length ci]
              replace Hbg := Lib.hid (Hbg.out.up hb9)
              replace BL := hbu BL hb9
              replace BM := hbu BM hb9
              replace BN := hbu BN hb9
              replace BR := hbu BR hb9
              replace HB := hbu HB hb9
              replace HZS := sz HZS hz9.out
              clear hb9 hz9
              have bg_ := Hbg.out.c3
              have bc_ := Hbc.out.c2
              obtain ⟨wo3, rfl⟩ : ∃ wo3 : World, wo3 = wr := ⟨_, rfl⟩
              have BI := Lib.hid (Below.refl w2.heap.size w2)
              go_wp2_with fail
              clear hq2 o2_bg_
              go_loopw [11] (fun i wr => ∃ t : Nat, t ≤ bs.length ∧ i = .int .i64 t ∧ Hid (Below w2.heap.size w2 wr) ∧ Hid ((bs.take t).all (isEl G.q.m G.size) = true ∧ (ims.take t).all (isEl G.q.m G.size) = true)) (fun i _ => bs.length - (intOf i).toNat)
              case atStart => exact ⟨0, Nat.zero_le _, rfl, BI, ⟨rfl, rfl⟩⟩
              case round =>
                obtain ⟨t, ht, rfl, HL9, HAI⟩ := hrel
                have hb9 := HL9.out
                clear HL9
                clear bg_
                replace Hbg := Lib.hid (Hbg.out.up hb9)
                clear bc_
                replace Hbc := Lib.hid (Hbc.out.up hb9)
                replace BL := hbu BL hb9
                replace BM := hbu BM hb9
                replace BN := hbu BN hb9
                replace BR := hbu BR hb9
                replace BI := hbu BI hb9
                replace HB := hbu HB hb9
                replace HZS := sz HZS hb9.size
                clear hb9
                have bg_ := Hbg.out.c3
                have bc_ := Hbc.out.c2
                by_cases htm : t < bs.length
                · have hti : t < ims.length := by rw [HLEN.out]; exact htm
                  obtain ⟨b1, o1, rfl, hb1, hc1⟩ := (HAB.out.up BR.out).at t (by simpa using htm)
                  obtain ⟨b2, o2, rfl, hb2, hc2⟩ := (HAJ.out.up BR.out).at t (by simpa using hti)
                  rw [List.getElem_map] at hc1 hc2
                  have HT1 := Lib.hid (all_snoc (f := isEl G.q.m G.size) htm HAI.out.1)
                  have HT2 := Lib.hid (all_snoc (f := isEl G.q.m G.size) hti HAI.out.2)
                  have HT3 := Lib.hid (all_not (f := isEl G.q.m G.size) htm)
                  have HT4 := Lib.hid (all_not (f := isEl G.q.m G.size) hti)
                  generalize bs[t] = x at *
                  generalize ims[t] = y at *
                  obtain ⟨q1, hq1⟩ : ∃ q, isEl G.q.m G.size x = q := ⟨_, rfl⟩
                  obtain ⟨q2, hq2⟩ : ∃ q, isEl G.q.m G.size y = q := ⟨_, rfl⟩
                  have HQ1 := Lib.hid hq1
                  have HQ2 := Lib.hid hq2
                  clear hq1 hq2
                  cases q1
                  · have HW := Lib.hid (HNO2.out (by rw [HT3.out HQ1.out]; rfl))
                    obtain rfl : z = 7 := by rw [HZE.out, if_neg (by rw [HW.out]; decide)]
                    go_wp2_with fail
                    have HT := Lib.hid (show Below wr.heap.size wr wr.drew from (Below.refl _ _).drew)
                    have hl_bg := Hbg.out.lt
                    have hl_bc := Hbc.out.lt
                    refine wp_region_tree (fun wq9 => ∃ E : Over wr, wq9 = E.w) ((.qs [0, 1, 2, 3, 4, 5] (.a 6 (.qs [7, 8, 9, 10, 11, 12, 13, 14] (.a 15 (.qs [16, 17] .done)))))) (by kernel_rfl) (by kernel_rfl) (fun _ _ d _ _ h => by cases d <;> exact h) ⟨⟨_, HT.out⟩, rfl⟩ ?_
                    have hov_bg := fun (E : Over wr) o => E.cell (b := w.heap.size) o hl_bg
                    have hov_bc := fun (E : Over wr) o => E.cell (b := wo3.heap.size) o hl_bc
                    have hov_b1 := fun (E : Over wr) o => E.cell (b := b1) o hb1
                    have hov_b2 := fun (E : Over wr) o => E.cell (b := b2) o hb2
                    simp only [Tree.qs]
                    repeat (refine tree_q rfl rfl ?_; go_big_quiet_step (fail); refine wpQuiet_nil ?_)
                    refine tree_a rfl (fun K hK => ?_)
                    go_simp
                    refine (rIsEl_b OK.out x false HQ1.out _ (HG.out.up (below_up HB.out HT.out))).mono ?_
                    rintro e w3 ⟨rfl, hb9⟩
                    replace HT := Lib.hid (below_up HT.out hb9)
                    replace HZS := sz HZS (show wr.heap.size ≤ w3.heap.size from HT.out.size)
                    clear hb9
                    refine hK _ _ ⟨⟨⟨w3, HT.out⟩, rfl⟩, ?_⟩
                    clear hK K
                    repeat (refine tree_q rfl rfl ?_; go_big_quiet_step (fail); refine wpQuiet_nil ?_)
                    refine tree_a rfl (fun K hK => ?_)
                    go_simp
                    refine hK _ _ ⟨⟨⟨_, HT.out⟩, rfl⟩, ?_⟩
                    clear hK K
                    repeat (refine tree_q rfl rfl ?_; go_big_quiet_step (fail); refine wpQuiet_nil ?_)
                    refine tree_end ?_
                    clear hov_bg hl_bg hov_bc hl_bc hov_b1 hov_b2
                    clear bg_
                    replace Hbg := Lib.hid (Hbg.out.up HT.out)
                    clear bc_
                    replace Hbc := Lib.hid (Hbc.out.up HT.out)
                    replace BL := hbu BL HT.out
                    replace BM := hbu BM HT.out
                    replace BN := hbu BN HT.out
                    replace BR := hbu BR HT.out
                    replace BI := hbu BI HT.out
                    replace HB := hbu HB HT.out
                    replace HZS := sz HZS HT.out.size
                    clear HT
                    have bg_ := Hbg.out.c3
                    have bc_ := Hbc.out.c2
                    go_wp2_with fail
                    go_ret
                    exact ⟨rfl, HB.out⟩
                  · go_wp2_with fail
                    have HT := Lib.hid (show Below wr.heap.size wr wr.drew from (Below.refl _ _).drew)
                    have hl_bg := Hbg.out.lt
                    have hl_bc := Hbc.out.lt
                    refine wp_region_tree (fun wq9 => ∃ E : Over wr, wq9 = E.w) ((.qs [0, 1, 2, 3, 4, 5] (.a 6 (.qs [7, 8, 9, 10, 11, 12, 13, 14] (.a 15 (.qs [16, 17] .done)))))) (by kernel_rfl) (by kernel_rfl) (fun _ _ d _ _ h => by cases d <;> exact h) ⟨⟨_, HT.out⟩, rfl⟩ ?_
                    have hov_bg := fun (E : Over wr) o => E.cell (b := w.heap.size) o hl_bg
                    have hov_bc := fun (E : Over wr) o => E.cell (b := wo3.heap.size) o hl_bc
                    have hov_b1 := fun (E : Over wr) o => E.cell (b := b1) o hb1
                    have hov_b2 := fun (E : Over wr) o => E.cell (b := b2) o hb2
                    simp only [Tree.qs]
                    repeat (refine tree_q rfl rfl ?_; go_big_quiet_step (fail); refine wpQuiet_nil ?_)
                    refine tree_a rfl (fun K hK => ?_)
                    go_simp
                    refine (rIsEl_b OK.out x true HQ1.out _ (HG.out.up (below_up HB.out HT.out))).mono ?_
                    rintro e w3 ⟨rfl, hb9⟩
                    replace HT := Lib.hid (below_up HT.out hb9)
                    replace HZS := sz HZS (show wr.heap.size ≤ w3.heap.size from HT.out.size)
                    clear hb9
                    refine hK _ _ ⟨⟨⟨w3, HT.out⟩, rfl⟩, ?_⟩
                    clear hK K
                    repeat (refine tree_q rfl rfl ?_; go_big_quiet_step (fail); refine wpQuiet_nil ?_)
                    refine tree_a rfl (fun K hK => ?_)
                    go_simp
                    refine (rIsEl_b OK.out y q2 HQ2.out _ (HG.out.up (below_up HB.out HT.out))).mono ?_
                    rintro e w4 ⟨rfl, hb9⟩
                    replace HT := Lib.hid (below_up HT.out hb9)
                    replace HZS := sz HZS (show wr.heap.size ≤ w4.heap.size from HT.out.size)
                    clear hb9
                    refine hK _ _ ⟨⟨⟨w4, HT.out⟩, rfl⟩, ?_⟩
                    clear hK K
                    repeat (refine tree_q rfl rfl ?_; go_big_quiet_step (fail); refine wpQuiet_nil ?_)
                    refine tree_end ?_
                    clear hov_bg hl_bg hov_bc hl_bc hov_b1 hov_b2
                    clear bg_
                    replace Hbg := Lib.hid (Hbg.out.up HT.out)
                    clear bc_
                    replace Hbc := Lib.hid (Hbc.out.up HT.out)
                    replace BL := hbu BL HT.out
                    replace BM := hbu BM HT.out
                    replace BN := hbu BN HT.out
                    replace BR := hbu BR HT.out
                    replace BI := hbu BI HT.out
                    replace HB := hbu HB HT.out
                    replace HZS := sz HZS HT.out.size
                    clear HT
                    have bg_ := Hbg.out.c3
                    have bc_ := Hbc.out.c2
                    cases q2
                    · have HW := Lib.hid (HNO2.out (by rw [HT4.out HQ2.out, Bool.and_false]))
                      obtain rfl : z = 7 := by rw [HZE.out, if_neg (by rw [HW.out]; decide)]
                      go_wp2_with fail
                      go_ret
                      exact ⟨rfl, HB.out⟩
                    · go_wp2_with fail
                      go_roundw
                      case rel => exact ⟨t + 1, by omega, by go_num, BI, ⟨HT1.out HQ1.out, HT2.out HQ2.out⟩⟩
                      case measure => simp [intOf]; omega
                · have htm' : t = bs.length := by omega
                  have HHT := Lib.hid (HSN2.out (all_take_true (by rw [← htm']; exact HAI.out.1)) (all_take_true (by rw [HLEN.out, ← htm']; exact HAI.out.2)))
                  go_wp2_with fail
                  go_roundw
                  case rel => exact ⟨j + 1, by omega, by go_num, BN, HHT⟩
                  case measure => simp [intOf]; omega
            · have hjn' : j = n := by omega
              subst hjn'
              obtain rfl : z = 0 := by rw [HZE.out, if_pos (all_take_true (by rw [HN.out]; exact HAL.out))]
              go_wp2_with fail
              go_ret
              exact ⟨rfl, HB.out⟩
end
end Go.Proofs.YtdlnnkbigeiilaaGreat

/- Claims hold, as the document says it. Condition: shapes and sizes of what was asked before. -/
namespace Go.Proofs.YtdlnnkbigeiilaaGreat
open Go.RowKit

def rhold2 (G : GP) (x : ByteArray) (b m : ByteArray) : Bool := decide (textS (lowN G (numOf b ^ numOf x)) G.size = m)
def rhold1 (G : GP) (k : ClaimA) (x : ByteArray) : Bool := (List.zipWith (rhold2 G x) k.bases k.images).all id
def rholdP (G : GP) (l : List ClaimA) (xs : List ByteArray) : Bool := (List.zipWith (rhold1 G) l xs).all id
/-- What the claims are known to be when they are walked. -/
structure RSh (G : GP) (l : List ClaimA) (xs : List ByteArray) : Prop where
  n64 : l.length ≤ 64
  len : ∀ c ∈ l, c.bases.length ≤ 8 ∧ c.images.length = c.bases.length
  bs : ∀ c ∈ l, ∀ s ∈ c.bases, s.size ≤ 32
  ims : ∀ c ∈ l, ∀ s ∈ c.images, s.size ≤ 32
  xl : xs.length = l.length
  xs : ∀ s ∈ xs, s.size ≤ 32
section
variable {G : GP} {aq ap : Option Addr} {cq cp : Nat}

set_option maxRecDepth 100000 in
set_option maxHeartbeats 4000000 in
theorem rHold (ok : G.Ok) (l : List ClaimA) (xs : List ByteArray) (sh : RSh G l xs) (n : Nat) (hn : l.length = n) (b : Bool) (hb : rholdP G l xs = b) (al ax : Option Addr) (cl cx : Nat) (w : World) (hG : RG w G aq ap) (hC : ClaimsAt w al l) (hX : Sl w w.heap.size ax (xs.map Value.string)) :
    Calls Tryz.prog 71 #[.agg #[.int .i64 (G.size : Int), .slice aq (dl G.q.m) cq, .slice ap (dl G.p.m) cp], .slice al n cl, .slice ax n cx] w (Gives (.bool b) w) := by
  have OK := Lib.hid ok
  have HG := Lib.hid hG
  have HC := Lib.hid hC
  have HX := Lib.hid hX
  have HN := Lib.hid hn
  have HBB := Lib.hid hb
  have HSH := Lib.hid sh
  have HXN := Lib.hid (show xs.length = n by rw [sh.xl, hn])
  have hn64 : n ≤ 64 := by rw [← hn]; exact sh.n64
  clear ok hG hC hX hn hb sh
  unfold Gives
  go_enter Tryz.func71, Tryz.ntmps71
  go_wp2_with fail
  obtain ⟨w1, hq1, hb9, hz9, Hbg⟩ := new1 w 86 [.int .i64 (G.size : Int), .slice aq (dl G.q.m) cq, .slice ap (dl G.p.m) cp]
  rw [hq1]
  clear hq1
  have HB := Lib.hid hb9
  have HZS := hz9
  clear hb9 hz9
  have bg_ := Hbg.out.c3
  have BL := Lib.hid (Below.refl w1.heap.size w1)
  go_wp2_with fail
  go_loopw [12] (fun i wr => ∃ j : Nat, j ≤ n ∧ i = .int .i64 j ∧ Hid (Below w1.heap.size w1 wr) ∧ Hid (((List.zipWith (rhold1 G) l xs).take j).all id = true)) (fun i _ => n - (intOf i).toNat)
  case atStart => exact ⟨0, Nat.zero_le _, rfl, BL, rfl⟩
  case round =>
    obtain ⟨j, hj, rfl, HL9, HAL⟩ := hrel
    have hb9 := HL9.out
    clear HL9
    clear bg_
    replace Hbg := Lib.hid (Hbg.out.up hb9)
    replace BL := hbu BL hb9
    replace HB := hbu HB hb9
    replace HZS := sz HZS hb9.size
    clear hb9
    have bg_ := Hbg.out.c3
    by_cases hjn : j < n
    · have hjl : j < l.length := by rw [HN.out]; exact hjn
      have hjx : j < xs.length := by rw [HXN.out]; exact hjn
      obtain ⟨bl, ol, rfl, hbl0, hc⟩ := (HC.out.s.up HB.out).elem ClaimA.cells_len (by omega) j hjl
      have hc_0 := hc 0 _ rfl
      rw [Nat.add_zero] at hc_0
      have hc_1 := hc 1 _ rfl
      clear hc
      obtain ⟨bx, ox, rfl, hbx, hcx⟩ := (HX.out.up HB.out).at j (by simpa using hjx)
      rw [List.getElem_map] at hcx
      have HAT := Lib.hid ((HC.out.up HB.out).one j hjl)
      have HSJ := Lib.hid (HSH.out.len _ (List.getElem_mem hjl))
      have HBJ := Lib.hid (HSH.out.bs _ (List.getElem_mem hjl))
      have HXJ := Lib.hid (HSH.out.xs _ (List.getElem_mem hjx))
      have HSN := Lib.hid (zalls_snoc (f := rhold1 G) hjl hjx HAL.out)
      have HNO := Lib.hid (zalls_not (f := rhold1 G) hjl hjx)
      generalize l[j] = c at *
      generalize xs[j] = x at *
      have HAB := Lib.hid HAT.out.b
      have HAJ := Lib.hid HAT.out.i
      have HSN2 := Lib.hid (show (List.zipWith (rhold2 G x) c.bases c.images).all id = true → _ from HSN.out)
      have HNO2 := Lib.hid (show (List.zipWith (rhold2 G x) c.bases c.images).all id = false → _ from HNO.out)
      clear HAT HSN HNO
      generalize c.bases = bs at *
      generalize c.images = ims at *
      generalize c.ab = ab at *
      generalize c.ai = ai at *
      generalize c.cb = cb at *
      generalize c.ci = ci at *
      have hm8 := HSJ.out.1
      have HCX := Lib.hid hcx
      clear hcx
      have BR := Lib.hid (Below.refl wr.heap.size wr)
      have o2_bg_ := bg_; clear bg_
      obtain ⟨w2, hq2, hb9, hz9, Hbc⟩ := new1 wr 50 [.slice ab bs.length cb, .slice ai ims.length ci]
      replace Hbg := Lib.hid (Hbg.out.up hb9)
      replace BL := hbu BL hb9
      replace BR := hbu BR hb9
      replace HB := hbu HB hb9
      replace HZS := sz HZS hz9.out
      clear hb9 hz9
      have bg_ := Hbg.out.c3
      have bc_ := Hbc.out.c2
      obtain ⟨wo, rfl⟩ : ∃ wo : World, wo = wr := ⟨_, rfl⟩
      have BI := Lib.hid (Below.refl w2.heap.size w2)
      go_wp2_with fail
      clear hq2 o2_bg_
      go_loopw [9] (fun i wr => ∃ t : Nat, t ≤ bs.length ∧ i = .int .i64 t ∧ Hid (Below w2.heap.size w2 wr) ∧ Hid (((List.zipWith (rhold2 G x) bs ims).take t).all id = true)) (fun i _ => bs.length - (intOf i).toNat)
      case atStart => exact ⟨0, Nat.zero_le _, rfl, BI, rfl⟩
      case round =>
        obtain ⟨t, ht, rfl, HL9, HAI⟩ := hrel
        have hb9 := HL9.out
        clear HL9
        clear bg_
        replace Hbg := Lib.hid (Hbg.out.up hb9)
        clear bc_
        replace Hbc := Lib.hid (Hbc.out.up hb9)
        replace BL := hbu BL hb9
        replace BR := hbu BR hb9
        replace BI := hbu BI hb9
        replace HB := hbu HB hb9
        replace HZS := sz HZS hb9.size
        clear hb9
        have bg_ := Hbg.out.c3
        have bc_ := Hbc.out.c2
        by_cases htm : t < bs.length
        · have hti : t < ims.length := by rw [HSJ.out.2]; exact htm
          obtain ⟨b1, o1, rfl, hb1, hc1⟩ := (HAB.out.up BR.out).at t (by simpa using htm)
          obtain ⟨b2, o2, rfl, hb2, hc2⟩ := (HAJ.out.up BR.out).at t (by simpa using hti)
          rw [List.getElem_map] at hc1 hc2
          have HTN := Lib.hid (zalls_snoc (f := rhold2 G x) htm hti HAI.out)
          have HTO := Lib.hid (zalls_not (f := rhold2 G x) htm hti)
          have HBT := Lib.hid (HBJ.out _ (List.getElem_mem htm))
          have hcx := (BR.out.cell (p := ⟨bx, ox + j, none⟩) hbx).trans HCX.out
          have hbx' := Nat.lt_of_lt_of_le hbx BR.out.size
          generalize bs[t] = y at *
          generalize ims[t] = m at *
          obtain ⟨q, hq⟩ : ∃ q, rhold2 G x y m = q := ⟨_, rfl⟩
          have hqe : ((textS (lowN G (numOf y ^ numOf x)) G.size).toList == m.toList) = q := by
            rw [← hq]
            unfold rhold2
            by_cases h : textS (lowN G (numOf y ^ numOf x)) G.size = m
            · rw [decide_eq_true h, h]; simp
            · rw [decide_eq_false h, toList_bne h]
          have HQ := Lib.hid hq
          clear hq
          go_wp2_with fail
          have HT := Lib.hid (show Below wr.heap.size wr wr.drew from (Below.refl _ _).drew)
          have hl_bg := Hbg.out.lt
          have hl_bc := Hbc.out.lt
          refine wp_region_tree (fun wq9 => ∃ E : Over wr, wq9 = E.w) ((.qs [0, 1, 2, 3, 4, 5, 6, 7, 8, 9, 12, 13, 15, 16, 17, 18, 19] (.a 10 (.a 11 (.a 14 (.qs [20] .done)))))) (by kernel_rfl) (by kernel_rfl) (fun _ _ d _ _ h => by cases d <;> exact h) ⟨⟨_, HT.out⟩, rfl⟩ ?_
          have hov_bg := fun (E : Over wr) o => E.cell (b := w.heap.size) o hl_bg
          have hov_bc := fun (E : Over wr) o => E.cell (b := wo.heap.size) o hl_bc
          have hov_b1 := fun (E : Over wr) o => E.cell (b := b1) o hb1
          have hov_b2 := fun (E : Over wr) o => E.cell (b := b2) o hb2
          have hov_bx := fun (E : Over wr) o => E.cell (b := bx) o hbx'
          simp only [Tree.qs]
          repeat (refine tree_q rfl rfl ?_; go_big_quiet_step (fail); refine wpQuiet_nil ?_)
          refine tree_a rfl (fun K hK => ?_)
          go_simp
          refine (refRead_any x (Nat.le_trans HXJ.out (by decide)) _).mono ?_
          rintro e w3 ⟨a5, c5, rfl, hn9, hb9⟩
          replace HT := Lib.hid (below_up HT.out hb9)
          replace HZS := sz HZS (show wr.heap.size ≤ w3.heap.size from HT.out.size)
          clear hb9
          have HN5 := Lib.hid hn9
          clear hn9
          refine hK _ _ ⟨⟨⟨w3, HT.out⟩, rfl⟩, ?_⟩
          clear hK K
          repeat (refine tree_q rfl rfl ?_; go_big_quiet_step (fail); refine wpQuiet_nil ?_)
          refine tree_a rfl (fun K hK => ?_)
          go_simp
          refine (rPower5 OK.out y HBT.out (Nat.le_trans (dl_of_lt _ 16 (numOf_16 x HXJ.out)) (by decide)) _ (HG.out.up (below_up HB.out HT.out)) HN5.out).mono ?_
          rintro e w4 ⟨a6, c6, rfl, hn9, hb9⟩
          replace HN5 := Lib.hid (HN5.out.up hb9)
          replace HT := Lib.hid (below_up HT.out hb9)
          replace HZS := sz HZS (show wr.heap.size ≤ w4.heap.size from HT.out.size)
          clear hb9
          have HN6 := Lib.hid hn9
          clear hn9
          refine hK _ _ ⟨⟨⟨w4, HT.out⟩, rfl⟩, ?_⟩
          clear hK K
          repeat (refine tree_q rfl rfl ?_; go_big_quiet_step (fail); refine wpQuiet_nil ?_)
          refine tree_a rfl (fun K hK => ?_)
          go_simp
          refine (rText2 OK.out _ HN6.out).mono ?_
          rintro e w5 ⟨rfl, hb9⟩
          replace HN5 := Lib.hid (HN5.out.up hb9)
          replace HN6 := Lib.hid (HN6.out.up hb9)
          replace HT := Lib.hid (below_up HT.out hb9)
          replace HZS := sz HZS (show wr.heap.size ≤ w5.heap.size from HT.out.size)
          clear hb9
          refine hK _ _ ⟨⟨⟨w5, HT.out⟩, rfl⟩, ?_⟩
          clear hK K
          repeat (refine tree_q rfl rfl ?_; go_big_quiet_step (fail); refine wpQuiet_nil ?_)
          refine tree_end ?_
          clear hov_bg hl_bg hov_bc hl_bc hov_b1 hov_b2 hov_bx
          clear bg_
          replace Hbg := Lib.hid (Hbg.out.up HT.out)
          clear bc_
          replace Hbc := Lib.hid (Hbc.out.up HT.out)
          replace BL := hbu BL HT.out
          replace BR := hbu BR HT.out
          replace BI := hbu BI HT.out
          replace HB := hbu HB HT.out
          replace HZS := sz HZS HT.out.size
          clear HT
          have bg_ := Hbg.out.c3
          have bc_ := Hbc.out.c2
          cases q
          · obtain rfl : b = false := by rw [← HBB.out]; exact HNO2.out (HTO.out HQ.out)
            go_wp2_with fail
            go_ret
            exact ⟨rfl, HB.out⟩
          · go_wp2_with fail
            go_roundw
            case rel => exact ⟨t + 1, by omega, by go_num, BI, HTN.out HQ.out⟩
            case measure => simp [intOf]; omega
        · have htm' : t = bs.length := by omega
          have HHT := Lib.hid (HSN2.out (zalls_end htm'.symm HAI.out))
          go_wp2_with fail
          go_roundw
          case rel => exact ⟨j + 1, by omega, by go_num, BL, HHT⟩
          case measure => simp [intOf]; omega
    · have hjn' : j = n := by omega
      subst hjn'
      obtain rfl : b = true := by rw [← HBB.out]; exact zalls_end HN.out HAL.out
      go_wp2_with fail
      go_ret
      exact ⟨rfl, HB.out⟩
end
end Go.Proofs.YtdlnnkbigeiilaaGreat

/- What is said first, what comes back, as the document says it. Condition: shapes and sizes of what was asked before. -/
namespace Go.Proofs.YtdlnnkbigeiilaaGreat
open Go.RowKit

/-- Lists that a call has made, none of them in the block of v. -/
def RowsOff (v : Value) (N : Nat) (w : World) (ro : List RowA) : Prop := ∀ r ∈ ro, RowA.At w r ∧ (∀ x, r.a = some x → N ≤ x.block ∧ x.block < w.heap.size ∧ v.ownBlock ≠ some x.block) ∧ r.Ok
theorem RowsOff.up {v : Value} {N : Nat} {w w1 : World} {ro : List RowA} (h : RowsOff v N w ro) (hb : Below w.heap.size w w1) : RowsOff v N w1 ro := fun r hr =>
  let ⟨h1, h2, h3⟩ := h r hr
  ⟨RowA.At.up h1 hb, fun x hx => ⟨(h2 x hx).1, Nat.lt_of_lt_of_le (h2 x hx).2.1 hb.size, (h2 x hx).2.2⟩, h3⟩
theorem RowsOff.push {v : Value} {N g n c : Nat} {w w1 : World} {ro : List RowA} {r : RowA} (h : RowsOff v N w ro) (hr : RowsOff v N w [r]) (hk : Kept (fun q => Value.ownBlock v = some q) w w1) (hf : Value.ownBlock v = some g ∨ w.heap.size ≤ g) : RowsOff (.slice (some ⟨g, 0, none⟩) n c) N w1 (ro ++ [r]) := fun s hs => by
  obtain ⟨h1, h2, h3⟩ : RowA.At w s ∧ (∀ x, s.a = some x → N ≤ x.block ∧ x.block < w.heap.size ∧ v.ownBlock ≠ some x.block) ∧ s.Ok := by
    rcases List.mem_append.1 hs with h9 | h9
    · exact h s h9
    · exact hr s h9
  refine ⟨Sl.kept h1 hk (fun x hx e => (h2 x hx).2.2 e), fun x hx => ⟨(h2 x hx).1, Nat.lt_of_lt_of_le (h2 x hx).2.1 hk.size, ?_⟩, h3⟩
  intro e
  have e9 : g = x.block := Option.some.inj e
  rcases hf with hf | hf
  · exact (h2 x hx).2.2 (by rw [hf, e9])
  · have := (h2 x hx).2.1
    omega
theorem RowsOff.one {v : Value} {N M t c k : Nat} {w : World} {g : Option Addr} {L : List ByteArray} (h : RowO M w 9 1 (.slice g t c) t (L.map Value.string)) (hN : N ≤ M) (hv : ∀ q, v.ownBlock = some q → q < M) (_hk : L.length = k) : RowsOff v N w [⟨g, c, L⟩] := fun s hs => by
  obtain rfl := List.mem_singleton.1 hs
  refine ⟨h.sl, fun x hx => ?_, RowO.rowOk h⟩
  have hx : g = some x := hx
  obtain ⟨b, e⟩ : ∃ b, g = some ⟨b, 0, none⟩ := by
    rcases h.2 with ⟨hv, _⟩ | ⟨g0, cap, cur, hv, _⟩
    · simp only [Value.slice.injEq] at hv
      rw [hv.1] at hx
      cases hx
    · simp only [Value.slice.injEq] at hv
      exact ⟨g0, hv.1⟩
  subst e
  cases hx
  have h9 := h.lt b rfl
  refine ⟨Nat.le_trans hN h9.1, h9.2, fun e => ?_⟩
  have := hv _ e
  have h8 : M ≤ b := h9.1
  have : b < M := this
  omega
def rvalB (G : GP) (y : Nat) (l : List ClaimA) (xs : List ByteArray) (i t : Nat) : Nat := lowN G (numOf ((l.getD i claim0).bases.getD t ⟨#[]⟩) ^ numOf (xs.getD i ⟨#[]⟩)) * lowN G (numOf ((l.getD i claim0).images.getD t ⟨#[]⟩) ^ y)
theorem rvalB_eq (G : GP) (y : Nat) {l : List ClaimA} {xs : List ByteArray} {i t : Nat} (hi : i < l.length) (hx : i < xs.length) (ht : t < l[i].bases.length) (hti : t < l[i].images.length) : rvalB G y l xs i t = lowN G (numOf l[i].bases[t] ^ numOf xs[i]) * lowN G (numOf l[i].images[t] ^ y) := by
  unfold rvalB
  simp [List.getD, hi, hx, ht, hti]
section
variable {G : GP} {aq ap : Option Addr} {cq cp : Nat}
theorem rOf0 (w : World) : Calls Tryz.prog 57 #[.int .i64 0] w fun e w' => NumR w e w' 0 := refOf_any 0 (by decide) w
set_option maxRecDepth 100000 in
set_option maxHeartbeats 4000000 in
theorem rBackOf (ok : G.Ok) (ch : ByteArray) (y : Nat) (hy : subQ G 0 (numOf ch) = y) (hcs : ch.size ≤ 32) (hcq : numOf ch ≤ G.q.m) (l : List ClaimA) (xs : List ByteArray) (sh : RSh G l xs) (n : Nat) (hn : l.length = n) (al ax : Option Addr) (cl cx : Nat) (w : World) (hG : RG w G aq ap) (hC : ClaimsAt w al l) (hX : Sl w w.heap.size ax (xs.map Value.string)) :
    Calls Tryz.prog 62 #[.agg #[.int .i64 (G.size : Int), .slice aq (dl G.q.m) cq, .slice ap (dl G.p.m) cp], .slice al n cl, .string ch, .slice ax n cx] w (RowsR (eachA G (rvalB G y l xs) (lens l) n) w) := by
  have OK := Lib.hid ok
  have HG := Lib.hid hG
  have HC := Lib.hid hC
  have HX := Lib.hid hX
  have HN := Lib.hid hn
  have HSH := Lib.hid sh
  have HCS := Lib.hid hcs
  have HCQ := Lib.hid hcq
  have HYE := Lib.hid hy
  have HXN := Lib.hid (show xs.length = n by rw [sh.xl, hn])
  have hn64 : n ≤ 64 := by rw [← hn]; exact sh.n64
  have HLG := Lib.hid (show ∀ i (hi : i < l.length), (lens l).getD i 0 = l[i].bases.length from fun i hi => by unfold lens; simp [List.getD, hi])
  clear ok hG hC hX hn sh hcs hcq hy
  go_enter Tryz.func62, Tryz.ntmps62
  go_wp2_with fail
  obtain ⟨w1, hq1, hb9, hz9, Hbg⟩ := new1 w 86 [.int .i64 (G.size : Int), .slice aq (dl G.q.m) cq, .slice ap (dl G.p.m) cp]
  rw [hq1]
  clear hq1
  have HB := Lib.hid hb9
  have HZS := hz9
  clear hb9 hz9
  have bg_ := Hbg.out.c3
  go_wp2_with fail
  have HT := Lib.hid (show Below w1.heap.size w1 w1.drew from (Below.refl _ _).drew)
  have hl_bg := Hbg.out.lt
  refine wp_region_tree (fun wq9 => ∃ E : Over w1, wq9 = E.w) ((.qs [0, 2] (.a 1 (.a 3 (.a 4 (.qs [5] .done)))))) (by kernel_rfl) (by kernel_rfl) (fun _ _ d _ _ h => by cases d <;> exact h) ⟨⟨_, HT.out⟩, rfl⟩ ?_
  have hov_bg := fun (E : Over w1) o => E.cell (b := w.heap.size) o hl_bg
  simp only [Tree.qs]
  repeat (refine tree_q rfl rfl ?_; go_big_quiet_step (fail); refine wpQuiet_nil ?_)
  refine tree_a rfl (fun K hK => ?_)
  go_simp
  refine (rOf0 _).mono ?_
  rintro e w2 ⟨a1, c1, rfl, hn9, hb9⟩
  replace HT := Lib.hid (below_up HT.out hb9)
  replace HZS := sz HZS (show w1.heap.size ≤ w2.heap.size from HT.out.size)
  clear hb9
  have HN1 := Lib.hid hn9
  clear hn9
  refine hK _ _ ⟨⟨⟨w2, HT.out⟩, rfl⟩, ?_⟩
  clear hK K
  repeat (refine tree_q rfl rfl ?_; go_big_quiet_step (fail); refine wpQuiet_nil ?_)
  refine tree_a rfl (fun K hK => ?_)
  go_simp
  refine (refRead_any ch (Nat.le_trans HCS.out (by decide)) _).mono ?_
  rintro e w3 ⟨a2, c2, rfl, hn9, hb9⟩
  replace HN1 := Lib.hid (HN1.out.up hb9)
  replace HT := Lib.hid (below_up HT.out hb9)
  replace HZS := sz HZS (show w1.heap.size ≤ w3.heap.size from HT.out.size)
  clear hb9
  have HN2 := Lib.hid hn9
  clear hn9
  refine hK _ _ ⟨⟨⟨w3, HT.out⟩, rfl⟩, ?_⟩
  clear hK K
  repeat (refine tree_q rfl rfl ?_; go_big_quiet_step (fail); refine wpQuiet_nil ?_)
  refine tree_a rfl (fun K hK => ?_)
  go_simp
  refine (rSubQ OK.out (show 0 < DD ^ 16 by decide) HCQ.out _ (HG.out.up (below_up HB.out HT.out)) HN1.out HN2.out).mono ?_
  rintro e w4 ⟨a3, c3, rfl, hn9, hb9⟩
  replace HN1 := Lib.hid (HN1.out.up hb9)
  replace HN2 := Lib.hid (HN2.out.up hb9)
  replace HT := Lib.hid (below_up HT.out hb9)
  replace HZS := sz HZS (show w1.heap.size ≤ w4.heap.size from HT.out.size)
  clear hb9
  have HN3 := Lib.hid hn9
  clear hn9
  refine hK _ _ ⟨⟨⟨w4, HT.out⟩, rfl⟩, ?_⟩
  clear hK K
  repeat (refine tree_q rfl rfl ?_; go_big_quiet_step (fail); refine wpQuiet_nil ?_)
  refine tree_end ?_
  clear hov_bg hl_bg
  clear bg_
  replace Hbg := Lib.hid (Hbg.out.up HT.out)
  replace HB := hbu HB HT.out
  replace HZS := sz HZS HT.out.size
  clear HT
  have bg_ := Hbg.out.c3
  have BL := Lib.hid (Below.refl w4.heap.size w4)
  have HY := HN3
  clear HN3
  have HYD := Lib.hid (Nat.le_trans (dl_of_lt _ 16 (q_16 OK.out (subQ_lt OK.out 0 (numOf ch)))) (by decide) : dl (subQ G 0 (numOf ch)) ≤ 65536)
  rw [HYE.out] at HY HYD ⊢
  clear HYE
  go_wp2_with fail
  go_loopw [22, 10] (fun i v wr => ∃ (j : Nat) (g : Option Addr) (c9 : Nat) (ro : List RowA), j ≤ n ∧ i = .int .i64 j ∧ v = .slice g j c9 ∧ Hid (ro.map RowA.l = eachA G (rvalB G y l xs) (lens l) j) ∧ Hid (Below w4.heap.size w4 wr) ∧ Hid (RowO w4.heap.size wr 23 1 (.slice g j c9) j (ro.flatMap RowA.cells)) ∧ Hid (RowsOff (.slice g j c9) w4.heap.size wr ro)) (fun i _ _ => n - (intOf i).toNat)
  case atStart => exact ⟨0, none, 0, [], Nat.zero_le _, rfl, rfl, rfl, BL, RowO.nil, fun _ h => by cases h⟩
  case round =>
    obtain ⟨j, g, c9, ro, hj, rfl, rfl, HRM, HL9, Hr, HRN⟩ := hrel
    have hb9 := HL9.out
    clear HL9
    clear bg_
    replace Hbg := Lib.hid (Hbg.out.up hb9)
    replace HN1 := Lib.hid (HN1.out.up hb9)
    replace HN2 := Lib.hid (HN2.out.up hb9)
    replace BL := hbu BL hb9
    replace HB := hbu HB hb9
    replace HZS := sz HZS hb9.size
    clear hb9
    have bg_ := Hbg.out.c3
    by_cases hjn : j < n
    · have hjl : j < l.length := by rw [HN.out]; exact hjn
      have hjx : j < xs.length := by rw [HXN.out]; exact hjn
      obtain ⟨bl, ol, rfl, hbl0, hc⟩ := (HC.out.s.up HB.out).elem ClaimA.cells_len (by omega) j hjl
      have hc_0 := hc 0 _ rfl
      rw [Nat.add_zero] at hc_0
      have hc_1 := hc 1 _ rfl
      clear hc
      obtain ⟨bx, ox, rfl, hbx, hcx⟩ := (HX.out.up HB.out).at j (by simpa using hjx)
      rw [List.getElem_map] at hcx
      have HAT := Lib.hid ((HC.out.up HB.out).one j hjl)
      have HSJ := Lib.hid (HSH.out.len _ (List.getElem_mem hjl))
      have HBJ := Lib.hid (HSH.out.bs _ (List.getElem_mem hjl))
      have HIJ := Lib.hid (HSH.out.ims _ (List.getElem_mem hjl))
      have HXJ := Lib.hid (HSH.out.xs _ (List.getElem_mem hjx))
      have HMM := Lib.hid (HLG.out j hjl)
      have HVE := Lib.hid (fun t (ht : t < l[j].bases.length) (hti : t < l[j].images.length) => rvalB_eq G y hjl hjx ht hti)
      generalize l[j] = c at *
      generalize xs[j] = x at *
      have HAB := Lib.hid HAT.out.b
      have HAJ := Lib.hid HAT.out.i
      clear HAT
      generalize c.bases = bs at *
      generalize c.images = ims at *
      generalize c.ab = ab at *
      generalize c.ai = ai at *
      generalize c.cb = cb at *
      generalize c.ci = ci at *
      have hm8 := HSJ.out.1
      have HCX := Lib.hid hcx
      clear hcx
      have BR := Lib.hid (Below.refl wr.heap.size wr)
      have o5_bg_ := bg_; clear bg_
      obtain ⟨w5, hq5, hb9, hz9, Hbc⟩ := new1 wr 50 [.slice ab bs.length cb, .slice ai ims.length ci]
      replace Hbg := Lib.hid (Hbg.out.up hb9)
      replace Hr := Lib.hid (Hr.out.up hb9)
      replace HN1 := Lib.hid (HN1.out.up hb9)
      replace HN2 := Lib.hid (HN2.out.up hb9)
      replace BL := hbu BL hb9
      replace BR := hbu BR hb9
      replace HB := hbu HB hb9
      replace HZS := sz HZS hz9.out
      clear hb9 hz9
      have bg_ := Hbg.out.c3
      have bc_ := Hbc.out.c2
      have hro := Hr.out.lt
      obtain ⟨wo, rfl⟩ : ∃ wo : World, wo = wr := ⟨_, rfl⟩
      have BI := Lib.hid (Below.refl w5.heap.size w5)
      go_wp2_with fail
      clear hq5 o5_bg_
      go_loopw [14, 13] (fun i v wr => ∃ (t : Nat) (g9 : Option Addr) (cz : Nat), t ≤ bs.length ∧ i = .int .i64 t ∧ v = .slice g9 t cz ∧ Hid (Below w5.heap.size w5 wr) ∧ Hid (RowO w5.heap.size wr 9 1 (.slice g9 t cz) t ((eachL G (rvalB G y l xs) j t).map Value.string))) (fun i _ _ => bs.length - (intOf i).toNat)
      case atStart => exact ⟨0, none, 0, Nat.zero_le _, rfl, rfl, BI, RowO.nil⟩
      case round =>
        obtain ⟨t, g9, cz, ht, rfl, rfl, HL9, Hq⟩ := hrel
        have hb9 := HL9.out
        clear HL9
        clear bg_
        replace Hbg := Lib.hid (Hbg.out.up hb9)
        clear bc_
        replace Hbc := Lib.hid (Hbc.out.up hb9)
        replace Hr := Lib.hid (Hr.out.up hb9)
        replace HN1 := Lib.hid (HN1.out.up hb9)
        replace HN2 := Lib.hid (HN2.out.up hb9)
        replace BL := hbu BL hb9
        replace BR := hbu BR hb9
        replace BI := hbu BI hb9
        replace HB := hbu HB hb9
        replace HZS := sz HZS hb9.size
        clear hb9
        have bg_ := Hbg.out.c3
        have bc_ := Hbc.out.c2
        by_cases htm : t < bs.length
        · have hti : t < ims.length := by rw [HSJ.out.2]; exact htm
          obtain ⟨b1, o1, rfl, hb10, hb1, hc1⟩ := HAB.out.atUp BR.out t (by simpa using htm)
          obtain ⟨b2, o2, rfl, hb20, hb2, hc2⟩ := HAJ.out.atUp BR.out t (by simpa using hti)
          have HB10 := Lib.hid hb10
          have HB20 := Lib.hid hb20
          have HBX0 := Lib.hid hbx
          replace HZS := sz HZS HB10.out
          replace HZS := sz HZS HB20.out
          replace HZS := sz HZS HBX0.out
          clear hb10 hb20
          rw [List.getElem_map] at hc1 hc2
          have HBT := Lib.hid (HBJ.out _ (List.getElem_mem htm))
          have HIT := Lib.hid (HIJ.out _ (List.getElem_mem hti))
          have HVT := Lib.hid (HVE.out t htm hti)
          have hcx := (BR.out.cell (p := ⟨bx, ox + j, none⟩) hbx).trans HCX.out
          have hbx' := Nat.lt_of_lt_of_le hbx BR.out.size
          generalize bs[t] = z at *
          generalize ims[t] = m at *
          clear hc_0 hc_1
          go_wp2_with fail
          have HT := Lib.hid (show Below wr.heap.size wr wr.drew from (Below.refl _ _).drew)
          have hl_bg := Hbg.out.lt
          have hl_bc := Hbc.out.lt
          refine wp_region_tree (fun wq9 => ∃ E : But wr (Value.ownBlock (.slice g9 t cz)), wq9 = E.w) ((.qs [0, 1, 2, 3, 4, 5, 6, 7, 8, 9, 10, 11, 14, 15, 16, 17, 18, 19, 20, 23, 24] (.a 12 (.a 13 (.a 21 (.a 22 (.a 25 (.a 26 (.a 27 (.qs [28] .done)))))))))) (by kernel_rfl) (by kernel_rfl) (fun _ _ d _ _ h => by cases d <;> exact h) ⟨⟨_, ((below_grown HT.out).but _)⟩, rfl⟩ ?_
          have hov_bg := fun (E : But wr (Value.ownBlock (.slice g9 t cz))) o => E.cell (b := w.heap.size) o hl_bg (by intro e9; have a1 := Hq.out.lt _ e9; have g0 := HZS.out; omega)
          have hov_bc := fun (E : But wr (Value.ownBlock (.slice g9 t cz))) o => E.cell (b := wo.heap.size) o hl_bc (by intro e9; have a1 := Hq.out.lt _ e9; have g0 := HZS.out; omega)
          have hov_b1 := fun (E : But wr (Value.ownBlock (.slice g9 t cz))) o => E.cell (b := b1) o hb1 (by intro e9; have a1 := Hq.out.lt _ e9; have g0 := HZS.out; omega)
          have hov_b2 := fun (E : But wr (Value.ownBlock (.slice g9 t cz))) o => E.cell (b := b2) o hb2 (by intro e9; have a1 := Hq.out.lt _ e9; have g0 := HZS.out; omega)
          have hov_bx := fun (E : But wr (Value.ownBlock (.slice g9 t cz))) o => E.cell (b := bx) o hbx' (by intro e9; have a1 := Hq.out.lt _ e9; have g0 := HZS.out; omega)
          simp only [Tree.qs]
          repeat (refine tree_q rfl rfl ?_; go_big_quiet_step (fail); refine wpQuiet_nil ?_)
          refine tree_a rfl (fun K hK => ?_)
          go_simp
          refine (refRead_any x (Nat.le_trans HXJ.out (by decide)) _).mono ?_
          rintro e w6 ⟨a5, c5, rfl, hn9, hb9⟩
          replace HT := Lib.hid (below_up HT.out hb9)
          replace HZS := sz HZS (show wr.heap.size ≤ w6.heap.size from HT.out.size)
          clear hb9
          have HN5 := Lib.hid hn9
          clear hn9
          refine hK _ _ ⟨⟨⟨w6, ((below_grown HT.out).but _)⟩, rfl⟩, ?_⟩
          clear hK K
          repeat (refine tree_q rfl rfl ?_; go_big_quiet_step (fail); refine wpQuiet_nil ?_)
          refine tree_a rfl (fun K hK => ?_)
          go_simp
          refine (rPower5 OK.out z HBT.out (Nat.le_trans (dl_of_lt _ 16 (numOf_16 x HXJ.out)) (by decide)) _ (HG.out.up (below_up HB.out HT.out)) HN5.out).mono ?_
          rintro e w7 ⟨a6, c6, rfl, hn9, hb9⟩
          replace HN5 := Lib.hid (HN5.out.up hb9)
          replace HT := Lib.hid (below_up HT.out hb9)
          replace HZS := sz HZS (show wr.heap.size ≤ w7.heap.size from HT.out.size)
          clear hb9
          have HN6 := Lib.hid hn9
          clear hn9
          refine hK _ _ ⟨⟨⟨w7, ((below_grown HT.out).but _)⟩, rfl⟩, ?_⟩
          clear hK K
          repeat (refine tree_q rfl rfl ?_; go_big_quiet_step (fail); refine wpQuiet_nil ?_)
          refine tree_a rfl (fun K hK => ?_)
          go_simp
          refine (rPower5 OK.out m HIT.out HYD.out _ (HG.out.up (below_up HB.out HT.out)) (HY.out.up (below_up BL.out HT.out))).mono ?_
          rintro e w8 ⟨a7, c7, rfl, hn9, hb9⟩
          replace HN5 := Lib.hid (HN5.out.up hb9)
          replace HN6 := Lib.hid (HN6.out.up hb9)
          replace HT := Lib.hid (below_up HT.out hb9)
          replace HZS := sz HZS (show wr.heap.size ≤ w8.heap.size from HT.out.size)
          clear hb9
          have HN7 := Lib.hid hn9
          clear hn9
          refine hK _ _ ⟨⟨⟨w8, ((below_grown HT.out).but _)⟩, rfl⟩, ?_⟩
          clear hK K
          repeat (refine tree_q rfl rfl ?_; go_big_quiet_step (fail); refine wpQuiet_nil ?_)
          refine tree_a rfl (fun K hK => ?_)
          go_simp
          refine (rProd OK.out (lowN_16 OK.out _) (lowN_16 OK.out _) _ (HG.out.up (below_up HB.out HT.out)) HN6.out HN7.out).mono ?_
          rintro e w9 ⟨a8, c8, rfl, hn9, hb9⟩
          replace HN5 := Lib.hid (HN5.out.up hb9)
          replace HN6 := Lib.hid (HN6.out.up hb9)
          replace HN7 := Lib.hid (HN7.out.up hb9)
          replace HT := Lib.hid (below_up HT.out hb9)
          replace HZS := sz HZS (show wr.heap.size ≤ w9.heap.size from HT.out.size)
          clear hb9
          have HN8 := Lib.hid hn9
          clear hn9
          refine hK _ _ ⟨⟨⟨w9, ((below_grown HT.out).but _)⟩, rfl⟩, ?_⟩
          clear hK K
          repeat (refine tree_q rfl rfl ?_; go_big_quiet_step (fail); refine wpQuiet_nil ?_)
          refine tree_a rfl (fun K hK => ?_)
          go_simp
          refine (rText2 OK.out _ HN8.out).mono ?_
          rintro e w10 ⟨rfl, hb9⟩
          replace HN5 := Lib.hid (HN5.out.up hb9)
          replace HN6 := Lib.hid (HN6.out.up hb9)
          replace HN7 := Lib.hid (HN7.out.up hb9)
          replace HN8 := Lib.hid (HN8.out.up hb9)
          replace HT := Lib.hid (below_up HT.out hb9)
          replace HZS := sz HZS (show wr.heap.size ≤ w10.heap.size from HT.out.size)
          clear hb9
          refine hK _ _ ⟨⟨⟨w10, ((below_grown HT.out).but _)⟩, rfl⟩, ?_⟩
          clear hK K
          repeat (refine tree_q rfl rfl ?_; go_big_quiet_step (fail); refine wpQuiet_nil ?_)
          clear hov_bg hl_bg hov_bc hl_bc hov_b1 hov_b2 hov_bx
          refine tree_a rfl (fun K hK => ?_)
          go_simp
          refine hK _ _ ⟨⟨⟨_, (below_grown (HT.out.alloc HT.out.size _)).but _⟩, rfl⟩, ?_⟩
          clear hK K
          obtain ⟨i9, hi9, hz90, hz91, hz92⟩ := info_parts infoStr
          have HG1 := Lib.hid ((below_grown HT.out).but (Value.ownBlock (.slice g9 t cz)))
          clear bg_
          replace Hbg := Lib.hid (Hbg.out.up HT.out)
          clear bc_
          replace Hbc := Lib.hid (Hbc.out.up HT.out)
          replace Hr := Lib.hid (Hr.out.up HT.out)
          replace Hq := Lib.hid (Hq.out.up HT.out)
          replace HN1 := Lib.hid (HN1.out.up HT.out)
          replace HN2 := Lib.hid (HN2.out.up HT.out)
          replace BL := hbu BL HT.out
          replace BR := hbu BR HT.out
          replace BI := hbu BI HT.out
          replace HB := hbu HB HT.out
          replace HZS := sz HZS HT.out.size
          refine tree_a rfl (fun K hK => ?_)
          refine step_pushR (w5.heap.size) w10 (by have g0 := HZS.out; omega) rfl _ _ 23 rfl 9 i9 _ 1 16 Tryz.underlying23 hi9 hz90 hz91 hz92 rfl (by omega) ((.slice g9 t cz)) (t) (((eachL G (rvalB G y l xs) j t).map Value.string)) rfl Hq.out _ _ _ rfl rfl rfl (by simp [Value.oneCell']) (by omega) (by unfold maxLen; omega) ?_
          intro g11 c11 w11 hown9 hg9
          have HGR := Lib.hid (HG1.out.trans hg9)
          have hb9 := Below.grown HB.out hg9 (by have g0 := HZS.out; omega) (fun q hq => Nat.le_trans (show w.heap.size ≤ w5.heap.size by have g0 := HZS.out; omega) (Hq.out.lt q hq).1)
          replace Hbg := Lib.hid (Hbg.out.grown hg9 (fun e9 => by have a1 := Hq.out.lt _ e9; have g0 := HZS.out; omega))
          replace Hbc := Lib.hid (Hbc.out.grown hg9 (fun e9 => by have a1 := Hq.out.lt _ e9; have g0 := HZS.out; omega))
          clear HN1 HN2 HN5 HN6 HN7 HN8
          replace BL := Lib.hid (Below.grown BL.out hg9 (by have g0 := HZS.out; omega) (fun q hq => Nat.le_trans (show w4.heap.size ≤ w5.heap.size by have g0 := HZS.out; omega) (Hq.out.lt q hq).1))
          replace BR := Lib.hid (Below.grown BR.out hg9 (by have g0 := HZS.out; omega) (fun q hq => Nat.le_trans (show wo.heap.size ≤ w5.heap.size by have g0 := HZS.out; omega) (Hq.out.lt q hq).1))
          replace BI := Lib.hid (Below.grown BI.out hg9 (by have g0 := HZS.out; omega) (fun q hq => Nat.le_trans (show w5.heap.size ≤ w5.heap.size by have g0 := HZS.out; omega) (Hq.out.lt q hq).1))
          replace HZS := sz HZS hg9.size
          clear Hq HB HT HG1
          have Hq := Lib.hid hown9
          have HB := Lib.hid hb9
          clear hb9 hown9 hg9 hi9 hz90 hz91 hz92
          refine hK _ _ ⟨⟨⟨w11, HGR.out⟩, rfl⟩, ?_⟩
          clear hK K HGR
          have bg_ := Hbg.out.c3
          have bc_ := Hbc.out.c2
          try simp only [Act.put, List.setIfInBounds_toArray, List.set_cons_succ, List.set_cons_zero]
          repeat (refine tree_q rfl rfl ?_; go_big_quiet_step (fail); refine wpQuiet_nil ?_)
          refine tree_end ?_
          go_wp2_with fail
          go_roundw
          case rel => exact ⟨t + 1, _, _, by omega, by go_num, rfl, BI, Hq.out.eq (by rw [eachL_snoc, HVT.out]) rfl⟩
          case measure => simp [intOf]; omega
        · have htm' : t = bs.length := by omega
          subst htm'
          have HOFF := Lib.hid (HRN.out.up BR.out)
          have HONE := Lib.hid (RowsOff.one (v := .slice g j c9) (N := w4.heap.size) (k := bs.length) Hq.out (by have a1 := HZS.out; have a2 := HZS.out; omega) (fun q9 h9 => (hro q9 h9).2) (eachL_len G _ j _))
          go_upto_region 11 with fail
          clear bc_
          clear Hbc
          have HKP := Lib.hid (Kept.refl (fun q9 => Value.ownBlock (.slice g j c9) = some q9) wr)
          obtain ⟨i9, hi9, hz90, hz91, hz92⟩ := info_parts infoStrs
          go_wp2_with (at_builtin; refine wpList_pushF (w4.heap.size) wr (by have g0 := HZS.out; omega) rfl _ _ 28 rfl 23 i9 _ 1 24 Tryz.underlying28 hi9 hz90 hz91 hz92 rfl (by omega) ((.slice g j c9)) (j) ((ro.flatMap RowA.cells)) rfl Hr.out _ _ _ rfl rfl rfl (by simp [Value.oneCell']) (by omega) (by unfold maxLen; omega) ?_)
          intro g6 c6 w6 hown9 hg9 hf9
          clear bg_
          have hb9 := Below.grown HB.out hg9 (by have g0 := HZS.out; omega) (fun q hq => Nat.le_trans (show w.heap.size ≤ w4.heap.size by have g0 := HZS.out; omega) (Hr.out.lt q hq).1)
          replace Hbg := Lib.hid (Hbg.out.grown hg9 (fun e9 => by have a1 := Hr.out.lt _ e9; have g0 := HZS.out; omega))
          clear HN1 HN2
          replace BL := Lib.hid (Below.grown BL.out hg9 (by have g0 := HZS.out; omega) (fun q hq => Nat.le_trans (show w4.heap.size ≤ w4.heap.size by have g0 := HZS.out; omega) (Hr.out.lt q hq).1))
          replace HKP := Lib.hid (Kept.grown HKP.out hg9 (fun q hq => Or.inr hq))
          replace HZS := sz HZS hg9.size
          clear Hr HB
          have Hr := Lib.hid hown9
          have HB := Lib.hid hb9
          clear hb9 hown9 hg9 hi9 hz90 hz91 hz92
          have bg_ := Hbg.out.c3
          have HRP := Lib.hid (fun (n9 c9 : Nat) => RowsOff.push (n := n9) (c := c9) HOFF.out HONE.out HKP.out hf9)
          go_wp2_with fail
          go_roundw
          case rel => exact ⟨j + 1, _, _, _, by omega, by go_num, rfl, Lib.hid (by rw [List.map_append, HRM.out, eachA_snoc, HMM.out]; rfl), BL, Hr.out.eq (by rw [List.flatMap_append]; simp [RowA.cells, eachL_len]) rfl, HRP.out _ _⟩
          case measure => simp [intOf]; omega
    · have hjn' : j = n := by omega
      subst hjn'
      go_wp2_with fail
      go_ret
      exact ⟨HB.out, g, c9, ro, by rw [eachA_len]; rfl, HRM.out, ⟨Hr.out.sl, fun r hr => (HRN.out r hr).1⟩, fun r hr => (HRN.out r hr).2.2⟩
end
end Go.Proofs.YtdlnnkbigeiilaaGreat

/- Holds, First, Back, as the document says them. Condition: the lists that memory can hold. -/
namespace Go.Proofs.YtdlnnkbigeiilaaGreat
open Go.RowKit

theorem rsh_of {G : GP} (ok : G.Ok) {l : List ClaimA} {xs : List ByteArray} (h1 : wrongE G l = 0) (h2 : scE G l.length xs = 0) : RSh G l xs := by
  obtain ⟨hs, he⟩ := wrong_ok h1
  have hs := shape_ok hs
  have hx : xs.length = l.length ∧ xs.all (isSc G.q.m G.size) = true := by
    unfold scE at h2
    by_cases h : xs.length = l.length
    · rw [if_pos h] at h2
      by_cases g : xs.all (isSc G.q.m G.size) = true
      · exact ⟨h, g⟩
      · rw [if_neg g] at h2; cases h2
    · rw [if_neg h] at h2; cases h2
  have hc : ∀ c ∈ l, c.bases.all (isEl G.q.m G.size) = true ∧ c.images.all (isEl G.q.m G.size) = true := fun c hc => by
    have h9 : (c.bases.all (isEl G.q.m G.size) && c.images.all (isEl G.q.m G.size)) = true := List.all_eq_true.1 he c hc
    exact (Bool.and_eq_true _ _).mp h9
  exact ⟨hs.2.1, fun c h => (hs.2.2 c h).2, fun c h s g => el_len ok (List.all_eq_true.1 (hc c h).1 s g), fun c h s g => el_len ok (List.all_eq_true.1 (hc c h).2 s g), hx.1, fun s g => sc_len ok (List.all_eq_true.1 hx.2 s g)⟩
theorem sc_lens {G : GP} {l : List ClaimA} {xs : List ByteArray} (h2 : scE G l.length xs = 0) : xs.length = l.length := by
  unfold scE at h2
  by_cases h : xs.length = l.length
  · exact h
  · rw [if_neg h] at h2; cases h2
section
variable {G : GP} {aq ap : Option Addr} {cq cp : Nat}
theorem rWrongSc_e (ok : G.Ok) (n : Nat) (l : List ByteArray) (z : Nat) (hz : scE G n l = z) (al : Option Addr) (cl : Nat) (hlen : l.length ≤ 8796093022207) (w : World) (hG : RG w G aq ap) (hS : Sl w w.heap.size al (l.map Value.string)) :
    Calls Tryz.prog 59 #[.agg #[.int .i64 (G.size : Int), .slice aq (dl G.q.m) cq, .slice ap (dl G.p.m) cp], .int .i64 (n : Int), .slice al l.length cl] w (Gives (.int .i64 (z : Int)) w) := by
  subst hz
  exact rWrongSc ok n l al cl hlen w hG hS
theorem rWrongSc_n (ok : G.Ok) (n : Nat) (l : List ByteArray) (hn : l.length = n) (z : Nat) (hz : scE G n l = z) (al : Option Addr) (cl : Nat) (hlen : l.length ≤ 8796093022207) (w : World) (hG : RG w G aq ap) (hS : Sl w w.heap.size al (l.map Value.string)) :
    Calls Tryz.prog 59 #[.agg #[.int .i64 (G.size : Int), .slice aq (dl G.q.m) cq, .slice ap (dl G.p.m) cp], .int .i64 (n : Int), .slice al n cl] w (Gives (.int .i64 (z : Int)) w) := by
  have h := rWrongSc_e (aq := aq) (ap := ap) (cq := cq) (cp := cp) ok n l z hz al cl hlen w hG hS
  rwa [hn] at h
end

def zeroT (G : GP) : ByteArray := textS 0 G.size
theorem zeroT_size (G : GP) : (zeroT G).size = G.size := textS_size 0 G.size
theorem zeroT_num (G : GP) : numOf (zeroT G) = 0 := by unfold zeroT; rw [numOf_textS, Nat.zero_mod]
section
variable {G : GP} {aq ap : Option Addr} {cq cp : Nat}
theorem rText0 (ok : G.Ok) {an : Option Addr} {cn : Nat} (w : World) (hN : NumAt w an 0) :
    Calls Tryz.prog 49 #[.slice an (dl 0) cn, .int .i64 (G.size : Int)] w fun e w' => e = .returned (.string (zeroT G)) ∧ Below w.heap.size w w' := rText ok (by decide) w hN
set_option maxRecDepth 100000 in
set_option maxHeartbeats 2000000 in
theorem rFirstOf (ok : G.Ok) (y : Nat) (hy : subQ G 0 0 = y) (l : List ClaimA) (xs : List ByteArray) (sh : RSh G l xs) (n : Nat) (hn : l.length = n) (al ax : Option Addr) (cl cx : Nat) (w : World) (hG : RG w G aq ap) (hC : ClaimsAt w al l) (hX : Sl w w.heap.size ax (xs.map Value.string)) :
    Calls Tryz.prog 74 #[.agg #[.int .i64 (G.size : Int), .slice aq (dl G.q.m) cq, .slice ap (dl G.p.m) cp], .slice al n cl, .slice ax n cx] w (RowsR (eachA G (rvalB G y l xs) (lens l) n) w) := by
  have OK := Lib.hid ok
  have HG := Lib.hid hG
  have HC := Lib.hid hC
  have HX := Lib.hid hX
  have HN := Lib.hid hn
  have HSH := Lib.hid sh
  have HY := Lib.hid (show subQ G 0 (numOf (zeroT G)) = y by rw [zeroT_num, hy])
  have HZ1 := Lib.hid (show (zeroT G).size ≤ 32 by rw [zeroT_size]; exact ok.size_le)
  have HZ2 := Lib.hid (show numOf (zeroT G) ≤ G.q.m by rw [zeroT_num]; exact Nat.zero_le _)
  clear ok hG hC hX hn sh hy
  go_enter Tryz.func74, Tryz.ntmps74
  go_wp2_with fail
  obtain ⟨w1, hq1, hb9, hz9, Hbg⟩ := new1 w 86 [.int .i64 (G.size : Int), .slice aq (dl G.q.m) cq, .slice ap (dl G.p.m) cp]
  rw [hq1]
  clear hq1
  have HB := Lib.hid hb9
  have HZS := hz9
  clear hb9 hz9
  have bg_ := Hbg.out.c3
  go_wp2_with fail
  have HT := Lib.hid (show Below w1.heap.size w1 w1.drew from (Below.refl _ _).drew)
  have hl_bg := Hbg.out.lt
  refine wp_region_tree (fun wq9 => ∃ E : Over w1, wq9 = E.w) ((.qs [0, 1, 3, 4, 6] (.a 2 (.a 5 (.a 7 (.qs [8] .done)))))) (by kernel_rfl) (by kernel_rfl) (fun _ _ d _ _ h => by cases d <;> exact h) ⟨⟨_, HT.out⟩, rfl⟩ ?_
  have hov_bg := fun (E : Over w1) o => E.cell (b := w.heap.size) o hl_bg
  simp only [Tree.qs]
  repeat (refine tree_q rfl rfl ?_; go_big_quiet_step (fail); refine wpQuiet_nil ?_)
  refine tree_a rfl (fun K hK => ?_)
  go_simp
  refine (rOf0 _).mono ?_
  rintro e w2 ⟨a1, c1, rfl, hn9, hb9⟩
  replace HT := Lib.hid (below_up HT.out hb9)
  replace HZS := sz HZS (show w1.heap.size ≤ w2.heap.size from HT.out.size)
  clear hb9
  have HN1 := Lib.hid hn9
  clear hn9
  refine hK _ _ ⟨⟨⟨w2, HT.out⟩, rfl⟩, ?_⟩
  clear hK K
  repeat (refine tree_q rfl rfl ?_; go_big_quiet_step (fail); refine wpQuiet_nil ?_)
  refine tree_a rfl (fun K hK => ?_)
  go_simp
  refine (rText0 OK.out _ HN1.out).mono ?_
  rintro e w3 ⟨rfl, hb9⟩
  replace HN1 := Lib.hid (HN1.out.up hb9)
  replace HT := Lib.hid (below_up HT.out hb9)
  replace HZS := sz HZS (show w1.heap.size ≤ w3.heap.size from HT.out.size)
  clear hb9
  refine hK _ _ ⟨⟨⟨w3, HT.out⟩, rfl⟩, ?_⟩
  clear hK K
  repeat (refine tree_q rfl rfl ?_; go_big_quiet_step (fail); refine wpQuiet_nil ?_)
  refine tree_a rfl (fun K hK => ?_)
  go_simp
  refine (rBackOf OK.out (zeroT G) y HY.out HZ1.out HZ2.out l xs HSH.out n HN.out al ax cl cx _ (HG.out.up (below_up HB.out HT.out)) (HC.out.up (below_up HB.out HT.out)) (HX.out.up (below_up HB.out HT.out))).mono ?_
  rintro e w4 ⟨hb9, a9, c9, ro, rfl, hm9, hr9, hz9⟩
  replace HN1 := Lib.hid (HN1.out.up hb9)
  replace HT := Lib.hid (below_up HT.out hb9)
  replace HZS := sz HZS (show w1.heap.size ≤ w4.heap.size from HT.out.size)
  clear hb9
  have HMR := Lib.hid hm9
  clear hm9
  have HRR := Lib.hid hr9
  clear hr9
  have HZR := Lib.hid hz9
  clear hz9
  refine hK _ _ ⟨⟨⟨w4, HT.out⟩, rfl⟩, ?_⟩
  clear hK K
  repeat (refine tree_q rfl rfl ?_; go_big_quiet_step (fail); refine wpQuiet_nil ?_)
  refine tree_end ?_
  clear hov_bg hl_bg
  clear bg_
  replace Hbg := Lib.hid (Hbg.out.up HT.out)
  replace HB := hbu HB HT.out
  replace HZS := sz HZS HT.out.size
  clear HT
  have bg_ := Hbg.out.c3
  go_wp2_with fail
  go_ret
  exact ⟨HB.out, a9, c9, ro, rfl, HMR.out, HRR.out, HZR.out⟩
end

def rfirstK (k : Int) (l : List ClaimA) (xs : List ByteArray) : List (List ByteArray) := if openK k l xs = 0 then eachA (grp k.toNat) (rvalB (grp k.toNat) (subQ (grp k.toNat) 0 0) l xs) (lens l) l.length else []
end Go.Proofs.YtdlnnkbigeiilaaGreat

/- What the package sigma asks of a talk: seeded, asked, answers. Conditions: the sizes of what was read before. -/
namespace Go.Proofs.YtdlnnkbigeiilaaGreat
open Go.RowKit

theorem RowO.room {N n m c size : Nat} {a : Option Addr} {w : World} {e : TypeId} {xs : List Value} (h : RowO N w e size (.slice a m c) n xs) : m ≤ c := by
  rcases h.2 with ⟨h1, _⟩ | ⟨g, cap, cur, hv, _, _, h1, _⟩
  · cases h1; exact Nat.le_refl _
  · cases hv; exact h1
theorem RowO.none0 {N n m c size : Nat} {a : Option Addr} {w : World} {e : TypeId} {xs : List Value} (h : RowO N w e size (.slice a m c) n xs) : a = none → c = 0 := by
  intro e
  rcases h.2 with ⟨h1, _⟩ | ⟨g, cap, cur, hv, _⟩
  · cases h1; rfl
  · cases hv; cases e
theorem kept_gw {b : Nat} {W w : World} (h : Kept (fun q => q = b) W w) : W.grownBy w (some b) :=
  ⟨h.os, h.tape, h.output, h.size, fun q hq hne => h.block q hq (fun e => hne (by rw [e]))⟩
set_option maxRecDepth 100000 in
set_option maxHeartbeats 1000000 in
theorem seeded_any (tb : Nat) (s seed : ByteArray) (hs : s.size = 32) (hd : seed.size < 140737488355328) (w : World) (hT : TalkAt w tb s) :
    Calls Tryz.prog 66 #[.pointer (some ⟨tb, 0, none⟩), .string seed] w fun e w' => ∃ fb, e = .returned (.pointer (some ⟨fb, 0, none⟩)) ∧ w.heap.size ≤ fb ∧ TalkAt w' fb (say1 s seedB seed) ∧ Below w.heap.size w w' := by
  have H1 := Lib.hid (fun w h => Fork_any tb s w h)
  have H2 := Lib.hid (fun fb w h => Say_any fb s seedB seed (by omega) (by decide) hd w h)
  unfold say1
  generalize tagS sayB [s, seedB, seed] = t at *
  have HT := Lib.hid hT
  clear hT hs hd
  go_enter Tryz.func66, Tryz.ntmps66
  go_wp2_with fail
  refine (H1.out w HT.out).mono ?_
  rintro e wa ⟨fb, rfl, hge, ht, hb⟩
  have HGE := Lib.hid hge
  have HT1 := Lib.hid ht
  have HB := Lib.hid hb
  clear hge ht hb
  go_wp2_with fail
  refine (H2.out fb wa HT1.out).mono ?_
  rintro e wb ⟨rfl, ht, hk⟩
  have HB2 := Lib.hid (Below.keptP HB.out hk HB.out.size (fun q hq => hq ▸ HGE.out))
  have HT2 := Lib.hid ht
  clear ht hk
  go_wp2_with fail
  go_ret
  exact ⟨fb, rfl, HGE.out, HT2.out, HB2.out⟩
set_option maxRecDepth 100000 in
set_option maxHeartbeats 2000000 in
theorem asked_any (G : GP) (ok : G.Ok) (gb tb : Nat) (a : Option Addr) (n c : Nat) (hn : n ≤ 64) (s : ByteArray) (hs : s.size = 32) (w : World) (hG : GroupAt w gb G) (hT : TalkAt w tb s) (hne : ¬ gb = tb) :
    Calls Tryz.prog 65 #[.agg #[.pointer (some ⟨gb, 0, none⟩), .slice a n c], .pointer (some ⟨tb, 0, none⟩)] w fun e w' => ∃ a' c', e = .returned (.slice a' n c') ∧ Sl w' w'.heap.size a' ((nonceL G s n).flatMap (limC G.q.m)) ∧ (∀ x, a' = some x → w.heap.size ≤ x.block) ∧ TalkAt w' tb (askT s n) ∧ Kept (fun q => q = tb) w w' := by
  have HCH := Lib.hid (fun t (ht : t.size = 32) w h1 h2 => gChallenge_any G ok gb tb t nonceB (by omega) (by decide) w h1 h2 hne)
  have HSC := Lib.hid (fun j => limC_text ok (chN (askT s j) nonceB))
  have HSU := Lib.hid (show ∀ j, (nonceL G s (j + 1)).flatMap (limC G.q.m) = (nonceL G s j).flatMap (limC G.q.m) ++ limC G.q.m (nonceS G s j) from fun j => by rw [nonceL_succ, List.flatMap_append]; simp)
  unfold nonceS at HSU
  have HAZ := Lib.hid (fun j => askT_size hs j)
  have HAS := Lib.hid (show ∀ j, askT s (j + 1) = chT (askT s j) nonceB from fun _ => rfl)
  have H0 := Lib.hid (show askT s 0 = s ∧ (nonceL G s 0).flatMap (limC G.q.m) = [] from ⟨rfl, rfl⟩)
  generalize askT s = AT at *
  generalize nonceL G s = NL at *
  generalize chN = CN at *
  generalize chT = CT at *
  have HG := Lib.hid hG
  have HGL := Lib.hid hG.lt
  have HTL := Lib.hid hT.lt
  have HT := Lib.hid (show TalkAt w tb (AT 0) from H0.out.1 ▸ hT)
  clear hG hT hs
  go_enter Tryz.func65, Tryz.ntmps65
  go_wp2_with fail
  obtain ⟨w1, hq1, hb9, hz9, Hbs⟩ := new1 w 64 [.pointer (some ⟨gb, 0, none⟩), .slice a n c]
  rw [hq1]
  clear hq1
  have HB := Lib.hid hb9
  have HZS := hz9
  clear hb9 hz9
  have bs_ := Hbs.out.c2
  have HK1 := Lib.hid ((Kept.refl (fun q => q = tb) w).up HB.out)
  have HT1 := Lib.hid (Bx.up HT.out HB.out)
  have HBS := Lib.hid Hbs.out.lt
  go_wp2_with fail
  go_loopw [9, 5] (fun i v wr => ∃ (j : Nat) (g : Option Addr) (c9 : Nat), j ≤ n ∧ i = .int .i64 (j : Int) ∧ v = .slice g j c9 ∧ Hid (TalkAt wr tb (AT j)) ∧ Hid (Bx wr w.heap.size 64 [.pointer (some ⟨gb, 0, none⟩), .slice a n c]) ∧ Hid (Kept (fun q => q = tb) w wr) ∧ Hid (RowO w1.heap.size wr 72 4 (.slice g j c9) j ((NL j).flatMap (limC G.q.m)))) (fun i _ _ => n - (intOf i).toNat)
  case atStart => exact ⟨0, none, 0, Nat.zero_le _, rfl, rfl, HT1, Hbs, HK1, by rw [H0.out.2]; exact RowO.nil⟩
  case round =>
    clear HT HT1 HK1 HB Hbs bs_
    obtain ⟨j, g, c9, hj, rfl, rfl, HT, Hbs, HK, Hr⟩ := hrel
    have HZ1 := Lib.hid HK.out.size
    have HZ2 := Lib.hid Hbs.out.lt
    by_cases hjn : j < n
    · have bs_ := Hbs.out.c2
      go_wp2_with fail
      refine (HCH.out (AT j) (HAZ.out j) wr ((HG.out.keptP HK.out hne)) HT.out).mono ?_
      rintro e wz ⟨rfl, ht, hk⟩
      have Hbs9 := Lib.hid (Hbs.out.keptP hk (show ¬ w.heap.size = tb by have := HTL.out; omega))
      have HK9 := Lib.hid (HK.out.trans hk)
      have Hr9 := Lib.hid (Hr.out.grown (kept_gw hk) (fun q9 e8 e9 => by have a1 := (Hr.out.lt _ e8).1; have a0 := Option.some.inj e9; have := HTL.out; have := HBS.out; omega))
      have Ht := Lib.hid (show Bx wz tb 192 [.string (AT (j + 1))] from HAS.out j ▸ ht)
      have HZ3 := Lib.hid HK9.out.size
      have HZ4 := Lib.hid Ht.out.lt
      have HZ5 := Lib.hid Hbs9.out.lt
      clear ht hk Hbs HK Hr HT bs_
      have Hbs := Hbs9
      have HK := HK9
      have Hr := Hr9
      clear Hbs9 HK9 Hr9
      unfold scV limbV
      replace HZS := sz HZS HZ3.out
      replace HZS := sz HZS HZ4.out
      replace HZS := sz HZS HZ5.out
      replace HZS := sz HZS HTL.out
      replace HZS := sz HZS HBS.out
      replace HZS := sz HZS HGL.out
      have bs_ := Hbs.out.c2
      have t_ := Ht.out.c1
      obtain ⟨i9, hi9, hz90, hz91, hz92⟩ := info_parts infoScalar
      go_wp2_with (at_builtin; refine wpList_pushR (w1.heap.size) wz (by have g0 := HZS.out; omega) rfl _ _ 65 rfl 72 i9 _ 4 32 Tryz.underlying65 hi9 hz90 hz91 hz92 rfl (by omega) ((.slice g j c9)) (j) (((NL j).flatMap (limC G.q.m))) rfl Hr.out _ _ _ rfl rfl rfl (by simp [Value.oneCell']) (by omega) (by unfold maxLen; omega) ?_)
      intro g2 c2 w2 hown9 hg9
      clear bs_
      clear t_
      replace Hbs := Lib.hid (Hbs.out.grown hg9 (fun e9 => by have a1 := Hr.out.lt _ e9; have g0 := HZS.out; omega))
      replace Ht := Lib.hid (Ht.out.grown hg9 (fun e9 => by have a1 := Hr.out.lt _ e9; have g0 := HZS.out; omega))
      replace HK := Lib.hid (Kept.grown HK.out hg9 (fun q hq => Or.inl (Nat.le_trans (show w.heap.size ≤ w1.heap.size by have g0 := HZS.out; omega) (Hr.out.lt q hq).1)))
      replace HZS := sz HZS hg9.size
      clear Hr
      have Hr := Lib.hid hown9
      clear hown9 hg9 hi9 hz90 hz91 hz92
      have bs_ := Hbs.out.c2
      have t_ := Ht.out.c1
      go_wp2_with fail
      go_roundw
      case rel => exact ⟨j + 1, _, _, hjn, by go_num, rfl, Ht, Hbs, HK, Hr.out.eq (by rw [HSU.out, HSC.out]) rfl⟩
      case measure => simp [intOf]; omega
    · have hj' : j = n := by omega
      subst hj'
      have bs_ := Hbs.out.c2
      go_wp2_with fail
      go_ret
      exact ⟨g, c9, rfl, Hr.out.sl, fun x hx => by have := Hr.out.lt x.block (by rw [hx]; rfl); have := HBS.out; omega, HT.out, HK.out⟩
theorem ans_snoc (G : GP) (N : Nat) {ws xs : List ByteArray} {j : Nat} (h1 : j < ws.length) (h2 : j < xs.length) : ((ansL G N ws xs).take (j + 1)).map Value.string = ((ansL G N ws xs).take j).map Value.string ++ [.string (textS ((numOf ws[j] + N * numOf xs[j]) % G.q.m) G.size)] := by
  unfold ansL
  have hl : j < (List.zipWith (ansF G N) ws xs).length := by rw [List.length_zipWith]; omega
  rw [List.take_succ_eq_append_getElem hl, List.map_append, List.map_cons, List.map_nil, List.getElem_zipWith]
  rfl
theorem ansL_len (G : GP) (N : Nat) {ws xs : List ByteArray} {n : Nat} (h1 : ws.length = n) (h2 : xs.length = n) : (ansL G N ws xs).length = n := by unfold ansL; rw [List.length_zipWith, h1, h2, Nat.min_self]
set_option maxRecDepth 100000 in
set_option maxHeartbeats 4000000 in
theorem answers_any (G : GP) (ok : G.Ok) (gb N : Nat) (a : Option Addr) (m c : Nat) (ws xs : List ByteArray) (n : Nat) (hw : ws.length = n) (hx : xs.length = n) (hn : n ≤ 64) (aw ax : Option Addr) (cw cx : Nat) (w : World) (hG : GroupAt w gb G) (hW : Sl w w.heap.size aw (ws.flatMap (limC G.q.m))) (hX : Sl w w.heap.size ax (xs.flatMap (limC G.q.m))) :
    Calls Tryz.prog 69 #[.agg #[.pointer (some ⟨gb, 0, none⟩), .slice a m c], .slice aw n cw, scV G N, .slice ax n cx] w fun e w' => ∃ a' c', e = .returned (.slice a' n c') ∧ Sl w' w'.heap.size a' ((ansL G N ws xs).map Value.string) ∧ (∀ x, a' = some x → w.heap.size ≤ x.block) ∧ n ≤ c' ∧ (a' = none → c' = 0) ∧ Below w.heap.size w w' := by
  have OK := Lib.hid ok
  have HSN := Lib.hid (fun j h1 h2 => ans_snoc G N (ws := ws) (xs := xs) (j := j) h1 h2)
  have HAL := Lib.hid (ansL_len G N hw hx)
  generalize ansL G N ws xs = AL at *
  have HG := Lib.hid hG
  have HW := Lib.hid hW
  have HX := Lib.hid hX
  have HWN := Lib.hid hw
  have HXN := Lib.hid hx
  clear ok hG hW hX hw hx
  unfold scV limbV
  go_enter Tryz.func69, Tryz.ntmps69
  go_wp2_with fail
  obtain ⟨w1, hq1, hb9, hz9, Hbs, Hbc⟩ := new2 w 64 [.pointer (some ⟨gb, 0, none⟩), .slice a m c] 72 [.int .u64 (dig (mont G.q.m N) 0 : Int), .int .u64 (dig (mont G.q.m N) 1 : Int), .int .u64 (dig (mont G.q.m N) 2 : Int), .int .u64 (dig (mont G.q.m N) 3 : Int)]
  rw [hq1]
  clear hq1
  have HB := Lib.hid hb9
  have HZS := hz9
  clear hb9 hz9
  have bs_ := Hbs.out.c2
  have bc_ := Hbc.out.c4
  have HWZ := Lib.hid HB.out.size
  have BL := Lib.hid (Below.refl w1.heap.size w1)
  go_wp2_with fail
  go_loopw [14, 9] (fun i v wr => ∃ (j : Nat) (g : Option Addr) (c9 : Nat), j ≤ n ∧ i = .int .i64 (j : Int) ∧ v = .slice g j c9 ∧ Hid (Below w1.heap.size w1 wr) ∧ Hid (RowO w1.heap.size wr 9 1 (.slice g j c9) j ((AL.take j).map Value.string))) (fun i _ _ => n - (intOf i).toNat)
  case atStart => exact ⟨0, none, 0, Nat.zero_le _, rfl, rfl, BL, RowO.nil⟩
  case round =>
    obtain ⟨j, g, c9, hj, rfl, rfl, HL9, Hr⟩ := hrel
    have hb9 := HL9.out
    clear HL9
    clear bs_
    replace Hbs := Lib.hid (Hbs.out.up hb9)
    clear bc_
    replace Hbc := Lib.hid (Hbc.out.up hb9)
    replace BL := hbu BL hb9
    replace HB := hbu HB hb9
    replace HZS := sz HZS hb9.size
    clear hb9
    have bs_ := Hbs.out.c2
    have bc_ := Hbc.out.c4
    by_cases hjn : j < n
    · have hjw : j < ws.length := by rw [HWN.out]; exact hjn
      have hjx : j < xs.length := by rw [HXN.out]; exact hjn
      obtain ⟨bw, ow, rfl, hbw, hcw⟩ := HW.out.elem (limC_len _) (by omega) j hjw
      obtain ⟨bx, ox, rfl, hbx, hcx⟩ := HX.out.elem (limC_len _) (by omega) j hjx
      have hcw_0 := hcw 0 _ rfl
      rw [Nat.add_zero] at hcw_0
      have hcw_1 := hcw 1 _ rfl
      have hcw_2 := hcw 2 _ rfl
      have hcw_3 := hcw 3 _ rfl
      clear hcw
      have hcx_0 := hcx 0 _ rfl
      rw [Nat.add_zero] at hcx_0
      have hcx_1 := hcx 1 _ rfl
      have hcx_2 := hcx 2 _ rfl
      have hcx_3 := hcx 3 _ rfl
      clear hcx
      replace hcw_0 := cell_up HB.out hbw hcw_0
      replace hcw_1 := cell_up HB.out hbw hcw_1
      replace hcw_2 := cell_up HB.out hbw hcw_2
      replace hcw_3 := cell_up HB.out hbw hcw_3
      have hlw := HWZ.out
      have HNP := Lib.hid (fun q e => (Hr.out.lt q e).2)
      have HSJ := Lib.hid (HSN.out j hjw hjx)
      generalize ws[j] = x at *
      generalize xs[j] = y at *
      have o2_bs_ := bs_; clear bs_
      have o2_bc_ := bc_; clear bc_
      obtain ⟨w2, hq2, hb9, hz9, Hbn⟩ := new1 wr 72 [.int .u64 (dig (mont G.q.m (numOf x)) 0 : Int), .int .u64 (dig (mont G.q.m (numOf x)) 1 : Int), .int .u64 (dig (mont G.q.m (numOf x)) 2 : Int), .int .u64 (dig (mont G.q.m (numOf x)) 3 : Int)]
      replace Hbs := Lib.hid (Hbs.out.up hb9)
      replace Hbc := Lib.hid (Hbc.out.up hb9)
      replace Hr := Lib.hid (Hr.out.up hb9)
      replace BL := hbu BL hb9
      replace HB := hbu HB hb9
      replace HZS := sz HZS hz9.out
      clear hb9 hz9
      have bs_ := Hbs.out.c2
      have bc_ := Hbc.out.c4
      have bn_ := Hbn.out.c4
      go_wp2_with fail
      clear hq2 o2_bc_ o2_bs_
      replace hcx_0 := cell_up HB.out hbx hcx_0
      replace hcx_1 := cell_up HB.out hbx hcx_1
      replace hcx_2 := cell_up HB.out hbx hcx_2
      replace hcx_3 := cell_up HB.out hbx hcx_3
      have hbx2 := Nat.lt_of_lt_of_le hbx HB.out.size
      have HT := Lib.hid (show Below w2.heap.size w2 w2.drew from (Below.refl _ _).drew)
      have hl_bs := Hbs.out.lt
      have hl_bc := Hbc.out.lt
      have hl_bn := Hbn.out.lt
      refine wp_region_tree (fun wq9 => ∃ E : But w2 (Value.ownBlock (.slice g j c9)), wq9 = E.w) ((.qs [0, 1, 2, 3, 4, 5, 6, 7, 8, 9, 10, 11, 12] (.a 13 (.a 14 (.a 15 (.a 16 (.a 17 (.qs [18] .done)))))))) (by kernel_rfl) (by kernel_rfl) (fun _ _ d _ _ h => by cases d <;> exact h) ⟨⟨_, ((below_grown HT.out).but _)⟩, rfl⟩ ?_
      have hov_bs := fun (E : But w2 (Value.ownBlock (.slice g j c9))) o => E.cell (b := w.heap.size) o hl_bs (by intro e9; have a2 := HNP.out _ e9; have a1 := Hr.out.lt _ e9; have g0 := HZS.out; omega)
      have hov_bc := fun (E : But w2 (Value.ownBlock (.slice g j c9))) o => E.cell (b := w.heap.size + 1) o hl_bc (by intro e9; have a2 := HNP.out _ e9; have a1 := Hr.out.lt _ e9; have g0 := HZS.out; omega)
      have hov_bn := fun (E : But w2 (Value.ownBlock (.slice g j c9))) o => E.cell (b := wr.heap.size) o hl_bn (by intro e9; have a2 := HNP.out _ e9; have a1 := Hr.out.lt _ e9; have g0 := HZS.out; omega)
      have hov_bx := fun (E : But w2 (Value.ownBlock (.slice g j c9))) o => E.cell (b := bx) o hbx2 (by intro e9; have a2 := HNP.out _ e9; have a1 := Hr.out.lt _ e9; have g0 := HZS.out; omega)
      simp only [Tree.qs]
      repeat (refine tree_q rfl rfl ?_; go_big_quiet_step (fail); refine wpQuiet_nil ?_)
      refine tree_a rfl (fun K hK => ?_)
      go_simp
      refine (gMul_any G OK.out gb N (numOf y) _ (HG.out.up (below_up HB.out HT.out))).mono ?_
      rintro e w3 ⟨rfl, hb9⟩
      replace HT := Lib.hid (below_up HT.out hb9)
      replace HZS := sz HZS (show w2.heap.size ≤ w3.heap.size from HT.out.size)
      clear hb9
      refine hK _ _ ⟨⟨⟨w3, ((below_grown HT.out).but _)⟩, rfl⟩, ?_⟩
      clear hK K
      repeat (refine tree_q rfl rfl ?_; go_big_quiet_step (fail); refine wpQuiet_nil ?_)
      refine tree_a rfl (fun K hK => ?_)
      go_simp
      refine (gAdd_any G OK.out gb (numOf x) (N * numOf y) _ (HG.out.up (below_up HB.out HT.out))).mono ?_
      rintro e w4 ⟨rfl, hb9⟩
      replace HT := Lib.hid (below_up HT.out hb9)
      replace HZS := sz HZS (show w2.heap.size ≤ w4.heap.size from HT.out.size)
      clear hb9
      refine hK _ _ ⟨⟨⟨w4, ((below_grown HT.out).but _)⟩, rfl⟩, ?_⟩
      clear hK K
      repeat (refine tree_q rfl rfl ?_; go_big_quiet_step (fail); refine wpQuiet_nil ?_)
      refine tree_a rfl (fun K hK => ?_)
      go_simp
      refine (gPut_any G OK.out gb (numOf x + N * numOf y) _ (HG.out.up (below_up HB.out HT.out))).mono ?_
      rintro e w5 ⟨rfl, hb9⟩
      replace HT := Lib.hid (below_up HT.out hb9)
      replace HZS := sz HZS (show w2.heap.size ≤ w5.heap.size from HT.out.size)
      clear hb9
      refine hK _ _ ⟨⟨⟨w5, ((below_grown HT.out).but _)⟩, rfl⟩, ?_⟩
      clear hK K
      repeat (refine tree_q rfl rfl ?_; go_big_quiet_step (fail); refine wpQuiet_nil ?_)
      clear hov_bs hl_bs hov_bc hl_bc hov_bn hl_bn hov_bx
      refine tree_a rfl (fun K hK => ?_)
      go_simp
      refine hK _ _ ⟨⟨⟨_, (below_grown (HT.out.alloc HT.out.size _)).but _⟩, rfl⟩, ?_⟩
      clear hK K
      obtain ⟨i9, hi9, hz90, hz91, hz92⟩ := info_parts infoStr
      have HG1 := Lib.hid ((below_grown HT.out).but (Value.ownBlock (.slice g j c9)))
      clear bs_
      replace Hbs := Lib.hid (Hbs.out.up HT.out)
      clear bc_
      replace Hbc := Lib.hid (Hbc.out.up HT.out)
      clear bn_
      replace Hbn := Lib.hid (Hbn.out.up HT.out)
      replace Hr := Lib.hid (Hr.out.up HT.out)
      replace BL := hbu BL HT.out
      replace HB := hbu HB HT.out
      replace HZS := sz HZS HT.out.size
      refine tree_a rfl (fun K hK => ?_)
      refine step_pushR (w1.heap.size) w5 (by have g0 := HZS.out; omega) rfl _ _ 23 rfl 9 i9 _ 1 16 Tryz.underlying23 hi9 hz90 hz91 hz92 rfl (by omega) ((.slice g j c9)) (j) (((AL.take j).map Value.string)) rfl Hr.out _ _ _ rfl rfl rfl (by simp [Value.oneCell']) (by omega) (by unfold maxLen; omega) ?_
      intro g6 c6 w6 hown9 hg9
      have HGR := Lib.hid (HG1.out.trans hg9)
      have hb9 := Below.grown HB.out hg9 (by have g0 := HZS.out; omega) (fun q hq => Nat.le_trans (show w.heap.size ≤ w1.heap.size by have g0 := HZS.out; omega) (Hr.out.lt q hq).1)
      replace Hbs := Lib.hid (Hbs.out.grown hg9 (fun e9 => by have a2 := HNP.out _ e9; have a1 := Hr.out.lt _ e9; have g0 := HZS.out; omega))
      replace Hbc := Lib.hid (Hbc.out.grown hg9 (fun e9 => by have a2 := HNP.out _ e9; have a1 := Hr.out.lt _ e9; have g0 := HZS.out; omega))
      replace Hbn := Lib.hid (Hbn.out.grown hg9 (fun e9 => by have a2 := HNP.out _ e9; have a1 := Hr.out.lt _ e9; have g0 := HZS.out; omega))
      replace BL := Lib.hid (Below.grown BL.out hg9 (by have g0 := HZS.out; omega) (fun q hq => Nat.le_trans (show w1.heap.size ≤ w1.heap.size by have g0 := HZS.out; omega) (Hr.out.lt q hq).1))
      replace HZS := sz HZS hg9.size
      clear Hr HB HT HG1
      have Hr := Lib.hid hown9
      have HB := Lib.hid hb9
      clear hb9 hown9 hg9 hi9 hz90 hz91 hz92
      refine hK _ _ ⟨⟨⟨w6, HGR.out⟩, rfl⟩, ?_⟩
      clear hK K HGR
      have bs_ := Hbs.out.c2
      have bc_ := Hbc.out.c4
      have bn_ := Hbn.out.c4
      try simp only [Act.put, List.setIfInBounds_toArray, List.set_cons_succ, List.set_cons_zero]
      repeat (refine tree_q rfl rfl ?_; go_big_quiet_step (fail); refine wpQuiet_nil ?_)
      refine tree_end ?_
      go_wp2_with fail
      go_roundw
      case rel => exact ⟨j + 1, _, _, hjn, by go_num, rfl, BL, Hr.out.eq HSJ.out.symm rfl⟩
      case measure => simp [intOf]; omega
    · have hj' : j = n := by omega
      subst hj'
      rw [List.take_of_length_le (by rw [HAL.out]; exact Nat.le_refl _)] at Hr
      go_wp2_with fail
      go_ret
      exact ⟨g, c9, rfl, Hr.out.sl, fun x hx => by have h1 := Hr.out.lt x.block (by rw [hx]; rfl); have h2 := HWZ.out; omega, RowO.room Hr.out, RowO.none0 Hr.out, HB.out⟩
end Go.Proofs.YtdlnnkbigeiilaaGreat

/- Nonces and answers, as the document says them. Conditions: the sizes of what was read before. -/
namespace Go.Proofs.YtdlnnkbigeiilaaGreat
open Go.RowKit

theorem RowO.down0 {N n size : Nat} {w : World} {e : TypeId} {v : Value} {xs : List Value} (h : RowO N w e size v n xs) : RowO 0 w e size v n xs := by
  refine ⟨h.1, ?_⟩
  rcases h.2 with h1 | ⟨g, cap, cur, h1, h2, h3⟩
  · exact Or.inl h1
  · exact Or.inr ⟨g, cap, cur, h1, Nat.zero_le _, h3⟩
theorem RowO.neB {N n size b : Nat} {w : World} {e t : TypeId} {v : Value} {xs cs : List Value} (h : RowO N w e size v n xs) (hb : Bx w b t cs) (hte : t ≠ e) : v.ownBlock ≠ some b := by
  intro e9
  rcases h.2 with ⟨rfl, _⟩ | ⟨g, cap, cur, rfl, _, hg, _⟩
  · cases e9
  · have e8 : g = b := Option.some.inj (show some g = some b from e9)
    rw [e8, show w.heap[b]? = _ from hb] at hg
    simp only [Option.some.injEq, Obj.cells.injEq] at hg
    exact hte hg.2.1
theorem nonce_snoc (G : GP) (s : ByteArray) (j : Nat) : (nonceL G s (j + 1)).map Value.string = (nonceL G s j).map Value.string ++ [.string (textS (chN (askT s j) nonceB % G.q.m) G.size)] := by
  rw [nonceL_succ, List.map_append]; rfl
set_option maxRecDepth 100000 in
set_option maxHeartbeats 2000000 in
theorem rNonces_any {G : GP} {aq ap : Option Addr} {cq cp : Nat} (ok : G.Ok) (n : Nat) (hn : n ≤ 64) (s : ByteArray) (hs : s.size = 32) (w : World) (hG : RG w G aq ap) :
    Calls Tryz.prog 72 #[.agg #[.int .i64 (G.size : Int), .slice aq (dl G.q.m) cq, .slice ap (dl G.p.m) cp], .agg #[.string s], .int .i64 (n : Int)] w fun e w' => ∃ a c, e = .returned (.tuple #[.slice a n c, .agg #[.string (askT s n)]]) ∧ RowO 0 w' 9 1 (.slice a n c) n ((nonceL G s n).map Value.string) ∧ Below w.heap.size w w' := by
  have OK := Lib.hid ok
  have HCH := Lib.hid (fun t (ht : t.size = 32) w hq => rChallenge_any G.size G.q.m (.slice ap (dl G.p.m) cp) ok.q.pos aq cq t nonceB (by omega) (by decide) w hq)
  have HTX := Lib.hid (fun j a c w h => rText (G := G) ok (n := chN (askT s j) nonceB % G.q.m) (an := a) (cn := c) (Nat.lt_of_lt_of_le (Nat.mod_lt _ ok.q.pos) (Nat.le_of_lt ok.q.lt4)) w h)
  have HSU := Lib.hid (nonce_snoc G s)
  have HAZ := Lib.hid (fun j => askT_size hs j)
  have HAS := Lib.hid (show ∀ j, askT s (j + 1) = chT (askT s j) nonceB from fun _ => rfl)
  have H0 := Lib.hid (show askT s 0 = s ∧ (nonceL G s 0).map Value.string = [] from ⟨rfl, rfl⟩)
  generalize askT s = AT at *
  generalize nonceL G s = NL at *
  generalize chN = CN at *
  generalize chT = CT at *
  have HG := Lib.hid hG
  clear hG hs ok
  obtain rfl : s = AT 0 := H0.out.1.symm
  go_enter Tryz.func72, Tryz.ntmps72
  go_wp2_with fail
  obtain ⟨w1, hq1, hb9, hz9, Hbg, Hbt, Hro⟩ := new3 w 86 [.int .i64 (G.size : Int), .slice aq (dl G.q.m) cq, .slice ap (dl G.p.m) cp] 89 [.string (AT 0)] 89 [.string ⟨#[]⟩]
  rw [hq1]
  clear hq1
  have HB := Lib.hid hb9
  have HZS := hz9
  clear hb9 hz9
  have bg_ := Hbg.out.c3
  have bt_ := Hbt.out.c1
  have ro_ := Hro.out.c1
  have BL := Lib.hid (Below.refl w1.heap.size w1)
  have HWZ := Lib.hid HB.out.size
  have HWL := Lib.hid Hro.out.lt
  go_wp2_with fail
  go_loopw [9, 8] (fun i v wr => ∃ (j : Nat) (g : Option Addr) (c9 : Nat), j ≤ n ∧ i = .int .i64 (j : Int) ∧ v = .slice g j c9 ∧ Hid (Bx wr w.heap.size 86 [.int .i64 (G.size : Int), .slice aq (dl G.q.m) cq, .slice ap (dl G.p.m) cp]) ∧ Hid (Bx wr (w.heap.size + 1) 89 [.string (AT j)]) ∧ Hid (Bx wr (w.heap.size + 2) 89 [.string ⟨#[]⟩]) ∧ Hid (Below w.heap.size w wr) ∧ Hid (RowO w1.heap.size wr 9 1 (.slice g j c9) j ((NL j).map Value.string))) (fun i _ _ => n - (intOf i).toNat)
  case atStart => exact ⟨0, none, 0, Nat.zero_le _, rfl, rfl, Hbg, Hbt, Hro, HB, by rw [H0.out.2]; exact RowO.nil⟩
  case round =>
    clear Hbg Hbt Hro HB BL bg_ bt_ ro_
    obtain ⟨j, g, c9, hj, rfl, rfl, Hbg, Hbt, Hro, HB, Hr⟩ := hrel
    have HRL := Lib.hid Hro.out.lt
    replace HZS := sz HZS HWZ.out
    replace HZS := sz HZS HWL.out
    replace HZS := sz HZS HRL.out
    have bg_ := Hbg.out.c3
    have bt_ := Hbt.out.c1
    have ro_ := Hro.out.c1
    by_cases hjn : j < n
    · have HNP := Lib.hid (fun q e => (Hr.out.lt q e).2)
      go_wp2_with fail
      refine (HCH.out (AT j) (HAZ.out j) wr ((HG.out.up HB.out)).q).mono ?_
      rintro e w2 ⟨a5, c5, rfl, hn9, hb9⟩
      clear bg_
      replace Hbg := Lib.hid (Hbg.out.up hb9)
      clear bt_
      replace Hbt := Lib.hid (Hbt.out.up hb9)
      clear ro_
      replace Hro := Lib.hid (Hro.out.up hb9)
      replace Hr := Lib.hid (Hr.out.up hb9)
      replace HB := hbu HB hb9
      replace HZS := sz HZS hb9.size
      have HN5 := Lib.hid hn9
      clear hn9
      clear hb9
      have bg_ := Hbg.out.c3
      have bt_ := Hbt.out.c1
      have ro_ := Hro.out.c1
      rw [← HAS.out]
      have o3_bg_ := bg_; clear bg_
      have o3_bt_ := bt_; clear bt_
      have o3_ro_ := ro_; clear ro_
      obtain ⟨w3, hq3, hb9, hz9, Hbu⟩ := new1 w2 89 [.string (AT (j + 1))]
      replace Hbg := Lib.hid (Hbg.out.up hb9)
      replace Hbt := Lib.hid (Hbt.out.up hb9)
      replace Hro := Lib.hid (Hro.out.up hb9)
      replace Hr := Lib.hid (Hr.out.up hb9)
      replace HN5 := Lib.hid (HN5.out.up hb9)
      replace HB := hbu HB hb9
      replace HZS := sz HZS hz9.out
      clear hb9 hz9
      have bg_ := Hbg.out.c3
      have bt_ := Hbt.out.c1
      have ro_ := Hro.out.c1
      have bu_ := Hbu.out.c1
      go_wp2_with fail
      clear hq3 o3_ro_ o3_bt_ o3_bg_
      refine (HTX.out j a5 c5 w3 HN5.out).mono ?_
      rintro e w4 ⟨rfl, hb9⟩
      clear bg_
      replace Hbg := Lib.hid (Hbg.out.up hb9)
      clear bt_
      replace Hbt := Lib.hid (Hbt.out.up hb9)
      clear ro_
      replace Hro := Lib.hid (Hro.out.up hb9)
      clear bu_
      replace Hbu := Lib.hid (Hbu.out.up hb9)
      replace Hr := Lib.hid (Hr.out.up hb9)
      replace HN5 := Lib.hid (HN5.out.up hb9)
      replace HB := hbu HB hb9
      replace HZS := sz HZS hb9.size
      clear hb9
      have bg_ := Hbg.out.c3
      have bt_ := Hbt.out.c1
      have ro_ := Hro.out.c1
      have bu_ := Hbu.out.c1
      obtain ⟨i9, hi9, hz90, hz91, hz92⟩ := info_parts infoStr
      go_wp2_with (at_builtin; refine wpList_pushR (w1.heap.size) w4 (by have g0 := HZS.out; omega) rfl _ _ 23 rfl 9 i9 _ 1 16 Tryz.underlying23 hi9 hz90 hz91 hz92 rfl (by omega) ((.slice g j c9)) (j) (((NL j).map Value.string)) rfl Hr.out _ _ _ rfl rfl rfl (by simp [Value.oneCell']) (by omega) (by unfold maxLen; omega) ?_)
      intro g5 c5 w5 hown9 hg9
      clear bg_
      clear bt_
      clear ro_
      clear bu_
      have hb9 := Below.grown HB.out hg9 (by have g0 := HZS.out; omega) (fun q hq => Nat.le_trans (show w.heap.size ≤ w1.heap.size by have g0 := HZS.out; omega) (Hr.out.lt q hq).1)
      replace Hbg := Lib.hid (Hbg.out.grown hg9 (fun e9 => by have a2 := HNP.out _ e9; have a1 := Hr.out.lt _ e9; have g0 := HZS.out; omega))
      replace Hbt := Lib.hid (Hbt.out.grown hg9 (fun e9 => by have a2 := HNP.out _ e9; have a1 := Hr.out.lt _ e9; have g0 := HZS.out; omega))
      replace Hro := Lib.hid (Hro.out.grown hg9 (fun e9 => by have a2 := HNP.out _ e9; have a1 := Hr.out.lt _ e9; have g0 := HZS.out; omega))
      replace Hbu := Lib.hid (Hbu.out.grown hg9 (fun e9 => by have a2 := HNP.out _ e9; have a1 := Hr.out.lt _ e9; have g0 := HZS.out; omega))
      clear HN5
      replace HZS := sz HZS hg9.size
      clear Hr HB
      have Hr := Lib.hid hown9
      have HB := Lib.hid hb9
      clear hb9 hown9 hg9 hi9 hz90 hz91 hz92
      have bg_ := Hbg.out.c3
      have bt_ := Hbt.out.c1
      have ro_ := Hro.out.c1
      have bu_ := Hbu.out.c1
      have f6_bt := Hbt.out.frozen
      have o6_bg_ := bg_; clear bg_
      have o6_bt_ := bt_; clear bt_
      have o6_ro_ := ro_; clear ro_
      have o6_bu_ := bu_; clear bu_
      obtain ⟨w6, hq6, hg9, hz9, hx9⟩ := put1 Hbt 0 (.string (AT (j + 1))) [.string (AT (j + 1))] rfl
      replace Hbg := Lib.hid (Hbg.out.grown hg9.out (sne (by have g0 := HZS.out; omega)))
      replace Hro := Lib.hid (Hro.out.grown hg9.out (sne (by have g0 := HZS.out; omega)))
      replace Hbu := Lib.hid (Hbu.out.grown hg9.out (sne (by have g0 := HZS.out; omega)))
      replace Hr := Lib.hid (RowO.grown Hr.out hg9.out (fun q9 e8 e9 => by have a1 := Hr.out.lt _ e8; have a0 := Option.some.inj e9; have g0 := HZS.out; omega))
      replace HB := hbg HB hg9 (by have g0 := HZS.out; omega)
      replace HZS := sz HZS hz9.out
      replace Hbt := hx9
      clear hx9 hg9 hz9
      have bg_ := Hbg.out.c3
      have bt_ := Hbt.out.c1
      have ro_ := Hro.out.c1
      have bu_ := Hbu.out.c1
      go_wp2_with fail
      clear hq6 o6_bu_ o6_ro_ o6_bt_ o6_bg_ f6_bt
      go_roundw
      case rel => exact ⟨j + 1, _, _, hjn, by go_num, rfl, Hbg, Hbt, Hro, HB, Hr.out.eq (HSU.out j).symm rfl⟩
      case measure => simp [intOf]; omega
    · have hj' : j = n := by omega
      subst hj'
      go_wp2_with fail
      have HT := Lib.hid (show Below wr.heap.size wr wr.drew from (Below.refl _ _).drew)
      have hl_bg := Hbg.out.lt
      have hl_bt := Hbt.out.lt
      have hl_ro := Hro.out.lt
      refine wp_region_treek (fun wq9 => ∃ E : Over wr, wq9 = E.w) 3 ((.qs [0] (.e 1 [] (.qs [2] (.a 3 .done))))) (by kernel_rfl) (by kernel_rfl) (fun _ _ d _ _ h => by cases d <;> exact h) ⟨⟨_, HT.out⟩, rfl⟩ ?_
      have hov_bg := fun (E : Over wr) o => E.cell (b := w.heap.size) o hl_bg
      have hov_bt := fun (E : Over wr) o => E.cell (b := (w.heap.size + 1)) o hl_bt
      have hov_ro := fun (E : Over wr) o => E.cell (b := (w.heap.size + 2)) o hl_ro
      simp only [TreeK.qs]
      repeat (first | (refine treek_q rfl rfl ?_; go_big_quiet_step (fail); refine wpQuiet_nil ?_) | (refine treek_e rfl rfl ?_; go_big_quiet_step (fail); refine wpQuiet_nil ?_))
      clear hov_bg hl_bg hov_bt hl_bt hov_ro hl_ro
      refine treek_a rfl (fun K hK => ?_)
      clear bg_
      replace Hbg := Lib.hid (Hbg.out.up HT.out)
      clear bt_
      replace Hbt := Lib.hid (Hbt.out.up HT.out)
      clear ro_
      replace Hro := Lib.hid (Hro.out.up HT.out)
      replace Hr := Lib.hid (Hr.out.up HT.out)
      replace HB := hbu HB HT.out
      replace HZS := sz HZS HT.out.size
      clear HT
      have bg_ := Hbg.out.c3
      have bt_ := Hbt.out.c1
      have ro_ := Hro.out.c1
      have f2_ro := Hro.out.frozen
      have o2_bg_ := bg_; clear bg_
      have o2_bt_ := bt_; clear bt_
      have o2_ro_ := ro_; clear ro_
      obtain ⟨w2, hq2, hg9, hz9, hx9⟩ := put1 Hro 0 (.string (AT j)) [.string (AT j)] rfl
      replace Hbg := Lib.hid (Hbg.out.grown hg9.out (sne (by have g0 := HZS.out; omega)))
      replace Hbt := Lib.hid (Hbt.out.grown hg9.out (sne (by have g0 := HZS.out; omega)))
      replace Hr := Lib.hid (RowO.grown Hr.out hg9.out (fun q9 e8 e9 => by have a1 := Hr.out.lt _ e8; have a0 := Option.some.inj e9; have g0 := HZS.out; omega))
      replace HB := hbg HB hg9 (by have g0 := HZS.out; omega)
      replace HZS := sz HZS hz9.out
      replace Hro := hx9
      clear hx9 hg9 hz9
      have bg_ := Hbg.out.c3
      have bt_ := Hbt.out.c1
      have ro_ := Hro.out.c1
      go_simp
      try rw [hq2]
      refine hK _ _ ⟨fun h9 => absurd rfl h9, ?_⟩
      clear hK K
      clear hq2 o2_ro_ o2_bt_ o2_bg_ f2_ro
      repeat (first | (refine treek_q rfl rfl ?_; go_big_quiet_step (fail); refine wpQuiet_nil ?_) | (refine treek_e rfl rfl ?_; go_big_quiet_step (fail); refine wpQuiet_nil ?_))
      refine treek_end ?_
      go_wp2_with fail
      simp [bodyPost, results, Tryz.results72, go_sem, ro_]
      exact ⟨g, c9, ⟨rfl, rfl⟩, RowO.down0 Hr.out, HB.out⟩
theorem rans_mod {G : GP} {N M : Nat} (hM : M = N % G.q.m) (a b : Nat) : addQ G a (mulQ G M b) = (a + N * b) % G.q.m := by
  subst hM
  unfold addQ mulQ
  rw [Nat.add_mod a, Nat.mod_mod, ← Nat.add_mod, Nat.add_mod a, Nat.mul_mod, Nat.mod_mod, ← Nat.mul_mod, ← Nat.add_mod]
set_option maxRecDepth 100000 in
set_option maxHeartbeats 4000000 in
theorem rAnswers_any {G : GP} {aq ap : Option Addr} {cq cp : Nat} (ok : G.Ok) (N M : Nat) (hM : M = N % G.q.m) (ws xs : List ByteArray) (n : Nat) (hw : ws.length = n) (hx : xs.length = n) (hn : n ≤ 64) (hws : ∀ x ∈ ws, x.size ≤ 32) (hxs : ∀ x ∈ xs, x.size ≤ 32) (an aw ax : Option Addr) (cn cw cx : Nat) (w : World) (hG : RG w G aq ap) (hN : NumAt w an M) (hW : Sl w w.heap.size aw (ws.map Value.string)) (hX : Sl w w.heap.size ax (xs.map Value.string)) :
    Calls Tryz.prog 75 #[.agg #[.int .i64 (G.size : Int), .slice aq (dl G.q.m) cq, .slice ap (dl G.p.m) cp], .slice aw n cw, .slice an (dl M) cn, .slice ax n cx] w fun e w' => ∃ a' c', e = .returned (.slice a' n c') ∧ Sl w' w'.heap.size a' ((ansL G N ws xs).map Value.string) ∧ (a' = none → c' = 0) ∧ n ≤ c' ∧ (∀ x, a' = some x → w.heap.size ≤ x.block) ∧ Below w.heap.size w w' := by
  have OK := Lib.hid ok
  have HSN := Lib.hid (fun j h1 h2 => ans_snoc G N (ws := ws) (xs := xs) (j := j) h1 h2)
  have HAL := Lib.hid (ansL_len G N hw hx)
  have HRM := Lib.hid (rans_mod hM)
  have HML := Lib.hid (show M < G.q.m from hM ▸ Nat.mod_lt _ ok.q.pos)
  generalize ansL G N ws xs = AL at *
  have HG := Lib.hid hG
  have HN := Lib.hid hN
  have HW := Lib.hid hW
  have HX := Lib.hid hX
  have HWN := Lib.hid hw
  have HXN := Lib.hid hx
  have HWZ := Lib.hid hws
  have HXZ := Lib.hid hxs
  clear hM
  clear ok hG hN hW hX hw hx hws hxs
  go_enter Tryz.func75, Tryz.ntmps75
  go_wp2_with fail
  obtain ⟨w1, hq1, hb9, hz9, Hbg⟩ := new1 w 86 [.int .i64 (G.size : Int), .slice aq (dl G.q.m) cq, .slice ap (dl G.p.m) cp]
  rw [hq1]
  clear hq1
  have HB := Lib.hid hb9
  have HZS := hz9
  clear hb9 hz9
  have bg_ := Hbg.out.c3
  have HWW := Lib.hid HB.out.size
  have BL := Lib.hid (Below.refl w1.heap.size w1)
  go_wp2_with fail
  go_loopw [14, 9] (fun i v wr => ∃ (j : Nat) (g : Option Addr) (c9 : Nat), j ≤ n ∧ i = .int .i64 (j : Int) ∧ v = .slice g j c9 ∧ Hid (Below w1.heap.size w1 wr) ∧ Hid (RowO w1.heap.size wr 9 1 (.slice g j c9) j ((AL.take j).map Value.string))) (fun i _ _ => n - (intOf i).toNat)
  case atStart => exact ⟨0, none, 0, Nat.zero_le _, rfl, rfl, BL, RowO.nil⟩
  case round =>
    obtain ⟨j, g, c9, hj, rfl, rfl, HL9, Hr⟩ := hrel
    have hb9 := HL9.out
    clear HL9
    clear bg_
    replace Hbg := Lib.hid (Hbg.out.up hb9)
    replace BL := hbu BL hb9
    replace HB := hbu HB hb9
    replace HZS := sz HZS hb9.size
    clear hb9
    have bg_ := Hbg.out.c3
    by_cases hjn : j < n
    · have hjw : j < ws.length := by rw [HWN.out]; exact hjn
      have hjx : j < xs.length := by rw [HXN.out]; exact hjn
      obtain ⟨bw, ow, rfl, hbw, hcw⟩ := HW.out.at j (by rw [List.length_map]; exact hjw)
      obtain ⟨bx, ox, rfl, hbx, hcx⟩ := HX.out.at j (by rw [List.length_map]; exact hjx)
      rw [List.getElem_map] at hcw hcx
      replace hcw := cell_up HB.out hbw hcw
      have hlw := HWW.out
      have HNP := Lib.hid (fun q e => (Hr.out.lt q e).2)
      have HSJ := Lib.hid (HSN.out j hjw hjx)
      have HWJ := Lib.hid (HWZ.out _ (List.getElem_mem hjw))
      have HXJ := Lib.hid (HXZ.out _ (List.getElem_mem hjx))
      generalize ws[j] = x at *
      generalize xs[j] = y at *
      go_wp2_with fail
      replace hcx := cell_up HB.out hbx hcx
      have hbx2 := Nat.lt_of_lt_of_le hbx HB.out.size
      have HT := Lib.hid (show Below wr.heap.size wr wr.drew from (Below.refl _ _).drew)
      have hl_bg := Hbg.out.lt
      refine wp_region_tree (fun wq9 => ∃ E : But wr (Value.ownBlock (.slice g j c9)), wq9 = E.w) ((.qs [0, 1, 2, 4, 5, 6, 7, 8, 9, 13, 14] (.a 3 (.a 10 (.a 11 (.a 12 (.a 15 (.a 16 (.a 17 (.qs [18] .done)))))))))) (by kernel_rfl) (by kernel_rfl) (fun _ _ d _ _ h => by cases d <;> exact h) ⟨⟨_, ((below_grown HT.out).but _)⟩, rfl⟩ ?_
      have hov_bg := fun (E : But wr (Value.ownBlock (.slice g j c9))) o => E.cell (b := w.heap.size) o hl_bg (by intro e9; have a2 := HNP.out _ e9; have a1 := Hr.out.lt _ e9; have g0 := HZS.out; omega)
      have hov_bx := fun (E : But wr (Value.ownBlock (.slice g j c9))) o => E.cell (b := bx) o hbx2 (by intro e9; have a2 := HNP.out _ e9; have a1 := Hr.out.lt _ e9; have g0 := HZS.out; omega)
      simp only [Tree.qs]
      repeat (refine tree_q rfl rfl ?_; go_big_quiet_step (fail); refine wpQuiet_nil ?_)
      refine tree_a rfl (fun K hK => ?_)
      go_simp
      refine (refRead_any x (by have := HWJ.out; omega) _).mono ?_
      rintro e w2 ⟨a1, c1, rfl, hn9, hb9⟩
      replace HT := Lib.hid (below_up HT.out hb9)
      replace HZS := sz HZS (show wr.heap.size ≤ w2.heap.size from HT.out.size)
      clear hb9
      have HN1 := Lib.hid hn9
      clear hn9
      refine hK _ _ ⟨⟨⟨w2, ((below_grown HT.out).but _)⟩, rfl⟩, ?_⟩
      clear hK K
      repeat (refine tree_q rfl rfl ?_; go_big_quiet_step (fail); refine wpQuiet_nil ?_)
      refine tree_a rfl (fun K hK => ?_)
      go_simp
      refine (refRead_any y (by have := HXJ.out; omega) _).mono ?_
      rintro e w3 ⟨a2, c2, rfl, hn9, hb9⟩
      replace HN1 := Lib.hid (HN1.out.up hb9)
      replace HT := Lib.hid (below_up HT.out hb9)
      replace HZS := sz HZS (show wr.heap.size ≤ w3.heap.size from HT.out.size)
      clear hb9
      have HN2 := Lib.hid hn9
      clear hn9
      refine hK _ _ ⟨⟨⟨w3, ((below_grown HT.out).but _)⟩, rfl⟩, ?_⟩
      clear hK K
      repeat (refine tree_q rfl rfl ?_; go_big_quiet_step (fail); refine wpQuiet_nil ?_)
      refine tree_a rfl (fun K hK => ?_)
      go_simp
      refine (rMulQ OK.out (q_16 OK.out HML.out) (numOf_16 _ HXJ.out) _ (HG.out.up (below_up HB.out HT.out)) (HN.out.up (below_up HB.out HT.out)) HN2.out).mono ?_
      rintro e w4 ⟨a3, c3, rfl, hn9, hb9⟩
      replace HN1 := Lib.hid (HN1.out.up hb9)
      replace HN2 := Lib.hid (HN2.out.up hb9)
      replace HT := Lib.hid (below_up HT.out hb9)
      replace HZS := sz HZS (show wr.heap.size ≤ w4.heap.size from HT.out.size)
      clear hb9
      have HN3 := Lib.hid hn9
      clear hn9
      refine hK _ _ ⟨⟨⟨w4, ((below_grown HT.out).but _)⟩, rfl⟩, ?_⟩
      clear hK K
      repeat (refine tree_q rfl rfl ?_; go_big_quiet_step (fail); refine wpQuiet_nil ?_)
      refine tree_a rfl (fun K hK => ?_)
      go_simp
      refine (rAddQ OK.out (numOf_16 _ HWJ.out) (q_16 OK.out (mulQ_lt OK.out _ _)) _ (HG.out.up (below_up HB.out HT.out)) HN1.out HN3.out).mono ?_
      rintro e w5 ⟨a4, c4, rfl, hn9, hb9⟩
      replace HN1 := Lib.hid (HN1.out.up hb9)
      replace HN2 := Lib.hid (HN2.out.up hb9)
      replace HN3 := Lib.hid (HN3.out.up hb9)
      replace HT := Lib.hid (below_up HT.out hb9)
      replace HZS := sz HZS (show wr.heap.size ≤ w5.heap.size from HT.out.size)
      clear hb9
      have HN4 := Lib.hid hn9
      clear hn9
      refine hK _ _ ⟨⟨⟨w5, ((below_grown HT.out).but _)⟩, rfl⟩, ?_⟩
      clear hK K
      repeat (refine tree_q rfl rfl ?_; go_big_quiet_step (fail); refine wpQuiet_nil ?_)
      refine tree_a rfl (fun K hK => ?_)
      go_simp
      refine (rTextQ OK.out (addQ_lt OK.out _ _) _ HN4.out).mono ?_
      rintro e w6 ⟨rfl, hb9⟩
      replace HN1 := Lib.hid (HN1.out.up hb9)
      replace HN2 := Lib.hid (HN2.out.up hb9)
      replace HN3 := Lib.hid (HN3.out.up hb9)
      replace HN4 := Lib.hid (HN4.out.up hb9)
      replace HT := Lib.hid (below_up HT.out hb9)
      replace HZS := sz HZS (show wr.heap.size ≤ w6.heap.size from HT.out.size)
      clear hb9
      rw [HRM.out]
      refine hK _ _ ⟨⟨⟨w6, ((below_grown HT.out).but _)⟩, rfl⟩, ?_⟩
      clear hK K
      repeat (refine tree_q rfl rfl ?_; go_big_quiet_step (fail); refine wpQuiet_nil ?_)
      clear hov_bg hl_bg hov_bx
      refine tree_a rfl (fun K hK => ?_)
      go_simp
      refine hK _ _ ⟨⟨⟨_, (below_grown (HT.out.alloc HT.out.size _)).but _⟩, rfl⟩, ?_⟩
      clear hK K
      obtain ⟨i9, hi9, hz90, hz91, hz92⟩ := info_parts infoStr
      have HG1 := Lib.hid ((below_grown HT.out).but (Value.ownBlock (.slice g j c9)))
      clear bg_
      replace Hbg := Lib.hid (Hbg.out.up HT.out)
      replace Hr := Lib.hid (Hr.out.up HT.out)
      replace BL := hbu BL HT.out
      replace HB := hbu HB HT.out
      replace HZS := sz HZS HT.out.size
      refine tree_a rfl (fun K hK => ?_)
      refine step_pushR (w1.heap.size) w6 (by have g0 := HZS.out; omega) rfl _ _ 23 rfl 9 i9 _ 1 16 Tryz.underlying23 hi9 hz90 hz91 hz92 rfl (by omega) ((.slice g j c9)) (j) (((AL.take j).map Value.string)) rfl Hr.out _ _ _ rfl rfl rfl (by simp [Value.oneCell']) (by omega) (by unfold maxLen; omega) ?_
      intro g7 c7 w7 hown9 hg9
      have HGR := Lib.hid (HG1.out.trans hg9)
      have hb9 := Below.grown HB.out hg9 (by have g0 := HZS.out; omega) (fun q hq => Nat.le_trans (show w.heap.size ≤ w1.heap.size by have g0 := HZS.out; omega) (Hr.out.lt q hq).1)
      replace Hbg := Lib.hid (Hbg.out.grown hg9 (fun e9 => by have a2 := HNP.out _ e9; have a1 := Hr.out.lt _ e9; have g0 := HZS.out; omega))
      clear HN1 HN2 HN3 HN4
      replace BL := Lib.hid (Below.grown BL.out hg9 (by have g0 := HZS.out; omega) (fun q hq => Nat.le_trans (show w1.heap.size ≤ w1.heap.size by have g0 := HZS.out; omega) (Hr.out.lt q hq).1))
      replace HZS := sz HZS hg9.size
      clear Hr HB HT HG1
      have Hr := Lib.hid hown9
      have HB := Lib.hid hb9
      clear hb9 hown9 hg9 hi9 hz90 hz91 hz92
      refine hK _ _ ⟨⟨⟨w7, HGR.out⟩, rfl⟩, ?_⟩
      clear hK K HGR
      have bg_ := Hbg.out.c3
      try simp only [Act.put, List.setIfInBounds_toArray, List.set_cons_succ, List.set_cons_zero]
      repeat (refine tree_q rfl rfl ?_; go_big_quiet_step (fail); refine wpQuiet_nil ?_)
      refine tree_end ?_
      go_wp2_with fail
      go_roundw
      case rel => exact ⟨j + 1, _, _, hjn, by go_num, rfl, BL, Hr.out.eq HSJ.out.symm rfl⟩
      case measure => simp [intOf]; omega
    · have hj' : j = n := by omega
      subst hj'
      rw [List.take_of_length_le (by rw [HAL.out]; exact Nat.le_refl _)] at Hr
      go_wp2_with fail
      go_ret
      exact ⟨g, c9, rfl, Hr.out.sl, RowO.none0 Hr.out, RowO.room Hr.out, fun x hx => by have h1 := Hr.out.lt x.block (by rw [hx]; rfl); have h2 := HWW.out; omega, HB.out⟩
end Go.Proofs.YtdlnnkbigeiilaaGreat

/- What is said to the document's talk of claims. Conditions: the sizes of what was read before. -/
namespace Go.Proofs.YtdlnnkbigeiilaaGreat
open Go.RowKit

set_option maxRecDepth 100000 in
set_option maxHeartbeats 1000000 in
theorem rjoined_any (l : List ByteArray) (n : Nat) (hn : l.length = n) (h8 : n ≤ 4096) (hz : ∀ x ∈ l, x.size ≤ 4096) (a : Option Addr) (c : Nat) (w : World) (hX : Sl w w.heap.size a (l.map Value.string)) :
    Calls Tryz.prog 111 #[.slice a n c] w fun e w' => e = .returned (.string (catB l)) ∧ Below w.heap.size w w' := by
  have HX := Lib.hid hX
  have HN := Lib.hid hn
  have HZ := Lib.hid hz
  clear hX hn hz
  go_enter Tryz.func111, Tryz.ntmps111
  go_wp2_with fail
  go_loopw [8, 3] (fun c v wr => ∃ (j : Nat) (y : ByteArray), j ≤ n ∧ c = .int .i64 (j : Int) ∧ v = .string y ∧ Hid (y = catB (l.take j)) ∧ Hid (Below w.heap.size w wr)) (fun c _ _ => n - (intOf c).toNat)
  case atStart => exact ⟨0, _, by omega, rfl, rfl, rfl, Below.refl _ _⟩
  case round =>
    obtain ⟨j, y, hj, rfl, rfl, HY, HB⟩ := hrel
    by_cases hjn : j < n
    · have hjl : j < l.length := by rw [HN.out]; exact hjn
      obtain ⟨xb, xo, rfl, hxl, hxc⟩ := (HX.out.up HB.out).at j (by rw [List.length_map]; exact hjl)
      rw [List.getElem_map] at hxc
      have hs9 := catB_take l j hjl
      have hy9 : y.size ≤ 4096 * 4096 := by
        rw [HY.out]
        refine Nat.le_trans (catB_size 4096 _ fun x hx => HZ.out x (List.mem_of_mem_take hx)) (Nat.mul_le_mul_right _ ?_)
        rw [List.length_take]; omega
      have hx9 := HZ.out _ (List.getElem_mem hjl)
      rw [← HY.out] at hs9
      obtain ⟨x, hx8⟩ : ∃ x, l[j]'hjl = x := ⟨_, rfl⟩
      rw [hx8] at hxc hx9 hs9
      have HS9 := Lib.hid hs9.symm
      have hcc : ¬ (9223372036854775807 < y.size + x.size) := by omega
      clear hx8 hs9 hy9 hx9 HY hjl
      go_wp2_with fail
      exact ⟨⟨j + 1, _, by omega, by go_num, rfl, HS9, HB⟩, by simp [intOf]; omega⟩
    · have hj' : j = n := by omega
      subst hj'
      rw [List.take_of_length_le (by rw [HN.out]; exact Nat.le_refl _)] at HY
      go_wp2_with fail
      go_ret
      exact ⟨by rw [HY.out]; rfl, HB.out⟩
set_option maxRecDepth 100000 in
set_option maxHeartbeats 1000000 in
theorem rbegin_any (k : Int) (hk : 0 ≤ k ∧ k < 256) (nm label : ByteArray) (hm : nm.size < 140737488355328) (hl : label.size < 140737488355328) (w : World) :
    Calls Tryz.prog 48 #[.int .i64 k, .string nm, .string label] w fun e w' => e = .returned (.agg #[.string (beginT nm label k)]) ∧ Below w.heap.size w w' := by
  have H1 := Lib.hid (fun w => rNewTalk_any nm hm w)
  have hz1 : (tagS talkB [nm]).size < 140737488355328 := by rw [tagS_size]; decide
  have H2 := Lib.hid (fun w => rSay_any (tagS talkB [nm]) labelB label hz1 (by decide) hl w)
  have hz2 : (say1 (tagS talkB [nm]) labelB label).size < 140737488355328 := by rw [say1_size]; decide
  have H3 := Lib.hid (fun w => rSay_any (say1 (tagS talkB [nm]) labelB label) kindB (kindS k) hz2 (by decide) (show (1 : Nat) < 140737488355328 by decide) w)
  unfold beginT
  unfold say1 at *
  generalize tagS talkB [nm] = t0 at *
  generalize tagS sayB [t0, labelB, label] = t1 at *
  generalize tagS sayB [t1, kindB, kindS k] = t2 at *
  clear hz1 hz2 hm hl
  unfold kindS at H3
  have hk0 := hk.1
  have hk1 := hk.2
  clear hk
  go_enter Tryz.func48, Tryz.ntmps48
  go_wp2_with fail
  obtain ⟨w1, hq1, hb9, hz9, Ho⟩ := new1 w 89 [.string ⟨#[]⟩]
  rw [hq1]
  clear hq1
  have HB := Lib.hid hb9
  have HZS := hz9
  clear hb9 hz9
  have o_ := Ho.out.c1
  go_wp2_with fail
  refine (H1.out w1).mono ?_
  rintro e w2 ⟨rfl, hb9⟩
  clear o_
  replace Ho := Lib.hid (Ho.out.up hb9)
  replace HB := hbu HB hb9
  replace HZS := sz HZS hb9.size
  clear hb9
  have o_ := Ho.out.c1
  go_wp2_with fail
  refine (H2.out w2).mono ?_
  rintro e w3 ⟨rfl, hb9⟩
  clear o_
  replace Ho := Lib.hid (Ho.out.up hb9)
  replace HB := hbu HB hb9
  replace HZS := sz HZS hb9.size
  clear hb9
  have o_ := Ho.out.c1
  have o4_o_ := o_; clear o_
  obtain ⟨w4, hq4, hb9, hz9, Ht⟩ := new1 w3 89 [.string t1]
  replace Ho := Lib.hid (Ho.out.up hb9)
  replace HB := hbu HB hb9
  replace HZS := sz HZS hz9.out
  clear hb9 hz9
  have o_ := Ho.out.c1
  have t_ := Ht.out.c1
  have o5_o_ := o_; clear o_
  have o5_t_ := t_; clear t_
  obtain ⟨w5, hq5, hb9, hz9, Hr⟩ := new1 w4 5 [.int .u8 k]
  replace Ho := Lib.hid (Ho.out.up hb9)
  replace Ht := Lib.hid (Ht.out.up hb9)
  replace HB := hbu HB hb9
  replace HZS := sz HZS hz9.out
  clear hb9 hz9
  have o_ := Ho.out.c1
  have t_ := Ht.out.c1
  have r_ := Hr.out.c1
  have hcv := run_convert_bytes_arg (P := Tryz.prog) w5 150 5 Tryz.underlying150 Tryz.underlying5 w4.heap.size 0 1 1 [k] rfl (fun i hi => by
    obtain rfl : i = 0 := by omega
    exact Hr.out.cell (i := 0) rfl) 9 Tryz.underlying9
  go_wp2_with fail
  clear hq5 o5_t_ o5_o_ hq4 o4_o_
  refine (H3.out w5).mono ?_
  rintro e w6 ⟨rfl, hb9⟩
  clear o_
  replace Ho := Lib.hid (Ho.out.up hb9)
  clear t_
  replace Ht := Lib.hid (Ht.out.up hb9)
  clear r_
  replace Hr := Lib.hid (Hr.out.up hb9)
  replace HB := hbu HB hb9
  replace HZS := sz HZS hb9.size
  clear hb9
  have o_ := Ho.out.c1
  have t_ := Ht.out.c1
  have r_ := Hr.out.c1
  have f7_o := Ho.out.frozen
  have o7_o_ := o_; clear o_
  have o7_t_ := t_; clear t_
  have o7_r_ := r_; clear r_
  obtain ⟨w7, hq7, hg9, hz9, hx9⟩ := put1 Ho 0 (.string t2) [.string t2] rfl
  replace Ht := Lib.hid (Ht.out.grown hg9.out (sne (by have g0 := HZS.out; omega)))
  replace Hr := Lib.hid (Hr.out.grown hg9.out (sne (by have g0 := HZS.out; omega)))
  replace HB := hbg HB hg9 (by have g0 := HZS.out; omega)
  replace HZS := sz HZS hz9.out
  replace Ho := hx9
  clear hx9 hg9 hz9
  have o_ := Ho.out.c1
  have t_ := Ht.out.c1
  have r_ := Hr.out.c1
  go_wp2_with fail
  clear hq7 o7_r_ o7_t_ o7_o_ f7_o
  simp [bodyPost, results, Tryz.results48, go_sem, o_]
  exact HB.out
/-- What is known of a claim's lists when they are said. -/
def SayOk (c : ClaimA) : Prop := c.bases.length ≤ 8 ∧ c.images.length ≤ 8 ∧ (∀ x ∈ c.bases, x.size ≤ 32) ∧ (∀ x ∈ c.images, x.size ≤ 32)
theorem cat_small {l : List ByteArray} (h8 : l.length ≤ 8) (h : ∀ x ∈ l, x.size ≤ 32) : (catB l).size < 140737488355328 := by
  have h1 := catB_size 32 l h
  have h2 : l.length * 32 ≤ 8 * 32 := Nat.mul_le_mul_right _ h8
  omega
set_option maxRecDepth 100000 in
set_option maxHeartbeats 4000000 in
theorem rsayCl_any (s : ByteArray) (l : List ClaimA) (n : Nat) (hn : l.length = n) (h64 : n ≤ 64) (hz : s.size = 32) (sh : ∀ c ∈ l, SayOk c) (al : Option Addr) (cl : Nat) (w : World) (hC : ClaimsAt w al l) :
    Calls Tryz.prog 47 #[.agg #[.string s], .slice al n cl] w fun e w' => e = .returned (.agg #[.string (sayCl s l)]) ∧ Below w.heap.size w w' := by
  have HTK := Lib.hid (fun j h => sayCl_take s l j h)
  unfold sayC at HTK
  have HF := Lib.hid (fun s lb x hs hl hx w => (show Calls Tryz.prog 73 #[.agg #[.string s], .string lb, .string x] w fun e w' => e = .returned (.agg #[.string (say1 s lb x)]) ∧ Below w.heap.size w w' from rSay_any s lb x hs hl hx w))
  have HS1 := Lib.hid say1_size
  have HT0 := Lib.hid (show sayCl s [] = s from rfl)
  generalize sayCl s = SC at *
  generalize say1 = S1 at *
  have HC := Lib.hid hC
  have HN := Lib.hid hn
  have HZ := Lib.hid hz
  have HSH := Lib.hid sh
  clear hC hn hz sh
  go_enter Tryz.func47, Tryz.ntmps47
  go_wp2_with fail
  obtain ⟨w1, hq1, hb9, hz9, Ht, Ho⟩ := new2 w 89 [.string s] 89 [.string ⟨#[]⟩]
  rw [hq1]
  clear hq1
  have HB := Lib.hid hb9
  have HZS := hz9
  clear hb9 hz9
  have t_ := Ht.out.c1
  have o_ := Ho.out.c1
  go_wp2_with fail
  go_loopw [9] (fun i wr => ∃ (j : Nat) (y : ByteArray), j ≤ n ∧ i = .int .i64 (j : Int) ∧ Hid (y.size = 32) ∧ Hid (y = SC (l.take j)) ∧ Hid (Bx wr w.heap.size 89 [.string y]) ∧ Hid (Bx wr (w.heap.size + 1) 89 [.string ⟨#[]⟩]) ∧ Hid (Below w.heap.size w wr)) (fun i _ => n - (intOf i).toNat)
  case atStart => exact ⟨0, s, Nat.zero_le _, rfl, HZ, HT0.out.symm, Ht, Ho, HB⟩
  case round =>
    clear Ht Ho HB t_ o_
    obtain ⟨j, y, hj, rfl, HY, HYS, Ht, Ho, HB⟩ := hrel
    have HO9 := Lib.hid Ho.out.lt
    by_cases hjn : j < n
    · have hjl : j < l.length := by rw [HN.out]; exact hjn
      obtain ⟨bl, ol, rfl, hbl0, hc⟩ := (HC.out.s.up HB.out).elem ClaimA.cells_len (by omega) j hjl
      have hc_0 := hc 0 _ rfl
      rw [Nat.add_zero] at hc_0
      have hc_1 := hc 1 _ rfl
      clear hc
      have HAT := Lib.hid (HC.out.one j hjl)
      have hsj := HSH.out _ (List.getElem_mem hjl)
      unfold SayOk at hsj
      have HSJ := Lib.hid hsj
      have HTJ := Lib.hid (HTK.out j hjl)
      clear hsj
      generalize l[j] = c at *
      have HAB := Lib.hid HAT.out.b
      have HAJ := Lib.hid HAT.out.i
      clear HAT
      generalize c.bases = bs at *
      generalize c.images = ims at *
      generalize c.ab = ab at *
      generalize c.ai = ai at *
      generalize c.cb = cb at *
      generalize c.ci = ci at *
      rw [← HYS.out] at HTJ
      have HCB := Lib.hid (cat_small HSJ.out.1 HSJ.out.2.2.1)
      have HCI := Lib.hid (cat_small HSJ.out.2.1 HSJ.out.2.2.2)
      have HJ1 := Lib.hid (fun w h => rjoined_any bs bs.length rfl (by have := HSJ.out.1; omega) (fun x hx => Nat.le_trans (HSJ.out.2.2.1 x hx) (by decide)) ab cb w h)
      have HJ2 := Lib.hid (fun w h => rjoined_any ims ims.length rfl (by have := HSJ.out.2.1; omega) (fun x hx => Nat.le_trans (HSJ.out.2.2.2 x hx) (by decide)) ai ci w h)
      clear HYS HSJ
      replace HZS := sz HZS HO9.out
      have t_ := Ht.out.c1
      have o_ := Ho.out.c1
      have o2_t_ := t_; clear t_
      have o2_o_ := o_; clear o_
      obtain ⟨w2, hq2, hb9, hz9, Hbc⟩ := new1 wr 50 [.slice ab bs.length cb, .slice ai ims.length ci]
      replace Ht := Lib.hid (Ht.out.up hb9)
      replace Ho := Lib.hid (Ho.out.up hb9)
      replace HB := hbu HB hb9
      replace HZS := sz HZS hz9.out
      clear hb9 hz9
      have t_ := Ht.out.c1
      have o_ := Ho.out.c1
      have bc_ := Hbc.out.c2
      go_wp2_with fail
      clear hq2 o2_o_ o2_t_
      have HT := Lib.hid (show Below w2.heap.size w2 w2.drew from (Below.refl _ _).drew)
      have hl_t := Ht.out.lt
      have hl_o := Ho.out.lt
      have hl_bc := Hbc.out.lt
      refine wp_region_treek (fun wq9 => ∃ E : Over w2, wq9 = E.w) 5 ((.e 0 [] (.qs [1] (.e 2 [] (.a 3 (.a 4 (.a 5 .done))))))) (by kernel_rfl) (by kernel_rfl) (fun _ _ d _ _ h => by cases d <;> exact h) ⟨⟨_, HT.out⟩, rfl⟩ ?_
      have hov_t := fun (E : Over w2) o => E.cell (b := w.heap.size) o hl_t
      have hov_o := fun (E : Over w2) o => E.cell (b := (w.heap.size + 1)) o hl_o
      have hov_bc := fun (E : Over w2) o => E.cell (b := wr.heap.size) o hl_bc
      simp only [TreeK.qs]
      repeat (first | (refine treek_q rfl rfl ?_; go_big_quiet_step (fail); refine wpQuiet_nil ?_) | (refine treek_e rfl rfl ?_; go_big_quiet_step (fail); refine wpQuiet_nil ?_))
      refine treek_a rfl (fun K hK => ?_)
      go_simp
      refine (HJ1.out _ (HAB.out.up (below_up HB.out HT.out))).mono ?_
      rintro e w3 ⟨rfl, hb9⟩
      replace HT := Lib.hid (below_up HT.out hb9)
      replace HZS := sz HZS (show w2.heap.size ≤ w3.heap.size from HT.out.size)
      clear hb9
      refine hK _ _ ⟨fun _ => ⟨⟨w3, HT.out⟩, rfl⟩, ?_⟩
      clear hK K
      repeat (first | (refine treek_q rfl rfl ?_; go_big_quiet_step (fail); refine wpQuiet_nil ?_) | (refine treek_e rfl rfl ?_; go_big_quiet_step (fail); refine wpQuiet_nil ?_))
      refine treek_a rfl (fun K hK => ?_)
      go_simp
      refine (HF.out y basesB (catB bs) (by have := HY.out; omega) (by decide) HCB.out _).mono ?_
      rintro e w4 ⟨rfl, hb9⟩
      replace HT := Lib.hid (below_up HT.out hb9)
      replace HZS := sz HZS (show w2.heap.size ≤ w4.heap.size from HT.out.size)
      clear hb9
      refine hK _ _ ⟨fun _ => ⟨⟨w4, HT.out⟩, rfl⟩, ?_⟩
      clear hK K
      repeat (first | (refine treek_q rfl rfl ?_; go_big_quiet_step (fail); refine wpQuiet_nil ?_) | (refine treek_e rfl rfl ?_; go_big_quiet_step (fail); refine wpQuiet_nil ?_))
      clear hov_t hl_t hov_o hl_o hov_bc hl_bc
      refine treek_a rfl (fun K hK => ?_)
      clear t_
      replace Ht := Lib.hid (Ht.out.up HT.out)
      clear o_
      replace Ho := Lib.hid (Ho.out.up HT.out)
      clear bc_
      replace Hbc := Lib.hid (Hbc.out.up HT.out)
      replace HB := hbu HB HT.out
      replace HZS := sz HZS HT.out.size
      clear HT
      have t_ := Ht.out.c1
      have o_ := Ho.out.c1
      have bc_ := Hbc.out.c2
      have f5_t := Ht.out.frozen
      have o5_t_ := t_; clear t_
      have o5_o_ := o_; clear o_
      have o5_bc_ := bc_; clear bc_
      obtain ⟨w5, hq5, hg9, hz9, hx9⟩ := put1 Ht 0 (.string (S1 y basesB (catB bs))) [.string (S1 y basesB (catB bs))] rfl
      replace Ho := Lib.hid (Ho.out.grown hg9.out (sne (by have g0 := HZS.out; omega)))
      replace Hbc := Lib.hid (Hbc.out.grown hg9.out (sne (by have g0 := HZS.out; omega)))
      replace HB := hbg HB hg9 (by have g0 := HZS.out; omega)
      replace HZS := sz HZS hz9.out
      replace Ht := hx9
      clear hx9 hg9 hz9
      have t_ := Ht.out.c1
      have o_ := Ho.out.c1
      have bc_ := Hbc.out.c2
      go_simp
      try rw [hq5]
      refine hK _ _ ⟨fun h9 => absurd rfl h9, ?_⟩
      clear hK K
      clear hq5 o5_bc_ o5_o_ o5_t_ f5_t
      refine treek_end ?_
      go_wp2_with fail
      have HT := Lib.hid (show Below w5.heap.size w5 w5.drew from (Below.refl _ _).drew)
      have hl_t := Ht.out.lt
      have hl_o := Ho.out.lt
      have hl_bc := Hbc.out.lt
      refine wp_region_treek (fun wq9 => ∃ E : Over w5, wq9 = E.w) 5 ((.e 0 [] (.qs [1] (.e 2 [] (.a 3 (.a 4 (.a 5 .done))))))) (by kernel_rfl) (by kernel_rfl) (fun _ _ d _ _ h => by cases d <;> exact h) ⟨⟨_, HT.out⟩, rfl⟩ ?_
      have hov_t := fun (E : Over w5) o => E.cell (b := w.heap.size) o hl_t
      have hov_o := fun (E : Over w5) o => E.cell (b := (w.heap.size + 1)) o hl_o
      have hov_bc := fun (E : Over w5) o => E.cell (b := wr.heap.size) o hl_bc
      simp only [TreeK.qs]
      repeat (first | (refine treek_q rfl rfl ?_; go_big_quiet_step (fail); refine wpQuiet_nil ?_) | (refine treek_e rfl rfl ?_; go_big_quiet_step (fail); refine wpQuiet_nil ?_))
      refine treek_a rfl (fun K hK => ?_)
      go_simp
      refine (HJ2.out _ (HAJ.out.up (below_up HB.out HT.out))).mono ?_
      rintro e w6 ⟨rfl, hb9⟩
      replace HT := Lib.hid (below_up HT.out hb9)
      replace HZS := sz HZS (show w5.heap.size ≤ w6.heap.size from HT.out.size)
      clear hb9
      refine hK _ _ ⟨fun _ => ⟨⟨w6, HT.out⟩, rfl⟩, ?_⟩
      clear hK K
      repeat (first | (refine treek_q rfl rfl ?_; go_big_quiet_step (fail); refine wpQuiet_nil ?_) | (refine treek_e rfl rfl ?_; go_big_quiet_step (fail); refine wpQuiet_nil ?_))
      refine treek_a rfl (fun K hK => ?_)
      go_simp
      refine (HF.out (S1 y basesB (catB bs)) imagesB (catB ims) (by rw [HS1.out]; decide) (by decide) HCI.out _).mono ?_
      rintro e w7 ⟨rfl, hb9⟩
      replace HT := Lib.hid (below_up HT.out hb9)
      replace HZS := sz HZS (show w5.heap.size ≤ w7.heap.size from HT.out.size)
      clear hb9
      refine hK _ _ ⟨fun _ => ⟨⟨w7, HT.out⟩, rfl⟩, ?_⟩
      clear hK K
      repeat (first | (refine treek_q rfl rfl ?_; go_big_quiet_step (fail); refine wpQuiet_nil ?_) | (refine treek_e rfl rfl ?_; go_big_quiet_step (fail); refine wpQuiet_nil ?_))
      clear hov_t hl_t hov_o hl_o hov_bc hl_bc
      refine treek_a rfl (fun K hK => ?_)
      clear t_
      replace Ht := Lib.hid (Ht.out.up HT.out)
      clear o_
      replace Ho := Lib.hid (Ho.out.up HT.out)
      clear bc_
      replace Hbc := Lib.hid (Hbc.out.up HT.out)
      replace HB := hbu HB HT.out
      replace HZS := sz HZS HT.out.size
      clear HT
      have t_ := Ht.out.c1
      have o_ := Ho.out.c1
      have bc_ := Hbc.out.c2
      have f8_t := Ht.out.frozen
      have o8_t_ := t_; clear t_
      have o8_o_ := o_; clear o_
      have o8_bc_ := bc_; clear bc_
      obtain ⟨w8, hq8, hg9, hz9, hx9⟩ := put1 Ht 0 (.string (S1 (S1 y basesB (catB bs)) imagesB (catB ims))) [.string (S1 (S1 y basesB (catB bs)) imagesB (catB ims))] rfl
      replace Ho := Lib.hid (Ho.out.grown hg9.out (sne (by have g0 := HZS.out; omega)))
      replace Hbc := Lib.hid (Hbc.out.grown hg9.out (sne (by have g0 := HZS.out; omega)))
      replace HB := hbg HB hg9 (by have g0 := HZS.out; omega)
      replace HZS := sz HZS hz9.out
      replace Ht := hx9
      clear hx9 hg9 hz9
      have t_ := Ht.out.c1
      have o_ := Ho.out.c1
      have bc_ := Hbc.out.c2
      go_simp
      try rw [hq8]
      refine hK _ _ ⟨fun h9 => absurd rfl h9, ?_⟩
      clear hK K
      clear hq8 o8_bc_ o8_o_ o8_t_ f8_t
      refine treek_end ?_
      go_wp2_with fail
      exact ⟨⟨j + 1, _, by omega, by go_num, Lib.hid (HS1.out _ _ _), Lib.hid HTJ.out.symm, Ht, Ho, HB⟩, by simp [intOf]; omega⟩
    · have hj' : j = n := by omega
      subst hj'
      rw [List.take_of_length_le (by rw [HN.out]; exact Nat.le_refl _)] at HYS
      replace HZS := sz HZS HO9.out
      have t_ := Ht.out.c1
      have o_ := Ho.out.c1
      have f2_o := Ho.out.frozen
      have o2_t_ := t_; clear t_
      have o2_o_ := o_; clear o_
      obtain ⟨w2, hq2, hg9, hz9, hx9⟩ := put1 Ho 0 (.string y) [.string y] rfl
      replace Ht := Lib.hid (Ht.out.grown hg9.out (sne (by have g0 := HZS.out; omega)))
      replace HB := hbg HB hg9 (by have g0 := HZS.out; omega)
      replace HZS := sz HZS hz9.out
      replace Ho := hx9
      clear hx9 hg9 hz9
      have t_ := Ht.out.c1
      have o_ := Ho.out.c1
      go_wp2_with fail
      clear hq2 o2_o_ o2_t_ f2_o
      rw [← HYS.out]
      simp [bodyPost, results, Tryz.results47, go_sem, o_]
      exact HB.out
set_option maxRecDepth 100000 in
set_option maxHeartbeats 4000000 in
theorem rsayFi_any (s : ByteArray) (ro : List RowA) (n : Nat) (hn : ro.length = n) (h64 : n ≤ 64) (hz : s.size = 32) (sh : ∀ r ∈ ro, r.l.length ≤ 8 ∧ ∀ x ∈ r.l, x.size ≤ 32) (al : Option Addr) (cl : Nat) (w : World) (hC : RowsAt w al ro) :
    Calls Tryz.prog 46 #[.agg #[.string s], .slice al n cl] w fun e w' => e = .returned (.agg #[.string (sayFi s (ro.map RowA.l))]) ∧ Below w.heap.size w w' := by
  have HTK := Lib.hid (fun j (h : j < ro.length) => by
    have h1 := sayFi_take s (ro.map RowA.l) j (by rw [List.length_map]; exact h)
    rw [List.getElem_map, ← List.map_take, ← List.map_take] at h1
    exact h1)
  unfold sayF at HTK
  have HF := Lib.hid (fun s lb x hs hl hx w => (show Calls Tryz.prog 73 #[.agg #[.string s], .string lb, .string x] w fun e w' => e = .returned (.agg #[.string (say1 s lb x)]) ∧ Below w.heap.size w w' from rSay_any s lb x hs hl hx w))
  have HS1 := Lib.hid say1_size
  have HT0 := Lib.hid (show sayFi s ([].map RowA.l) = s from rfl)
  generalize sayFi s = SC at *
  generalize say1 = S1 at *
  have HC := Lib.hid hC
  have HN := Lib.hid hn
  have HZ := Lib.hid hz
  have HSH := Lib.hid sh
  clear hC hn hz sh
  go_enter Tryz.func46, Tryz.ntmps46
  go_wp2_with fail
  obtain ⟨w1, hq1, hb9, hz9, Ht, Ho⟩ := new2 w 89 [.string s] 89 [.string ⟨#[]⟩]
  rw [hq1]
  clear hq1
  have HB := Lib.hid hb9
  have HZS := hz9
  clear hb9 hz9
  have t_ := Ht.out.c1
  have o_ := Ho.out.c1
  go_wp2_with fail
  go_loopw [9] (fun i wr => ∃ (j : Nat) (y : ByteArray), j ≤ n ∧ i = .int .i64 (j : Int) ∧ Hid (y.size = 32) ∧ Hid (y = SC ((ro.take j).map RowA.l)) ∧ Hid (Bx wr w.heap.size 89 [.string y]) ∧ Hid (Bx wr (w.heap.size + 1) 89 [.string ⟨#[]⟩]) ∧ Hid (Below w.heap.size w wr)) (fun i _ => n - (intOf i).toNat)
  case atStart => exact ⟨0, s, Nat.zero_le _, rfl, HZ, HT0.out.symm, Ht, Ho, HB⟩
  case round =>
    clear Ht Ho HB t_ o_
    obtain ⟨j, y, hj, rfl, HY, HYS, Ht, Ho, HB⟩ := hrel
    have HO9 := Lib.hid Ho.out.lt
    by_cases hjn : j < n
    · have hjl : j < ro.length := by rw [HN.out]; exact hjn
      obtain ⟨bl, ol, rfl, hbl0, hc⟩ := (HC.out.s.up HB.out).elem RowA.cells_len (by omega) j hjl
      have hc_0 := hc 0 _ rfl
      rw [Nat.add_zero] at hc_0
      clear hc
      rw [Nat.mul_one] at hc_0
      have HAB := Lib.hid (HC.out.one j hjl)
      have hsj := HSH.out _ (List.getElem_mem hjl)
      have HSJ := Lib.hid hsj
      have HTJ := Lib.hid (HTK.out j hjl)
      clear hsj
      generalize ro[j] = c at *
      unfold RowA.At at HAB
      generalize c.l = bs at *
      generalize c.a = ab at *
      generalize c.c = cb at *
      rw [← HYS.out] at HTJ
      have HCB := Lib.hid (cat_small HSJ.out.1 HSJ.out.2)
      have HJ1 := Lib.hid (fun w h => rjoined_any bs bs.length rfl (by have := HSJ.out.1; omega) (fun x hx => Nat.le_trans (HSJ.out.2 x hx) (by decide)) ab cb w h)
      clear HYS HSJ
      replace HZS := sz HZS HO9.out
      have t_ := Ht.out.c1
      have o_ := Ho.out.c1
      go_wp2_with fail
      have HT := Lib.hid (show Below wr.heap.size wr wr.drew from (Below.refl _ _).drew)
      have hl_t := Ht.out.lt
      have hl_o := Ho.out.lt
      refine wp_region_treek (fun wq9 => ∃ E : Over wr, wq9 = E.w) 4 ((.e 0 [] (.qs [1] (.a 2 (.a 3 (.a 4 .done)))))) (by kernel_rfl) (by kernel_rfl) (fun _ _ d _ _ h => by cases d <;> exact h) ⟨⟨_, HT.out⟩, rfl⟩ ?_
      have hov_t := fun (E : Over wr) o => E.cell (b := w.heap.size) o hl_t
      have hov_o := fun (E : Over wr) o => E.cell (b := (w.heap.size + 1)) o hl_o
      simp only [TreeK.qs]
      repeat (first | (refine treek_q rfl rfl ?_; go_big_quiet_step (fail); refine wpQuiet_nil ?_) | (refine treek_e rfl rfl ?_; go_big_quiet_step (fail); refine wpQuiet_nil ?_))
      refine treek_a rfl (fun K hK => ?_)
      go_simp
      refine (HJ1.out _ (HAB.out.up (below_up HB.out HT.out))).mono ?_
      rintro e w2 ⟨rfl, hb9⟩
      replace HT := Lib.hid (below_up HT.out hb9)
      replace HZS := sz HZS (show wr.heap.size ≤ w2.heap.size from HT.out.size)
      clear hb9
      refine hK _ _ ⟨fun _ => ⟨⟨w2, HT.out⟩, rfl⟩, ?_⟩
      clear hK K
      repeat (first | (refine treek_q rfl rfl ?_; go_big_quiet_step (fail); refine wpQuiet_nil ?_) | (refine treek_e rfl rfl ?_; go_big_quiet_step (fail); refine wpQuiet_nil ?_))
      refine treek_a rfl (fun K hK => ?_)
      go_simp
      refine (HF.out y firstB (catB bs) (by have := HY.out; omega) (by decide) HCB.out _).mono ?_
      rintro e w3 ⟨rfl, hb9⟩
      replace HT := Lib.hid (below_up HT.out hb9)
      replace HZS := sz HZS (show wr.heap.size ≤ w3.heap.size from HT.out.size)
      clear hb9
      refine hK _ _ ⟨fun _ => ⟨⟨w3, HT.out⟩, rfl⟩, ?_⟩
      clear hK K
      repeat (first | (refine treek_q rfl rfl ?_; go_big_quiet_step (fail); refine wpQuiet_nil ?_) | (refine treek_e rfl rfl ?_; go_big_quiet_step (fail); refine wpQuiet_nil ?_))
      clear hov_t hl_t hov_o hl_o
      refine treek_a rfl (fun K hK => ?_)
      clear t_
      replace Ht := Lib.hid (Ht.out.up HT.out)
      clear o_
      replace Ho := Lib.hid (Ho.out.up HT.out)
      replace HB := hbu HB HT.out
      replace HZS := sz HZS HT.out.size
      clear HT
      have t_ := Ht.out.c1
      have o_ := Ho.out.c1
      have f4_t := Ht.out.frozen
      have o4_t_ := t_; clear t_
      have o4_o_ := o_; clear o_
      obtain ⟨w4, hq4, hg9, hz9, hx9⟩ := put1 Ht 0 (.string (S1 y firstB (catB bs))) [.string (S1 y firstB (catB bs))] rfl
      replace Ho := Lib.hid (Ho.out.grown hg9.out (sne (by have g0 := HZS.out; omega)))
      replace HB := hbg HB hg9 (by have g0 := HZS.out; omega)
      replace HZS := sz HZS hz9.out
      replace Ht := hx9
      clear hx9 hg9 hz9
      have t_ := Ht.out.c1
      have o_ := Ho.out.c1
      go_simp
      try rw [hq4]
      refine hK _ _ ⟨fun h9 => absurd rfl h9, ?_⟩
      clear hK K
      clear hq4 o4_o_ o4_t_ f4_t
      refine treek_end ?_
      go_wp2_with fail
      exact ⟨⟨j + 1, _, by omega, by go_num, Lib.hid (HS1.out _ _ _), Lib.hid HTJ.out.symm, Ht, Ho, HB⟩, by simp [intOf]; omega⟩
    · have hj' : j = n := by omega
      subst hj'
      rw [List.take_of_length_le (by rw [HN.out]; exact Nat.le_refl _)] at HYS
      replace HZS := sz HZS HO9.out
      have t_ := Ht.out.c1
      have o_ := Ho.out.c1
      have f2_o := Ho.out.frozen
      have o2_t_ := t_; clear t_
      have o2_o_ := o_; clear o_
      obtain ⟨w2, hq2, hg9, hz9, hx9⟩ := put1 Ho 0 (.string y) [.string y] rfl
      replace Ht := Lib.hid (Ht.out.grown hg9.out (sne (by have g0 := HZS.out; omega)))
      replace HB := hbg HB hg9 (by have g0 := HZS.out; omega)
      replace HZS := sz HZS hz9.out
      replace Ho := hx9
      clear hx9 hg9 hz9
      have t_ := Ht.out.c1
      have o_ := Ho.out.c1
      go_wp2_with fail
      clear hq2 o2_o_ o2_t_ f2_o
      rw [← HYS.out]
      simp [bodyPost, results, Tryz.results46, go_sem, o_]
      exact HB.out
end Go.Proofs.YtdlnnkbigeiilaaGreat

/- What the package sigma says to a talk of claims: begin, say, said. Conditions: the sizes of what was read before. -/
namespace Go.Proofs.YtdlnnkbigeiilaaGreat
open Go.RowKit

theorem catB_bytes : ∀ (l : List ByteArray) (a : ByteArray), (l.foldl (· ++ ·) a).data.toList = a.data.toList ++ (l.map (·.data.toList)).flatten
  | [], a => by simp
  | x :: l, a => by rw [List.foldl_cons, catB_bytes l (a ++ x)]; simp
theorem join_none : ∀ xs : List (List UInt8), Lib.join xs [] = xs.flatten
  | [] => rfl
  | x :: r => by rw [Lib.join_cons, Lib.joinTail]; simp
theorem join_cat (l : List ByteArray) : (⟨(Lib.join (l.map (·.data.toList)) (ByteArray.mk #[]).data.toList).toArray⟩ : ByteArray) = catB l := by
  have h := catB_bytes l ⟨#[]⟩
  have e : (ByteArray.mk #[]).data.toList = [] := rfl
  rw [e, List.nil_append] at h
  rw [e, join_none, ← h]
  rfl
theorem join_size (l : List ByteArray) : (Lib.join (l.map (·.data.toList)) (ByteArray.mk #[]).data.toList).length = (catB l).size := by
  rw [← join_cat]; rfl
theorem sJoin_any (l : List ByteArray) (h8 : l.length ≤ 4096) (hz : ∀ x ∈ l, x.size ≤ 4096) (a : Option Addr) (c : Nat) (hc : l.length ≤ c) (w : World) (hX : Sl w w.heap.size a (l.map Value.string)) :
    Calls Tryz.prog 98 #[.slice a l.length c, .string ⟨#[]⟩] w fun e w' => e = .returned (.string (catB l)) ∧ Below w.heap.size w w' := by
  by_cases h0 : l = []
  · subst h0
    refine (Tryz.strings_Join_none a c ⟨#[]⟩ w).mono ?_
    rintro e w' ⟨rfl, rfl⟩
    exact ⟨rfl, Below.refl _ _⟩
  · have hp : 0 < l.length := List.length_pos_iff.2 h0
    obtain ⟨b, o, rfl, hb, _⟩ := hX.at 0 (by rw [List.length_map]; exact hp)
    refine (Tryz.strings_Join b o c l ⟨#[]⟩ w (fun j x hx => ?_) hb (by omega) hc ?_).mono ?_
    · obtain ⟨hj, rfl⟩ := List.getElem?_eq_some_iff.1 hx
      obtain ⟨b', o', he, _, h1⟩ := hX.at j (by rw [List.length_map]; exact hj)
      cases he
      rw [List.getElem_map] at h1
      exact h1
    · rw [join_size]
      have h1 := catB_size 4096 l hz
      have h2 : l.length * 4096 ≤ 4096 * 4096 := Nat.mul_le_mul_right _ h8
      omega
    · rintro e w' ⟨rfl, hb'⟩
      exact ⟨by rw [join_cat], hb'⟩
set_option maxRecDepth 100000 in
set_option maxHeartbeats 1000000 in
theorem sbegin_any (G : GP) (gb : Nat) (nm label : ByteArray) (hm : nm.size < 140737488355328) (hl : label.size < 140737488355328) (hk : G.kind < 256) (w : World) (hG : GroupAt w gb G) :
    Calls Tryz.prog 38 #[.pointer (some ⟨gb, 0, none⟩), .string nm, .string label] w fun e w' => ∃ tb, e = .returned (.pointer (some ⟨tb, 0, none⟩)) ∧ w.heap.size ≤ tb ∧ TalkAt w' tb (beginT nm label (G.kind : Int)) ∧ Below w.heap.size w w' := by
  have H1 := Lib.hid (fun w => NewTalk_any nm hm w)
  have hz1 : (tagS talkB [nm]).size < 140737488355328 := by rw [tagS_size]; decide
  have H2 := Lib.hid (fun tb w h => Say_any tb (tagS talkB [nm]) labelB label hz1 (by decide) hl w h)
  have hz2 : (say1 (tagS talkB [nm]) labelB label).size < 140737488355328 := by rw [say1_size]; decide
  have H3 := Lib.hid (fun tb w h => Say_any tb (say1 (tagS talkB [nm]) labelB label) kindB (kindS (G.kind : Int)) hz2 (by decide) (show (1 : Nat) < 140737488355328 by decide) w h)
  unfold beginT
  unfold say1 at *
  generalize tagS talkB [nm] = t0 at *
  generalize tagS sayB [t0, labelB, label] = t1 at *
  generalize tagS sayB [t1, kindB, kindS (G.kind : Int)] = t2 at *
  clear hz1 hz2 hm hl
  unfold kindS at H3
  have HG := Lib.hid hG
  have HLT := Lib.hid hG.lt
  clear hG
  go_enter Tryz.func38, Tryz.ntmps38
  go_wp2_with fail
  refine (H1.out w).mono ?_
  rintro e wa ⟨tb, rfl, hge, ht, hb⟩
  have HGE := Lib.hid hge
  have HT := Lib.hid ht
  have HB := Lib.hid hb
  clear hge ht hb
  go_wp2_with fail
  refine (H2.out tb wa HT.out).mono ?_
  rintro e wb ⟨rfl, ht, hk2⟩
  have hkc := ((HG.out.up HB.out).keptP hk2 (show ¬ gb = tb by have := HGE.out; have := HLT.out; omega)).kind
  have HT2 := Lib.hid ht
  have HB2 := Lib.hid (Below.keptP HB.out hk2 HB.out.size (fun q hq => hq ▸ HGE.out))
  clear HT HB ht hk2 HG
  generalize G.kind = k at *
  have hk0 : (0 : Int) ≤ (k : Int) := by omega
  have hk1 : (k : Int) < 256 := by omega
  have BL := Lib.hid (Below.refl wb.heap.size wb)
  obtain ⟨w1, hq1, hb9, hz9, Hr⟩ := new1 wb 5 [.int .u8 (k : Int)]
  replace BL := hbu BL hb9
  have HZS := hz9
  clear hb9 hz9
  have r_ := Hr.out.c1
  have hcv := run_convert_bytes_arg (P := Tryz.prog) w1 150 5 Tryz.underlying150 Tryz.underlying5 wb.heap.size 0 1 1 [(k : Int)] rfl (fun i hi => by
    obtain rfl : i = 0 := by omega
    exact Hr.out.cell (i := 0) rfl) 9 Tryz.underlying9
  go_wp2_with fail
  clear hq1
  refine (H3.out tb _ (Bx.up HT2.out BL.out)).mono ?_
  rintro e wz ⟨rfl, ht, hk2⟩
  have HB3 := Lib.hid (Below.keptP (below_up HB2.out BL.out) hk2 (below_up HB2.out BL.out).size (fun q hq => hq ▸ HGE.out))
  have HT3 := Lib.hid ht
  clear ht hk2
  go_wp2_with fail
  go_ret
  exact ⟨tb, rfl, HGE.out, HT3.out, HB3.out⟩
set_option maxRecDepth 100000 in
set_option maxHeartbeats 4000000 in
theorem said_any (tb : Nat) (s : ByteArray) (ro : List RowA) (n : Nat) (hn : ro.length = n) (h64 : n ≤ 64) (hz : s.size = 32) (sh : ∀ r ∈ ro, r.l.length ≤ 8 ∧ ∀ x ∈ r.l, x.size ≤ 32) (hok : ∀ r ∈ ro, r.l.length ≤ r.c) (al : Option Addr) (cl : Nat) (w : World) (hT : TalkAt w tb s) (hC : RowsAt w al ro) (ha : ∀ x, al = some x → ¬ x.block = tb) (hr : ∀ r ∈ ro, ∀ x, r.a = some x → ¬ x.block = tb) :
    Calls Tryz.prog 40 #[.pointer (some ⟨tb, 0, none⟩), .slice al n cl] w fun e w' => e = .returned (.tuple #[]) ∧ TalkAt w' tb (sayFi s (ro.map RowA.l)) ∧ Kept (fun q => q = tb) w w' := by
  have HTK := Lib.hid (fun j (h : j < ro.length) => by
    have h1 := sayFi_take s (ro.map RowA.l) j (by rw [List.length_map]; exact h)
    rw [List.getElem_map, ← List.map_take, ← List.map_take] at h1
    exact h1)
  unfold sayF at HTK
  have HF := Lib.hid (fun s lb x hs hl hx w h => (show Calls Tryz.prog 97 #[.pointer (some ⟨tb, 0, none⟩), .string lb, .string x] w fun e w' => e = .returned (.tuple #[]) ∧ TalkAt w' tb (say1 s lb x) ∧ Kept (fun q => q = tb) w w' from Say_any tb s lb x hs hl hx w h))
  have HS1 := Lib.hid say1_size
  have HT0 := Lib.hid (show sayFi s ([].map RowA.l) = s from rfl)
  generalize sayFi s = SC at *
  generalize say1 = S1 at *
  have HC := Lib.hid hC
  have HN := Lib.hid hn
  have HZ := Lib.hid hz
  have HSH := Lib.hid sh
  have HOK := Lib.hid hok
  have HA := Lib.hid ha
  have HR := Lib.hid hr
  have HT := Lib.hid hT
  clear hC hn hz sh hok ha hr hT
  go_enter Tryz.func40, Tryz.ntmps40
  go_wp2_with fail
  go_loopw [8] (fun i wr => ∃ (j : Nat) (y : ByteArray), j ≤ n ∧ i = .int .i64 (j : Int) ∧ Hid (y.size = 32) ∧ Hid (y = SC ((ro.take j).map RowA.l)) ∧ Hid (TalkAt wr tb y) ∧ Hid (Kept (fun q => q = tb) w wr)) (fun i _ => n - (intOf i).toNat)
  case atStart => exact ⟨0, s, Nat.zero_le _, rfl, HZ, HT0.out.symm, HT, Kept.refl _ _⟩
  case round =>
    clear HT
    obtain ⟨j, y, hj, rfl, HY, HYS, HT, HK⟩ := hrel
    by_cases hjn : j < n
    · have hjl : j < ro.length := by rw [HN.out]; exact hjn
      obtain ⟨bl, ol, rfl, hbl0, hc⟩ := (HC.out.s.kept HK.out HA.out).elem RowA.cells_len (by omega) j hjl
      have hc_0 := hc 0 _ rfl
      rw [Nat.add_zero] at hc_0
      clear hc
      rw [Nat.mul_one] at hc_0
      have HAB := Lib.hid (Sl.kept (HC.out.one j hjl) HK.out (HR.out _ (List.getElem_mem hjl)))
      have HSJ := Lib.hid (HSH.out _ (List.getElem_mem hjl))
      have HOJ := Lib.hid (HOK.out _ (List.getElem_mem hjl))
      have HTJ := Lib.hid (HTK.out j hjl)
      generalize ro[j] = c at *
      generalize c.l = bs at *
      generalize c.a = ab at *
      generalize c.c = cb at *
      rw [← HYS.out] at HTJ
      have HCB := Lib.hid (cat_small HSJ.out.1 HSJ.out.2)
      have HJ1 := Lib.hid (fun w h => sJoin_any bs (by have := HSJ.out.1; omega) (fun x hx => Nat.le_trans (HSJ.out.2 x hx) (by decide)) ab cb HOJ.out w h)
      clear HYS HSJ HOJ
      go_wp2_with fail
      refine (HJ1.out wr HAB.out).mono ?_
      rintro e wz ⟨rfl, hb9⟩
      have HT9 := Lib.hid (Bx.up HT.out hb9)
      have HK9 := Lib.hid (HK.out.up hb9)
      clear hb9 HT HK HAB HJ1 hc_0
      go_wp2_with fail
      refine (HF.out y firstB (catB bs) (by have := HY.out; omega) (by decide) HCB.out wz HT9.out).mono ?_
      rintro e wy ⟨rfl, ht, hk⟩
      have HT8 := Lib.hid ht
      have HK8 := Lib.hid (HK9.out.trans hk)
      clear ht hk HT9 HK9
      go_wp2_with fail
      exact ⟨⟨j + 1, _, by omega, by go_num, Lib.hid (HS1.out _ _ _), Lib.hid HTJ.out.symm, HT8, HK8⟩, by simp [intOf]; omega⟩
    · have hj' : j = n := by omega
      subst hj'
      rw [List.take_of_length_le (by rw [HN.out]; exact Nat.le_refl _)] at HYS
      go_wp2_with fail
      go_end0
      exact ⟨rfl, by rw [← HYS.out]; exact HT.out, HK.out⟩
/-- What is known of the room of a claim's lists. -/
def CapOk (c : ClaimA) : Prop := c.bases.length ≤ c.cb ∧ c.images.length ≤ c.ci
set_option maxRecDepth 100000 in
set_option maxHeartbeats 4000000 in
theorem say_any (G : GP) (gv : Value) (tb : Nat) (s : ByteArray) (rs : List ClaimR) (n : Nat) (hn : rs.length = n) (h64 : n ≤ 64) (hz : s.size = 32) (sh : ∀ r ∈ rs, SayOk r.k ∧ CapOk r.k) (al : Option Addr) (cl : Nat) (w0 w : World) (hb : Below w0.heap.size w0 w) (htb : w0.heap.size ≤ tb) (hT : TalkAt w tb s) (hS : SetAt G w0 al rs) (hC : ∀ r ∈ rs, r.Src w0) :
    Calls Tryz.prog 39 #[.agg #[gv, .slice al n cl], .pointer (some ⟨tb, 0, none⟩)] w fun e w' => e = .returned (.tuple #[]) ∧ TalkAt w' tb (sayCl s (rs.map ClaimR.k)) ∧ Kept (fun q => q = tb) w w' := by
  have HTK := Lib.hid (fun j (h : j < rs.length) => by
    have h1 := sayCl_take s (rs.map ClaimR.k) j (by rw [List.length_map]; exact h)
    rw [List.getElem_map, ← List.map_take, ← List.map_take] at h1
    exact h1)
  unfold sayC at HTK
  have HF := Lib.hid (fun s lb x hs hl hx w h => (show Calls Tryz.prog 97 #[.pointer (some ⟨tb, 0, none⟩), .string lb, .string x] w fun e w' => e = .returned (.tuple #[]) ∧ TalkAt w' tb (say1 s lb x) ∧ Kept (fun q => q = tb) w w' from Say_any tb s lb x hs hl hx w h))
  have HS1 := Lib.hid say1_size
  have HT0 := Lib.hid (show sayCl s ([].map ClaimR.k) = s from rfl)
  generalize sayCl s = SC at *
  generalize say1 = S1 at *
  have HC := Lib.hid hC
  have HN := Lib.hid hn
  have HZ := Lib.hid hz
  have HSH := Lib.hid sh
  have HS := Lib.hid hS
  have HT := Lib.hid hT
  have HB0 := Lib.hid hb
  have HTB := Lib.hid htb
  have HLT := Lib.hid hT.lt
  clear hC hn hz sh hS hT hb htb
  go_enter Tryz.func39, Tryz.ntmps39
  go_wp2_with fail
  obtain ⟨w1, hq1, hb9, hz9, Hp⟩ := new1 w 64 [gv, .slice al n cl]
  rw [hq1]
  clear hq1
  have HB := Lib.hid hb9
  have HZS := hz9
  clear hb9 hz9
  have p_ := Hp.out.c2
  have HKP := Lib.hid ((Kept.refl (fun q => q = tb) w).up HB.out)
  have HT1 := Lib.hid (Bx.up HT.out HB.out)
  have HP0 := Lib.hid (show ¬ w.heap.size = tb by have := HLT.out; omega)
  go_wp2_with fail
  go_loopw [9] (fun i wr => ∃ (j : Nat) (y : ByteArray), j ≤ n ∧ i = .int .i64 (j : Int) ∧ Hid (y.size = 32) ∧ Hid (y = SC ((rs.take j).map ClaimR.k)) ∧ Hid (TalkAt wr tb y) ∧ Hid (Kept (fun q => q = tb) w wr)) (fun i _ => n - (intOf i).toNat)
  case atStart => exact ⟨0, s, Nat.zero_le _, rfl, HZ, HT0.out.symm, HT1, HKP⟩
  case round =>
    clear HT HT1 HKP HB Hp p_
    obtain ⟨j, y, hj, rfl, HY, HYS, HT, HK⟩ := hrel
    have HB := Lib.hid (Below.keptP HB0.out HK.out HB0.out.size (fun q hq => hq ▸ HTB.out))
    by_cases hjn : j < n
    · have hjl : j < rs.length := by rw [HN.out]; exact hjn
      obtain ⟨bl, ol, rfl, hbl0, hc⟩ := (HS.out.s.up HB.out).elem ClaimR.cells_len (by omega) j hjl
      have hc_0 := hc 0 _ rfl
      rw [Nat.add_zero] at hc_0
      have hc_1 := hc 1 _ rfl
      have hc_2 := hc 2 _ rfl
      clear hc
      have hsr := HC.out _ (List.getElem_mem hjl)
      have hsh := HSH.out _ (List.getElem_mem hjl)
      unfold SayOk CapOk at hsh
      have HSJ := Lib.hid hsh
      have HTJ := Lib.hid (HTK.out j hjl)
      generalize rs[j] = r at *
      have hq0 := hsr.c 0 _ rfl
      have hq1 := hsr.c 1 _ rfl
      rw [Nat.add_zero] at hq0
      have HPL := Lib.hid hsr.l
      have HAB := Lib.hid hsr.k.b
      have HAJ := Lib.hid hsr.k.i
      have HQ0 := Lib.hid hq0
      have HQ1 := Lib.hid hq1
      clear hsr hsh hq0 hq1
      generalize r.k.bases = bs at *
      generalize r.k.images = ims at *
      generalize r.k.ab = ab at *
      generalize r.k.ai = ai at *
      generalize r.k.cb = cb at *
      generalize r.k.ci = ci at *
      generalize r.pb = pb at *
      generalize r.po = po at *
      rw [← HYS.out] at HTJ
      have HCB := Lib.hid (cat_small HSJ.out.1.1 HSJ.out.1.2.2.1)
      have HCI := Lib.hid (cat_small HSJ.out.1.2.1 HSJ.out.1.2.2.2)
      have HJ1 := Lib.hid (fun w h => sJoin_any bs (by have := HSJ.out.1.1; omega) (fun x hx => Nat.le_trans (HSJ.out.1.2.2.1 x hx) (by decide)) ab cb HSJ.out.2.1 w h)
      have HJ2 := Lib.hid (fun w h => sJoin_any ims (by have := HSJ.out.1.2.1; omega) (fun x hx => Nat.le_trans (HSJ.out.1.2.2.2 x hx) (by decide)) ai ci HSJ.out.2.2 w h)
      have HRL := Lib.hid HT.out.lt
      clear HYS HSJ
      have BL := Lib.hid (Below.refl wr.heap.size wr)
      obtain ⟨w2, hq2, hb9, hz9, Hbc⟩ := new1 wr 154 [.pointer (some ⟨pb, po, none⟩), .slice (some ⟨r.bb, r.bo, none⟩) bs.length r.bc, .slice (some ⟨r.ib, r.io, none⟩) ims.length r.ic]
      replace BL := hbu BL hb9
      replace HZS := sz HZS hz9.out
      clear hb9 hz9
      have bc_ := Hbc.out.c3
      have hd0 := ((below_up HB.out BL.out).cell (p := ⟨pb, po, none⟩) HPL.out).trans HQ0.out
      go_wp2_with fail
      clear hq2
      refine (HJ1.out _ (HAB.out.up (below_up HB.out BL.out))).mono ?_
      rintro e wz ⟨rfl, hb9⟩
      have HBZ := Lib.hid (below_up BL.out hb9)
      have HT9 := Lib.hid (Bx.up HT.out HBZ.out)
      have HK9 := Lib.hid (HK.out.up HBZ.out)
      have HBC := Lib.hid (Bx.up Hbc.out hb9)
      have HB9 := Lib.hid (below_up HB.out HBZ.out)
      clear hb9 BL HT HK HB HJ1 Hbc
      go_wp2_with fail
      refine (HF.out y basesB (catB bs) (by have := HY.out; omega) (by decide) HCB.out wz HT9.out).mono ?_
      rintro e wy ⟨rfl, ht, hk⟩
      have HT8 := Lib.hid ht
      have HK8 := Lib.hid (HK9.out.trans hk)
      have HB8 := Lib.hid (Below.keptP HB9.out hk HB9.out.size (fun q hq => hq ▸ HTB.out))
      have Hbc := Lib.hid (HBC.out.keptP hk (show ¬ wr.heap.size = tb by have := HRL.out; omega))
      have hcc := Hbc.out.cell (i := 0) rfl
      have hd1 := (HB8.out.cell (p := ⟨pb, po + 1, none⟩) HPL.out).trans HQ1.out
      clear ht hk HT9 HK9 HB9 HBC HBZ
      go_wp2_with fail
      refine (HJ2.out wy (HAJ.out.up HB8.out)).mono ?_
      rintro e wx ⟨rfl, hb9⟩
      have HT7 := Lib.hid (Bx.up HT8.out hb9)
      have HK7 := Lib.hid (HK8.out.up hb9)
      clear hb9 HT8 HK8 HB8 HJ2
      go_wp2_with fail
      refine (HF.out (S1 y basesB (catB bs)) imagesB (catB ims) (by rw [HS1.out]; decide) (by decide) HCI.out wx HT7.out).mono ?_
      rintro e wv ⟨rfl, ht, hk⟩
      have HT6 := Lib.hid ht
      have HK6 := Lib.hid (HK7.out.trans hk)
      clear ht hk HT7 HK7
      go_wp2_with fail
      exact ⟨⟨j + 1, _, by omega, by go_num, Lib.hid (HS1.out _ _ _), Lib.hid HTJ.out.symm, HT6, HK6⟩, by simp [intOf]; omega⟩
    · have hj' : j = n := by omega
      subst hj'
      rw [List.take_of_length_le (by rw [HN.out]; exact Nat.le_refl _)] at HYS
      go_wp2_with fail
      go_end0
      exact ⟨rfl, by rw [← HYS.out]; exact HT.out, HK.out⟩
end Go.Proofs.YtdlnnkbigeiilaaGreat

/- Verify of the package sigma. Condition: the sizes and rooms of what came in. -/
namespace Go.Proofs.YtdlnnkbigeiilaaGreat
open Go.RowKit

theorem grp_kind (k : Nat) (h1 : 1 ≤ k) (h3 : k ≤ 3) : (grp k).kind = k := by
  obtain rfl | rfl | rfl : k = 1 ∨ k = 2 ∨ k = 3 := by omega
  all_goals rfl
theorem eachA_small {G : GP} {val : Nat → Nat → Nat} {ms : List Nat} {n : Nat} (hs : G.size ≤ 32) (h8 : ∀ i, ms.getD i 0 ≤ 8) {ro : List RowA} (hm : ro.map RowA.l = eachA G val ms n) : ∀ r ∈ ro, r.l.length ≤ 8 ∧ ∀ x ∈ r.l, x.size ≤ 32 := by
  intro r hr
  have h1 : r.l ∈ ro.map RowA.l := List.mem_map.2 ⟨r, hr, rfl⟩
  rw [hm] at h1
  unfold eachA at h1
  obtain ⟨i, _, hi⟩ := List.mem_map.1 h1
  rw [← hi]
  refine ⟨by rw [eachL_len]; exact h8 i, fun x hx => ?_⟩
  unfold eachL at hx
  obtain ⟨t, _, rfl⟩ := List.mem_map.1 hx
  rw [textS_size]
  exact hs
theorem lens_small {l : List ClaimA} (h : ∀ c ∈ l, c.bases.length ≤ 8) (i : Nat) : (lens l).getD i 0 ≤ 8 := by
  unfold lens
  by_cases hi : i < l.length
  · rw [List.getD_eq_getElem?_getD, List.getElem?_map, List.getElem?_eq_getElem hi]
    exact h _ (List.getElem_mem hi)
  · rw [List.getD_eq_getElem?_getD, List.getElem?_map, List.getElem?_eq_none (by omega)]
    exact Nat.zero_le _
end Go.Proofs.YtdlnnkbigeiilaaGreat

/- What Prove answers: plain. No condition. -/
namespace Go.Proofs.YtdlnnkbigeiilaaGreat
open Go.RowKit

def prvT (k : Int) (label : ByteArray) (l : List ClaimA) : ByteArray := sayCl (beginT claimsB label k) l
def prvL (k : Int) (label : ByteArray) (l : List ClaimA) (seed : ByteArray) : List ByteArray := nonceL (grp k.toNat) (say1 (prvT k label l) seedB seed) l.length
def prvF (k : Int) (label : ByteArray) (l : List ClaimA) (seed : ByteArray) : List (List ByteArray) := eachA (grp k.toNat) (valF (grp k.toNat) l (prvL k label l seed)) (lens l) l.length
def prvN (k : Int) (label : ByteArray) (l : List ClaimA) (seed : ByteArray) : Nat := chN (sayFi (prvT k label l) (prvF k label l seed)) challengeB
def prvC (k : Int) (label : ByteArray) (l : List ClaimA) (seed : ByteArray) : ByteArray := textS (prvN k label l seed % (grp k.toNat).q.m) (grp k.toNat).size
def prvA (k : Int) (label : ByteArray) (l : List ClaimA) (xs : List ByteArray) (seed : ByteArray) : List ByteArray := ansL (grp k.toNat) (prvN k label l seed) (prvL k label l seed) xs
def prvE (k : Int) (l : List ClaimA) (xs : List ByteArray) : Nat := if openK k l xs = 0 then (if holdP (grp k.toNat) l xs = true then 0 else 8) else openK k l xs
/-- A proof that a call has made. -/
def ProveR (er : Int) (C : ByteArray) (A : List ByteArray) (w : World) (e : Ending) (w' : World) : Prop :=
  Below w.heap.size w w' ∧ ∃ a c, e = .returned (.tuple #[.agg #[.string C, .slice a A.length c], .int .i64 er]) ∧ Sl w' w'.heap.size a (A.map Value.string) ∧ (a = none → c = 0) ∧ A.length ≤ c
theorem proveR_none (er : Int) {w w' : World} (h : Below w.heap.size w w') : ProveR er ⟨#[]⟩ [] w (.returned (.tuple #[.agg #[.string ⟨#[]⟩, .slice none 0 0], .int .i64 er])) w' := ⟨h, none, 0, rfl, Or.inl rfl, fun _ => rfl, Nat.le_refl _⟩
end Go.Proofs.YtdlnnkbigeiilaaGreat
