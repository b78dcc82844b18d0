/- SigmaFirsts: Holds, First and Back of anything answer what the document says. No condition. -/
import Derived.Test.YtipgjookfdkciaaZSigmaFirsts5

/- Claims hold, as the document says it. Condition: shapes and sizes of what was asked before. -/
namespace Go.Proofs.Ytipgjookfdkciaa
open Go.RowKit

def rhold2 (G : GP) (x : ByteArray) (b m : ByteArray) : Bool := decide (textS (lowN G (numOf b ^ numOf x)) G.size = m)
def rhold1 (G : GP) (k : ClaimA) (x : ByteArray) : Bool := (List.zipWith (rhold2 G x) k.bases k.images).all id
def rholdP (G : GP) (l : List ClaimA) (xs : List ByteArray) : Bool := (List.zipWith (rhold1 G) l xs).all id
/-- What the claims are known to be when they are walked. -/
structure RSh (G : GP) (l : List ClaimA) (xs : List ByteArray) : Prop where
  n64 : l.length ≤ 64
  len : ∀ c ∈ l, c.bases.length ≤ 8 ∧ c.images.length = c.bases.length
  bs : ∀ c ∈ l, ∀ s ∈ c.bases, s.size ≤ 32
  ims : ∀ c ∈ l, ∀ s ∈ c.images, s.size ≤ 32
  xl : xs.length = l.length
  xs : ∀ s ∈ xs, s.size ≤ 32

section
variable {G : GP} {aq ap : Option Addr} {cq cp : Nat}

set_option maxRecDepth 100000 in
set_option maxHeartbeats 4000000 in
theorem rHold (ok : G.Ok) (l : List ClaimA) (xs : List ByteArray) (sh : RSh G l xs) (n : Nat) (hn : l.length = n) (b : Bool) (hb : rholdP G l xs = b) (al ax : Option Addr) (cl cx : Nat) (w : World) (hG : RG w G aq ap) (hC : ClaimsAt w al l) (hX : Sl w w.heap.size ax (xs.map Value.string)) :
    Calls Try.prog 115 #[.agg #[.int .i64 (G.size : Int), .slice aq (dl G.q.m) cq, .slice ap (dl G.p.m) cp], .slice al n cl, .slice ax n cx] w (Gives (.bool b) w) := by
  have OK := Lib.hid ok
  have HG := Lib.hid hG
  have HC := Lib.hid hC
  have HX := Lib.hid hX
  have HN := Lib.hid hn
  have HBB := Lib.hid hb
  have HSH := Lib.hid sh
  have HXN := Lib.hid (show xs.length = n by rw [sh.xl, hn])
  have hn64 : n ≤ 64 := by rw [← hn]; exact sh.n64
  clear ok hG hC hX hn hb sh
  unfold Gives
  go_enter Try.func115, Try.ntmps115
  go_wp2_with fail
  obtain ⟨w1, hq1, hb9, hz9, Hbg⟩ := new1 w 98 [.int .i64 (G.size : Int), .slice aq (dl G.q.m) cq, .slice ap (dl G.p.m) cp]
  rw [hq1]
  clear hq1
  have HB := Lib.hid hb9
  have HZS := hz9
  clear hb9 hz9
  have bg_ := Hbg.out.c3
  have BL := Lib.hid (Below.refl w1.heap.size w1)
  go_wp2_with fail
  go_loopw [12] (fun i wr => ∃ j : Nat, j ≤ n ∧ i = .int .i64 j ∧ Hid (Below w1.heap.size w1 wr) ∧ Hid (((List.zipWith (rhold1 G) l xs).take j).all id = true)) (fun i _ => n - (intOf i).toNat)
  case atStart => exact ⟨0, Nat.zero_le _, rfl, BL, rfl⟩
  case round =>
    obtain ⟨j, hj, rfl, HL9, HAL⟩ := hrel
    have hb9 := HL9.out
    clear HL9
    clear bg_
    replace Hbg := Lib.hid (Hbg.out.up hb9)
    replace BL := hbu BL hb9
    replace HB := hbu HB hb9
    replace HZS := sz HZS hb9.size
    clear hb9
    have bg_ := Hbg.out.c3
    by_cases hjn : j < n
    · have hjl : j < l.length := by rw [HN.out]; exact hjn
      have hjx : j < xs.length := by rw [HXN.out]; exact hjn
      obtain ⟨bl, ol, rfl, hbl0, hc⟩ := (HC.out.s.up HB.out).elem ClaimA.cells_len (by omega) j hjl
      have hc_0 := hc 0 _ rfl
      rw [Nat.add_zero] at hc_0
      have hc_1 := hc 1 _ rfl
      clear hc
      obtain ⟨bx, ox, rfl, hbx, hcx⟩ := (HX.out.up HB.out).at j (by simpa using hjx)
      rw [List.getElem_map] at hcx
      have HAT := Lib.hid ((HC.out.up HB.out).one j hjl)
      have HSJ := Lib.hid (HSH.out.len _ (List.getElem_mem hjl))
      have HBJ := Lib.hid (HSH.out.bs _ (List.getElem_mem hjl))
      have HXJ := Lib.hid (HSH.out.xs _ (List.getElem_mem hjx))
      have HSN := Lib.hid (zalls_snoc (f := rhold1 G) hjl hjx HAL.out)
      have HNO := Lib.hid (zalls_not (f := rhold1 G) hjl hjx)
      generalize l[j] = c at *
      generalize xs[j] = x at *
      have HAB := Lib.hid HAT.out.b
      have HAJ := Lib.hid HAT.out.i
      have HSN2 := Lib.hid (show (List.zipWith (rhold2 G x) c.bases c.images).all id = true → _ from HSN.out)
      have HNO2 := Lib.hid (show (List.zipWith (rhold2 G x) c.bases c.images).all id = false → _ from HNO.out)
      clear HAT HSN HNO
      generalize c.bases = bs at *
      generalize c.images = ims at *
      generalize c.ab = ab at *
      generalize c.ai = ai at *
      generalize c.cb = cb at *
      generalize c.ci = ci at *
      have hm8 := HSJ.out.1
      have HCX := Lib.hid hcx
      clear hcx
      have BR := Lib.hid (Below.refl wr.heap.size wr)
      have o2_bg_ := bg_; clear bg_
      obtain ⟨w2, hq2, hb9, hz9, Hbc⟩ := new1 wr 70 [.slice ab bs.length cb, .slice ai ims.length ci]
      replace Hbg := Lib.hid (Hbg.out.up hb9)
      replace BL := hbu BL hb9
      replace BR := hbu BR hb9
      replace HB := hbu HB hb9
      replace HZS := sz HZS hz9.out
      clear hb9 hz9
      have bg_ := Hbg.out.c3
      have bc_ := Hbc.out.c2
      obtain ⟨wo, rfl⟩ : ∃ wo : World, wo = wr := ⟨_, rfl⟩
      have BI := Lib.hid (Below.refl w2.heap.size w2)
      go_wp2_with fail
      clear hq2 o2_bg_
      go_loopw [9] (fun i wr => ∃ t : Nat, t ≤ bs.length ∧ i = .int .i64 t ∧ Hid (Below w2.heap.size w2 wr) ∧ Hid (((List.zipWith (rhold2 G x) bs ims).take t).all id = true)) (fun i _ => bs.length - (intOf i).toNat)
      case atStart => exact ⟨0, Nat.zero_le _, rfl, BI, rfl⟩
      case round =>
        obtain ⟨t, ht, rfl, HL9, HAI⟩ := hrel
        have hb9 := HL9.out
        clear HL9
        clear bg_
        replace Hbg := Lib.hid (Hbg.out.up hb9)
        clear bc_
        replace Hbc := Lib.hid (Hbc.out.up hb9)
        replace BL := hbu BL hb9
        replace BR := hbu BR hb9
        replace BI := hbu BI hb9
        replace HB := hbu HB hb9
        replace HZS := sz HZS hb9.size
        clear hb9
        have bg_ := Hbg.out.c3
        have bc_ := Hbc.out.c2
        by_cases htm : t < bs.length
        · have hti : t < ims.length := by rw [HSJ.out.2]; exact htm
          obtain ⟨b1, o1, rfl, hb1, hc1⟩ := (HAB.out.up BR.out).at t (by simpa using htm)
          obtain ⟨b2, o2, rfl, hb2, hc2⟩ := (HAJ.out.up BR.out).at t (by simpa using hti)
          rw [List.getElem_map] at hc1 hc2
          have HTN := Lib.hid (zalls_snoc (f := rhold2 G x) htm hti HAI.out)
          have HTO := Lib.hid (zalls_not (f := rhold2 G x) htm hti)
          have HBT := Lib.hid (HBJ.out _ (List.getElem_mem htm))
          have hcx := (BR.out.cell (p := ⟨bx, ox + j, none⟩) hbx).trans HCX.out
          have hbx' := Nat.lt_of_lt_of_le hbx BR.out.size
          generalize bs[t] = y at *
          generalize ims[t] = m at *
          obtain ⟨q, hq⟩ : ∃ q, rhold2 G x y m = q := ⟨_, rfl⟩
          have hqe : ((textS (lowN G (numOf y ^ numOf x)) G.size).toList == m.toList) = q := by
            rw [← hq]
            unfold rhold2
            by_cases h : textS (lowN G (numOf y ^ numOf x)) G.size = m
            · rw [decide_eq_true h, h]; simp
            · rw [decide_eq_false h, toList_bne h]
          have HQ := Lib.hid hq
          clear hq
          go_wp2_with fail
          have HT := Lib.hid (show Below wr.heap.size wr wr.drew from (Below.refl _ _).drew)
          have hl_bg := Hbg.out.lt
          have hl_bc := Hbc.out.lt
          refine wp_region_tree (fun wq9 => ∃ E : Over wr, wq9 = E.w) ((.qs [0, 1, 2, 3, 4, 5, 6, 7, 8, 9, 12, 13, 15, 16, 17, 18, 19] (.a 10 (.a 11 (.a 14 (.qs [20] .done)))))) (by kernel_rfl) (by kernel_rfl) (fun _ _ d _ _ h => by cases d <;> exact h) ⟨⟨_, HT.out⟩, rfl⟩ ?_
          have hov_bg := fun (E : Over wr) o => E.cell (b := w.heap.size) o hl_bg
          have hov_bc := fun (E : Over wr) o => E.cell (b := wo.heap.size) o hl_bc
          have hov_b1 := fun (E : Over wr) o => E.cell (b := b1) o hb1
          have hov_b2 := fun (E : Over wr) o => E.cell (b := b2) o hb2
          have hov_bx := fun (E : Over wr) o => E.cell (b := bx) o hbx'
          simp only [Tree.qs]
          repeat (refine tree_q rfl rfl ?_; go_big_quiet_step (fail); refine wpQuiet_nil ?_)
          refine tree_a rfl (fun K hK => ?_)
          go_simp
          refine (refRead_any x (Nat.le_trans HXJ.out (by decide)) _).mono ?_
          rintro e w3 ⟨a5, c5, rfl, hn9, hb9⟩
          replace HT := Lib.hid (below_up HT.out hb9)
          replace HZS := sz HZS (show wr.heap.size ≤ w3.heap.size from HT.out.size)
          clear hb9
          have HN5 := Lib.hid hn9
          clear hn9
          refine hK _ _ ⟨⟨⟨w3, HT.out⟩, rfl⟩, ?_⟩
          clear hK K
          repeat (refine tree_q rfl rfl ?_; go_big_quiet_step (fail); refine wpQuiet_nil ?_)
          refine tree_a rfl (fun K hK => ?_)
          go_simp
          refine (rPower5 OK.out y HBT.out (Nat.le_trans (dl_of_lt _ 16 (numOf_16 x HXJ.out)) (by decide)) _ (HG.out.up (below_up HB.out HT.out)) HN5.out).mono ?_
          rintro e w4 ⟨a6, c6, rfl, hn9, hb9⟩
          replace HN5 := Lib.hid (HN5.out.up hb9)
          replace HT := Lib.hid (below_up HT.out hb9)
          replace HZS := sz HZS (show wr.heap.size ≤ w4.heap.size from HT.out.size)
          clear hb9
          have HN6 := Lib.hid hn9
          clear hn9
          refine hK _ _ ⟨⟨⟨w4, HT.out⟩, rfl⟩, ?_⟩
          clear hK K
          repeat (refine tree_q rfl rfl ?_; go_big_quiet_step (fail); refine wpQuiet_nil ?_)
          refine tree_a rfl (fun K hK => ?_)
          go_simp
          refine (rText2 OK.out _ HN6.out).mono ?_
          rintro e w5 ⟨rfl, hb9⟩
          replace HN5 := Lib.hid (HN5.out.up hb9)
          replace HN6 := Lib.hid (HN6.out.up hb9)
          replace HT := Lib.hid (below_up HT.out hb9)
          replace HZS := sz HZS (show wr.heap.size ≤ w5.heap.size from HT.out.size)
          clear hb9
          refine hK _ _ ⟨⟨⟨w5, HT.out⟩, rfl⟩, ?_⟩
          clear hK K
          repeat (refine tree_q rfl rfl ?_; go_big_quiet_step (fail); refine wpQuiet_nil ?_)
          refine tree_end ?_
          clear hov_bg hl_bg hov_bc hl_bc hov_b1 hov_b2 hov_bx
          clear bg_
          replace Hbg := Lib.hid (Hbg.out.up HT.out)
          clear bc_
          replace Hbc := Lib.hid (Hbc.out.up HT.out)
          replace BL := hbu BL HT.out
          replace BR := hbu BR HT.out
          replace BI := hbu BI HT.out
          replace HB := hbu HB HT.out
          replace HZS := sz HZS HT.out.size
          clear HT
          have bg_ := Hbg.out.c3
          have bc_ := Hbc.out.c2
          cases q
          · obtain rfl : b = false := by rw [← HBB.out]; exact HNO2.out (HTO.out HQ.out)
            go_wp2_with fail
            go_ret
            exact ⟨rfl, HB.out⟩
          · go_wp2_with fail
            go_roundw
            case rel => exact ⟨t + 1, by omega, by go_num, BI, HTN.out HQ.out⟩
            case measure => simp [intOf]; omega
        · have htm' : t = bs.length := by omega
          have HHT := Lib.hid (HSN2.out (zalls_end htm'.symm HAI.out))
          go_wp2_with fail
          go_roundw
          case rel => exact ⟨j + 1, by omega, by go_num, BL, HHT⟩
          case measure => simp [intOf]; omega
    · have hjn' : j = n := by omega
      subst hjn'
      obtain rfl : b = true := by rw [← HBB.out]; exact zalls_end HN.out HAL.out
      go_wp2_with fail
      go_ret
      exact ⟨rfl, HB.out⟩
end
end Go.Proofs.Ytipgjookfdkciaa

/- What is said first, what comes back, as the document says it. Condition: shapes and sizes of what was asked before. -/
namespace Go.Proofs.Ytipgjookfdkciaa
open Go.RowKit

/-- Lists that a call has made, none of them in the block of v. -/
def RowsOff (v : Value) (N : Nat) (w : World) (ro : List RowA) : Prop := ∀ r ∈ ro, RowA.At w r ∧ (∀ x, r.a = some x → N ≤ x.block ∧ x.block < w.heap.size ∧ v.ownBlock ≠ some x.block) ∧ (r.a = none → r.c = 0)
theorem RowsOff.up {v : Value} {N : Nat} {w w1 : World} {ro : List RowA} (h : RowsOff v N w ro) (hb : Below w.heap.size w w1) : RowsOff v N w1 ro := fun r hr =>
  let ⟨h1, h2, h3⟩ := h r hr
  ⟨RowA.At.up h1 hb, fun x hx => ⟨(h2 x hx).1, Nat.lt_of_lt_of_le (h2 x hx).2.1 hb.size, (h2 x hx).2.2⟩, h3⟩
theorem RowsOff.push {v : Value} {N g n c : Nat} {w w1 : World} {ro : List RowA} {r : RowA} (h : RowsOff v N w ro) (hr : RowsOff v N w [r]) (hk : Kept (fun q => Value.ownBlock v = some q) w w1) (hf : Value.ownBlock v = some g ∨ w.heap.size ≤ g) : RowsOff (.slice (some ⟨g, 0, none⟩) n c) N w1 (ro ++ [r]) := fun s hs => by
  obtain ⟨h1, h2, h3⟩ : RowA.At w s ∧ (∀ x, s.a = some x → N ≤ x.block ∧ x.block < w.heap.size ∧ v.ownBlock ≠ some x.block) ∧ (s.a = none → s.c = 0) := by
    rcases List.mem_append.1 hs with h9 | h9
    · exact h s h9
    · exact hr s h9
  refine ⟨Sl.kept h1 hk (fun x hx e => (h2 x hx).2.2 e), fun x hx => ⟨(h2 x hx).1, Nat.lt_of_lt_of_le (h2 x hx).2.1 hk.size, ?_⟩, h3⟩
  intro e
  have e9 : g = x.block := Option.some.inj e
  rcases hf with hf | hf
  · exact (h2 x hx).2.2 (by rw [hf, e9])
  · have := (h2 x hx).2.1
    omega
theorem RowsOff.one {v : Value} {N M t c k : Nat} {w : World} {g : Option Addr} {L : List ByteArray} (h : RowO M w 9 1 (.slice g t c) t (L.map Value.string)) (hN : N ≤ M) (hv : ∀ q, v.ownBlock = some q → q < M) (_hk : L.length = k) : RowsOff v N w [⟨g, c, L⟩] := fun s hs => by
  obtain rfl := List.mem_singleton.1 hs
  refine ⟨h.sl, fun x hx => ?_, fun hx => RowO.none_cap h hx⟩
  have hx : g = some x := hx
  obtain ⟨b, e⟩ : ∃ b, g = some ⟨b, 0, none⟩ := by
    rcases h.2 with ⟨hv, _⟩ | ⟨g0, cap, cur, hv, _⟩
    · simp only [Value.slice.injEq] at hv
      rw [hv.1] at hx
      cases hx
    · simp only [Value.slice.injEq] at hv
      exact ⟨g0, hv.1⟩
  subst e
  cases hx
  have h9 := h.lt b rfl
  refine ⟨Nat.le_trans hN h9.1, h9.2, fun e => ?_⟩
  have := hv _ e
  have h8 : M ≤ b := h9.1
  have : b < M := this
  omega
def rvalB (G : GP) (y : Nat) (l : List ClaimA) (xs : List ByteArray) (i t : Nat) : Nat := lowN G (numOf ((l.getD i claim0).bases.getD t ⟨#[]⟩) ^ numOf (xs.getD i ⟨#[]⟩)) * lowN G (numOf ((l.getD i claim0).images.getD t ⟨#[]⟩) ^ y)
theorem rvalB_eq (G : GP) (y : Nat) {l : List ClaimA} {xs : List ByteArray} {i t : Nat} (hi : i < l.length) (hx : i < xs.length) (ht : t < l[i].bases.length) (hti : t < l[i].images.length) : rvalB G y l xs i t = lowN G (numOf l[i].bases[t] ^ numOf xs[i]) * lowN G (numOf l[i].images[t] ^ y) := by
  unfold rvalB
  simp [List.getD, hi, hx, ht, hti]

section
variable {G : GP} {aq ap : Option Addr} {cq cp : Nat}
theorem rOf0 (w : World) : Calls Try.prog 83 #[.int .i64 0] w fun e w' => NumR w e w' 0 := refOf_any 0 (by decide) w
theorem rText3 (ok : G.Ok) (x : Nat) {an : Option Addr} {cn : Nat} (w : World) (hN : NumAt w an (lowN G x)) :
    Calls Try.prog 70 #[.slice an (dl (lowN G x)) cn, .int .i64 (G.size : Int)] w fun e w' => e = .returned (.string (textS (lowN G x) G.size)) ∧ Below w.heap.size w w' := rText2 ok w hN

set_option maxRecDepth 100000 in
set_option maxHeartbeats 4000000 in
theorem rBackOf (ok : G.Ok) (ch : ByteArray) (y : Nat) (hy : subQ G 0 (numOf ch) = y) (hcs : ch.size ≤ 32) (hcq : numOf ch ≤ G.q.m) (l : List ClaimA) (xs : List ByteArray) (sh : RSh G l xs) (n : Nat) (hn : l.length = n) (al ax : Option Addr) (cl cx : Nat) (w : World) (hG : RG w G aq ap) (hC : ClaimsAt w al l) (hX : Sl w w.heap.size ax (xs.map Value.string)) :
    Calls Try.prog 119 #[.agg #[.int .i64 (G.size : Int), .slice aq (dl G.q.m) cq, .slice ap (dl G.p.m) cp], .slice al n cl, .string ch, .slice ax n cx] w (RowsR (eachA G (rvalB G y l xs) (lens l) n) w) := by
  have OK := Lib.hid ok
  have HG := Lib.hid hG
  have HC := Lib.hid hC
  have HX := Lib.hid hX
  have HN := Lib.hid hn
  have HSH := Lib.hid sh
  have HCS := Lib.hid hcs
  have HCQ := Lib.hid hcq
  have HYE := Lib.hid hy
  have HXN := Lib.hid (show xs.length = n by rw [sh.xl, hn])
  have hn64 : n ≤ 64 := by rw [← hn]; exact sh.n64
  have HLG := Lib.hid (show ∀ i (hi : i < l.length), (lens l).getD i 0 = l[i].bases.length from fun i hi => by unfold lens; simp [List.getD, hi])
  clear ok hG hC hX hn sh hcs hcq hy
  go_enter Try.func119, Try.ntmps119
  go_wp2_with fail
  obtain ⟨w1, hq1, hb9, hz9, Hbg⟩ := new1 w 98 [.int .i64 (G.size : Int), .slice aq (dl G.q.m) cq, .slice ap (dl G.p.m) cp]
  rw [hq1]
  clear hq1
  have HB := Lib.hid hb9
  have HZS := hz9
  clear hb9 hz9
  have bg_ := Hbg.out.c3
  go_wp2_with fail
  have HT := Lib.hid (show Below w1.heap.size w1 w1.drew from (Below.refl _ _).drew)
  have hl_bg := Hbg.out.lt
  refine wp_region_tree (fun wq9 => ∃ E : Over w1, wq9 = E.w) ((.qs [0, 2] (.a 1 (.a 3 (.a 4 (.qs [5] .done)))))) (by kernel_rfl) (by kernel_rfl) (fun _ _ d _ _ h => by cases d <;> exact h) ⟨⟨_, HT.out⟩, rfl⟩ ?_
  have hov_bg := fun (E : Over w1) o => E.cell (b := w.heap.size) o hl_bg
  simp only [Tree.qs]
  repeat (refine tree_q rfl rfl ?_; go_big_quiet_step (fail); refine wpQuiet_nil ?_)
  refine tree_a rfl (fun K hK => ?_)
  go_simp
  refine (rOf0 _).mono ?_
  rintro e w2 ⟨a1, c1, rfl, hn9, hb9⟩
  replace HT := Lib.hid (below_up HT.out hb9)
  replace HZS := sz HZS (show w1.heap.size ≤ w2.heap.size from HT.out.size)
  clear hb9
  have HN1 := Lib.hid hn9
  clear hn9
  refine hK _ _ ⟨⟨⟨w2, HT.out⟩, rfl⟩, ?_⟩
  clear hK K
  repeat (refine tree_q rfl rfl ?_; go_big_quiet_step (fail); refine wpQuiet_nil ?_)
  refine tree_a rfl (fun K hK => ?_)
  go_simp
  refine (refRead_any ch (Nat.le_trans HCS.out (by decide)) _).mono ?_
  rintro e w3 ⟨a2, c2, rfl, hn9, hb9⟩
  replace HN1 := Lib.hid (HN1.out.up hb9)
  replace HT := Lib.hid (below_up HT.out hb9)
  replace HZS := sz HZS (show w1.heap.size ≤ w3.heap.size from HT.out.size)
  clear hb9
  have HN2 := Lib.hid hn9
  clear hn9
  refine hK _ _ ⟨⟨⟨w3, HT.out⟩, rfl⟩, ?_⟩
  clear hK K
  repeat (refine tree_q rfl rfl ?_; go_big_quiet_step (fail); refine wpQuiet_nil ?_)
  refine tree_a rfl (fun K hK => ?_)
  go_simp
  refine (rSubQ OK.out (show 0 < DD ^ 16 by decide) HCQ.out _ (HG.out.up (below_up HB.out HT.out)) HN1.out HN2.out).mono ?_
  rintro e w4 ⟨a3, c3, rfl, hn9, hb9⟩
  replace HN1 := Lib.hid (HN1.out.up hb9)
  replace HN2 := Lib.hid (HN2.out.up hb9)
  replace HT := Lib.hid (below_up HT.out hb9)
  replace HZS := sz HZS (show w1.heap.size ≤ w4.heap.size from HT.out.size)
  clear hb9
  have HN3 := Lib.hid hn9
  clear hn9
  refine hK _ _ ⟨⟨⟨w4, HT.out⟩, rfl⟩, ?_⟩
  clear hK K
  repeat (refine tree_q rfl rfl ?_; go_big_quiet_step (fail); refine wpQuiet_nil ?_)
  refine tree_end ?_
  clear hov_bg hl_bg
  clear bg_
  replace Hbg := Lib.hid (Hbg.out.up HT.out)
  replace HB := hbu HB HT.out
  replace HZS := sz HZS HT.out.size
  clear HT
  have bg_ := Hbg.out.c3
  have BL := Lib.hid (Below.refl w4.heap.size w4)
  have HY := HN3
  clear HN3
  have HYD := Lib.hid (Nat.le_trans (dl_of_lt _ 16 (q_16 OK.out (subQ_lt OK.out 0 (numOf ch)))) (by decide) : dl (subQ G 0 (numOf ch)) ≤ 65536)
  rw [HYE.out] at HY HYD ⊢
  clear HYE
  go_wp2_with fail
  go_loopw [22, 10] (fun i v wr => ∃ (j : Nat) (g : Option Addr) (c9 : Nat) (ro : List RowA), j ≤ n ∧ i = .int .i64 j ∧ v = .slice g j c9 ∧ Hid (ro.map RowA.l = eachA G (rvalB G y l xs) (lens l) j) ∧ Hid (Below w4.heap.size w4 wr) ∧ Hid (RowO w4.heap.size wr 22 1 (.slice g j c9) j (ro.flatMap RowA.cells)) ∧ Hid (RowsOff (.slice g j c9) w4.heap.size wr ro)) (fun i _ _ => n - (intOf i).toNat)
  case atStart => exact ⟨0, none, 0, [], Nat.zero_le _, rfl, rfl, rfl, BL, RowO.nil, fun _ h => by cases h⟩
  case round =>
    obtain ⟨j, g, c9, ro, hj, rfl, rfl, HRM, HL9, Hr, HRN⟩ := hrel
    have hb9 := HL9.out
    clear HL9
    clear bg_
    replace Hbg := Lib.hid (Hbg.out.up hb9)
    replace HN1 := Lib.hid (HN1.out.up hb9)
    replace HN2 := Lib.hid (HN2.out.up hb9)
    replace BL := hbu BL hb9
    replace HB := hbu HB hb9
    replace HZS := sz HZS hb9.size
    clear hb9
    have bg_ := Hbg.out.c3
    by_cases hjn : j < n
    · have hjl : j < l.length := by rw [HN.out]; exact hjn
      have hjx : j < xs.length := by rw [HXN.out]; exact hjn
      obtain ⟨bl, ol, rfl, hbl0, hc⟩ := (HC.out.s.up HB.out).elem ClaimA.cells_len (by omega) j hjl
      have hc_0 := hc 0 _ rfl
      rw [Nat.add_zero] at hc_0
      have hc_1 := hc 1 _ rfl
      clear hc
      obtain ⟨bx, ox, rfl, hbx, hcx⟩ := (HX.out.up HB.out).at j (by simpa using hjx)
      rw [List.getElem_map] at hcx
      have HAT := Lib.hid ((HC.out.up HB.out).one j hjl)
      have HSJ := Lib.hid (HSH.out.len _ (List.getElem_mem hjl))
      have HBJ := Lib.hid (HSH.out.bs _ (List.getElem_mem hjl))
      have HIJ := Lib.hid (HSH.out.ims _ (List.getElem_mem hjl))
      have HXJ := Lib.hid (HSH.out.xs _ (List.getElem_mem hjx))
      have HMM := Lib.hid (HLG.out j hjl)
      have HVE := Lib.hid (fun t (ht : t < l[j].bases.length) (hti : t < l[j].images.length) => rvalB_eq G y hjl hjx ht hti)
      generalize l[j] = c at *
      generalize xs[j] = x at *
      have HAB := Lib.hid HAT.out.b
      have HAJ := Lib.hid HAT.out.i
      clear HAT
      generalize c.bases = bs at *
      generalize c.images = ims at *
      generalize c.ab = ab at *
      generalize c.ai = ai at *
      generalize c.cb = cb at *
      generalize c.ci = ci at *
      have hm8 := HSJ.out.1
      have HCX := Lib.hid hcx
      clear hcx
      have BR := Lib.hid (Below.refl wr.heap.size wr)
      have o5_bg_ := bg_; clear bg_
      obtain ⟨w5, hq5, hb9, hz9, Hbc⟩ := new1 wr 70 [.slice ab bs.length cb, .slice ai ims.length ci]
      replace Hbg := Lib.hid (Hbg.out.up hb9)
      replace Hr := Lib.hid (Hr.out.up hb9)
      replace HN1 := Lib.hid (HN1.out.up hb9)
      replace HN2 := Lib.hid (HN2.out.up hb9)
      replace BL := hbu BL hb9
      replace BR := hbu BR hb9
      replace HB := hbu HB hb9
      replace HZS := sz HZS hz9.out
      clear hb9 hz9
      have bg_ := Hbg.out.c3
      have bc_ := Hbc.out.c2
      have hro := Hr.out.lt
      obtain ⟨wo, rfl⟩ : ∃ wo : World, wo = wr := ⟨_, rfl⟩
      have BI := Lib.hid (Below.refl w5.heap.size w5)
      go_wp2_with fail
      clear hq5 o5_bg_
      go_loopw [14, 13] (fun i v wr => ∃ (t : Nat) (g9 : Option Addr) (cz : Nat), t ≤ bs.length ∧ i = .int .i64 t ∧ v = .slice g9 t cz ∧ Hid (Below w5.heap.size w5 wr) ∧ Hid (RowO w5.heap.size wr 9 1 (.slice g9 t cz) t ((eachL G (rvalB G y l xs) j t).map Value.string))) (fun i _ _ => bs.length - (intOf i).toNat)
      case atStart => exact ⟨0, none, 0, Nat.zero_le _, rfl, rfl, BI, RowO.nil⟩
      case round =>
        obtain ⟨t, g9, cz, ht, rfl, rfl, HL9, Hq⟩ := hrel
        have hb9 := HL9.out
        clear HL9
        clear bg_
        replace Hbg := Lib.hid (Hbg.out.up hb9)
        clear bc_
        replace Hbc := Lib.hid (Hbc.out.up hb9)
        replace Hr := Lib.hid (Hr.out.up hb9)
        replace HN1 := Lib.hid (HN1.out.up hb9)
        replace HN2 := Lib.hid (HN2.out.up hb9)
        replace BL := hbu BL hb9
        replace BR := hbu BR hb9
        replace BI := hbu BI hb9
        replace HB := hbu HB hb9
        replace HZS := sz HZS hb9.size
        clear hb9
        have bg_ := Hbg.out.c3
        have bc_ := Hbc.out.c2
        by_cases htm : t < bs.length
        · have hti : t < ims.length := by rw [HSJ.out.2]; exact htm
          obtain ⟨b1, o1, rfl, hb10, hb1, hc1⟩ := HAB.out.atUp BR.out t (by simpa using htm)
          obtain ⟨b2, o2, rfl, hb20, hb2, hc2⟩ := HAJ.out.atUp BR.out t (by simpa using hti)
          have HB10 := Lib.hid hb10
          have HB20 := Lib.hid hb20
          have HBX0 := Lib.hid hbx
          replace HZS := sz HZS HB10.out
          replace HZS := sz HZS HB20.out
          replace HZS := sz HZS HBX0.out
          clear hb10 hb20
          rw [List.getElem_map] at hc1 hc2
          have HBT := Lib.hid (HBJ.out _ (List.getElem_mem htm))
          have HIT := Lib.hid (HIJ.out _ (List.getElem_mem hti))
          have HVT := Lib.hid (HVE.out t htm hti)
          have hcx := (BR.out.cell (p := ⟨bx, ox + j, none⟩) hbx).trans HCX.out
          have hbx' := Nat.lt_of_lt_of_le hbx BR.out.size
          generalize bs[t] = z at *
          generalize ims[t] = m at *
          clear hc_0 hc_1
          go_wp2_with fail
          have HT := Lib.hid (show Below wr.heap.size wr wr.drew from (Below.refl _ _).drew)
          have hl_bg := Hbg.out.lt
          have hl_bc := Hbc.out.lt
          refine wp_region_tree (fun wq9 => ∃ E : But wr (Value.ownBlock (.slice g9 t cz)), wq9 = E.w) ((.qs [0, 1, 2, 3, 4, 5, 6, 7, 8, 9, 10, 11, 14, 15, 16, 17, 18, 19, 20, 23, 24] (.a 12 (.a 13 (.a 21 (.a 22 (.a 25 (.a 26 (.a 27 (.qs [28] .done)))))))))) (by kernel_rfl) (by kernel_rfl) (fun _ _ d _ _ h => by cases d <;> exact h) ⟨⟨_, ((below_grown HT.out).but _)⟩, rfl⟩ ?_
          have hov_bg := fun (E : But wr (Value.ownBlock (.slice g9 t cz))) o => E.cell (b := w.heap.size) o hl_bg (by intro e9; have a1 := Hq.out.lt _ e9; have g0 := HZS.out; omega)
          have hov_bc := fun (E : But wr (Value.ownBlock (.slice g9 t cz))) o => E.cell (b := wo.heap.size) o hl_bc (by intro e9; have a1 := Hq.out.lt _ e9; have g0 := HZS.out; omega)
          have hov_b1 := fun (E : But wr (Value.ownBlock (.slice g9 t cz))) o => E.cell (b := b1) o hb1 (by intro e9; have a1 := Hq.out.lt _ e9; have g0 := HZS.out; omega)
          have hov_b2 := fun (E : But wr (Value.ownBlock (.slice g9 t cz))) o => E.cell (b := b2) o hb2 (by intro e9; have a1 := Hq.out.lt _ e9; have g0 := HZS.out; omega)
          have hov_bx := fun (E : But wr (Value.ownBlock (.slice g9 t cz))) o => E.cell (b := bx) o hbx' (by intro e9; have a1 := Hq.out.lt _ e9; have g0 := HZS.out; omega)
          simp only [Tree.qs]
          repeat (refine tree_q rfl rfl ?_; go_big_quiet_step (fail); refine wpQuiet_nil ?_)
          refine tree_a rfl (fun K hK => ?_)
          go_simp
          refine (refRead_any x (Nat.le_trans HXJ.out (by decide)) _).mono ?_
          rintro e w6 ⟨a5, c5, rfl, hn9, hb9⟩
          replace HT := Lib.hid (below_up HT.out hb9)
          replace HZS := sz HZS (show wr.heap.size ≤ w6.heap.size from HT.out.size)
          clear hb9
          have HN5 := Lib.hid hn9
          clear hn9
          refine hK _ _ ⟨⟨⟨w6, ((below_grown HT.out).but _)⟩, rfl⟩, ?_⟩
          clear hK K
          repeat (refine tree_q rfl rfl ?_; go_big_quiet_step (fail); refine wpQuiet_nil ?_)
          refine tree_a rfl (fun K hK => ?_)
          go_simp
          refine (rPower5 OK.out z HBT.out (Nat.le_trans (dl_of_lt _ 16 (numOf_16 x HXJ.out)) (by decide)) _ (HG.out.up (below_up HB.out HT.out)) HN5.out).mono ?_
          rintro e w7 ⟨a6, c6, rfl, hn9, hb9⟩
          replace HN5 := Lib.hid (HN5.out.up hb9)
          replace HT := Lib.hid (below_up HT.out hb9)
          replace HZS := sz HZS (show wr.heap.size ≤ w7.heap.size from HT.out.size)
          clear hb9
          have HN6 := Lib.hid hn9
          clear hn9
          refine hK _ _ ⟨⟨⟨w7, ((below_grown HT.out).but _)⟩, rfl⟩, ?_⟩
          clear hK K
          repeat (refine tree_q rfl rfl ?_; go_big_quiet_step (fail); refine wpQuiet_nil ?_)
          refine tree_a rfl (fun K hK => ?_)
          go_simp
          refine (rPower5 OK.out m HIT.out HYD.out _ (HG.out.up (below_up HB.out HT.out)) (HY.out.up (below_up BL.out HT.out))).mono ?_
          rintro e w8 ⟨a7, c7, rfl, hn9, hb9⟩
          replace HN5 := Lib.hid (HN5.out.up hb9)
          replace HN6 := Lib.hid (HN6.out.up hb9)
          replace HT := Lib.hid (below_up HT.out hb9)
          replace HZS := sz HZS (show wr.heap.size ≤ w8.heap.size from HT.out.size)
          clear hb9
          have HN7 := Lib.hid hn9
          clear hn9
          refine hK _ _ ⟨⟨⟨w8, ((below_grown HT.out).but _)⟩, rfl⟩, ?_⟩
          clear hK K
          repeat (refine tree_q rfl rfl ?_; go_big_quiet_step (fail); refine wpQuiet_nil ?_)
          refine tree_a rfl (fun K hK => ?_)
          go_simp
          refine (rProd OK.out (lowN_16 OK.out _) (lowN_16 OK.out _) _ (HG.out.up (below_up HB.out HT.out)) HN6.out HN7.out).mono ?_
          rintro e w9 ⟨a8, c8, rfl, hn9, hb9⟩
          replace HN5 := Lib.hid (HN5.out.up hb9)
          replace HN6 := Lib.hid (HN6.out.up hb9)
          replace HN7 := Lib.hid (HN7.out.up hb9)
          replace HT := Lib.hid (below_up HT.out hb9)
          replace HZS := sz HZS (show wr.heap.size ≤ w9.heap.size from HT.out.size)
          clear hb9
          have HN8 := Lib.hid hn9
          clear hn9
          refine hK _ _ ⟨⟨⟨w9, ((below_grown HT.out).but _)⟩, rfl⟩, ?_⟩
          clear hK K
          repeat (refine tree_q rfl rfl ?_; go_big_quiet_step (fail); refine wpQuiet_nil ?_)
          refine tree_a rfl (fun K hK => ?_)
          go_simp
          refine (rText2 OK.out _ HN8.out).mono ?_
          rintro e w10 ⟨rfl, hb9⟩
          replace HN5 := Lib.hid (HN5.out.up hb9)
          replace HN6 := Lib.hid (HN6.out.up hb9)
          replace HN7 := Lib.hid (HN7.out.up hb9)
          replace HN8 := Lib.hid (HN8.out.up hb9)
          replace HT := Lib.hid (below_up HT.out hb9)
          replace HZS := sz HZS (show wr.heap.size ≤ w10.heap.size from HT.out.size)
          clear hb9
          refine hK _ _ ⟨⟨⟨w10, ((below_grown HT.out).but _)⟩, rfl⟩, ?_⟩
          clear hK K
          repeat (refine tree_q rfl rfl ?_; go_big_quiet_step (fail); refine wpQuiet_nil ?_)
          clear hov_bg hl_bg hov_bc hl_bc hov_b1 hov_b2 hov_bx
          refine tree_a rfl (fun K hK => ?_)
          go_simp
          refine hK _ _ ⟨⟨⟨_, (below_grown (HT.out.alloc HT.out.size _)).but _⟩, rfl⟩, ?_⟩
          clear hK K
          obtain ⟨i9, hi9, hz90, hz91, hz92⟩ := info_parts infoStr
          have HG1 := Lib.hid ((below_grown HT.out).but (Value.ownBlock (.slice g9 t cz)))
          clear bg_
          replace Hbg := Lib.hid (Hbg.out.up HT.out)
          clear bc_
          replace Hbc := Lib.hid (Hbc.out.up HT.out)
          replace Hr := Lib.hid (Hr.out.up HT.out)
          replace Hq := Lib.hid (Hq.out.up HT.out)
          replace HN1 := Lib.hid (HN1.out.up HT.out)
          replace HN2 := Lib.hid (HN2.out.up HT.out)
          replace BL := hbu BL HT.out
          replace BR := hbu BR HT.out
          replace BI := hbu BI HT.out
          replace HB := hbu HB HT.out
          replace HZS := sz HZS HT.out.size
          refine tree_a rfl (fun K hK => ?_)
          refine step_pushR (w5.heap.size) w10 (by have g0 := HZS.out; omega) rfl _ _ 22 rfl 9 i9 _ 1 16 Try.underlying22 hi9 hz90 hz91 hz92 rfl (by omega) ((.slice g9 t cz)) (t) (((eachL G (rvalB G y l xs) j t).map Value.string)) rfl Hq.out _ _ _ rfl rfl rfl (by simp [Value.oneCell']) (by omega) (by unfold maxLen; omega) ?_
          intro g11 c11 w11 hown9 hg9
          have HGR := Lib.hid (HG1.out.trans hg9)
          have hb9 := Below.grown HB.out hg9 (by have g0 := HZS.out; omega) (fun q hq => Nat.le_trans (show w.heap.size ≤ w5.heap.size by have g0 := HZS.out; omega) (Hq.out.lt q hq).1)
          replace Hbg := Lib.hid (Hbg.out.grown hg9 (fun e9 => by have a1 := Hq.out.lt _ e9; have g0 := HZS.out; omega))
          replace Hbc := Lib.hid (Hbc.out.grown hg9 (fun e9 => by have a1 := Hq.out.lt _ e9; have g0 := HZS.out; omega))
          clear HN1 HN2 HN5 HN6 HN7 HN8
          replace BL := Lib.hid (Below.grown BL.out hg9 (by have g0 := HZS.out; omega) (fun q hq => Nat.le_trans (show w4.heap.size ≤ w5.heap.size by have g0 := HZS.out; omega) (Hq.out.lt q hq).1))
          replace BR := Lib.hid (Below.grown BR.out hg9 (by have g0 := HZS.out; omega) (fun q hq => Nat.le_trans (show wo.heap.size ≤ w5.heap.size by have g0 := HZS.out; omega) (Hq.out.lt q hq).1))
          replace BI := Lib.hid (Below.grown BI.out hg9 (by have g0 := HZS.out; omega) (fun q hq => Nat.le_trans (show w5.heap.size ≤ w5.heap.size by have g0 := HZS.out; omega) (Hq.out.lt q hq).1))
          replace HZS := sz HZS hg9.size
          clear Hq HB HT HG1
          have Hq := Lib.hid hown9
          have HB := Lib.hid hb9
          clear hb9 hown9 hg9 hi9 hz90 hz91 hz92
          refine hK _ _ ⟨⟨⟨w11, HGR.out⟩, rfl⟩, ?_⟩
          clear hK K HGR
          have bg_ := Hbg.out.c3
          have bc_ := Hbc.out.c2
          try simp only [Act.put, List.setIfInBounds_toArray, List.set_cons_succ, List.set_cons_zero]
          repeat (refine tree_q rfl rfl ?_; go_big_quiet_step (fail); refine wpQuiet_nil ?_)
          refine tree_end ?_
          go_wp2_with fail
          go_roundw
          case rel => exact ⟨t + 1, _, _, by omega, by go_num, rfl, BI, Hq.out.eq (by rw [eachL_snoc, HVT.out]) rfl⟩
          case measure => simp [intOf]; omega
        · have htm' : t = bs.length := by omega
          subst htm'
          have HOFF := Lib.hid (HRN.out.up BR.out)
          have HONE := Lib.hid (RowsOff.one (v := .slice g j c9) (N := w4.heap.size) (k := bs.length) Hq.out (by have a1 := HZS.out; have a2 := HZS.out; omega) (fun q9 h9 => (hro q9 h9).2) (eachL_len G _ j _))
          go_upto_region 11 with fail
          clear bc_
          clear Hbc
          have HKP := Lib.hid (Kept.refl (fun q9 => Value.ownBlock (.slice g j c9) = some q9) wr)
          obtain ⟨i9, hi9, hz90, hz91, hz92⟩ := info_parts infoStrs
          go_wp2_with (at_builtin; refine wpList_pushF (w4.heap.size) wr (by have g0 := HZS.out; omega) rfl _ _ 25 rfl 22 i9 _ 1 24 Try.underlying25 hi9 hz90 hz91 hz92 rfl (by omega) ((.slice g j c9)) (j) ((ro.flatMap RowA.cells)) rfl Hr.out _ _ _ rfl rfl rfl (by simp [Value.oneCell']) (by omega) (by unfold maxLen; omega) ?_)
          intro g6 c6 w6 hown9 hg9 hf9
          clear bg_
          have hb9 := Below.grown HB.out hg9 (by have g0 := HZS.out; omega) (fun q hq => Nat.le_trans (show w.heap.size ≤ w4.heap.size by have g0 := HZS.out; omega) (Hr.out.lt q hq).1)
          replace Hbg := Lib.hid (Hbg.out.grown hg9 (fun e9 => by have a1 := Hr.out.lt _ e9; have g0 := HZS.out; omega))
          clear HN1 HN2
          replace BL := Lib.hid (Below.grown BL.out hg9 (by have g0 := HZS.out; omega) (fun q hq => Nat.le_trans (show w4.heap.size ≤ w4.heap.size by have g0 := HZS.out; omega) (Hr.out.lt q hq).1))
          replace HKP := Lib.hid (Kept.grown HKP.out hg9 (fun q hq => Or.inr hq))
          replace HZS := sz HZS hg9.size
          clear Hr HB
          have Hr := Lib.hid hown9
          have HB := Lib.hid hb9
          clear hb9 hown9 hg9 hi9 hz90 hz91 hz92
          have bg_ := Hbg.out.c3
          have HRP := Lib.hid (fun (n9 c9 : Nat) => RowsOff.push (n := n9) (c := c9) HOFF.out HONE.out HKP.out hf9)
          go_wp2_with fail
          go_roundw
          case rel => exact ⟨j + 1, _, _, _, by omega, by go_num, rfl, Lib.hid (by rw [List.map_append, HRM.out, eachA_snoc, HMM.out]; rfl), BL, Hr.out.eq (by rw [List.flatMap_append]; simp [RowA.cells, eachL_len]) rfl, HRP.out _ _⟩
          case measure => simp [intOf]; omega
    · have hjn' : j = n := by omega
      subst hjn'
      go_wp2_with fail
      go_ret
      exact ⟨HB.out, g, c9, ro, by rw [eachA_len]; rfl, HRM.out, ⟨Hr.out.sl, fun r hr => (HRN.out r hr).1⟩, fun r hr => (HRN.out r hr).2.2⟩
end
end Go.Proofs.Ytipgjookfdkciaa

/- Holds, First, Back, as the document says them. Condition: the lists that memory can hold. -/
namespace Go.Proofs.Ytipgjookfdkciaa
open Go.RowKit

theorem rsh_of {G : GP} (ok : G.Ok) {l : List ClaimA} {xs : List ByteArray} (h1 : wrongE G l = 0) (h2 : scE G l.length xs = 0) : RSh G l xs := by
  obtain ⟨hs, he⟩ := wrong_ok h1
  have hs := shape_ok hs
  have hx : xs.length = l.length ∧ xs.all (isSc G.q.m G.size) = true := by
    unfold scE at h2
    by_cases h : xs.length = l.length
    · rw [if_pos h] at h2
      by_cases g : xs.all (isSc G.q.m G.size) = true
      · exact ⟨h, g⟩
      · rw [if_neg g] at h2; cases h2
    · rw [if_neg h] at h2; cases h2
  have hc : ∀ c ∈ l, c.bases.all (isEl G.q.m G.size) = true ∧ c.images.all (isEl G.q.m G.size) = true := fun c hc => by
    have h9 : (c.bases.all (isEl G.q.m G.size) && c.images.all (isEl G.q.m G.size)) = true := List.all_eq_true.1 he c hc
    exact (Bool.and_eq_true _ _).mp h9
  exact ⟨hs.2.1, fun c h => (hs.2.2 c h).2, fun c h s g => el_len ok (List.all_eq_true.1 (hc c h).1 s g), fun c h s g => el_len ok (List.all_eq_true.1 (hc c h).2 s g), hx.1, fun s g => sc_len ok (List.all_eq_true.1 hx.2 s g)⟩
theorem sc_lens {G : GP} {l : List ClaimA} {xs : List ByteArray} (h2 : scE G l.length xs = 0) : xs.length = l.length := by
  unfold scE at h2
  by_cases h : xs.length = l.length
  · exact h
  · rw [if_neg h] at h2; cases h2

section
variable {G : GP} {aq ap : Option Addr} {cq cp : Nat}
theorem rWrongSc_e (ok : G.Ok) (n : Nat) (l : List ByteArray) (z : Nat) (hz : scE G n l = z) (al : Option Addr) (cl : Nat) (hlen : l.length ≤ 8796093022207) (w : World) (hG : RG w G aq ap) (hS : Sl w w.heap.size al (l.map Value.string)) :
    Calls Try.prog 65 #[.agg #[.int .i64 (G.size : Int), .slice aq (dl G.q.m) cq, .slice ap (dl G.p.m) cp], .int .i64 (n : Int), .slice al l.length cl] w (Gives (.int .i64 (z : Int)) w) := by
  subst hz
  exact rWrongSc ok n l al cl hlen w hG hS
theorem rWrongSc_n (ok : G.Ok) (n : Nat) (l : List ByteArray) (hn : l.length = n) (z : Nat) (hz : scE G n l = z) (al : Option Addr) (cl : Nat) (hlen : l.length ≤ 8796093022207) (w : World) (hG : RG w G aq ap) (hS : Sl w w.heap.size al (l.map Value.string)) :
    Calls Try.prog 65 #[.agg #[.int .i64 (G.size : Int), .slice aq (dl G.q.m) cq, .slice ap (dl G.p.m) cp], .int .i64 (n : Int), .slice al n cl] w (Gives (.int .i64 (z : Int)) w) := by
  have h := rWrongSc_e (aq := aq) (ap := ap) (cq := cq) (cp := cp) ok n l z hz al cl hlen w hG hS
  rwa [hn] at h
end

set_option maxRecDepth 100000 in
set_option maxHeartbeats 2000000 in
theorem rHolds_none (k : Int) (hk : ¬ (1 ≤ k ∧ k ≤ 3)) (p q : Value) (w : World) : Calls Try.prog 45 #[.int .i64 k, p, q] w (Gives (.bool false) w) := by
  unfold Gives
  go_enter Try.func45, Try.ntmps45
  go_wp2_with fail
  refine (refKind_none k hk w).mono ?_
  rintro e w1 ⟨rfl, hb9⟩
  have HB := Lib.hid hb9
  have HZS := Lib.hid hb9.size
  clear hb9
  obtain ⟨w2, hq2, hb9, hz9, Hbg⟩ := new1 w1 98 [.int .i64 0, .slice none 0 0, .slice none 0 0]
  replace HB := hbu HB hb9
  replace HZS := sz HZS hz9.out
  clear hb9 hz9
  have bg_ := Hbg.out.c3
  have f3_bg := Hbg.out.frozen
  have o3_bg_ := bg_; clear bg_
  obtain ⟨w3, hq3, hg9, hz9, hx9⟩ := put3 Hbg 0 (.int .i64 0) 1 (.slice none 0 0) 2 (.slice none 0 0) [.int .i64 0, .slice none 0 0, .slice none 0 0] rfl
  replace HB := hbg HB hg9 (by have g0 := HZS.out; omega)
  replace HZS := sz HZS hz9.out
  replace Hbg := hx9
  clear hx9 hg9 hz9
  have bg_ := Hbg.out.c3
  go_wp2_with fail
  clear hq3 o3_bg_ f3_bg hq2
  go_ret
  exact ⟨rfl, HB.out⟩

set_option maxRecDepth 100000 in
set_option maxHeartbeats 2000000 in
theorem rHolds_some (k : Nat) (h1 : 1 ≤ k) (h3 : k ≤ 3) (l : List ClaimA) (n : Nat) (hn : l.length = n) (xs : List ByteArray) (hm : xs.length ≤ 8796093022207) (b : Bool) (hb : (decide (openE (grp k) l xs = 0) && rholdP (grp k) l xs) = b) (al ax : Option Addr) (cl cx : Nat) (w : World) (hC : ClaimsAt w al l) (hS : Sl w w.heap.size ax (xs.map Value.string)) :
    Calls Try.prog 45 #[.int .i64 (k : Int), .slice al n cl, .slice ax xs.length cx] w (Gives (.bool b) w) := by
  have OK := Lib.hid (grp_ok k h1 h3)
  have hs0 : 0 < (grp k).size := by have h9 := of_decide_eq_true (size_gt0 k h1 h3); omega
  have HC := Lib.hid hC
  have HS := Lib.hid hS
  have HN := Lib.hid hn
  have HBB := Lib.hid hb
  clear hC hS hn hb
  unfold Gives
  obtain ⟨z1, hz1⟩ : ∃ z, wrongE (grp k) l = z := ⟨_, rfl⟩
  have HZ1 := Lib.hid hz1
  clear hz1
  by_cases g1 : z1 = 0
  case neg =>
    obtain rfl : b = false := by rw [← HBB.out]; unfold openE; rw [if_pos (by rw [HZ1.out]; exact g1), HZ1.out, decide_eq_false g1]; rfl
    have hd : ((z1 : Int) == 0) = false := by simp; omega
    clear g1
    go_enter Try.func45, Try.ntmps45
    go_wp2_with fail
    refine (refKind_some k h1 h3 w).mono ?_
    rintro e w1 ⟨aq, cq, ap, cp, rfl, hq9, hp9, hb9⟩
    have HB := Lib.hid hb9
    have HZS := Lib.hid hb9.size
    have HRG := Lib.hid (RG.mk (G := grp k) hq9 hp9)
    clear hq9 hp9
    clear hb9
    have HK := Lib.hid (Below.refl w1.heap.size w1)
    obtain ⟨w2, hq2, hb9, hz9, Hbg⟩ := new1 w1 98 [.int .i64 ((grp k).size : Int), .slice aq (dl (grp k).q.m) cq, .slice ap (dl (grp k).p.m) cp]
    replace HK := hbu HK hb9
    replace HB := hbu HB hb9
    replace HZS := sz HZS hz9.out
    clear hb9 hz9
    have bg_ := Hbg.out.c3
    go_wp2_with fail
    clear hq2
    refine (rWrong OK.out l n HN.out z1 HZ1.out al cl w2 (HRG.out.up HK.out) (HC.out.up HB.out)).mono ?_
    rintro e w3 ⟨rfl, hb9⟩
    clear bg_
    replace Hbg := Lib.hid (Hbg.out.up hb9)
    replace HK := hbu HK hb9
    replace HB := hbu HB hb9
    replace HZS := sz HZS hb9.size
    clear hb9
    have bg_ := Hbg.out.c3
    go_wp2_with fail
    go_ret
    exact ⟨rfl, HB.out⟩
  subst g1
  obtain ⟨z2, hz2⟩ : ∃ z, scE (grp k) l.length xs = z := ⟨_, rfl⟩
  have HZ2 := Lib.hid hz2
  clear hz2
  by_cases g2 : z2 = 0
  case neg =>
    obtain rfl : b = false := by rw [← HBB.out]; unfold openE; rw [if_neg (by rw [HZ1.out]; simp), HZ2.out, decide_eq_false g2]; rfl
    have hd : ((z2 : Int) == 0) = false := by simp; omega
    clear g2
    rw [HN.out] at HZ2
    go_enter Try.func45, Try.ntmps45
    go_wp2_with fail
    refine (refKind_some k h1 h3 w).mono ?_
    rintro e w1 ⟨aq, cq, ap, cp, rfl, hq9, hp9, hb9⟩
    have HB := Lib.hid hb9
    have HZS := Lib.hid hb9.size
    have HRG := Lib.hid (RG.mk (G := grp k) hq9 hp9)
    clear hq9 hp9
    clear hb9
    have HK := Lib.hid (Below.refl w1.heap.size w1)
    obtain ⟨w2, hq2, hb9, hz9, Hbg⟩ := new1 w1 98 [.int .i64 ((grp k).size : Int), .slice aq (dl (grp k).q.m) cq, .slice ap (dl (grp k).p.m) cp]
    replace HK := hbu HK hb9
    replace HB := hbu HB hb9
    replace HZS := sz HZS hz9.out
    clear hb9 hz9
    have bg_ := Hbg.out.c3
    go_wp2_with fail
    clear hq2
    refine (rWrong OK.out l n HN.out 0 HZ1.out al cl w2 (HRG.out.up HK.out) (HC.out.up HB.out)).mono ?_
    rintro e w3 ⟨rfl, hb9⟩
    clear bg_
    replace Hbg := Lib.hid (Hbg.out.up hb9)
    replace HK := hbu HK hb9
    replace HB := hbu HB hb9
    replace HZS := sz HZS hb9.size
    clear hb9
    have bg_ := Hbg.out.c3
    go_wp2_with fail
    refine (rWrongSc_e OK.out n xs z2 HZ2.out ax cx hm w3 (HRG.out.up HK.out) (HS.out.up HB.out)).mono ?_
    rintro e w4 ⟨rfl, hb9⟩
    clear bg_
    replace Hbg := Lib.hid (Hbg.out.up hb9)
    replace HK := hbu HK hb9
    replace HB := hbu HB hb9
    replace HZS := sz HZS hb9.size
    clear hb9
    have bg_ := Hbg.out.c3
    go_wp2_with fail
    go_ret
    exact ⟨rfl, HB.out⟩
  subst g2
  have HSH := Lib.hid (rsh_of OK.out HZ1.out HZ2.out)
  have hxl : xs.length = n := by rw [sc_lens HZ2.out, HN.out]
  rw [HN.out] at HZ2
  have HP := Lib.hid (show rholdP (grp k) l xs = b by rw [← HBB.out]; unfold openE; rw [if_neg (by rw [HZ1.out]; simp), HN.out, HZ2.out]; simp)
  have HXL := Lib.hid hxl
  rw [hxl]
  clear HBB hxl
  go_enter Try.func45, Try.ntmps45
  go_wp2_with fail
  refine (refKind_some k h1 h3 w).mono ?_
  rintro e w1 ⟨aq, cq, ap, cp, rfl, hq9, hp9, hb9⟩
  have HB := Lib.hid hb9
  have HZS := Lib.hid hb9.size
  have HRG := Lib.hid (RG.mk (G := grp k) hq9 hp9)
  clear hq9 hp9
  clear hb9
  have HK := Lib.hid (Below.refl w1.heap.size w1)
  obtain ⟨w2, hq2, hb9, hz9, Hbg⟩ := new1 w1 98 [.int .i64 ((grp k).size : Int), .slice aq (dl (grp k).q.m) cq, .slice ap (dl (grp k).p.m) cp]
  replace HK := hbu HK hb9
  replace HB := hbu HB hb9
  replace HZS := sz HZS hz9.out
  clear hb9 hz9
  have bg_ := Hbg.out.c3
  go_wp2_with fail
  clear hq2
  refine (rWrong OK.out l n HN.out 0 HZ1.out al cl w2 (HRG.out.up HK.out) (HC.out.up HB.out)).mono ?_
  rintro e w3 ⟨rfl, hb9⟩
  clear bg_
  replace Hbg := Lib.hid (Hbg.out.up hb9)
  replace HK := hbu HK hb9
  replace HB := hbu HB hb9
  replace HZS := sz HZS hb9.size
  clear hb9
  have bg_ := Hbg.out.c3
  go_wp2_with fail
  refine (rWrongSc_n OK.out n xs HXL.out 0 HZ2.out ax cx hm w3 (HRG.out.up HK.out) (HS.out.up HB.out)).mono ?_
  rintro e w4 ⟨rfl, hb9⟩
  clear bg_
  replace Hbg := Lib.hid (Hbg.out.up hb9)
  replace HK := hbu HK hb9
  replace HB := hbu HB hb9
  replace HZS := sz HZS hb9.size
  clear hb9
  have bg_ := Hbg.out.c3
  go_wp2_with fail
  refine (rHold OK.out l xs HSH.out n HN.out b HP.out al ax cl cx w4 (HRG.out.up HK.out) (HC.out.up HB.out) (HS.out.up HB.out)).mono ?_
  rintro e w5 ⟨rfl, hb9⟩
  clear bg_
  replace Hbg := Lib.hid (Hbg.out.up hb9)
  replace HK := hbu HK hb9
  replace HB := hbu HB hb9
  replace HZS := sz HZS hb9.size
  clear hb9
  have bg_ := Hbg.out.c3
  go_wp2_with fail
  go_ret
  exact ⟨rfl, HB.out⟩

def rholdK (k : Int) (l : List ClaimA) (xs : List ByteArray) : Bool := decide (openK k l xs = 0) && rholdP (grp k.toNat) l xs
theorem rHolds_any (k : Int) (l : List ClaimA) (al : Option Addr) (cl : Nat) (xs : List ByteArray) (ax : Option Addr) (cx : Nat) (hn : xs.length ≤ 8796093022207) (w : World) (hC : ClaimsAt w al l) (hS : Sl w w.heap.size ax (xs.map Value.string)) :
    Calls Try.prog 45 #[.int .i64 k, .slice al l.length cl, .slice ax xs.length cx] w (Gives (.bool (rholdK k l xs)) w) := by
  unfold rholdK openK
  by_cases hk : 1 ≤ k ∧ k ≤ 3
  · rw [if_pos hk]
    obtain ⟨j, rfl⟩ : ∃ j : Nat, k = j := ⟨k.toNat, by omega⟩
    exact rHolds_some j (by omega) (by omega) l _ rfl xs hn _ rfl al ax cl cx w hC hS
  · rw [if_neg hk]
    exact rHolds_none k hk _ _ w

def zeroT (G : GP) : ByteArray := textS 0 G.size
theorem zeroT_size (G : GP) : (zeroT G).size = G.size := textS_size 0 G.size
theorem zeroT_num (G : GP) : numOf (zeroT G) = 0 := by unfold zeroT; rw [numOf_textS, Nat.zero_mod]

section
variable {G : GP} {aq ap : Option Addr} {cq cp : Nat}
theorem rText0 (ok : G.Ok) {an : Option Addr} {cn : Nat} (w : World) (hN : NumAt w an 0) :
    Calls Try.prog 70 #[.slice an (dl 0) cn, .int .i64 (G.size : Int)] w fun e w' => e = .returned (.string (zeroT G)) ∧ Below w.heap.size w w' := rText ok (by decide) w hN

set_option maxRecDepth 100000 in
set_option maxHeartbeats 2000000 in
theorem rFirstOf (ok : G.Ok) (y : Nat) (hy : subQ G 0 0 = y) (l : List ClaimA) (xs : List ByteArray) (sh : RSh G l xs) (n : Nat) (hn : l.length = n) (al ax : Option Addr) (cl cx : Nat) (w : World) (hG : RG w G aq ap) (hC : ClaimsAt w al l) (hX : Sl w w.heap.size ax (xs.map Value.string)) :
    Calls Try.prog 117 #[.agg #[.int .i64 (G.size : Int), .slice aq (dl G.q.m) cq, .slice ap (dl G.p.m) cp], .slice al n cl, .slice ax n cx] w (RowsR (eachA G (rvalB G y l xs) (lens l) n) w) := by
  have OK := Lib.hid ok
  have HG := Lib.hid hG
  have HC := Lib.hid hC
  have HX := Lib.hid hX
  have HN := Lib.hid hn
  have HSH := Lib.hid sh
  have HY := Lib.hid (show subQ G 0 (numOf (zeroT G)) = y by rw [zeroT_num, hy])
  have HZ1 := Lib.hid (show (zeroT G).size ≤ 32 by rw [zeroT_size]; exact ok.size_le)
  have HZ2 := Lib.hid (show numOf (zeroT G) ≤ G.q.m by rw [zeroT_num]; exact Nat.zero_le _)
  clear ok hG hC hX hn sh hy
  go_enter Try.func117, Try.ntmps117
  go_wp2_with fail
  obtain ⟨w1, hq1, hb9, hz9, Hbg⟩ := new1 w 98 [.int .i64 (G.size : Int), .slice aq (dl G.q.m) cq, .slice ap (dl G.p.m) cp]
  rw [hq1]
  clear hq1
  have HB := Lib.hid hb9
  have HZS := hz9
  clear hb9 hz9
  have bg_ := Hbg.out.c3
  go_wp2_with fail
  have HT := Lib.hid (show Below w1.heap.size w1 w1.drew from (Below.refl _ _).drew)
  have hl_bg := Hbg.out.lt
  refine wp_region_tree (fun wq9 => ∃ E : Over w1, wq9 = E.w) ((.qs [0, 1, 3, 4, 6] (.a 2 (.a 5 (.a 7 (.qs [8] .done)))))) (by kernel_rfl) (by kernel_rfl) (fun _ _ d _ _ h => by cases d <;> exact h) ⟨⟨_, HT.out⟩, rfl⟩ ?_
  have hov_bg := fun (E : Over w1) o => E.cell (b := w.heap.size) o hl_bg
  simp only [Tree.qs]
  repeat (refine tree_q rfl rfl ?_; go_big_quiet_step (fail); refine wpQuiet_nil ?_)
  refine tree_a rfl (fun K hK => ?_)
  go_simp
  refine (rOf0 _).mono ?_
  rintro e w2 ⟨a1, c1, rfl, hn9, hb9⟩
  replace HT := Lib.hid (below_up HT.out hb9)
  replace HZS := sz HZS (show w1.heap.size ≤ w2.heap.size from HT.out.size)
  clear hb9
  have HN1 := Lib.hid hn9
  clear hn9
  refine hK _ _ ⟨⟨⟨w2, HT.out⟩, rfl⟩, ?_⟩
  clear hK K
  repeat (refine tree_q rfl rfl ?_; go_big_quiet_step (fail); refine wpQuiet_nil ?_)
  refine tree_a rfl (fun K hK => ?_)
  go_simp
  refine (rText0 OK.out _ HN1.out).mono ?_
  rintro e w3 ⟨rfl, hb9⟩
  replace HN1 := Lib.hid (HN1.out.up hb9)
  replace HT := Lib.hid (below_up HT.out hb9)
  replace HZS := sz HZS (show w1.heap.size ≤ w3.heap.size from HT.out.size)
  clear hb9
  refine hK _ _ ⟨⟨⟨w3, HT.out⟩, rfl⟩, ?_⟩
  clear hK K
  repeat (refine tree_q rfl rfl ?_; go_big_quiet_step (fail); refine wpQuiet_nil ?_)
  refine tree_a rfl (fun K hK => ?_)
  go_simp
  refine (rBackOf OK.out (zeroT G) y HY.out HZ1.out HZ2.out l xs HSH.out n HN.out al ax cl cx _ (HG.out.up (below_up HB.out HT.out)) (HC.out.up (below_up HB.out HT.out)) (HX.out.up (below_up HB.out HT.out))).mono ?_
  rintro e w4 ⟨hb9, a9, c9, ro, rfl, hm9, hr9, hz9⟩
  replace HN1 := Lib.hid (HN1.out.up hb9)
  replace HT := Lib.hid (below_up HT.out hb9)
  replace HZS := sz HZS (show w1.heap.size ≤ w4.heap.size from HT.out.size)
  clear hb9
  have HMR := Lib.hid hm9
  clear hm9
  have HRR := Lib.hid hr9
  clear hr9
  have HZR := Lib.hid hz9
  clear hz9
  refine hK _ _ ⟨⟨⟨w4, HT.out⟩, rfl⟩, ?_⟩
  clear hK K
  repeat (refine tree_q rfl rfl ?_; go_big_quiet_step (fail); refine wpQuiet_nil ?_)
  refine tree_end ?_
  clear hov_bg hl_bg
  clear bg_
  replace Hbg := Lib.hid (Hbg.out.up HT.out)
  replace HB := hbu HB HT.out
  replace HZS := sz HZS HT.out.size
  clear HT
  have bg_ := Hbg.out.c3
  go_wp2_with fail
  go_ret
  exact ⟨HB.out, a9, c9, ro, rfl, HMR.out, HRR.out, HZR.out⟩
end

set_option maxRecDepth 100000 in
set_option maxHeartbeats 2000000 in
theorem rFirst_none (k : Int) (hk : ¬ (1 ≤ k ∧ k ≤ 3)) (p q : Value) (w : World) : Calls Try.prog 47 #[.int .i64 k, p, q] w (RowsE 1 [] w) := by
  go_enter Try.func47, Try.ntmps47
  go_wp2_with fail
  refine (refKind_none k hk w).mono ?_
  rintro e w1 ⟨rfl, hb9⟩
  have HB := Lib.hid hb9
  have HZS := Lib.hid hb9.size
  clear hb9
  obtain ⟨w2, hq2, hb9, hz9, Hbg⟩ := new1 w1 98 [.int .i64 0, .slice none 0 0, .slice none 0 0]
  replace HB := hbu HB hb9
  replace HZS := sz HZS hz9.out
  clear hb9 hz9
  have bg_ := Hbg.out.c3
  have f3_bg := Hbg.out.frozen
  have o3_bg_ := bg_; clear bg_
  obtain ⟨w3, hq3, hg9, hz9, hx9⟩ := put3 Hbg 0 (.int .i64 0) 1 (.slice none 0 0) 2 (.slice none 0 0) [.int .i64 0, .slice none 0 0, .slice none 0 0] rfl
  replace HB := hbg HB hg9 (by have g0 := HZS.out; omega)
  replace HZS := sz HZS hz9.out
  replace Hbg := hx9
  clear hx9 hg9 hz9
  have bg_ := Hbg.out.c3
  go_wp2_with fail
  clear hq3 o3_bg_ f3_bg hq2
  go_ret2
  exact rowsE_none _ HB.out

set_option maxRecDepth 100000 in
set_option maxHeartbeats 2000000 in
theorem rFirst_some (k : Nat) (h1 : 1 ≤ k) (h3 : k ≤ 3) (l : List ClaimA) (n : Nat) (hn : l.length = n) (xs : List ByteArray) (hm : xs.length ≤ 8796093022207) (y : Nat) (hy : subQ (grp k) 0 0 = y) (er : Int) (L : List (List ByteArray)) (hw : wrongE (grp k) l ≠ 0 → er = (wrongE (grp k) l : Int) ∧ L = []) (hsc : wrongE (grp k) l = 0 → scE (grp k) n xs ≠ 0 → er = (scE (grp k) n xs : Int) ∧ L = []) (hf : wrongE (grp k) l = 0 → scE (grp k) n xs = 0 → er = 0 ∧ L = eachA (grp k) (rvalB (grp k) y l xs) (lens l) n) (al ax : Option Addr) (cl cx : Nat) (w : World) (hC : ClaimsAt w al l) (hS : Sl w w.heap.size ax (xs.map Value.string)) :
    Calls Try.prog 47 #[.int .i64 (k : Int), .slice al n cl, .slice ax xs.length cx] w (RowsE er L w) := by
  have OK := Lib.hid (grp_ok k h1 h3)
  have hs0 := size_n0 k h1 h3
  have HC := Lib.hid hC
  have HS := Lib.hid hS
  have HN := Lib.hid hn
  have HY := Lib.hid hy
  obtain ⟨z1, hz1⟩ : ∃ z, wrongE (grp k) l = z := ⟨_, rfl⟩
  obtain ⟨z2, hz2⟩ : ∃ z, scE (grp k) n xs = z := ⟨_, rfl⟩
  rw [hz1] at hw hsc hf
  rw [hz2] at hsc hf
  have HW := Lib.hid hw
  have HSC := Lib.hid hsc
  have HF := Lib.hid hf
  have HZ1 := Lib.hid hz1
  have HZ2 := Lib.hid hz2
  clear hC hS hn hy hz1 hz2 hw hsc hf
  by_cases g1 : z1 = 0
  case neg =>
    obtain ⟨rfl, rfl⟩ := HW.out g1
    have hd : ((z1 : Int) == 0) = false := by simp; omega
    clear g1
    go_enter Try.func47, Try.ntmps47
    go_wp2_with fail
    refine (refKind_some k h1 h3 w).mono ?_
    rintro e w1 ⟨aq, cq, ap, cp, rfl, hq9, hp9, hb9⟩
    have HB := Lib.hid hb9
    have HZS := Lib.hid hb9.size
    have HRG := Lib.hid (RG.mk (G := grp k) hq9 hp9)
    clear hq9 hp9
    clear hb9
    have HK := Lib.hid (Below.refl w1.heap.size w1)
    obtain ⟨w2, hq2, hb9, hz9, Hbg⟩ := new1 w1 98 [.int .i64 ((grp k).size : Int), .slice aq (dl (grp k).q.m) cq, .slice ap (dl (grp k).p.m) cp]
    replace HK := hbu HK hb9
    replace HB := hbu HB hb9
    replace HZS := sz HZS hz9.out
    clear hb9 hz9
    have bg_ := Hbg.out.c3
    go_wp2_with fail
    clear hq2
    refine (rWrong OK.out l n HN.out z1 HZ1.out al cl w2 (HRG.out.up HK.out) (HC.out.up HB.out)).mono ?_
    rintro e w3 ⟨rfl, hb9⟩
    clear bg_
    replace Hbg := Lib.hid (Hbg.out.up hb9)
    replace HK := hbu HK hb9
    replace HB := hbu HB hb9
    replace HZS := sz HZS hb9.size
    clear hb9
    have bg_ := Hbg.out.c3
    go_wp2_with fail
    go_ret2
    exact rowsE_none _ HB.out
  subst g1
  by_cases g2 : z2 = 0
  case neg =>
    obtain ⟨rfl, rfl⟩ := HSC.out rfl g2
    have hd : ((z2 : Int) == 0) = false := by simp; omega
    clear g2
    go_enter Try.func47, Try.ntmps47
    go_wp2_with fail
    refine (refKind_some k h1 h3 w).mono ?_
    rintro e w1 ⟨aq, cq, ap, cp, rfl, hq9, hp9, hb9⟩
    have HB := Lib.hid hb9
    have HZS := Lib.hid hb9.size
    have HRG := Lib.hid (RG.mk (G := grp k) hq9 hp9)
    clear hq9 hp9
    clear hb9
    have HK := Lib.hid (Below.refl w1.heap.size w1)
    obtain ⟨w2, hq2, hb9, hz9, Hbg⟩ := new1 w1 98 [.int .i64 ((grp k).size : Int), .slice aq (dl (grp k).q.m) cq, .slice ap (dl (grp k).p.m) cp]
    replace HK := hbu HK hb9
    replace HB := hbu HB hb9
    replace HZS := sz HZS hz9.out
    clear hb9 hz9
    have bg_ := Hbg.out.c3
    go_wp2_with fail
    clear hq2
    refine (rWrong OK.out l n HN.out 0 HZ1.out al cl w2 (HRG.out.up HK.out) (HC.out.up HB.out)).mono ?_
    rintro e w3 ⟨rfl, hb9⟩
    clear bg_
    replace Hbg := Lib.hid (Hbg.out.up hb9)
    replace HK := hbu HK hb9
    replace HB := hbu HB hb9
    replace HZS := sz HZS hb9.size
    clear hb9
    have bg_ := Hbg.out.c3
    go_wp2_with fail
    refine (rWrongSc_e OK.out n xs z2 HZ2.out ax cx hm w3 (HRG.out.up HK.out) (HS.out.up HB.out)).mono ?_
    rintro e w4 ⟨rfl, hb9⟩
    clear bg_
    replace Hbg := Lib.hid (Hbg.out.up hb9)
    replace HK := hbu HK hb9
    replace HB := hbu HB hb9
    replace HZS := sz HZS hb9.size
    clear hb9
    have bg_ := Hbg.out.c3
    go_wp2_with fail
    go_ret2
    exact rowsE_none _ HB.out
  subst g2
  obtain ⟨rfl, rfl⟩ := HF.out rfl rfl
  have HSH := Lib.hid (rsh_of OK.out HZ1.out (by rw [HN.out]; exact HZ2.out))
  have hxl : xs.length = n := by rw [HSH.out.xl, HN.out]
  have HXL := Lib.hid hxl
  rw [hxl]
  clear HW HSC HF hxl
  go_enter Try.func47, Try.ntmps47
  go_wp2_with fail
  refine (refKind_some k h1 h3 w).mono ?_
  rintro e w1 ⟨aq, cq, ap, cp, rfl, hq9, hp9, hb9⟩
  have HB := Lib.hid hb9
  have HZS := Lib.hid hb9.size
  have HRG := Lib.hid (RG.mk (G := grp k) hq9 hp9)
  clear hq9 hp9
  clear hb9
  have HK := Lib.hid (Below.refl w1.heap.size w1)
  obtain ⟨w2, hq2, hb9, hz9, Hbg⟩ := new1 w1 98 [.int .i64 ((grp k).size : Int), .slice aq (dl (grp k).q.m) cq, .slice ap (dl (grp k).p.m) cp]
  replace HK := hbu HK hb9
  replace HB := hbu HB hb9
  replace HZS := sz HZS hz9.out
  clear hb9 hz9
  have bg_ := Hbg.out.c3
  go_wp2_with fail
  clear hq2
  refine (rWrong OK.out l n HN.out 0 HZ1.out al cl w2 (HRG.out.up HK.out) (HC.out.up HB.out)).mono ?_
  rintro e w3 ⟨rfl, hb9⟩
  clear bg_
  replace Hbg := Lib.hid (Hbg.out.up hb9)
  replace HK := hbu HK hb9
  replace HB := hbu HB hb9
  replace HZS := sz HZS hb9.size
  clear hb9
  have bg_ := Hbg.out.c3
  go_wp2_with fail
  refine (rWrongSc_n OK.out n xs HXL.out 0 HZ2.out ax cx hm w3 (HRG.out.up HK.out) (HS.out.up HB.out)).mono ?_
  rintro e w4 ⟨rfl, hb9⟩
  clear bg_
  replace Hbg := Lib.hid (Hbg.out.up hb9)
  replace HK := hbu HK hb9
  replace HB := hbu HB hb9
  replace HZS := sz HZS hb9.size
  clear hb9
  have bg_ := Hbg.out.c3
  go_wp2_with fail
  refine (rFirstOf OK.out y HY.out l xs HSH.out n HN.out al ax cl cx w4 (HRG.out.up HK.out) (HC.out.up HB.out) (HS.out.up HB.out)).mono ?_
  rintro e w5 ⟨hb9, a9, c9, ro, rfl, hm9, hr9, hz9⟩
  clear bg_
  replace Hbg := Lib.hid (Hbg.out.up hb9)
  replace HK := hbu HK hb9
  replace HB := hbu HB hb9
  replace HZS := sz HZS hb9.size
  have HMR := Lib.hid hm9
  clear hm9
  have HRR := Lib.hid hr9
  clear hr9
  have HZR := Lib.hid hz9
  clear hz9
  clear hb9
  have bg_ := Hbg.out.c3
  go_wp2_with fail
  go_ret2
  exact ⟨HB.out, a9, c9, ro, rfl, HMR.out, HRR.out, HZR.out⟩
set_option maxRecDepth 100000 in
set_option maxHeartbeats 2000000 in
theorem rBack_none (k : Int) (hk : ¬ (1 ≤ k ∧ k ≤ 3)) (p q : Value) (ch : ByteArray) (w : World) : Calls Try.prog 50 #[.int .i64 k, p, .string ch, q] w (RowsE 1 [] w) := by
  go_enter Try.func50, Try.ntmps50
  go_wp2_with fail
  refine (refKind_none k hk w).mono ?_
  rintro e w1 ⟨rfl, hb9⟩
  have HB := Lib.hid hb9
  have HZS := Lib.hid hb9.size
  clear hb9
  obtain ⟨w2, hq2, hb9, hz9, Hbg⟩ := new1 w1 98 [.int .i64 0, .slice none 0 0, .slice none 0 0]
  replace HB := hbu HB hb9
  replace HZS := sz HZS hz9.out
  clear hb9 hz9
  have bg_ := Hbg.out.c3
  have f3_bg := Hbg.out.frozen
  have o3_bg_ := bg_; clear bg_
  obtain ⟨w3, hq3, hg9, hz9, hx9⟩ := put3 Hbg 0 (.int .i64 0) 1 (.slice none 0 0) 2 (.slice none 0 0) [.int .i64 0, .slice none 0 0, .slice none 0 0] rfl
  replace HB := hbg HB hg9 (by have g0 := HZS.out; omega)
  replace HZS := sz HZS hz9.out
  replace Hbg := hx9
  clear hx9 hg9 hz9
  have bg_ := Hbg.out.c3
  go_wp2_with fail
  clear hq3 o3_bg_ f3_bg hq2
  go_ret2
  exact rowsE_none _ HB.out

set_option maxRecDepth 100000 in
set_option maxHeartbeats 2000000 in
theorem rBack_some (k : Nat) (h1 : 1 ≤ k) (h3 : k ≤ 3) (l : List ClaimA) (n : Nat) (hn : l.length = n) (xs : List ByteArray) (hm : xs.length ≤ 8796093022207) (ch : ByteArray) (bc : Bool) (hbc : isSc (grp k).q.m (grp k).size ch = bc) (y : Nat) (hy : subQ (grp k) 0 (numOf ch) = y) (er : Int) (L : List (List ByteArray)) (hw : wrongE (grp k) l ≠ 0 → er = (wrongE (grp k) l : Int) ∧ L = []) (hsc : wrongE (grp k) l = 0 → scE (grp k) n xs ≠ 0 → er = (scE (grp k) n xs : Int) ∧ L = []) (h6 : wrongE (grp k) l = 0 → scE (grp k) n xs = 0 → bc = false → er = 6 ∧ L = []) (hf : wrongE (grp k) l = 0 → scE (grp k) n xs = 0 → bc = true → er = 0 ∧ L = eachA (grp k) (rvalB (grp k) y l xs) (lens l) n) (al ax : Option Addr) (cl cx : Nat) (w : World) (hC : ClaimsAt w al l) (hS : Sl w w.heap.size ax (xs.map Value.string)) :
    Calls Try.prog 50 #[.int .i64 (k : Int), .slice al n cl, .string ch, .slice ax xs.length cx] w (RowsE er L w) := by
  have OK := Lib.hid (grp_ok k h1 h3)
  have hs0 := size_n0 k h1 h3
  have HC := Lib.hid hC
  have HS := Lib.hid hS
  have HN := Lib.hid hn
  have HY := Lib.hid hy
  obtain ⟨z1, hz1⟩ : ∃ z, wrongE (grp k) l = z := ⟨_, rfl⟩
  obtain ⟨z2, hz2⟩ : ∃ z, scE (grp k) n xs = z := ⟨_, rfl⟩
  rw [hz1] at hw hsc h6 hf
  rw [hz2] at hsc h6 hf
  have HW := Lib.hid hw
  have HSC := Lib.hid hsc
  have HF := Lib.hid hf
  have H6 := Lib.hid h6
  have HBC := Lib.hid hbc
  have HZ1 := Lib.hid hz1
  have HZ2 := Lib.hid hz2
  clear hC hS hn hy hz1 hz2 hw hsc hf h6 hbc
  by_cases g1 : z1 = 0
  case neg =>
    obtain ⟨rfl, rfl⟩ := HW.out g1
    have hd : ((z1 : Int) == 0) = false := by simp; omega
    clear g1
    go_enter Try.func50, Try.ntmps50
    go_wp2_with fail
    refine (refKind_some k h1 h3 w).mono ?_
    rintro e w1 ⟨aq, cq, ap, cp, rfl, hq9, hp9, hb9⟩
    have HB := Lib.hid hb9
    have HZS := Lib.hid hb9.size
    have HRG := Lib.hid (RG.mk (G := grp k) hq9 hp9)
    clear hq9 hp9
    clear hb9
    have HK := Lib.hid (Below.refl w1.heap.size w1)
    obtain ⟨w2, hq2, hb9, hz9, Hbg⟩ := new1 w1 98 [.int .i64 ((grp k).size : Int), .slice aq (dl (grp k).q.m) cq, .slice ap (dl (grp k).p.m) cp]
    replace HK := hbu HK hb9
    replace HB := hbu HB hb9
    replace HZS := sz HZS hz9.out
    clear hb9 hz9
    have bg_ := Hbg.out.c3
    go_wp2_with fail
    clear hq2
    refine (rWrong OK.out l n HN.out z1 HZ1.out al cl w2 (HRG.out.up HK.out) (HC.out.up HB.out)).mono ?_
    rintro e w3 ⟨rfl, hb9⟩
    clear bg_
    replace Hbg := Lib.hid (Hbg.out.up hb9)
    replace HK := hbu HK hb9
    replace HB := hbu HB hb9
    replace HZS := sz HZS hb9.size
    clear hb9
    have bg_ := Hbg.out.c3
    go_wp2_with fail
    go_ret2
    exact rowsE_none _ HB.out
  subst g1
  by_cases g2 : z2 = 0
  case neg =>
    obtain ⟨rfl, rfl⟩ := HSC.out rfl g2
    have hd : ((z2 : Int) == 0) = false := by simp; omega
    clear g2
    go_enter Try.func50, Try.ntmps50
    go_wp2_with fail
    refine (refKind_some k h1 h3 w).mono ?_
    rintro e w1 ⟨aq, cq, ap, cp, rfl, hq9, hp9, hb9⟩
    have HB := Lib.hid hb9
    have HZS := Lib.hid hb9.size
    have HRG := Lib.hid (RG.mk (G := grp k) hq9 hp9)
    clear hq9 hp9
    clear hb9
    have HK := Lib.hid (Below.refl w1.heap.size w1)
    obtain ⟨w2, hq2, hb9, hz9, Hbg⟩ := new1 w1 98 [.int .i64 ((grp k).size : Int), .slice aq (dl (grp k).q.m) cq, .slice ap (dl (grp k).p.m) cp]
    replace HK := hbu HK hb9
    replace HB := hbu HB hb9
    replace HZS := sz HZS hz9.out
    clear hb9 hz9
    have bg_ := Hbg.out.c3
    go_wp2_with fail
    clear hq2
    refine (rWrong OK.out l n HN.out 0 HZ1.out al cl w2 (HRG.out.up HK.out) (HC.out.up HB.out)).mono ?_
    rintro e w3 ⟨rfl, hb9⟩
    clear bg_
    replace Hbg := Lib.hid (Hbg.out.up hb9)
    replace HK := hbu HK hb9
    replace HB := hbu HB hb9
    replace HZS := sz HZS hb9.size
    clear hb9
    have bg_ := Hbg.out.c3
    go_wp2_with fail
    refine (rWrongSc_e OK.out n xs z2 HZ2.out ax cx hm w3 (HRG.out.up HK.out) (HS.out.up HB.out)).mono ?_
    rintro e w4 ⟨rfl, hb9⟩
    clear bg_
    replace Hbg := Lib.hid (Hbg.out.up hb9)
    replace HK := hbu HK hb9
    replace HB := hbu HB hb9
    replace HZS := sz HZS hb9.size
    clear hb9
    have bg_ := Hbg.out.c3
    go_wp2_with fail
    go_ret2
    exact rowsE_none _ HB.out
  subst g2
  have HSH := Lib.hid (rsh_of OK.out HZ1.out (by rw [HN.out]; exact HZ2.out))
  have hxl : xs.length = n := by rw [HSH.out.xl, HN.out]
  have HXL := Lib.hid hxl
  rw [hxl]
  clear HW HSC hxl
  cases bc
  case false =>
    obtain ⟨rfl, rfl⟩ := H6.out rfl rfl rfl
    go_enter Try.func50, Try.ntmps50
    go_wp2_with fail
    refine (refKind_some k h1 h3 w).mono ?_
    rintro e w1 ⟨aq, cq, ap, cp, rfl, hq9, hp9, hb9⟩
    have HB := Lib.hid hb9
    have HZS := Lib.hid hb9.size
    have HRG := Lib.hid (RG.mk (G := grp k) hq9 hp9)
    clear hq9 hp9
    clear hb9
    have HK := Lib.hid (Below.refl w1.heap.size w1)
    obtain ⟨w2, hq2, hb9, hz9, Hbg⟩ := new1 w1 98 [.int .i64 ((grp k).size : Int), .slice aq (dl (grp k).q.m) cq, .slice ap (dl (grp k).p.m) cp]
    replace HK := hbu HK hb9
    replace HB := hbu HB hb9
    replace HZS := sz HZS hz9.out
    clear hb9 hz9
    have bg_ := Hbg.out.c3
    go_wp2_with fail
    clear hq2
    refine (rWrong OK.out l n HN.out 0 HZ1.out al cl w2 (HRG.out.up HK.out) (HC.out.up HB.out)).mono ?_
    rintro e w3 ⟨rfl, hb9⟩
    clear bg_
    replace Hbg := Lib.hid (Hbg.out.up hb9)
    replace HK := hbu HK hb9
    replace HB := hbu HB hb9
    replace HZS := sz HZS hb9.size
    clear hb9
    have bg_ := Hbg.out.c3
    go_wp2_with fail
    refine (rWrongSc_n OK.out n xs HXL.out 0 HZ2.out ax cx hm w3 (HRG.out.up HK.out) (HS.out.up HB.out)).mono ?_
    rintro e w4 ⟨rfl, hb9⟩
    clear bg_
    replace Hbg := Lib.hid (Hbg.out.up hb9)
    replace HK := hbu HK hb9
    replace HB := hbu HB hb9
    replace HZS := sz HZS hb9.size
    clear hb9
    have bg_ := Hbg.out.c3
    go_wp2_with fail
    refine (rIsSc_b OK.out ch false HBC.out w4 (HRG.out.up HK.out)).mono ?_
    rintro e w5 ⟨rfl, hb9⟩
    clear bg_
    replace Hbg := Lib.hid (Hbg.out.up hb9)
    replace HK := hbu HK hb9
    replace HB := hbu HB hb9
    replace HZS := sz HZS hb9.size
    clear hb9
    have bg_ := Hbg.out.c3
    go_wp2_with fail
    go_ret2
    exact rowsE_none _ HB.out
  obtain ⟨rfl, rfl⟩ := HF.out rfl rfl rfl
  have HC1 := Lib.hid (sc_len OK.out HBC.out)
  have HC2 := Lib.hid (isSc_le HBC.out)
  clear HF H6
  go_enter Try.func50, Try.ntmps50
  go_wp2_with fail
  refine (refKind_some k h1 h3 w).mono ?_
  rintro e w1 ⟨aq, cq, ap, cp, rfl, hq9, hp9, hb9⟩
  have HB := Lib.hid hb9
  have HZS := Lib.hid hb9.size
  have HRG := Lib.hid (RG.mk (G := grp k) hq9 hp9)
  clear hq9 hp9
  clear hb9
  have HK := Lib.hid (Below.refl w1.heap.size w1)
  obtain ⟨w2, hq2, hb9, hz9, Hbg⟩ := new1 w1 98 [.int .i64 ((grp k).size : Int), .slice aq (dl (grp k).q.m) cq, .slice ap (dl (grp k).p.m) cp]
  replace HK := hbu HK hb9
  replace HB := hbu HB hb9
  replace HZS := sz HZS hz9.out
  clear hb9 hz9
  have bg_ := Hbg.out.c3
  go_wp2_with fail
  clear hq2
  refine (rWrong OK.out l n HN.out 0 HZ1.out al cl w2 (HRG.out.up HK.out) (HC.out.up HB.out)).mono ?_
  rintro e w3 ⟨rfl, hb9⟩
  clear bg_
  replace Hbg := Lib.hid (Hbg.out.up hb9)
  replace HK := hbu HK hb9
  replace HB := hbu HB hb9
  replace HZS := sz HZS hb9.size
  clear hb9
  have bg_ := Hbg.out.c3
  go_wp2_with fail
  refine (rWrongSc_n OK.out n xs HXL.out 0 HZ2.out ax cx hm w3 (HRG.out.up HK.out) (HS.out.up HB.out)).mono ?_
  rintro e w4 ⟨rfl, hb9⟩
  clear bg_
  replace Hbg := Lib.hid (Hbg.out.up hb9)
  replace HK := hbu HK hb9
  replace HB := hbu HB hb9
  replace HZS := sz HZS hb9.size
  clear hb9
  have bg_ := Hbg.out.c3
  go_wp2_with fail
  refine (rIsSc_b OK.out ch true HBC.out w4 (HRG.out.up HK.out)).mono ?_
  rintro e w5 ⟨rfl, hb9⟩
  clear bg_
  replace Hbg := Lib.hid (Hbg.out.up hb9)
  replace HK := hbu HK hb9
  replace HB := hbu HB hb9
  replace HZS := sz HZS hb9.size
  clear hb9
  have bg_ := Hbg.out.c3
  go_wp2_with fail
  refine (rBackOf OK.out ch y HY.out HC1.out HC2.out l xs HSH.out n HN.out al ax cl cx w5 (HRG.out.up HK.out) (HC.out.up HB.out) (HS.out.up HB.out)).mono ?_
  rintro e w6 ⟨hb9, a9, c9, ro, rfl, hm9, hr9, hz9⟩
  clear bg_
  replace Hbg := Lib.hid (Hbg.out.up hb9)
  replace HK := hbu HK hb9
  replace HB := hbu HB hb9
  replace HZS := sz HZS hb9.size
  have HMR := Lib.hid hm9
  clear hm9
  have HRR := Lib.hid hr9
  clear hr9
  have HZR := Lib.hid hz9
  clear hz9
  clear hb9
  have bg_ := Hbg.out.c3
  go_wp2_with fail
  go_ret2
  exact ⟨HB.out, a9, c9, ro, rfl, HMR.out, HRR.out, HZR.out⟩

def rfirstK (k : Int) (l : List ClaimA) (xs : List ByteArray) : List (List ByteArray) := if openK k l xs = 0 then eachA (grp k.toNat) (rvalB (grp k.toNat) (subQ (grp k.toNat) 0 0) l xs) (lens l) l.length else []
def rbackK (k : Int) (l : List ClaimA) (ch : ByteArray) (xs : List ByteArray) : List (List ByteArray) := if backE k l ch xs = 0 then eachA (grp k.toNat) (rvalB (grp k.toNat) (subQ (grp k.toNat) 0 (numOf ch)) l xs) (lens l) l.length else []
theorem openK_some {j : Nat} (h1 : 1 ≤ j) (h3 : j ≤ 3) (l : List ClaimA) (xs : List ByteArray) : openK (j : Int) l xs = openE (grp j) l xs := by
  unfold openK
  rw [if_pos (by omega)]
  rfl
theorem openE_w {G : GP} {l : List ClaimA} {xs : List ByteArray} (h : wrongE G l ≠ 0) : openE G l xs = wrongE G l := by unfold openE; rw [if_pos h]
theorem openE_s {G : GP} {l : List ClaimA} {xs : List ByteArray} (h : wrongE G l = 0) : openE G l xs = scE G l.length xs := by unfold openE; rw [if_neg (by rw [h]; simp)]
theorem rFirst_any (k : Int) (l : List ClaimA) (al : Option Addr) (cl : Nat) (xs : List ByteArray) (ax : Option Addr) (cx : Nat) (hn : xs.length ≤ 8796093022207) (w : World) (hC : ClaimsAt w al l) (hS : Sl w w.heap.size ax (xs.map Value.string)) :
    Calls Try.prog 47 #[.int .i64 k, .slice al l.length cl, .slice ax xs.length cx] w (RowsE (openK k l xs : Int) (rfirstK k l xs) w) := by
  by_cases hk : 1 ≤ k ∧ k ≤ 3
  · obtain ⟨j, rfl⟩ : ∃ j : Nat, k = j := ⟨k.toNat, by omega⟩
    have h1 : 1 ≤ j := by omega
    have h3 : j ≤ 3 := by omega
    refine rFirst_some j h1 h3 l _ rfl xs hn _ rfl _ _ ?_ ?_ ?_ al ax cl cx w hC hS
    · intro h
      unfold rfirstK
      rw [openK_some h1 h3, openE_w h, if_neg h]
      exact ⟨rfl, rfl⟩
    · intro h g
      unfold rfirstK
      rw [openK_some h1 h3, openE_s h, if_neg g]
      exact ⟨rfl, rfl⟩
    · intro h g
      unfold rfirstK
      rw [openK_some h1 h3, openE_s h, g, if_pos rfl]
      exact ⟨rfl, rfl⟩
  · unfold rfirstK openK
    rw [if_neg hk]
    exact rFirst_none k hk _ _ w
theorem rBack_any (k : Int) (l : List ClaimA) (al : Option Addr) (cl : Nat) (ch : ByteArray) (xs : List ByteArray) (ax : Option Addr) (cx : Nat) (hn : xs.length ≤ 8796093022207) (w : World) (hC : ClaimsAt w al l) (hS : Sl w w.heap.size ax (xs.map Value.string)) :
    Calls Try.prog 50 #[.int .i64 k, .slice al l.length cl, .string ch, .slice ax xs.length cx] w (RowsE (backE k l ch xs : Int) (rbackK k l ch xs) w) := by
  by_cases hk : 1 ≤ k ∧ k ≤ 3
  · obtain ⟨j, rfl⟩ : ∃ j : Nat, k = j := ⟨k.toNat, by omega⟩
    have h1 : 1 ≤ j := by omega
    have h3 : j ≤ 3 := by omega
    refine rBack_some j h1 h3 l _ rfl xs hn ch _ rfl _ rfl _ _ ?_ ?_ ?_ ?_ al ax cl cx w hC hS
    · intro h
      have e : backE (j : Int) l ch xs = wrongE (grp j) l := by
        unfold backE
        rw [openK_some h1 h3, openE_w h, if_pos h]
      unfold rbackK
      rw [e, if_neg h]
      exact ⟨rfl, rfl⟩
    · intro h g
      have e : backE (j : Int) l ch xs = scE (grp j) l.length xs := by
        unfold backE
        rw [openK_some h1 h3, openE_s h, if_pos g]
      unfold rbackK
      rw [e, if_neg g]
      exact ⟨rfl, rfl⟩
    · intro h g g6
      have e : backE (j : Int) l ch xs = 6 := by
        unfold backE
        rw [openK_some h1 h3, openE_s h, g, if_neg (by decide), Int.toNat_natCast, g6, if_neg (by decide)]
      unfold rbackK
      rw [e, if_neg (by decide)]
      exact ⟨rfl, rfl⟩
    · intro h g g6
      have e : backE (j : Int) l ch xs = 0 := by
        unfold backE
        rw [openK_some h1 h3, openE_s h, g, if_neg (by decide), Int.toNat_natCast, g6, if_pos rfl]
      unfold rbackK
      rw [e, if_pos rfl]
      exact ⟨rfl, rfl⟩
  · unfold rbackK backE openK
    rw [if_neg hk, if_pos (by decide), if_neg (by decide)]
    exact rBack_none k hk _ _ ch w
end Go.Proofs.Ytipgjookfdkciaa

/- Numbers of the group as texts, and back. No condition beyond those that each fact names. -/
namespace Go.Proofs.Ytipgjookfdkciaa
open Go.RowKit

theorem isSc_lt' {G : GP} {s : ByteArray} (h : isSc G.q.m G.size s = true) : numOf s % G.q.m = numOf s ∧ numOf s < G.q.m := by
  unfold isSc at h
  simp only [Bool.and_eq_true, decide_eq_true_eq] at h
  exact ⟨Nat.mod_eq_of_lt h.2, h.2⟩
theorem isSc_inj {G : GP} {s t : ByteArray} (h : isSc G.q.m G.size s = true) (g : isSc G.q.m G.size t = true) (e : numOf s = numOf t) : s = t := numOf_inj (by rw [isSc_size h, isSc_size g]) e
theorem T_numOf {k : Nat} (h1 : 1 ≤ k) (h3 : k ≤ 3) (x : Nat) : numOf (textS (lowN (grp k) x) (grp k).size) = lowN (grp k) x := T_num (grp_ok k h1 h3) (lowN_le (grp_ok k h1 h3) x) (grp_fits k h1 h3)
theorem T_isEl {k : Nat} (h1 : 1 ≤ k) (h3 : k ≤ 3) {x : Nat} (h : ¬ (grp k).p.m ∣ x) : isEl (grp k).q.m (grp k).size (textS (lowN (grp k) x) (grp k).size) = true :=
  T_el (grp_ok k h1 h3) (grp_fits k h1 h3) (lowN_pos (grp_ok k h1 h3) (grp_prime_p k h1 h3) h) (lowN_le (grp_ok k h1 h3) x)
theorem T_eq {k : Nat} (h1 : 1 ≤ k) (h3 : k ≤ 3) {x y : Nat} : textS (lowN (grp k) x) (grp k).size = textS (lowN (grp k) y) (grp k).size ↔ lowN (grp k) x = lowN (grp k) y :=
  ⟨fun h => T_inj (grp_ok k h1 h3) (grp_fits k h1 h3) (lowN_le (grp_ok k h1 h3) x) (lowN_le (grp_ok k h1 h3) y) h, fun h => by rw [h]⟩
end Go.Proofs.Ytipgjookfdkciaa

/- Claims with which nothing is wrong, in plain words. No Go. No condition beyond those that each fact names. -/
namespace Go.Proofs.Ytipgjookfdkciaa
open Go.RowKit

theorem el_le {q size : Nat} {s : ByteArray} (h : isEl q size s = true) : numOf s ≤ q := by
  unfold isEl at h
  simp only [Bool.and_eq_true, decide_eq_true_eq] at h
  exact h.2
theorem el_text {G : GP} (ok : G.Ok) {m : ByteArray} (h : isEl G.q.m G.size m = true) : m = textS (lowN G (numOf m)) G.size := by
  rw [lowN_fix ok (el_le h), ← isEl_size h, text_numOf]
/-- What claims and scalars are that nothing is wrong with. -/
structure AllOk (G : GP) (l : List ClaimA) (xs : List ByteArray) : Prop where
  len : ∀ c ∈ l, c.images.length = c.bases.length
  bs : ∀ c ∈ l, ∀ s ∈ c.bases, isEl G.q.m G.size s = true
  ims : ∀ c ∈ l, ∀ s ∈ c.images, isEl G.q.m G.size s = true
  xl : xs.length = l.length
  xs : ∀ s ∈ xs, isSc G.q.m G.size s = true
theorem allOk {k : Int} {l : List ClaimA} {xs : List ByteArray} (h : openK k l xs = 0) : (1 ≤ k ∧ k ≤ 3) ∧ AllOk (grp k.toNat) l xs := by
  obtain ⟨hk, hs, he, hxl, hxa⟩ := openK_ok h
  have hs := shape_ok hs
  have hc : ∀ c ∈ l, c.bases.all (isEl (grp k.toNat).q.m (grp k.toNat).size) = true ∧ c.images.all (isEl (grp k.toNat).q.m (grp k.toNat).size) = true := fun c hc => by
    have h9 : (c.bases.all (isEl (grp k.toNat).q.m (grp k.toNat).size) && c.images.all (isEl (grp k.toNat).q.m (grp k.toNat).size)) = true := List.all_eq_true.1 he c hc
    exact (Bool.and_eq_true _ _).mp h9
  exact ⟨hk, fun c h => (hs.2.2 c h).2.2, fun c h s g => List.all_eq_true.1 (hc c h).1 s g, fun c h s g => List.all_eq_true.1 (hc c h).2 s g, hxl, fun s g => List.all_eq_true.1 hxa s g⟩
theorem eachA_congr {G : GP} {v v' : Nat → Nat → Nat} {ms : List Nat} {n : Nat} (h : ∀ i t, i < n → t < ms.getD i 0 → lowN G (v i t) = lowN G (v' i t)) : eachA G v ms n = eachA G v' ms n := by
  unfold eachA eachL
  apply List.map_congr_left
  intro i hi
  apply List.map_congr_left
  intro t ht
  rw [h i t (List.mem_range.1 hi) (List.mem_range.1 ht)]
theorem backE_ok {k : Int} {l : List ClaimA} {ch : ByteArray} {xs : List ByteArray} (h : backE k l ch xs = 0) : openK k l xs = 0 ∧ isSc (grp k.toNat).q.m (grp k.toNat).size ch = true := by
  unfold backE at h
  by_cases g : openK k l xs = 0
  · rw [if_neg (by simpa using g)] at h
    refine ⟨g, ?_⟩
    by_cases f : isSc (grp k.toNat).q.m (grp k.toNat).size ch = true
    · exact f
    · rw [if_neg f] at h; cases h
  · rw [if_pos g] at h
    exact absurd h g
end Go.Proofs.Ytipgjookfdkciaa

/- What the package sigma and the document reckon is one and the same. No Go. No condition beyond those that each fact names. -/
namespace Go.Proofs.Ytipgjookfdkciaa
open Go.RowKit

theorem zipWith_congr' {α β γ : Type} {f g : α → β → γ} {l : List α} {m : List β} (h : ∀ i (hl : i < l.length) (hm : i < m.length), f l[i] m[i] = g l[i] m[i]) : List.zipWith f l m = List.zipWith g l m := by
  apply List.ext_getElem
  · simp
  · intro i h1 h2
    rw [List.getElem_zipWith, List.getElem_zipWith]
    exact h i _ _
theorem hold2_eq {k : Nat} (h1 : 1 ≤ k) (h3 : k ≤ 3) {x b m : ByteArray} (hx : isSc (grp k).q.m (grp k).size x = true) (hm : isEl (grp k).q.m (grp k).size m = true) : rhold2 (grp k) x b m = hold2 (grp k) x b m := by
  unfold rhold2 hold2
  rw [(isSc_lt' hx).1, decide_eq_decide]
  have e := el_text (grp_ok k h1 h3) hm
  constructor
  · intro h
    exact (T_eq h1 h3).1 (h.trans e)
  · intro h
    exact ((T_eq h1 h3).2 h).trans e.symm
theorem holdP_eq {k : Nat} (h1 : 1 ≤ k) (h3 : k ≤ 3) {l : List ClaimA} {xs : List ByteArray} (h : AllOk (grp k) l xs) : rholdP (grp k) l xs = holdP (grp k) l xs := by
  unfold rholdP holdP
  rw [zipWith_congr' (f := rhold1 (grp k)) (g := hold1 (grp k))]
  intro i hl hx
  unfold rhold1 hold1
  rw [zipWith_congr' (f := rhold2 (grp k) xs[i]) (g := hold2 (grp k) xs[i])]
  intro t hb hm
  exact hold2_eq h1 h3 (h.xs _ (List.getElem_mem hx)) (h.ims _ (List.getElem_mem hl) _ (List.getElem_mem hm))
theorem rholdK_eq (k : Int) (l : List ClaimA) (xs : List ByteArray) : rholdK k l xs = holdK k l xs := by
  unfold rholdK holdK
  by_cases h : openK k l xs = 0
  · obtain ⟨hk, ha⟩ := allOk h
    rw [holdP_eq (by omega) (by omega) ha]
  · rw [decide_eq_false h]
    rfl
theorem valB_low {G : GP} (ok : G.Ok) {l : List ClaimA} {xs : List ByteArray} (h : AllOk G l xs) (y z : Nat) (hy : y = z % G.q.m) (i t : Nat) (hi : i < l.length) (_ht : t < (lens l).getD i 0) : lowN G (rvalB G y l xs i t) = lowN G (valB G z l xs i t) := by
  have hx : i < xs.length := by rw [h.xl]; exact hi
  unfold rvalB valB valF
  rw [lowN_mul ok, ← hy]
  have e : xs.getD i ⟨#[]⟩ = xs[i] := by simp [List.getD, hx]
  rw [e, (isSc_lt' (h.xs _ (List.getElem_mem hx))).1]
theorem valF_low {G : GP} (ok : G.Ok) {l : List ClaimA} {xs : List ByteArray} (h : AllOk G l xs) (i t : Nat) (hi : i < l.length) (_ht : t < (lens l).getD i 0) : lowN G (rvalB G (subQ G 0 0) l xs i t) = lowN G (valF G l xs i t) := by
  rw [valB_low ok h (subQ G 0 0) 0 (by unfold subQ; simp) i t hi _ht]
  unfold valB
  rw [Nat.zero_mod, Nat.pow_zero, Nat.mul_one]
theorem rfirstK_eq (k : Int) (l : List ClaimA) (xs : List ByteArray) : rfirstK k l xs = firstK k l xs := by
  unfold rfirstK firstK
  by_cases h : openK k l xs = 0
  · rw [if_pos h, if_pos h]
    obtain ⟨hk, ha⟩ := allOk h
    exact eachA_congr fun i t hi ht => valF_low (grp_ok _ (by omega) (by omega)) ha i t hi ht
  · rw [if_neg h, if_neg h]
theorem rbackK_eq (k : Int) (l : List ClaimA) (ch : ByteArray) (xs : List ByteArray) : rbackK k l ch xs = backK k l ch xs := by
  unfold rbackK backK
  by_cases h : backE k l ch xs = 0
  · rw [if_pos h, if_pos h]
    obtain ⟨hk, ha⟩ := allOk (backE_ok h).1
    exact eachA_congr fun i t hi ht => valB_low (grp_ok _ (by omega) (by omega)) ha _ _ (by unfold subQ; rw [Nat.zero_add]) i t hi ht
  · rw [if_neg h, if_neg h]
end Go.Proofs.Ytipgjookfdkciaa

/- Lists of strings are compared: same of the package hustingslaw5. Condition: the lists that memory can hold. -/
namespace Go.Proofs.Ytipgjookfdkciaa
open Go.RowKit

theorem take_eq_snoc {l m : List ByteArray} {j : Nat} (hl : j < l.length) (hm : j < m.length) (h : l.take j = m.take j) (h1 : l[j] = m[j]) : l.take (j + 1) = m.take (j + 1) := by
  rw [List.take_succ_eq_append_getElem hl, List.take_succ_eq_append_getElem hm, h, h1]

set_option maxRecDepth 100000 in
set_option maxHeartbeats 1000000 in
theorem same5_any (l m : List ByteArray) (al am : Option Addr) (cl cm : Nat) (hl : l.length ≤ 8796093022207) (b : Bool) (hb : decide (l = m) = b) (w : World) (hL : Sl w w.heap.size al (l.map Value.string)) (hM : Sl w w.heap.size am (m.map Value.string)) :
    Calls Try.prog 17 #[.slice al l.length cl, .slice am m.length cm] w (Gives (.bool b) w) := by
  have HL := Lib.hid hL
  have HM := Lib.hid hM
  have HBB := Lib.hid hb
  clear hL hM hb
  unfold Gives
  by_cases h1 : l.length = m.length
  · have hd : ((l.length : Int) != (m.length : Int)) = false := by rw [bne_eq_false_iff_eq]; omega
    obtain ⟨n, hn⟩ : ∃ n, l.length = n := ⟨_, rfl⟩
    have hm : m.length = n := by omega
    have HNL := Lib.hid hn
    have HNM := Lib.hid hm
    rw [hn] at hd hl ⊢
    rw [hm] at hd ⊢
    clear h1 hn hm
    go_enter Try.func17, Try.ntmps17
    go_wp2_with fail
    go_loopw [13] (fun i wr => ∃ j : Nat, j ≤ n ∧ i = .int .i64 j ∧ Hid (Below w.heap.size w wr) ∧ Hid (l.take j = m.take j)) (fun i _ => n - (intOf i).toNat)
    case atStart => exact ⟨0, Nat.zero_le _, rfl, Below.refl _ _, rfl⟩
    case round =>
      obtain ⟨j, hj, rfl, HB, HT⟩ := hrel
      by_cases hjn : j < n
      · skip
        have hjl : j < l.length := by rw [HNL.out]; exact hjn
        have hjm : j < m.length := by rw [HNM.out]; exact hjn
        obtain ⟨b1, o1, rfl, hb10, hb1, hc1⟩ := HL.out.atUp HB.out j (by simpa using hjl)
        obtain ⟨b2, o2, rfl, hb20, hb2, hc2⟩ := HM.out.atUp HB.out j (by simpa using hjm)
        rw [List.getElem_map] at hc1 hc2
        have HTS := Lib.hid (take_eq_snoc hjl hjm HT.out)
        have HNE := Lib.hid (fun (h : ¬ l[j] = m[j]) => (show ¬ l = m from fun e => h (by subst e; rfl)))
        generalize l[j] = x at *
        generalize m[j] = y at *
        by_cases hxy : x = y
        · have HF := Lib.hid (HTS.out hxy)
          subst hxy
          go_wp2_with fail
          refine wp_region_over (by kernel_rfl) (by kernel_rfl) ?_
          have hov_b1 := fun (E : Over wr) o => E.cell (b := b1) o hb1
          have hov_b2 := fun (E : Over wr) o => E.cell (b := b2) o hb2
          repeat (go_big_quiet_step (first | fail))
          all_goals (try unfold elV limbV)
          repeat (go_big_quiet_step (first | fail))
          all_goals (try unfold elV limbV)
          repeat (go_big_quiet_step (first | fail))
          all_goals (try unfold ciphV)
          refine wpQuiet_nil ?_
          rintro _ ⟨E, rfl⟩
          clear hov_b1 hov_b2
          replace HB := hbu HB E.h
          have HZS := Lib.hid E.h.size
          obtain ⟨w1, hq9⟩ : ∃ W9 : World, E.w = W9 := ⟨_, rfl⟩
          rw [hq9] at HB HZS ⊢
          clear hq9 E
          go_wp2_with fail
          go_roundw
          case rel => exact ⟨j + 1, by omega, by go_num, HB, HF⟩
          case measure => simp [intOf]; omega
        · obtain rfl : b = false := by rw [← HBB.out]; exact decide_eq_false (HNE.out hxy)
          have hcd := toList_bne hxy
          clear hxy
          go_wp2_with fail
          refine wp_region_over (by kernel_rfl) (by kernel_rfl) ?_
          have hov_b1 := fun (E : Over wr) o => E.cell (b := b1) o hb1
          have hov_b2 := fun (E : Over wr) o => E.cell (b := b2) o hb2
          repeat (go_big_quiet_step (first | fail))
          all_goals (try unfold elV limbV)
          repeat (go_big_quiet_step (first | fail))
          all_goals (try unfold elV limbV)
          repeat (go_big_quiet_step (first | fail))
          all_goals (try unfold ciphV)
          refine wpQuiet_nil ?_
          rintro _ ⟨E, rfl⟩
          clear hov_b1 hov_b2
          replace HB := hbu HB E.h
          have HZS := Lib.hid E.h.size
          obtain ⟨w1, hq9⟩ : ∃ W9 : World, E.w = W9 := ⟨_, rfl⟩
          rw [hq9] at HB HZS ⊢
          clear hq9 E
          go_wp2_with fail
          go_ret
          exact ⟨rfl, HB.out⟩
      · have hjn' : j = n := by omega
        subst hjn'
        obtain rfl : b = true := by
          rw [← HBB.out]
          refine decide_eq_true ?_
          have h9 := HT.out
          rwa [List.take_of_length_le (by rw [HNL.out]; exact Nat.le_refl _), List.take_of_length_le (by rw [HNM.out]; exact Nat.le_refl _)] at h9
        go_wp2_with fail
        go_ret
        exact ⟨rfl, HB.out⟩
  · have hd : ((l.length : Int) != (m.length : Int)) = true := by rw [bne_iff_ne]; omega
    obtain rfl : b = false := by rw [← HBB.out]; exact decide_eq_false (fun e => h1 (by rw [e]))
    clear h1
    go_enter Try.func17, Try.ntmps17
    go_wp2_with fail
    go_ret
    exact ⟨rfl, Below.refl _ _⟩

end Go.Proofs.Ytipgjookfdkciaa

/- Firsts are few: at most 64 lists of at most 8. No condition. -/
namespace Go.Proofs.Ytipgjookfdkciaa
open Go.RowKit

theorem eachA_small (G : GP) (v : Nat → Nat → Nat) {l : List ClaimA} (hn : l.length ≤ 64) (hb : ∀ c ∈ l, c.bases.length ≤ 8) : (eachA G v (lens l) l.length).length ≤ 64 ∧ ∀ r ∈ eachA G v (lens l) l.length, r.length ≤ 8 := by
  refine ⟨by rw [eachA_len]; exact hn, fun r hr => ?_⟩
  unfold eachA at hr
  obtain ⟨i, hi, rfl⟩ := List.mem_map.1 hr
  have hi := List.mem_range.1 hi
  rw [eachL_len]
  have e : (lens l).getD i 0 = l[i].bases.length := by unfold lens; simp [List.getD, hi]
  rw [e]
  exact hb _ (List.getElem_mem hi)
theorem small_if {P : Prop} [Decidable P] {L : List (List ByteArray)} (h : P → L.length ≤ 64 ∧ ∀ r ∈ L, r.length ≤ 8) : (if P then L else []).length ≤ 64 ∧ ∀ r ∈ (if P then L else []), r.length ≤ 8 := by
  by_cases p : P
  · rw [if_pos p]; exact h p
  · rw [if_neg p]; exact ⟨Nat.zero_le _, fun _ h => by cases h⟩
theorem firstK_small (k : Int) (l : List ClaimA) (xs : List ByteArray) : (firstK k l xs).length ≤ 64 ∧ ∀ r ∈ firstK k l xs, r.length ≤ 8 := by
  unfold firstK
  refine small_if fun h => ?_
  have hs := shape_ok (openK_ok h).2.1
  exact eachA_small _ _ hs.2.1 fun c hc => (hs.2.2 c hc).2.1
theorem backK_small (k : Int) (l : List ClaimA) (ch : ByteArray) (xs : List ByteArray) : (backK k l ch xs).length ≤ 64 ∧ ∀ r ∈ backK k l ch xs, r.length ≤ 8 := by
  unfold backK
  refine small_if fun h => ?_
  have hs := shape_ok (openK_ok (backE_ok h).1).2.1
  exact eachA_small _ _ hs.2.1 fun c hc => (hs.2.2 c hc).2.1

end Go.Proofs.Ytipgjookfdkciaa

/- Small words for opening arguments of deep types: slices of elements of any size, whatever each element is. No condition. -/
namespace Go.Proofs.Ytipgjookfdkciaa
open Go.ChangeShapes Go.WideShapes Go.ChangeAt Go.RowKit

/-! What the bound of the second form gives. -/
theorem bulk_one {H : Type} (d : DataW H) : 1 ≤ Rows.uptoBulk d := by
  cases d with
  | lit l => cases l <;> simp [Rows.uptoBulk]
  | nil => simp [Rows.uptoBulk]
  | ptr d => simp [Rows.uptoBulk]
  | slice elems spare => simp [Rows.uptoBulk]
  | agg parts => simp [Rows.uptoBulk]
  | iface t d => simp [Rows.uptoBulk]
  | map entries => simp [Rows.uptoBulk]
  | held h => simp [Rows.uptoBulk]
theorem bulk_part {H : Type} {d : DataW H} {l : List (DataW H)} (h : d ∈ l) : Rows.uptoBulk d ≤ Rows.uptoBulkAll l := by
  induction l with
  | nil => cases h
  | cons x r ih =>
    simp only [Rows.uptoBulkAll]
    rcases List.mem_cons.1 h with rfl | e
    · omega
    · have := ih e; omega
theorem bulk_length {H : Type} (l : List (DataW H)) : l.length ≤ Rows.uptoBulkAll l := by
  induction l with
  | nil => simp [Rows.uptoBulkAll]
  | cons x r ih => have := bulk_one x; simp only [Rows.uptoBulkAll, List.length_cons]; omega
theorem bulk_slice {H : Type} {elems spare : List (DataW H)} {B : Nat} (h : Rows.uptoBulk (.slice elems spare) ≤ B) : elems.length ≤ B ∧ ∀ d ∈ elems, Rows.uptoBulk d ≤ B := by
  simp only [Rows.uptoBulk] at h
  refine ⟨by have := bulk_length elems; omega, fun d hd => by have := bulk_part hd; omega⟩
theorem bulk_agg {H : Type} {parts : List (DataW H)} {B : Nat} (h : Rows.uptoBulk (.agg parts) ≤ B) : ∀ d ∈ parts, Rows.uptoBulk d ≤ B := by
  simp only [Rows.uptoBulk] at h
  exact fun d hd => by have := bulk_part hd; omega

theorem flat_range (g : Nat → Value) (k len : Nat) : ((List.range len).map fun i => (List.range k).map fun j => g (i * k + j)).flatten = (List.range (len * k)).map g := by
  induction len with
  | zero => simp
  | succ m ih =>
    rw [List.range_succ, List.map_append, List.flatten_append, ih, Nat.succ_mul, List.range_add, List.map_append]
    simp [List.map_map, Function.comp_def]

section
variable {H : Type} {enc : TypeId × Value → H} {P : Program} {w : World}

/-- A cell that is a slice of elements of k cells: all its elements' cells, each element with its own reading. -/
theorem open_flat {sp : Nat → Bool} {held : Bool} {t e : TypeId} {k fuel : Nat} {c : Value} {y : DataW H × List MemPlace} (ht : P.underlying t = some (.slice e)) (hk : P.cellsOf e = k) (hk0 : 0 < k) {B : Nat} (hB : Rows.uptoBulk y.1 ≤ B)
    (h : DataW.trod enc P w 0 sp held fuel t [c] = some y) :
    ∃ (a : Option Addr) (cap : Nat) (css : List (List Value)), c = .slice a css.length cap ∧ css.length ≤ B ∧ (∀ l ∈ css, l.length = k) ∧ Sl w w.heap.size a css.flatten ∧
      ∀ l ∈ css, ∃ n y', Rows.uptoBulk y'.1 ≤ B ∧ DataW.trod enc P w 0 sp held n e l = some y' := by
  have hlt := DataW.trod_lt _ _ _ _ h
  rcases DataW.trod_slice ht h with ⟨hcs, _⟩ | ⟨x, len, cap, elems, rest, n, _, hcs, hx, hb, hl, hm, hlen, hel, _, _⟩
  · simp only [List.cons.injEq, and_true] at hcs
    exact ⟨none, 0, [], hcs, by simp, by simp, Or.inl rfl, by simp⟩
  simp only [List.cons.injEq, and_true] at hcs
  subst hcs
  by_cases h0 : len = 0
  · subst h0
    exact ⟨some x, cap, [], rfl, by simp, by simp, Or.inl rfl, by simp⟩
  have hbk := bulk_slice (elems := elems.map (·.1)) (spare := rest.map (·.1)) (B := B) (by rw [hx] at hB; exact hB)
  have each : ∀ i, i < len → ∃ l y', w.cells? 0 (x.add (i * k)) k = some l ∧ Rows.uptoBulk y'.1 ≤ B ∧ DataW.trod enc P w 0 sp held n e l = some y' := by
    intro i hi
    have h1 := hel i hi
    rw [hk, show elems[i]? = some (elems[i]'(by omega)) from List.getElem?_eq_getElem (by omega), Option.bind_eq_some_iff] at h1
    obtain ⟨l, hl, hy⟩ := h1
    exact ⟨l, _, hl, hbk.2 _ (List.mem_map.2 ⟨_, List.getElem_mem _, rfl⟩), hy⟩
  obtain ⟨b, off, spot⟩ := x
  have hspot : spot = none := by
    obtain ⟨l, _, h1, _⟩ := each 0 (by omega)
    obtain ⟨_, h2, h3⟩ := World.cells?_some h1
    have h4 := h3 0 hk0
    obtain ⟨v, hv⟩ : ∃ v, l[0]? = some v := ⟨_, List.getElem?_eq_getElem (by omega)⟩
    rw [hv, Deep.add_add, Nat.zero_mul, Nat.zero_add] at h4
    simpa [Addr.add] using World.cell?_spot h4
  subst hspot
  have hbW : b < w.heap.size := hlt (.cell b off) (by
    rw [hx]
    exact List.mem_append_left _ (MemPlace.mem_row.2 ⟨0, by rw [hk]; have : 0 < (elems.length + rest.length) * k := Nat.mul_pos (by omega) hk0; omega, by simp⟩))
  have hL : ∀ i, i < len → ((List.range k).map fun j => (w.cell? ⟨b, off + (i * k + j), none⟩).getD (.bool false)).length = k ∧
      (∀ j, j < k → w.cell? ⟨b, off + (i * k + j), none⟩ = some ((w.cell? ⟨b, off + (i * k + j), none⟩).getD (.bool false))) ∧
      ∃ y', Rows.uptoBulk y'.1 ≤ B ∧ DataW.trod enc P w 0 sp held n e ((List.range k).map fun j => (w.cell? ⟨b, off + (i * k + j), none⟩).getD (.bool false)) = some y' := by
    intro i hi
    obtain ⟨l, y', h1, h2b, h2⟩ := each i hi
    obtain ⟨_, h3, h4⟩ := World.cells?_some h1
    have h5 : ∀ j, j < k → w.cell? ⟨b, off + (i * k + j), none⟩ = l[j]? := by
      intro j hj
      have := h4 j hj
      rwa [Deep.add_add, add_plain] at this
    have e1 : (List.range k).map (fun j => (w.cell? ⟨b, off + (i * k + j), none⟩).getD (.bool false)) = l := by
      apply List.ext_getElem?
      intro j
      by_cases hj : j < k
      · rw [List.getElem?_map, List.getElem?_range hj, Option.map_some, h5 j hj, List.getElem?_eq_getElem (show j < l.length by omega), Option.getD_some]
      · rw [List.getElem?_eq_none (by simp; omega), List.getElem?_eq_none (by omega)]
    refine ⟨by simp, ?_, ?_⟩
    · intro j hj
      rw [h5 j hj, List.getElem?_eq_getElem (show j < l.length by omega), Option.getD_some]
    · rw [e1]; exact ⟨y', h2b, h2⟩
  refine ⟨some ⟨b, off, none⟩, cap, (List.range len).map fun i => (List.range k).map fun j => (w.cell? ⟨b, off + (i * k + j), none⟩).getD (.bool false), by simp, ?_, ?_, Or.inr ⟨b, off, rfl, hbW, ?_⟩, ?_⟩
  · have := hbk.1; rw [List.length_map] at this; simp; omega
  · intro l hl
    obtain ⟨i, _, rfl⟩ := List.mem_map.1 hl
    simp
  · have hflat := flat_range (fun m => (w.cell? ⟨b, off + m, none⟩).getD (.bool false)) k len
    intro i v hv
    rw [hflat] at hv
    have hi : i < len * k := by have := (List.getElem?_eq_some_iff.1 hv).1; simpa using this
    have hq : i / k < len := Nat.div_lt_of_lt_mul (by rwa [Nat.mul_comm] at hi)
    have hc := (hL (i / k) hq).2.1 (i % k) (Nat.mod_lt _ hk0)
    rw [show i / k * k + i % k = i by rw [Nat.mul_comm]; exact Nat.div_add_mod i k] at hc
    rw [hc, ← hv, List.getElem?_map, List.getElem?_range hi, Option.map_some]
  · intro l hl
    obtain ⟨i, hi, rfl⟩ := List.mem_map.1 hl
    obtain ⟨y', hyb, hy⟩ := (hL i (List.mem_range.1 hi)).2.2
    exact ⟨n, y', hyb, hy⟩

/-- A list of lists of values each of which is of one shape. -/
theorem list_shapes {α : Type} (f : α → List Value) (R : α → Prop) : ∀ css : List (List Value), (∀ l ∈ css, ∃ x, l = f x ∧ R x) → ∃ xs : List α, xs.length = css.length ∧ css.flatten = xs.flatMap f ∧ ∀ x ∈ xs, R x
  | [], _ => ⟨[], rfl, rfl, by simp⟩
  | l :: css, h => by
    obtain ⟨x, rfl, hR⟩ := h l (by simp)
    obtain ⟨xs, h1, h2, h3⟩ := list_shapes f R css (fun c hc => h c (by simp [hc]))
    refine ⟨x :: xs, by simp [h1], by simp [h2], ?_⟩
    intro y hy
    rcases List.mem_cons.1 hy with rfl | hy
    · exact hR
    · exact h3 y hy

/-- The same, each element of a shape that is known. -/
theorem open_els {α : Type} (f : α → List Value) (R : α → Prop) {sp : Nat → Bool} {held : Bool} {t e : TypeId} {k fuel : Nat} {c : Value} {y : DataW H × List MemPlace} (ht : P.underlying t = some (.slice e)) (hk : P.cellsOf e = k) (hk0 : 0 < k) {B : Nat} (hB : Rows.uptoBulk y.1 ≤ B)
    (hel : ∀ n l y', l.length = k → Rows.uptoBulk y'.1 ≤ B → DataW.trod enc P w 0 sp held n e l = some y' → ∃ x, l = f x ∧ R x) (h : DataW.trod enc P w 0 sp held fuel t [c] = some y) :
    ∃ (a : Option Addr) (cap : Nat) (xs : List α), c = .slice a xs.length cap ∧ xs.length ≤ B ∧ Sl w w.heap.size a (xs.flatMap f) ∧ ∀ x ∈ xs, R x := by
  obtain ⟨a, cap, css, rfl, hlB, hl, hs, he⟩ := open_flat ht hk hk0 hB h
  obtain ⟨xs, h1, h2, h3⟩ := list_shapes f R css (fun l hm => by
    obtain ⟨n, y', hyb, hy⟩ := he l hm
    exact hel n l y' (hl l hm) hyb hy)
  exact ⟨a, cap, xs, by rw [h1], by omega, h2 ▸ hs, h3⟩

/-- A struct whose fields are of one cell each. -/
theorem open_cells {sp : Nat → Bool} {held : Bool} {t : TypeId} {fs : Array Go.Field} {fuel : Nat} {cs : List Value} {y : DataW H × List MemPlace} (hs : P.underlying t = some (.struct fs)) (hone : Go.Deep.oneCellFields P fs = true) (hC : P.cellsOf t = fs.size) {B : Nat} (hB : Rows.uptoBulk y.1 ≤ B)
    (h : DataW.trod enc P w 0 sp held fuel t cs = some y) :
    cs.length = fs.size ∧ ∀ (j : Nat) (f : Go.Field) (c : Value), fs[j]? = some f → cs[j]? = some c → ∃ n y', Rows.uptoBulk y'.1 ≤ B ∧ DataW.trod enc P w 0 sp held n f.type [c] = some y' := by
  obtain ⟨ys, n, _, hy, hcl, hlen, hg⟩ := DataW.trod_struct hs h
  have hbk := bulk_agg (parts := ys.map (·.1)) (B := B) (by rw [hy] at hB; exact hB)
  refine ⟨by omega, fun j f c hj hc => ?_⟩
  obtain ⟨ho, hk⟩ := Go.Deep.hone_of hone j f hj
  have hjf : j < fs.size := (Array.getElem?_eq_some_iff.1 hj).1
  have h1 := hg j f hj
  have hjc := (List.getElem?_eq_some_iff.1 hc).1
  rw [ho, hk, List.drop_eq_getElem_cons hjc, List.take_succ_cons, List.take_zero, (List.getElem?_eq_some_iff.1 hc).2, List.getElem?_eq_getElem (show j < ys.length by omega)] at h1
  exact ⟨n, _, hbk _ (List.mem_map.2 ⟨_, List.getElem_mem _, rfl⟩), h1⟩

theorem list2 {cs : List Value} (h : cs.length = 2) : ∃ a b, cs = [a, b] := by
  match cs, h with
  | [a, b], _ => exact ⟨a, b, rfl⟩
theorem list3 {cs : List Value} (h : cs.length = 3) : ∃ a b c, cs = [a, b, c] := by
  match cs, h with
  | [a, b, c], _ => exact ⟨a, b, c, rfl⟩

/-- A cell that is a string. -/
theorem open_str {sp : Nat → Bool} {held : Bool} {t : TypeId} {fuel : Nat} {c : Value} {y : DataW H × List MemPlace} (ht : P.underlying t = some .string) (h : DataW.trod enc P w 0 sp held fuel t [c] = some y) : ∃ s : ByteArray, c = .string s := by
  obtain ⟨s, hs, _⟩ := DataW.trod_string ht h
  simp only [List.cons.injEq, and_true] at hs
  exact ⟨s, hs⟩

/-- A cell that is a slice of strings. -/
theorem open_strs {sp : Nat → Bool} {held : Bool} {t e : TypeId} {fuel : Nat} {c : Value} {y : DataW H × List MemPlace} (ht : P.underlying t = some (.slice e)) (he : P.underlying e = some .string) (hk : P.cellsOf e = 1) {B : Nat} (hB : Rows.uptoBulk y.1 ≤ B) (h : DataW.trod enc P w 0 sp held fuel t [c] = some y) :
    ∃ (a : Option Addr) (cap : Nat) (bs : List ByteArray), c = .slice a bs.length cap ∧ bs.length ≤ B ∧ Sl w w.heap.size a (bs.map Value.string) := by
  obtain ⟨a, cap, xs, h1, hb, h2, _⟩ := open_els (fun s : ByteArray => [Value.string s]) (fun _ => True) ht hk (by omega) hB (fun n l y' hl _ hy => by
    match l, hl with
    | [c'], _ =>
      obtain ⟨s, rfl⟩ := open_str he hy
      exact ⟨s, rfl, trivial⟩) h
  refine ⟨a, cap, xs, h1, hb, ?_⟩
  rw [← List.flatMap_singleton' (xs.map Value.string), List.flatMap_map]
  exact h2

/-- The reading of a slice has as many parts as the slice has elements. -/
theorem trod_len {sp : Nat → Bool} {held : Bool} {t e : TypeId} {fuel : Nat} {a : Option Addr} {len cap : Nat} {y : DataW H × List MemPlace} (ht : P.underlying t = some (.slice e)) (h : DataW.trod enc P w 0 sp held fuel t [.slice a len cap] = some y) :
    len = 0 ∨ ∃ es rs, y.1 = .slice es rs ∧ es.length = len := by
  rcases DataW.trod_slice ht h with ⟨hcs, _⟩ | ⟨x, l, c, elems, rest, n, _, hcs, hx, _, _, _, hlen, _⟩
  · simp only [List.cons.injEq, Value.slice.injEq, and_true] at hcs
    exact Or.inl hcs.2.1
  · simp only [List.cons.injEq, Value.slice.injEq, and_true] at hcs
    exact Or.inr ⟨_, _, by rw [hx], by rw [List.length_map, hlen, hcs.2.1]⟩

end

end Go.Proofs.Ytipgjookfdkciaa

/- Arguments of deep types are opened, with what the form's own reach says of each part's size. No condition. -/
namespace Go.Proofs.Ytipgjookfdkciaa
open Go.ChangeShapes Go.WideShapes Go.ChangeAt Go.RowKit

/-- No part of a datum is above the form's reach. -/
def Wt {H : Type} (P : Program) (t : TypeId) (d : DataW H) : Prop := ∀ n ∈ DataW.weights P t d, n ≤ reachBytes
theorem weightsAll_mem {H : Type} {P : Program} {e : TypeId} : ∀ {l : List (DataW H)} {d : DataW H}, d ∈ l → ∀ n ∈ DataW.weights P e d, n ∈ DataW.weightsAll P e l
  | x :: l, d, hd, n, hn => by
    simp only [DataW.weightsAll, List.mem_append]
    rcases List.mem_cons.1 hd with rfl | h
    · exact Or.inl hn
    · exact Or.inr (weightsAll_mem h n hn)
theorem Wt.slice {H : Type} {P : Program} {t e : TypeId} {elems spare : List (DataW H)} (ht : P.underlying t = some (.slice e)) (h : Wt P t (.slice elems spare)) : elems.length * P.bytesOf e ≤ reachBytes ∧ ∀ d ∈ elems, Wt P e d := by
  unfold Wt at h
  simp only [DataW.weights, ht, List.mem_cons, List.mem_append] at h
  refine ⟨Nat.le_trans (Nat.mul_le_mul_right _ (Nat.le_add_right _ _)) (h _ (Or.inl rfl)), fun d hd n hn => h n (Or.inr (Or.inl (weightsAll_mem hd n hn)))⟩
theorem Wt.agg {H : Type} {P : Program} {t : TypeId} {fs : Array Go.Field} {parts : List (DataW H)} (ht : P.underlying t = some (.struct fs)) (h : Wt P t (.agg parts)) : ∀ (j : Nat) (f : Go.Field) (d : DataW H), fs[j]? = some f → parts[j]? = some d → Wt P f.type d := by
  intro j f d hj hd n hn
  unfold Wt at h
  simp only [DataW.weights, ht] at h
  exact h n (DataW.weights_mem_each (ts := fs.toList.map (·.type)) (by rw [List.getElem?_map, Array.getElem?_toList, hj]; rfl) hd n hn)
theorem Wt.arg {H : Type} {P : Program} {ts : List TypeId} {ds : List (DataW H)} (h : (DataW.weightsEach P ts ds).all (· ≤ reachBytes) = true) {j : Nat} {t : TypeId} {d : DataW H} (ht : ts[j]? = some t) (hd : ds[j]? = some d) : Wt P t d :=
  fun n hn => of_decide_eq_true (List.all_eq_true.1 h _ (DataW.weights_mem_each ht hd n hn))

section
variable {H : Type} {enc : TypeId × Value → H} {P : Program} {w : World}

/-- A cell that is a slice of elements of k cells: all its elements' cells, each element with its own reading. -/
theorem open_flatW {sp : Nat → Bool} {held : Bool} {t e : TypeId} {k fuel : Nat} {c : Value} {y : DataW H × List MemPlace} (ht : P.underlying t = some (.slice e)) (hk : P.cellsOf e = k) (hk0 : 0 < k) (hW : Wt P t y.1)
    (h : DataW.trod enc P w 0 sp held fuel t [c] = some y) :
    ∃ (a : Option Addr) (cap : Nat) (css : List (List Value)), c = .slice a css.length cap ∧ css.length * P.bytesOf e ≤ reachBytes ∧ (a = none → cap = 0) ∧ (∀ l ∈ css, l.length = k) ∧ Sl w w.heap.size a css.flatten ∧
      ∀ l ∈ css, ∃ n y', Wt P e y'.1 ∧ DataW.trod enc P w 0 sp held n e l = some y' := by
  have hlt := DataW.trod_lt _ _ _ _ h
  rcases DataW.trod_slice ht h with ⟨hcs, _⟩ | ⟨x, len, cap, elems, rest, n, _, hcs, hx, hb, hl, hm, hlen, hel, _, _⟩
  · simp only [List.cons.injEq, and_true] at hcs
    exact ⟨none, 0, [], hcs, by simp, fun _ => rfl, by simp, Or.inl rfl, by simp⟩
  simp only [List.cons.injEq, and_true] at hcs
  subst hcs
  by_cases h0 : len = 0
  · subst h0
    exact ⟨some x, cap, [], rfl, by simp, by simp, by simp, Or.inl rfl, by simp⟩
  have hbk := Wt.slice (elems := elems.map (·.1)) (spare := rest.map (·.1)) ht (by rw [hx] at hW; exact hW)
  have each : ∀ i, i < len → ∃ l y', w.cells? 0 (x.add (i * k)) k = some l ∧ Wt P e y'.1 ∧ DataW.trod enc P w 0 sp held n e l = some y' := by
    intro i hi
    have h1 := hel i hi
    rw [hk, show elems[i]? = some (elems[i]'(by omega)) from List.getElem?_eq_getElem (by omega), Option.bind_eq_some_iff] at h1
    obtain ⟨l, hl, hy⟩ := h1
    exact ⟨l, _, hl, hbk.2 _ (List.mem_map.2 ⟨_, List.getElem_mem _, rfl⟩), hy⟩
  obtain ⟨b, off, spot⟩ := x
  have hspot : spot = none := by
    obtain ⟨l, _, h1, _⟩ := each 0 (by omega)
    obtain ⟨_, h2, h3⟩ := World.cells?_some h1
    have h4 := h3 0 hk0
    obtain ⟨v, hv⟩ : ∃ v, l[0]? = some v := ⟨_, List.getElem?_eq_getElem (by omega)⟩
    rw [hv, Deep.add_add, Nat.zero_mul, Nat.zero_add] at h4
    simpa [Addr.add] using World.cell?_spot h4
  subst hspot
  have hbW : b < w.heap.size := hlt (.cell b off) (by
    rw [hx]
    exact List.mem_append_left _ (MemPlace.mem_row.2 ⟨0, by rw [hk]; have : 0 < (elems.length + rest.length) * k := Nat.mul_pos (by omega) hk0; omega, by simp⟩))
  have hL : ∀ i, i < len → ((List.range k).map fun j => (w.cell? ⟨b, off + (i * k + j), none⟩).getD (.bool false)).length = k ∧
      (∀ j, j < k → w.cell? ⟨b, off + (i * k + j), none⟩ = some ((w.cell? ⟨b, off + (i * k + j), none⟩).getD (.bool false))) ∧
      ∃ y', Wt P e y'.1 ∧ DataW.trod enc P w 0 sp held n e ((List.range k).map fun j => (w.cell? ⟨b, off + (i * k + j), none⟩).getD (.bool false)) = some y' := by
    intro i hi
    obtain ⟨l, y', h1, h2b, h2⟩ := each i hi
    obtain ⟨_, h3, h4⟩ := World.cells?_some h1
    have h5 : ∀ j, j < k → w.cell? ⟨b, off + (i * k + j), none⟩ = l[j]? := by
      intro j hj
      have := h4 j hj
      rwa [Deep.add_add, add_plain] at this
    have e1 : (List.range k).map (fun j => (w.cell? ⟨b, off + (i * k + j), none⟩).getD (.bool false)) = l := by
      apply List.ext_getElem?
      intro j
      by_cases hj : j < k
      · rw [List.getElem?_map, List.getElem?_range hj, Option.map_some, h5 j hj, List.getElem?_eq_getElem (show j < l.length by omega), Option.getD_some]
      · rw [List.getElem?_eq_none (by simp; omega), List.getElem?_eq_none (by omega)]
    refine ⟨by simp, ?_, ?_⟩
    · intro j hj
      rw [h5 j hj, List.getElem?_eq_getElem (show j < l.length by omega), Option.getD_some]
    · rw [e1]; exact ⟨y', h2b, h2⟩
  refine ⟨some ⟨b, off, none⟩, cap, (List.range len).map fun i => (List.range k).map fun j => (w.cell? ⟨b, off + (i * k + j), none⟩).getD (.bool false), by simp, ?_, by simp, ?_, Or.inr ⟨b, off, rfl, hbW, ?_⟩, ?_⟩
  · have := hbk.1; rw [List.length_map, hlen] at this; simpa using this
  · intro l hl
    obtain ⟨i, _, rfl⟩ := List.mem_map.1 hl
    simp
  · have hflat := flat_range (fun m => (w.cell? ⟨b, off + m, none⟩).getD (.bool false)) k len
    intro i v hv
    rw [hflat] at hv
    have hi : i < len * k := by have := (List.getElem?_eq_some_iff.1 hv).1; simpa using this
    have hq : i / k < len := Nat.div_lt_of_lt_mul (by rwa [Nat.mul_comm] at hi)
    have hc := (hL (i / k) hq).2.1 (i % k) (Nat.mod_lt _ hk0)
    rw [show i / k * k + i % k = i by rw [Nat.mul_comm]; exact Nat.div_add_mod i k] at hc
    rw [hc, ← hv, List.getElem?_map, List.getElem?_range hi, Option.map_some]
  · intro l hl
    obtain ⟨i, hi, rfl⟩ := List.mem_map.1 hl
    obtain ⟨y', hyb, hy⟩ := (hL i (List.mem_range.1 hi)).2.2
    exact ⟨n, y', hyb, hy⟩

/-- The same, each element of a shape that is known. -/
theorem open_elsW {α : Type} (f : α → List Value) (R : α → Prop) {sp : Nat → Bool} {held : Bool} {t e : TypeId} {k fuel : Nat} {c : Value} {y : DataW H × List MemPlace} (ht : P.underlying t = some (.slice e)) (hk : P.cellsOf e = k) (hk0 : 0 < k) (hW : Wt P t y.1)
    (hel : ∀ n l y', l.length = k → Wt P e y'.1 → DataW.trod enc P w 0 sp held n e l = some y' → ∃ x, l = f x ∧ R x) (h : DataW.trod enc P w 0 sp held fuel t [c] = some y) :
    ∃ (a : Option Addr) (cap : Nat) (xs : List α), c = .slice a xs.length cap ∧ xs.length * P.bytesOf e ≤ reachBytes ∧ (a = none → cap = 0) ∧ Sl w w.heap.size a (xs.flatMap f) ∧ ∀ x ∈ xs, R x := by
  obtain ⟨a, cap, css, rfl, hlB, hno, hl, hs, he⟩ := open_flatW ht hk hk0 hW h
  obtain ⟨xs, h1, h2, h3⟩ := list_shapes f R css (fun l hm => by
    obtain ⟨n, y', hyb, hy⟩ := he l hm
    exact hel n l y' (hl l hm) hyb hy)
  exact ⟨a, cap, xs, by rw [h1], by rw [h1]; exact hlB, hno, h2 ▸ hs, h3⟩

/-- A struct whose fields are of one cell each. -/
theorem open_cellsW {sp : Nat → Bool} {held : Bool} {t : TypeId} {fs : Array Go.Field} {fuel : Nat} {cs : List Value} {y : DataW H × List MemPlace} (hs : P.underlying t = some (.struct fs)) (hone : Go.Deep.oneCellFields P fs = true) (hC : P.cellsOf t = fs.size) (hW : Wt P t y.1)
    (h : DataW.trod enc P w 0 sp held fuel t cs = some y) :
    cs.length = fs.size ∧ ∀ (j : Nat) (f : Go.Field) (c : Value), fs[j]? = some f → cs[j]? = some c → ∃ n y', Wt P f.type y'.1 ∧ DataW.trod enc P w 0 sp held n f.type [c] = some y' := by
  obtain ⟨ys, n, _, hy, hcl, hlen, hg⟩ := DataW.trod_struct hs h
  have hbk := Wt.agg (parts := ys.map (·.1)) hs (by rw [hy] at hW; exact hW)
  refine ⟨by omega, fun j f c hj hc => ?_⟩
  obtain ⟨ho, hk⟩ := Go.Deep.hone_of hone j f hj
  have hjf : j < fs.size := (Array.getElem?_eq_some_iff.1 hj).1
  have h1 := hg j f hj
  have hjc := (List.getElem?_eq_some_iff.1 hc).1
  rw [ho, hk, List.drop_eq_getElem_cons hjc, List.take_succ_cons, List.take_zero, (List.getElem?_eq_some_iff.1 hc).2, List.getElem?_eq_getElem (show j < ys.length by omega)] at h1
  exact ⟨n, _, hbk j f _ hj (by rw [List.getElem?_map, List.getElem?_eq_getElem (show j < ys.length by omega)]; rfl), h1⟩

/-- A cell that is a slice of strings. -/
theorem open_strsW {sp : Nat → Bool} {held : Bool} {t e : TypeId} {fuel : Nat} {c : Value} {y : DataW H × List MemPlace} (ht : P.underlying t = some (.slice e)) (he : P.underlying e = some .string) (hk : P.cellsOf e = 1) (hW : Wt P t y.1) (h : DataW.trod enc P w 0 sp held fuel t [c] = some y) :
    ∃ (a : Option Addr) (cap : Nat) (bs : List ByteArray), c = .slice a bs.length cap ∧ bs.length * P.bytesOf e ≤ reachBytes ∧ (a = none → cap = 0) ∧ Sl w w.heap.size a (bs.map Value.string) := by
  obtain ⟨a, cap, xs, h1, hb, hno, h2, _⟩ := open_elsW (fun s : ByteArray => [Value.string s]) (fun _ => True) ht hk (by omega) hW (fun n l y' hl _ hy => by
    match l, hl with
    | [c'], _ =>
      obtain ⟨s, rfl⟩ := open_str he hy
      exact ⟨s, rfl, trivial⟩) h
  refine ⟨a, cap, xs, h1, hb, hno, ?_⟩
  rw [← List.flatMap_singleton' (xs.map Value.string), List.flatMap_map]
  exact h2

end

end Go.Proofs.Ytipgjookfdkciaa

/- How many cells, how many bytes the arguments' types have. No condition. -/
namespace Go.Proofs.Ytipgjookfdkciaa
open Go.ChangeShapes Go.WideShapes Go.ChangeAt Go.RowKit

theorem proof_cells : Try.prog.cellsOf 24 = 2 := by kernel_rfl
theorem either_cells : Try.prog.cellsOf 27 = 2 := by kernel_rfl
theorem str_cells : Try.prog.cellsOf 9 = 1 := by kernel_rfl
theorem strs_cells : Try.prog.cellsOf 22 = 1 := by kernel_rfl
theorem str_bytes : Try.prog.bytesOf 9 = 16 := by kernel_rfl
theorem strs_bytes : Try.prog.bytesOf 22 = 24 := by kernel_rfl
theorem reach16 {n : Nat} (h : n * 16 ≤ reachBytes) : n ≤ 8796093022206 := by unfold reachBytes at h; omega
theorem reach24 {n : Nat} (h : n * 24 ≤ reachBytes) : n ≤ 8796093022206 := by unfold reachBytes at h; omega

end Go.Proofs.Ytipgjookfdkciaa

/- Arguments of the laws of chapter 5 are opened: proofs, lists of lists, claims. Condition: they are as the row says. -/
namespace Go.Proofs.Ytipgjookfdkciaa
open Go.ChangeShapes Go.WideShapes Go.ChangeAt Go.RowKit

section
variable {H : Type} {enc : TypeId × Value → H} {w : World}
theorem open_capW {P : Program} {sp : Nat → Bool} {held : Bool} {t e : TypeId} {fuel n cap : Nat} {a : Option Addr} {y : DataW H × List MemPlace} (ht : P.underlying t = some (.slice e)) (h : DataW.trod enc P w 0 sp held fuel t [.slice a n cap] = some y) : n ≤ cap := by
  rcases DataW.trod_slice ht h with ⟨hcs, _⟩ | ⟨x, len, cap', elems, rest, n', _, hcs, hx, hb, hl, hm, hlen, hel, _, _⟩
  · simp only [List.cons.injEq, Value.slice.injEq, and_true] at hcs
    omega
  · simp only [List.cons.injEq, Value.slice.injEq, and_true] at hcs
    omega
theorem open_prf {sp : Nat → Bool} {held : Bool} (fuel : Nat) (cs : List Value) (y : DataW H × List MemPlace) (hW : Wt Try.prog 24 y.1) (h : DataW.trod enc Try.prog w 0 sp held fuel 24 cs = some y) :
    ∃ p : PrfA, cs = p.cells ∧ p.At w ∧ p.l.length ≤ 8796093022206 := by
  obtain ⟨h1, h2⟩ := open_cellsW Try.underlying24 (by kernel_rfl) proof_cells hW h
  obtain ⟨a, b, rfl⟩ := list2 h1
  obtain ⟨_, _, _, ha⟩ := h2 0 _ _ rfl rfl
  obtain ⟨_, _, hw, hb⟩ := h2 1 _ _ rfl rfl
  obtain ⟨s, rfl⟩ := open_str Try.underlying9 ha
  obtain ⟨al, cap, l, rfl, hn, hno, hs⟩ := open_strsW Try.underlying22 Try.underlying9 str_cells hw hb
  rw [str_bytes] at hn
  exact ⟨⟨s, al, cap, l⟩, rfl, ⟨hs, hno⟩, reach16 hn⟩
theorem open_rows {sp : Nat → Bool} {held : Bool} (fuel : Nat) (c : Value) (y : DataW H × List MemPlace) (hW : Wt Try.prog 25 y.1) (h : DataW.trod enc Try.prog w 0 sp held fuel 25 [c] = some y) :
    ∃ (a : Option Addr) (cap : Nat) (rs : List RowA), c = .slice a rs.length cap ∧ rs.length ≤ 8796093022206 ∧ RowsAt w a rs ∧ (∀ r ∈ rs, r.a = none → r.c = 0) ∧ (∀ r ∈ rs, r.l.length ≤ 8796093022206) := by
  obtain ⟨a, cap, rs, h1, h2, _, h4, h5⟩ := open_elsW (e := 22) RowA.cells (fun r => RowA.At w r ∧ (r.a = none → r.c = 0) ∧ r.l.length ≤ 8796093022206) Try.underlying25 strs_cells (by omega) hW (fun n l y' hl hW' hy => by
    match l, hl with
    | [c'], _ =>
      obtain ⟨al, cp, bs, rfl, hn, hno, hs⟩ := open_strsW Try.underlying22 Try.underlying9 str_cells hW' hy
      rw [str_bytes] at hn
      exact ⟨⟨al, cp, bs⟩, rfl, hs, hno, reach16 hn⟩) h
  rw [strs_bytes] at h2
  exact ⟨a, cap, rs, h1, reach24 h2, ⟨h4, fun r hr => (h5 r hr).1⟩, fun r hr => (h5 r hr).2.1, fun r hr => (h5 r hr).2.2⟩
theorem open_eith {sp : Nat → Bool} {held : Bool} (fuel : Nat) (cs : List Value) (y : DataW H × List MemPlace) (hW : Wt Try.prog 27 y.1) (h : DataW.trod enc Try.prog w 0 sp held fuel 27 cs = some y) :
    ∃ x : EithA, cs = [.slice x.ac x.cs.length x.cc, .slice x.ar x.rs.length x.cr] ∧ x.At w ∧ x.cs.length ≤ 8796093022206 ∧ ∀ r ∈ x.rs, r.l.length ≤ 8796093022206 := by
  obtain ⟨h1, h2⟩ := open_cellsW Try.underlying27 (by kernel_rfl) either_cells hW h
  obtain ⟨a, b, rfl⟩ := list2 h1
  obtain ⟨_, _, hwa, ha⟩ := h2 0 _ _ rfl rfl
  obtain ⟨_, _, hwb, hb⟩ := h2 1 _ _ rfl rfl
  obtain ⟨al, cap, l, rfl, hn, hno, hs⟩ := open_strsW Try.underlying22 Try.underlying9 str_cells hwa ha
  obtain ⟨ar, cr, rs, rfl, hn2, hr, hno2, hr2⟩ := open_rows _ _ _ hwb hb
  rw [str_bytes] at hn
  exact ⟨⟨al, cap, l, ar, cr, rs⟩, rfl, ⟨hs, hr, hno2⟩, reach16 hn, hr2⟩
end
theorem agg_of {cs : Array Value} {l : List Value} (h : cs.toList = l) : Value.agg cs = .agg l.toArray := by rw [← h]

theorem claim_cells : Try.prog.cellsOf 70 = 2 := by kernel_rfl
section
variable {H : Type} {enc : TypeId × Value → H} {w : World}
theorem open_claims {sp : Nat → Bool} {held : Bool} (fuel : Nat) (c : Value) (y : DataW H × List MemPlace) (hW : Wt Try.prog 58 y.1) (h : DataW.trod enc Try.prog w 0 sp held fuel 58 [c] = some y) :
    ∃ (a : Option Addr) (cap : Nat) (l : List ClaimA), c = .slice a l.length cap ∧ ClaimsAt w a l := by
  obtain ⟨a, cap, rs, h1, _, _, h4, h5⟩ := open_elsW (e := 70) ClaimA.cells (fun r => ClaimA.At w r) Try.underlying58 claim_cells (by omega) hW (fun n l y' hl hW' hy => by
    obtain ⟨g1, g2⟩ := open_cellsW Try.underlying70 (by kernel_rfl) claim_cells hW' hy
    obtain ⟨x1, x2, rfl⟩ := list2 g1
    obtain ⟨_, _, hwa, ha⟩ := g2 0 _ _ rfl rfl
    obtain ⟨_, _, hwb, hb⟩ := g2 1 _ _ rfl rfl
    obtain ⟨al, cp, bs, rfl, _, _, hs⟩ := open_strsW Try.underlying22 Try.underlying9 str_cells hwa ha
    obtain ⟨ai, ci, is, rfl, _, _, hi⟩ := open_strsW Try.underlying22 Try.underlying9 str_cells hwb hb
    exact ⟨⟨al, cp, bs, ai, ci, is⟩, rfl, hs, hi⟩) h
  exact ⟨a, cap, rs, h1, ⟨h4, fun c hc => h5 c hc⟩⟩
end

end Go.Proofs.Ytipgjookfdkciaa

/- Lists of lists of strings are compared: sameLists of the package hustingslaw5. Condition: the lists that memory can hold. -/
namespace Go.Proofs.Ytipgjookfdkciaa
open Go.RowKit

theorem take_rows {L M : List (List ByteArray)} {j : Nat} (hl : j < L.length) (hm : j < M.length) (h : L.take j = M.take j) (h1 : L[j] = M[j]) : L.take (j + 1) = M.take (j + 1) := by
  rw [List.take_succ_eq_append_getElem hl, List.take_succ_eq_append_getElem hm, h, h1]
set_option maxRecDepth 100000 in
set_option maxHeartbeats 1000000 in
theorem sameLists5_any (L M : List (List ByteArray)) (n m : Nat) (hL : L.length = n) (hM : M.length = m) (hn : n ≤ 8796093022206) (hr : ∀ r ∈ L, r.length ≤ 8796093022206) (ro so : List RowA) (h1 : ro.map RowA.l = L) (h2 : so.map RowA.l = M) (b : Bool) (hb : decide (L = M) = b) (a1 a2 : Option Addr) (c1 c2 : Nat) (w : World) (hR : RowsAt w a1 ro) (hS : RowsAt w a2 so) :
    Calls Try.prog 48 #[.slice a1 n c1, .slice a2 m c2] w (Gives (.bool b) w) := by
  have hn1 : ro.length = n := by rw [← hL, ← h1, List.length_map]
  have hn2 : so.length = m := by rw [← hM, ← h2, List.length_map]
  have HN1 := Lib.hid hn1
  have HN2 := Lib.hid hn2
  have HLL := Lib.hid hL
  have HLM := Lib.hid hM
  have HBB := Lib.hid hb
  have HE := Lib.hid (fun i (g1 : i < ro.length) (g2 : i < L.length) => (show L[i] = ro[i].l by subst h1; simp))
  have HF := Lib.hid (fun i (g1 : i < so.length) (g2 : i < M.length) => (show M[i] = so[i].l by subst h2; simp))
  have HLE := Lib.hid (fun i (g1 : i < ro.length) => (show ro[i].l.length ≤ 8796093022207 by
    have := hr ro[i].l (by rw [← h1]; exact List.mem_map.2 ⟨_, List.getElem_mem g1, rfl⟩)
    omega))
  have HR := Lib.hid hR
  have HS := Lib.hid hS
  clear hn1 hn2 h1 h2 hr hR hS hL hM hb
  unfold Gives
  by_cases hnm : n = m
  · subst hnm
    have hd : ((n : Int) != (n : Int)) = false := by simp
    go_enter Try.func48, Try.ntmps48
    go_wp2_with fail
    go_loopw [13] (fun i wr => ∃ j : Nat, j ≤ n ∧ i = .int .i64 j ∧ Hid (Below w.heap.size w wr) ∧ Hid (L.take j = M.take j)) (fun i _ => n - (intOf i).toNat)
    case atStart => exact ⟨0, Nat.zero_le _, rfl, Below.refl _ _, rfl⟩
    case round =>
      obtain ⟨j, hj, rfl, HB, HT⟩ := hrel
      by_cases hjn : j < n
      · skip
        have g1 : j < ro.length := by rw [HN1.out]; exact hjn
        have g2 : j < so.length := by rw [HN2.out]; exact hjn
        have g3 : j < L.length := by rw [HLL.out]; exact hjn
        have g4 : j < M.length := by rw [HLM.out]; exact hjn
        obtain ⟨b1, o1, rfl, hb10, hb1, hc1⟩ := HR.out.cell HB.out j g1
        obtain ⟨b2, o2, rfl, hb20, hb2, hc2⟩ := HS.out.cell HB.out j g2
        have HP := Lib.hid (show Sl wr wr.heap.size ro[j].a (ro[j].l.map Value.string) from (HR.out.up HB.out).one j g1)
        have HQ := Lib.hid (show Sl wr wr.heap.size so[j].a (so[j].l.map Value.string) from (HS.out.up HB.out).one j g2)
        have HYE := Lib.hid (fun (e : ro[j].l = so[j].l) => take_rows g3 g4 HT.out ((HE.out j g1 g3).trans (e.trans (HF.out j g2 g4).symm)))
        have HNE := Lib.hid (fun (e : ¬ ro[j].l = so[j].l) => (show ¬ L = M from fun e' => e ((HE.out j g1 g3).symm.trans (Eq.trans (by subst e'; rfl) (HF.out j g2 g4)))))
        have HLJ := Lib.hid (HLE.out j g1)
        generalize ro[j] = r at *
        generalize so[j] = s at *
        obtain ⟨bj, hbj⟩ : ∃ x, decide (r.l = s.l) = x := ⟨_, rfl⟩
        have HBJ := Lib.hid hbj
        cases bj
        · obtain rfl : b = false := by rw [← HBB.out]; exact decide_eq_false (HNE.out (of_decide_eq_false hbj))
          clear hbj
          go_wp2_with fail
          refine wp_region_over (by kernel_rfl) (by kernel_rfl) ?_
          have hov_b1 := fun (E : Over wr) o => E.cell (b := b1) o hb1
          have hov_b2 := fun (E : Over wr) o => E.cell (b := b2) o hb2
          repeat (go_big_quiet_step (first | (go_at_call 17; exact calls_over (same5_any r.l s.l r.a s.a r.c s.c HLJ.out false HBJ.out _ (HP.out.up (Over.h _)) (HQ.out.up (Over.h _))))))
          all_goals (try unfold elV limbV)
          repeat (go_big_quiet_step (first | (go_at_call 17; exact calls_over (same5_any r.l s.l r.a s.a r.c s.c HLJ.out false HBJ.out _ (HP.out.up (Over.h _)) (HQ.out.up (Over.h _))))))
          all_goals (try unfold elV limbV)
          repeat (go_big_quiet_step (first | (go_at_call 17; exact calls_over (same5_any r.l s.l r.a s.a r.c s.c HLJ.out false HBJ.out _ (HP.out.up (Over.h _)) (HQ.out.up (Over.h _))))))
          all_goals (try unfold ciphV)
          refine wpQuiet_nil ?_
          rintro _ ⟨E, rfl⟩
          clear hov_b1 hov_b2
          replace HB := hbu HB E.h
          have HZS := Lib.hid E.h.size
          obtain ⟨w1, hq9⟩ : ∃ W9 : World, E.w = W9 := ⟨_, rfl⟩
          rw [hq9] at HB HZS ⊢
          clear hq9 E
          go_wp2_with fail
          go_ret
          exact ⟨rfl, HB.out⟩
        · have HTS := Lib.hid (HYE.out (of_decide_eq_true hbj))
          clear hbj
          go_wp2_with fail
          refine wp_region_over (by kernel_rfl) (by kernel_rfl) ?_
          have hov_b1 := fun (E : Over wr) o => E.cell (b := b1) o hb1
          have hov_b2 := fun (E : Over wr) o => E.cell (b := b2) o hb2
          repeat (go_big_quiet_step (first | (go_at_call 17; exact calls_over (same5_any r.l s.l r.a s.a r.c s.c HLJ.out true HBJ.out _ (HP.out.up (Over.h _)) (HQ.out.up (Over.h _))))))
          all_goals (try unfold elV limbV)
          repeat (go_big_quiet_step (first | (go_at_call 17; exact calls_over (same5_any r.l s.l r.a s.a r.c s.c HLJ.out true HBJ.out _ (HP.out.up (Over.h _)) (HQ.out.up (Over.h _))))))
          all_goals (try unfold elV limbV)
          repeat (go_big_quiet_step (first | (go_at_call 17; exact calls_over (same5_any r.l s.l r.a s.a r.c s.c HLJ.out true HBJ.out _ (HP.out.up (Over.h _)) (HQ.out.up (Over.h _))))))
          all_goals (try unfold ciphV)
          refine wpQuiet_nil ?_
          rintro _ ⟨E, rfl⟩
          clear hov_b1 hov_b2
          replace HB := hbu HB E.h
          have HZS := Lib.hid E.h.size
          obtain ⟨w1, hq9⟩ : ∃ W9 : World, E.w = W9 := ⟨_, rfl⟩
          rw [hq9] at HB HZS ⊢
          clear hq9 E
          go_wp2_with fail
          go_roundw
          case rel => exact ⟨j + 1, by omega, by go_num, HB, HTS⟩
          case measure => simp [intOf]; omega
      · have hjn' : j = n := by omega
        subst hjn'
        obtain rfl : b = true := by
          rw [← HBB.out]
          refine decide_eq_true ?_
          have h9 := HT.out
          rwa [List.take_of_length_le (by rw [HLL.out]; exact Nat.le_refl _), List.take_of_length_le (by rw [HLM.out]; exact Nat.le_refl _)] at h9
        go_wp2_with fail
        go_ret
        exact ⟨rfl, HB.out⟩
  · have hd : ((n : Int) != (m : Int)) = true := by rw [bne_iff_ne]; omega
    obtain rfl : b = false := by rw [← HBB.out]; exact decide_eq_false (fun e => hnm (by rw [← HLL.out, ← HLM.out, e]))
    clear hnm
    go_enter Try.func48, Try.ntmps48
    go_wp2_with fail
    go_ret
    exact ⟨rfl, Below.refl _ _⟩
theorem sameLists5_true (L : List (List ByteArray)) (n : Nat) (hL : L.length = n) (hn : n ≤ 8796093022206) (hr : ∀ r ∈ L, r.length ≤ 8796093022206) (ro so : List RowA) (h1 : ro.map RowA.l = L) (h2 : so.map RowA.l = L) (a1 a2 : Option Addr) (c1 c2 : Nat) (w : World) (hR : RowsAt w a1 ro) (hS : RowsAt w a2 so) :
    Calls Try.prog 48 #[.slice a1 n c1, .slice a2 n c2] w (Gives (.bool true) w) :=
  sameLists5_any L L n n hL hL hn hr ro so h1 h2 true (decide_eq_true rfl) a1 a2 c1 c2 w hR hS
end Go.Proofs.Ytipgjookfdkciaa

namespace Go.Proofs.Ytipgjookfdkciaa
open Go.ChangeShapes Go.WideShapes Go.ChangeAt Go.RowKit

set_option maxRecDepth 100000 in
set_option maxHeartbeats 4000000 in
theorem sigmaFirsts_any (k : Int) (l : List ClaimA) (al : Option Addr) (cl : Nat) (ch : ByteArray) (xs : List ByteArray) (ax : Option Addr) (cx : Nat) (hx : xs.length ≤ 8796093022206) (w : World) (hC : ClaimsAt w al l) (hS : Sl w w.heap.size ax (xs.map Value.string)) :
    Calls Try.prog 9 #[.int .i64 k, .slice al l.length cl, .string ch, .slice ax xs.length cx] w fun e w' => e = .returned (.bool true) ∧ Below w.heap.size w w' := by
  have hx' : xs.length ≤ 8796093022207 := by omega
  have H1 := Lib.hid (fun w1 (hb : Below w.heap.size w w1) => sHolds_any k l al cl xs ax cx hx' w1 (hC.up hb) (hS.up hb))
  have H2 := Lib.hid (fun w1 (hb : Below w.heap.size w w1) => rHolds_any k l al cl xs ax cx hx' w1 (hC.up hb) (hS.up hb))
  have F1 := Lib.hid (fun w1 (hb : Below w.heap.size w w1) => sFirst_any k l al cl xs ax cx hx' w1 (hC.up hb) (hS.up hb))
  have F2 := Lib.hid (fun w1 (hb : Below w.heap.size w w1) => rFirst_any k l al cl xs ax cx hx' w1 (hC.up hb) (hS.up hb))
  have B1 := Lib.hid (fun w1 (hb : Below w.heap.size w w1) => sBack_any k l al cl ch xs ax cx hx' w1 (hC.up hb) (hS.up hb))
  have B2 := Lib.hid (fun w1 (hb : Below w.heap.size w w1) => rBack_any k l al cl ch xs ax cx hx' w1 (hC.up hb) (hS.up hb))
  have SF := Lib.hid (firstK_small k l xs)
  have SB := Lib.hid (backK_small k l ch xs)
  rw [rholdK_eq] at H2
  rw [rfirstK_eq] at F2
  rw [rbackK_eq] at B2
  generalize holdK k l xs = hb at *
  generalize firstK k l xs = LF at *
  generalize backK k l ch xs = LB at *
  generalize openK k l xs = e1 at *
  generalize backE k l ch xs = e2 at *
  generalize l.length = n at *
  generalize xs.length = m at *
  unfold RowsE at F1 F2 B1 B2
  obtain ⟨nf, hnf⟩ : ∃ n, LF.length = n := ⟨_, rfl⟩
  obtain ⟨nb, hnb⟩ : ∃ n, LB.length = n := ⟨_, rfl⟩
  rw [hnf] at F1 F2
  rw [hnb] at B1 B2
  have HNF := Lib.hid hnf
  have HNB := Lib.hid hnb
  have hnf6 : nf ≤ 64 := by rw [← hnf]; exact SF.out.1
  have hnb6 : nb ≤ 64 := by rw [← hnb]; exact SB.out.1
  clear hC hS hx hx' hnf hnb
  have hd1 : (hb != hb) = false := by simp
  have hd2 : ((e1 : Int) != (e1 : Int)) = false := by simp
  have hd3 : ((e2 : Int) == (e2 : Int)) = true := by simp
  have SF2 := Lib.hid (fun r hr => Nat.le_trans (SF.out.2 r hr) (by decide : 8 ≤ 8796093022206))
  have SB2 := Lib.hid (fun r hr => Nat.le_trans (SB.out.2 r hr) (by decide : 8 ≤ 8796093022206))
  go_enter Try.func9, Try.ntmps9
  go_wp2_with fail
  refine (H1.out _ (Below.refl _ _)).mono ?_
  rintro e w1 ⟨rfl, hb9⟩
  have HB := Lib.hid hb9
  have HZS := Lib.hid hb9.size
  clear hb9
  go_wp2_with fail
  refine (H2.out _ HB.out).mono ?_
  rintro e w2 ⟨rfl, hb9⟩
  replace HB := hbu HB hb9
  replace HZS := sz HZS hb9.size
  clear hb9
  go_wp2_with fail
  refine (F1.out _ HB.out).mono ?_
  rintro e w3 ⟨hb9, a1, c1, ro1, rfl, hm1, hr1, _⟩
  replace HB := hbu HB hb9
  replace HZS := sz HZS hb9.size
  have HM1 := Lib.hid hm1
  clear hm1
  have HR1 := Lib.hid hr1
  clear hr1
  clear hb9
  have BF := Lib.hid (Below.refl w3.heap.size w3)
  go_wp2_with fail
  refine (F2.out _ HB.out).mono ?_
  rintro e w4 ⟨hb9, a2, c2, ro2, rfl, hm2, hr2, _⟩
  replace BF := hbu BF hb9
  replace HB := hbu HB hb9
  replace HZS := sz HZS hb9.size
  have HM2 := Lib.hid hm2
  clear hm2
  have HR2 := Lib.hid hr2
  clear hr2
  clear hb9
  go_wp2_with fail
  refine (sameLists5_true LF nf HNF.out (by omega) SF2.out ro1 ro2 HM1.out HM2.out a1 a2 c1 c2 w4 (HR1.out.up BF.out) HR2.out).mono ?_
  rintro e w5 ⟨rfl, hb9⟩
  replace BF := hbu BF hb9
  replace HB := hbu HB hb9
  replace HZS := sz HZS hb9.size
  clear hb9
  go_wp2_with fail
  refine (B1.out _ HB.out).mono ?_
  rintro e w6 ⟨hb9, a3, c3, ro3, rfl, hm3, hr3, _⟩
  replace BF := hbu BF hb9
  replace HB := hbu HB hb9
  replace HZS := sz HZS hb9.size
  have HM3 := Lib.hid hm3
  clear hm3
  have HR3 := Lib.hid hr3
  clear hr3
  clear hb9
  have BB := Lib.hid (Below.refl w6.heap.size w6)
  go_wp2_with fail
  refine (B2.out _ HB.out).mono ?_
  rintro e w7 ⟨hb9, a4, c4, ro4, rfl, hm4, hr4, _⟩
  replace BF := hbu BF hb9
  replace BB := hbu BB hb9
  replace HB := hbu HB hb9
  replace HZS := sz HZS hb9.size
  have HM4 := Lib.hid hm4
  clear hm4
  have HR4 := Lib.hid hr4
  clear hr4
  clear hb9
  go_wp2_with fail
  refine (sameLists5_true LB nb HNB.out (by omega) SB2.out ro3 ro4 HM3.out HM4.out a3 a4 c3 c4 w7 (HR3.out.up BB.out) HR4.out).mono ?_
  rintro e w8 ⟨rfl, hb9⟩
  replace BF := hbu BF hb9
  replace BB := hbu BB hb9
  replace HB := hbu HB hb9
  replace HZS := sz HZS hb9.size
  clear hb9
  go_wp2_with fail
  go_ret
  exact ⟨by simp, HB.out⟩

set_option maxRecDepth 100000 in
theorem sigmaFirsts_calls {H : Type} (enc : TypeId × Value → H) (W : World) (base : Nat) {v0 v1 v2 v3 : Value} {d0 d1 d2 d3 : DataW H} {p0 p1 p2 p3 : List MemPlace}
    (h0 : DataW.Trod enc Try.prog W 0 (fun _ => true) true 3 v0 d0 p0) (h1 : DataW.Trod enc Try.prog W 0 (fun _ => true) true 58 v1 d1 p1) (h2 : DataW.Trod enc Try.prog W 0 (fun _ => true) true 9 v2 d2 p2) (h3 : DataW.Trod enc Try.prog W 0 (fun _ => true) true 22 v3 d3 p3)
    (k0 : Value.okWide Try.prog W .any base 3 v0) (k1 : Value.okWide Try.prog W .any base 58 v1) (k2 : Value.okWide Try.prog W .any base 9 v2) (k3 : Value.okWide Try.prog W .any base 22 v3)
    (_lt0 : ∀ x ∈ p0, x.block < W.heap.size) (_lt1 : ∀ x ∈ p1, x.block < W.heap.size) (_lt2 : ∀ x ∈ p2, x.block < W.heap.size) (_lt3 : ∀ x ∈ p3, x.block < W.heap.size)
    (hsz : (DataW.weightsEach Try.prog ([3, 58, 9, 22] ++ Rows.sigmaFirstsSpec.plain.varTypes Try.prog) ([d0, d1, d2, d3] ++ [])).all (· ≤ reachBytes) = true) :
    Calls Try.prog 9 #[v0, v1, v2, v3] W fun e w' => e = .returned (.bool true) ∧ Below W.heap.size W w' := by
  obtain ⟨k, rfl, _, _, _⟩ := open_int Try.underlying3 k0 h0
  obtain ⟨b1, n1, m1, rfl⟩ := okWide_slice Try.underlying58 k1
  obtain ⟨b3, n3, m3, rfl⟩ := okWide_slice Try.underlying22 k3
  obtain ⟨a2, rfl, _⟩ := Go.ChangeMaps.open_string Try.underlying9 k2 h2
  obtain ⟨f1, h1⟩ := h1
  obtain ⟨f3, h3⟩ := h3
  obtain ⟨al, cl, l, e1, hC⟩ := open_claims f1 _ _ (Wt.arg hsz (j := 1) rfl rfl) h1
  obtain ⟨ax, cx, xs, e3, hx, _, hS⟩ := open_strsW Try.underlying22 Try.underlying9 str_cells (Wt.arg hsz (j := 3) rfl rfl) h3
  rw [str_bytes] at hx
  rw [e1, e3]
  exact sigmaFirsts_any k l al cl a2 xs ax cx (reach16 hx) W hC hS

set_option maxRecDepth 100000 in
theorem sigmaFirsts_lifted (os : Os) (started : os.Started) (H : Type) (enc : TypeId × Value → H) :
    ReturnsInHanded {} Try.checked os 9 .any (Rows.sigmaFirstsSpec.pre6 enc Try.prog Try.f9 Rows.sigmaFirstsRow.domain false) (Rows.sigmaFirstsSpec.post enc Try.prog Try.f9 false true false false) := by
  refine returnsInHanded_of_change_sized (C := Try.checked) law_own started (by kernel_rfl) Try.func9
    (ChangeSpec.witness6 (enc := enc) (C := Try.checked) false ⟨#[], #[.int .i64 0, .slice none 0 0, .string ⟨#[]⟩, .slice none 0 0], []⟩ 8 (by kernel_rfl) (by kernel_rfl) (by kernel_rfl) (by kernel_rfl)) ?_
  intro W base args ds gs before hval0 hW _ hsz0 _
  have hsz : (DataW.weightsEach Try.prog (Try.f9.params.toList ++ Rows.sigmaFirstsSpec.plain.varTypes Try.prog) (ds ++ gs)).all (· ≤ reachBytes) = true := hsz0
  clear hsz0
  have hval : ∀ (j : Nat) t v, Try.f9.params[j]? = some t → args[j]? = some v → Value.okWide Try.prog W .any base t v := hval0
  have hW' := hW
  obtain ⟨p, q, hA0, hV, rfl, _, _⟩ := hW
  have hA : DataW.TrodAll enc Try.prog W 0 (fun _ => true) true Try.f9.params.toList args.toList ds p := hA0
  rw [Try.params9] at hA hval hsz
  obtain ⟨v0, vs0, d0, ds0, p0, q0, hargs, rfl, rfl, h0, r0⟩ := trodAll_cons hA
  obtain ⟨v1, vs1, d1, ds1, p1, q1, rfl, rfl, rfl, h1, r1⟩ := trodAll_cons r0
  obtain ⟨v2, vs2, d2, ds2, p2, q2, rfl, rfl, rfl, h2, r2⟩ := trodAll_cons r1
  obtain ⟨v3, vs3, d3, ds3, p3, q3, rfl, rfl, rfl, h3, r3⟩ := trodAll_cons r2
  obtain ⟨rfl, rfl, rfl⟩ := trodAll_nil r3
  obtain rfl : args = #[v0, v1, v2, v3] := by cases args; simp_all
  obtain ⟨rfl, rfl⟩ := trodVars_none hV
  have lt0 : ∀ x ∈ p0, x.block < W.heap.size := by obtain ⟨m, hm⟩ := h0; exact DataW.trod_lt m _ _ _ hm
  have lt1 : ∀ x ∈ p1, x.block < W.heap.size := by obtain ⟨m, hm⟩ := h1; exact DataW.trod_lt m _ _ _ hm
  have lt2 : ∀ x ∈ p2, x.block < W.heap.size := by obtain ⟨m, hm⟩ := h2; exact DataW.trod_lt m _ _ _ hm
  have lt3 : ∀ x ∈ p3, x.block < W.heap.size := by obtain ⟨m, hm⟩ := h3; exact DataW.trod_lt m _ _ _ hm
  clear hA0 hval0
  refine (sigmaFirsts_calls enc W base h0 h1 h2 h3 (hval 0 3 v0 rfl rfl) (hval 1 58 v1 rfl rfl) (hval 2 9 v2 rfl rfl) (hval 3 22 v3 rfl rfl) lt0 lt1 lt2 lt3 hsz).mono fun e W' ⟨he, bel⟩ => ?_
  subst he
  exact ⟨_, rfl, _, _, _, [], _, [], hW', trodAll_mk1 (shut_bool Try.underlying4 _), (trodAll_cons_mk (Below.trod law_laidOut (by kernel_rfl) (of_decide_eq_true (by kernel_rfl)) h0 bel lt0) (trodAll_cons_mk (Below.trod law_laidOut (by kernel_rfl) (of_decide_eq_true (by kernel_rfl)) h1 bel lt1) (trodAll_cons_mk (Below.trod law_laidOut (by kernel_rfl) (of_decide_eq_true (by kernel_rfl)) h2 bel lt2) (trodAll_cons_mk (Below.trod law_laidOut (by kernel_rfl) (of_decide_eq_true (by kernel_rfl)) h3 bel lt3) trodAll_mk0)))), rfl, bel.frame _, fun h => by cases h⟩

theorem sigmaFirsts_holds : Rows.SigmaFirstsSaid :=
  OpenClaim.holds_of_wide 9 Try.f9 rfl rfl rfl rfl rfl rfl rfl ⟨rfl, rfl, rfl, rfl, rfl⟩ rfl rfl rfl rfl rfl (by kernel_rfl) Try.func9 (by kernel_rfl)
    (of_decide_eq_true (by kernel_rfl)) (by unfold Func.isWrapper; first | (rw [if_pos (by decide +kernel)]; kernel_rfl) | (rw [if_neg (by decide +kernel)]; exact ⟨rfl, rfl⟩))
    (fun os started H enc _ => sigmaFirsts_lifted os started H enc)
#print axioms sigmaFirsts_holds



end Go.Proofs.Ytipgjookfdkciaa
