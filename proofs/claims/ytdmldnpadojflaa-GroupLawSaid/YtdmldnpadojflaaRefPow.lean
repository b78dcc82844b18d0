/- The document's powers. No condition. -/
import Derived.Test.YtdmldnpadojflaaRefMod
namespace Go.Proofs.Ytdmldnpadojflaa
open Go.RowKit

def bitAt (n k : Nat) : Nat := n / 2 ^ k % 2
/-- The highest t of L bits, the highest first. -/
def bitsTo (n L t : Nat) : List Nat := (List.range t).map fun s => bitAt n (L - 1 - s)
theorem bitsTo_succ (n L t : Nat) : bitsTo n L (t + 1) = bitsTo n L t ++ [bitAt n (L - 1 - t)] := by simp [bitsTo, List.range_succ]
theorem bitsTo_at (n L t s : Nat) (h : s < t) : (bitsTo n L t)[s]? = some (bitAt n (L - 1 - s)) := by simp [bitsTo, h]

theorem bit_dg (n i j : Nat) (hj : j ≤ 15) : dg DD n i / 2 ^ (15 - j) % 2 = bitAt n (16 * i + (15 - j)) := by
  unfold dg bitAt
  have hb : DD = 2 ^ 16 := rfl
  rw [hb, ← Nat.pow_mul]
  have e : (2 : Nat) ^ 16 = 2 ^ (15 - j) * (2 * 2 ^ j) := by
    rw [← Nat.pow_succ', ← Nat.pow_add]; congr 1; omega
  rw [e, Nat.mod_mul_right_div_self, Nat.mod_mul_right_mod, Nat.div_div_eq_div_mul, ← Nat.pow_add]

structure OwnB (W w : World) (v : Value) (n L t : Nat) : Prop where
  own : w.ownsRow 0 3 1 v t ((bitsTo n L t).map dV)
  new_ : ∀ q, v.ownBlock = some q → W.heap.size ≤ q
  below : Below W.heap.size W w
theorem OwnB.nil (W : World) (n L : Nat) : OwnB W W (.slice none 0 0) n L 0 := ⟨World.ownsRow_nil _ _ _ _, fun q h => by simp [Value.ownBlock] at h, Below.refl _ _⟩
theorem OwnB.push {W w w1 : World} {v : Value} {n L k g c : Nat} (h : OwnB W w v n L k) (hown : w1.ownsRow 0 3 1 (.slice (some ⟨g, 0, none⟩) (k + 1) c) (k + 1) ((bitsTo n L k).map dV ++ [.int .i64 (bitAt n (L - 1 - k) : Int)])) (hp : Pushed w w1 v g) : OwnB W w1 (.slice (some ⟨g, 0, none⟩) (k + 1) c) n L (k + 1) :=
  ⟨by rw [bitsTo_succ, List.map_append]; exact hown, hp.from_ h.below.size h.new_, hp.below h.below h.below.size h.new_⟩

def BitsR (n : Nat) (w : World) (e : Ending) (w' : World) : Prop := ∃ a cap, e = .returned (.slice a (16 * dl n) cap) ∧ Sl w' w'.heap.size a ((bitsTo n (16 * dl n) (16 * dl n)).map dV) ∧ Below w.heap.size w w'


set_option maxHeartbeats 2000000 in
theorem refBits_any (n : Nat) (an : Option Addr) (cn : Nat) (hln : dl n ≤ 65536) (w : World) (hA : NumAt w an n) :
    Calls Try.prog 115 #[.slice an (dl n) cn] w (BitsR n w) := by
  obtain ⟨i0, hi, hz0, hz1, hz2⟩ := info_parts infoInt3
  have HA := Lib.hid hA
  clear hA
  go_enter Try.func115, Try.ntmps115
  go_wp2_with fail
  go_loopw [3, 4, 5] (fun u x _ wr => ∃ i : Nat, i ≤ dl n ∧ x = .int .i64 ((i : Int) - 1) ∧ Hid (OwnB w wr u n (16 * dl n) (16 * (dl n - i)))) (fun _ x _ _ => (intOf x + 1).toNat)
  case atStart => exact ⟨dl n, Nat.le_refl _, rfl, by rw [Nat.sub_self]; exact OwnB.nil w _ _⟩
  case round =>
    obtain ⟨i, hin, hxi, HO⟩ := hrel
    rcases Nat.eq_zero_or_pos i with rfl | hip
    · subst hxi
      rw [Nat.sub_zero] at HO
      go_wp2_with fail
      go_ret
      obtain ⟨a, c, rfl, _⟩ := own_form3 HO.out.own
      exact ⟨a, c, rfl, sl_of_own HO.out.own, HO.out.below⟩
    · obtain ⟨p, rfl⟩ : ∃ p, i = p + 1 := ⟨i - 1, by omega⟩
      have ei : ((p + 1 : Nat) : Int) - 1 = (p : Int) := by omega
      rw [ei] at hxi
      subst hxi
      clear ei hip
      obtain ⟨b1, o1, rfl, hb1, hcell1⟩ := HA.out.all (by omega)
      have hx1 := hcell1 p (by omega)
      have HX1 := Lib.hid hx1
      have hdp : dg DD n p < 65536 := dg_lt (B := DD) (by decide) _ _
      clear hcell1 hx1
      obtain ⟨W2, rfl⟩ : ∃ W2 : World, W2 = wr := ⟨_, rfl⟩
      go_wp2_with fail
      go_loopw [3, 5] (fun u x wr => ∃ j : Nat, j ≤ 16 ∧ x = .int .i64 (32768 / 2 ^ j : Nat) ∧ Hid (OwnB w wr u n (16 * dl n) (16 * (dl n - (p + 1)) + j))) (fun _ x _ => (intOf x).toNat)
      case atStart => exact ⟨0, Nat.zero_le _, rfl, HO.out⟩
      case round =>
        clear HO
        obtain ⟨j, hj, rfl, HO⟩ := hrel
        by_cases hjl : j < 16
        · have hP : 32768 / 2 ^ j = 2 ^ (15 - j) := by
            show 2 ^ 15 / 2 ^ j = _
            exact Nat.pow_div (by omega) (by omega)
          have hP2 : ((32768 / 2 ^ j : Nat) : Int) / 2 = ((32768 / 2 ^ (j + 1) : Nat) : Int) := by
            rw [Nat.pow_succ, ← Nat.div_div_eq_div_mul]; omega
          have hbit := bit_dg n p j (by omega)
          have hpos : 0 < 32768 / 2 ^ j := by rw [hP]; exact Nat.pow_pos (by omega)
          have hle : 32768 / 2 ^ j ≤ 32768 := Nat.div_le_self _ _
          have hdec : 32768 / 2 ^ (j + 1) < 32768 / 2 ^ j := by
            rw [Nat.pow_succ, ← Nat.div_div_eq_div_mul]; exact Nat.div_lt_self hpos (by decide)
          rw [← hP, show 16 * p + (15 - j) = 16 * dl n - 1 - (16 * (dl n - (p + 1)) + j) by omega] at hbit
          have hx1 : wr.cell? ⟨b1, o1 + p, none⟩ = some (.int .i64 (dg DD n p : Int)) := by rw [HO.out.below.cell (p := ⟨b1, o1 + p, none⟩) hb1]; exact HX1.out
          generalize dg DD n p = d at *
          generalize 32768 / 2 ^ j = P at *
          generalize hP1 : 32768 / 2 ^ (j + 1) = P1 at *
          have hq9 : (d : Int) / (P : Int) = ((d / P : Nat) : Int) := by simp
          have hx9l : d / P ≤ d := Nat.div_le_self _ _
          generalize hx9 : d / P = x9 at *
          have HX9 := Lib.hid hx9
          have hbI : (x9 : Int) % 2 = (bitAt n (16 * dl n - 1 - (16 * (dl n - (p + 1)) + j)) : Int) := by omega
          clear hx9
          have hHP := Lib.hid hP
          have HP1 := Lib.hid hP1
          generalize hT : 16 * (dl n - (p + 1)) + j = T at *
          have hTl : T ≤ 1048576 := by omega
          have HT := Lib.hid hT
          generalize hB : bitAt n (16 * dl n - 1 - T) = bb at *
          have HBB := Lib.hid hB
          clear hP hP1 hbit hT hB
          go_wp2_with (at_builtin; refine wpList_push wr rfl _ _ 22 rfl 3 i0 _ 1 8 Try.underlying22 hi hz0 hz1 hz2 rfl (by omega) u3 T ((bitsTo n (16 * dl n) T).map dV) rfl HO.out.own _ _ _ rfl rfl rfl (by simp [Value.oneCell']) (by omega) (by unfold maxLen; omega) ?_)
          intro g gc w1 hown hp
          have HO1 := Lib.hid (HO.out.push (by rw [HBB.out]; exact hown) hp)
          clear hown hp
          go_wp2_with fail
          go_roundw
          case rel => exact ⟨j + 1, by omega, by first | rw [hP2, HP1.out] | rw [HP1.out], by rw [← Nat.add_assoc, HT.out]; exact HO1.out⟩
          case measure => simp [intOf]; omega
        · have hj16 : j = 16 := by omega
          subst hj16
          have h0 : ((32768 / 2 ^ 16 : Nat) : Int) = 0 := by decide
          rw [h0]
          clear h0
          go_wp2_with fail
          go_roundw
          case rel => exact ⟨p, by omega, rfl, by rw [show 16 * (dl n - p) = 16 * (dl n - (p + 1)) + 16 by omega]; exact HO.out⟩
          case measure => first | (simp [intOf]; done) | (simp [intOf]; omega)

theorem lt32 (x y : Nat) (hx : x < DD ^ 16) (hy : y < DD ^ 16) : dl (x * y) ≤ 1048576 := by
  refine Nat.le_trans (dl_of_lt (x * y) 32 ?_) (by decide)
  have e : DD ^ 32 = DD ^ 16 * DD ^ 16 := by rw [← Nat.pow_add]
  rw [e]
  exact Nat.lt_of_le_of_lt (Nat.mul_le_mul_left _ (Nat.le_of_lt hy)) (Nat.mul_lt_mul_of_pos_right hx (Nat.pow_pos (by decide)))
theorem lt16 (x : Nat) (hx : x < DD ^ 16) : dl x ≤ 1048576 := small_dl x hx

theorem pow_sq (a e m : Nat) : (a ^ e % m * (a ^ e % m)) % m = a ^ (2 * e) % m := by
  rw [← Nat.mul_mod, ← Nat.pow_add, Nat.two_mul]
theorem pow_one_more (a e m : Nat) : (a ^ (2 * e) % m * a) % m = a ^ (2 * e + 1) % m := by
  rw [Nat.mod_mul_mod, ← Nat.pow_succ]
theorem dl_one_of (v : Nat) (h : dl v = 1) : dg DD v 0 = v := by
  have := lt_dl v
  rw [h, Nat.pow_one] at this
  unfold dg
  rw [Nat.pow_zero, Nat.div_one, Nat.mod_eq_of_lt this]



set_option maxHeartbeats 2000000 in
theorem refPower_any (a n m : Nat) (aa an am : Option Addr) (ca cn cm : Nat) (ha : a < DD ^ 16) (hn : dl n ≤ 65536) (hm1 : 1 < m) (hm2 : m < DD ^ 16) (w : World) (hA : NumAt w aa a) (hN : NumAt w an n) (hM : NumAt w am m) :
    Calls Try.prog 79 #[.slice aa (dl a) ca, .slice an (dl n) cn, .slice am (dl m) cm] w fun e w' => NumR w e w' (a ^ n % m) := by
  have HA := Lib.hid hA
  have HNN := Lib.hid hN
  have HMM := Lib.hid hM
  have HA16 := Lib.hid ha
  have HM16 := Lib.hid hm2
  have hmp : 0 < m := by omega
  clear hA hN hM ha hm2
  go_enter Try.func79, Try.ntmps79
  go_wp2_with fail
  refine (refOf_any 1 (by omega) w).mono ?_
  rintro e9 w1 ⟨a1, c1, rfl, hn1, hb1⟩
  have HN1 := Lib.hid hn1
  have HB1 := Lib.hid hb1
  clear hn1 hb1
  go_wp2_with fail
  refine (refBits_any n an cn hn w1 (HNN.out.up HB1.out)).mono ?_
  rintro e9 w2 ⟨ab, cb, rfl, hs2, hb2⟩
  have HS := Lib.hid hs2
  have HBS := Lib.hid hb2
  have HN2 := Lib.hid (HN1.out.up hb2)
  have HB2 := Lib.hid (below_up HB1.out hb2)
  have hL : 16 * dl n ≤ 1048576 := by omega
  have HL0 : Hid (n / 2 ^ (16 * dl n) = 0) := by
    have h := lt_dl n
    have hb : DD = 2 ^ 16 := rfl
    rw [hb, ← Nat.pow_mul] at h
    exact Nat.div_eq_of_lt h
  clear hs2 hb2 HN1 HB1
  have HA := Lib.hid (HA.out.up HB2.out)
  have HMM := Lib.hid (HMM.out.up HB2.out)
  generalize hLL : 16 * dl n = L at *
  clear hLL
  have hzw2 := HB2.out.size
  go_wp2_with fail
  go_loopw [7, 9, 14] (fun u _ x wr => ∃ (t v : Nat) (a1 : Option Addr) (c1 : Nat), t ≤ L ∧ x = .int .i64 t ∧ u = .slice a1 (dl v) c1 ∧ Hid (v = a ^ (n / 2 ^ (L - t)) % m) ∧ Hid (NumAt wr a1 v) ∧ Hid (Below w2.heap.size w2 wr)) (fun _ _ x _ => L - (intOf x).toNat)
  case atStart => exact ⟨0, 1, a1, c1, Nat.zero_le _, rfl, rfl, by show _ = _; rw [Nat.sub_zero, HL0.out, Nat.pow_zero, Nat.mod_eq_of_lt hm1], HN2.out, Below.refl _ _⟩
  case round =>
    clear HN2
    obtain ⟨t, v, a1, c1, ht, rfl, rfl, HV, HN, HBW⟩ := hrel
    have HB := HBW
    by_cases htl : t < L
    · obtain ⟨b3, o3, rfl, hb3, hc3⟩ := (HS.out.up HBW.out).at t (by simp [bitsTo]; omega)
      have hcell : wr.cell? ⟨b3, o3 + t, none⟩ = some (.int .i64 (bitAt n (L - 1 - t) : Int)) := by
        rw [hc3]
        simp [bitsTo, dV]
      have hbb : bitAt n (L - 1 - t) = 0 ∨ bitAt n (L - 1 - t) = 1 := by unfold bitAt; omega
      have he1 : n / 2 ^ (L - (t + 1)) = 2 * (n / 2 ^ (L - t)) + bitAt n (L - 1 - t) := by
        unfold bitAt
        rw [show L - t = L - 1 - t + 1 by omega, show L - (t + 1) = L - 1 - t by omega, Nat.pow_succ, ← Nat.div_div_eq_div_mul]
        omega
      have HE1 := Lib.hid he1
      clear hc3 he1
      generalize bitAt n (L - 1 - t) = bb at *
      generalize n / 2 ^ (L - t) = e at *
      obtain rfl := HV.out
      clear HV
      by_cases hv1 : a ^ e % m = 1
      · have hd1 : dl (a ^ e % m) = 1 := by rw [hv1]; rfl
        obtain ⟨b4, o4, rfl, hb4, hcell4⟩ := HN.out.all (by omega)
        have hx4 := hcell4 0 (by omega)
        rw [dl_one_of _ hd1, hv1, Nat.add_zero] at hx4
        have hne : ((dl (a ^ e % m) : Int) != 1) = false := by rw [hd1]; rfl
        have hdpos : (0 : Int) < (dl (a ^ e % m) : Int) := by omega
        have HNq : Hid (NumAt wr (some ⟨b4, o4, none⟩) (a ^ (2 * e) % m)) := by
          show NumAt _ _ _
          rw [← pow_sq, hv1, Nat.mul_one, Nat.mod_eq_of_lt hm1, ← hv1]
          exact HN.out
        have HDq : Hid (dl (a ^ e % m) = dl (a ^ (2 * e) % m)) := by
          show _ = _
          rw [← pow_sq, hv1, Nat.mul_one, Nat.mod_eq_of_lt hm1]
        clear hv1 hd1 hcell4
        rw [HDq.out] at hne hdpos ⊢
        clear HDq HN
        have HN := HNq
        clear HNq
        rcases hbb with hb0 | hb0
        · have hbf : ((bb : Int) == 1) = false := by rw [hb0]; rfl
          have HRES : Hid (a ^ (2 * e) % m = a ^ (2 * e + bb) % m) := by show _ = _; rw [hb0]; rfl
          clear hb0
          go_wp2_with fail
          go_roundw
          case rel => exact ⟨t + 1, a ^ (2 * e) % m, (some ⟨b4, o4, none⟩), c1, by omega, by go_num, rfl, by rw [HE1.out]; exact HRES.out, HN.out, HB.out⟩
          case measure => simp [intOf]; omega
        · have hbf : ((bb : Int) == 1) = true := by rw [hb0]; rfl
          have HRES : Hid (a ^ (2 * e + 1) % m = a ^ (2 * e + bb) % m) := by show _ = _; rw [hb0]
          clear hb0
          go_wp2_with fail
          refine (refTimes_any (a ^ (2 * e) % m) a (some ⟨b4, o4, none⟩) aa c1 ca (lt16 _ (Nat.lt_trans (Nat.mod_lt _ hmp) HM16.out)) (lt16 _ HA16.out) wr HN.out (HA.out.up HB.out)).mono ?_
          rintro e9 w7 ⟨a7, c7, rfl, hn7, hb7⟩
          have HN7 := Lib.hid hn7
          have HB7 := Lib.hid (below_up HB.out hb7)
          clear hn7 hb7
          go_wp2_with fail
          refine (refMod_any (a ^ (2 * e) % m * a) m a7 am c7 cm (lt32 _ _ (Nat.lt_trans (Nat.mod_lt _ hmp) HM16.out) HA16.out) hmp w7 HN7.out (HMM.out.up HB7.out)).mono ?_
          rintro e9 w8 ⟨a8, c8, rfl, hn8, hb8⟩
          rw [pow_one_more] at hn8 ⊢
          have HN8 := Lib.hid hn8
          have HB8 := Lib.hid (below_up HB7.out hb8)
          clear hn8 hb8
          go_wp2_with fail
          go_roundw
          case rel => exact ⟨t + 1, _, a8, c8, by omega, by go_num, rfl, by rw [HE1.out]; exact HRES.out, HN8.out, HB8.out⟩
          case measure => simp [intOf]; omega
      · by_cases hd1 : dl (a ^ e % m) = 1
        · obtain ⟨b4, o4, rfl, hb4, hcell4⟩ := HN.out.all (by omega)
          have hx4 := hcell4 0 (by omega)
          rw [dl_one_of _ hd1, Nat.add_zero] at hx4
          have hne : ((dl (a ^ e % m) : Int) != 1) = false := by rw [hd1]; rfl
          have hdpos : (0 : Int) < (dl (a ^ e % m) : Int) := by omega
          have hv2 : ((a : Int) ^ e % (m : Int) != 1) = true := by rw [bne_iff_ne]; intro h; apply hv1; exact_mod_cast h
          clear hcell4 hv1 hd1
          go_wp2_with fail
          refine (refTimes_any (a ^ e % m) (a ^ e % m) (some ⟨b4, o4, none⟩) (some ⟨b4, o4, none⟩) c1 c1 (lt16 _ (Nat.lt_trans (Nat.mod_lt _ hmp) HM16.out)) (lt16 _ (Nat.lt_trans (Nat.mod_lt _ hmp) HM16.out)) wr HN.out HN.out).mono ?_
          rintro e9 w4 ⟨a4, c4, rfl, hn4, hb4⟩
          have HN4 := Lib.hid hn4
          have HB4 := Lib.hid (below_up HB.out hb4)
          clear hn4 hb4
          go_wp2_with fail
          refine (refMod_any (a ^ e % m * (a ^ e % m)) m a4 am c4 cm (lt32 _ _ (Nat.lt_trans (Nat.mod_lt _ hmp) HM16.out) (Nat.lt_trans (Nat.mod_lt _ hmp) HM16.out)) hmp w4 HN4.out (HMM.out.up HB4.out)).mono ?_
          rintro e9 w5 ⟨a5, c5, rfl, hn5, hb5⟩
          rw [pow_sq] at hn5 ⊢
          have HN5 := Lib.hid hn5
          have HB5 := Lib.hid (below_up HB4.out hb5)
          clear hn5 hb5
          rcases hbb with hb0 | hb0
          · have hbf : ((bb : Int) == 1) = false := by rw [hb0]; rfl
            have HRES : Hid (a ^ (2 * e) % m = a ^ (2 * e + bb) % m) := by show _ = _; rw [hb0]; rfl
            clear hb0
            go_wp2_with fail
            go_roundw
            case rel => exact ⟨t + 1, a ^ (2 * e) % m, a5, c5, by omega, by go_num, rfl, by rw [HE1.out]; exact HRES.out, HN5.out, HB5.out⟩
            case measure => simp [intOf]; omega
          · have hbf : ((bb : Int) == 1) = true := by rw [hb0]; rfl
            have HRES : Hid (a ^ (2 * e + 1) % m = a ^ (2 * e + bb) % m) := by show _ = _; rw [hb0]
            clear hb0
            go_wp2_with fail
            refine (refTimes_any (a ^ (2 * e) % m) a a5 aa c5 ca (lt16 _ (Nat.lt_trans (Nat.mod_lt _ hmp) HM16.out)) (lt16 _ HA16.out) w5 HN5.out (HA.out.up HB5.out)).mono ?_
            rintro e9 w7 ⟨a7, c7, rfl, hn7, hb7⟩
            have HN7 := Lib.hid hn7
            have HB7 := Lib.hid (below_up HB5.out hb7)
            clear hn7 hb7
            go_wp2_with fail
            refine (refMod_any (a ^ (2 * e) % m * a) m a7 am c7 cm (lt32 _ _ (Nat.lt_trans (Nat.mod_lt _ hmp) HM16.out) HA16.out) hmp w7 HN7.out (HMM.out.up HB7.out)).mono ?_
            rintro e9 w8 ⟨a8, c8, rfl, hn8, hb8⟩
            rw [pow_one_more] at hn8 ⊢
            have HN8 := Lib.hid hn8
            have HB8 := Lib.hid (below_up HB7.out hb8)
            clear hn8 hb8
            go_wp2_with fail
            go_roundw
            case rel => exact ⟨t + 1, _, a8, c8, by omega, by go_num, rfl, by rw [HE1.out]; exact HRES.out, HN8.out, HB8.out⟩
            case measure => simp [intOf]; omega
        · have hne : ((dl (a ^ e % m) : Int) != 1) = true := by simp; omega
          clear hd1 hv1
          go_wp2_with fail
          refine (refTimes_any (a ^ e % m) (a ^ e % m) a1 a1 c1 c1 (lt16 _ (Nat.lt_trans (Nat.mod_lt _ hmp) HM16.out)) (lt16 _ (Nat.lt_trans (Nat.mod_lt _ hmp) HM16.out)) wr HN.out HN.out).mono ?_
          rintro e9 w4 ⟨a4, c4, rfl, hn4, hb4⟩
          have HN4 := Lib.hid hn4
          have HB4 := Lib.hid (below_up HB.out hb4)
          clear hn4 hb4
          go_wp2_with fail
          refine (refMod_any (a ^ e % m * (a ^ e % m)) m a4 am c4 cm (lt32 _ _ (Nat.lt_trans (Nat.mod_lt _ hmp) HM16.out) (Nat.lt_trans (Nat.mod_lt _ hmp) HM16.out)) hmp w4 HN4.out (HMM.out.up HB4.out)).mono ?_
          rintro e9 w5 ⟨a5, c5, rfl, hn5, hb5⟩
          rw [pow_sq] at hn5 ⊢
          have HN5 := Lib.hid hn5
          have HB5 := Lib.hid (below_up HB4.out hb5)
          clear hn5 hb5
          rcases hbb with hb0 | hb0
          · have hbf : ((bb : Int) == 1) = false := by rw [hb0]; rfl
            have HRES : Hid (a ^ (2 * e) % m = a ^ (2 * e + bb) % m) := by show _ = _; rw [hb0]; rfl
            clear hb0
            go_wp2_with fail
            go_roundw
            case rel => exact ⟨t + 1, a ^ (2 * e) % m, a5, c5, by omega, by go_num, rfl, by rw [HE1.out]; exact HRES.out, HN5.out, HB5.out⟩
            case measure => simp [intOf]; omega
          · have hbf : ((bb : Int) == 1) = true := by rw [hb0]; rfl
            have HRES : Hid (a ^ (2 * e + 1) % m = a ^ (2 * e + bb) % m) := by show _ = _; rw [hb0]
            clear hb0
            go_wp2_with fail
            refine (refTimes_any (a ^ (2 * e) % m) a a5 aa c5 ca (lt16 _ (Nat.lt_trans (Nat.mod_lt _ hmp) HM16.out)) (lt16 _ HA16.out) w5 HN5.out (HA.out.up HB5.out)).mono ?_
            rintro e9 w7 ⟨a7, c7, rfl, hn7, hb7⟩
            have HN7 := Lib.hid hn7
            have HB7 := Lib.hid (below_up HB5.out hb7)
            clear hn7 hb7
            go_wp2_with fail
            refine (refMod_any (a ^ (2 * e) % m * a) m a7 am c7 cm (lt32 _ _ (Nat.lt_trans (Nat.mod_lt _ hmp) HM16.out) HA16.out) hmp w7 HN7.out (HMM.out.up HB7.out)).mono ?_
            rintro e9 w8 ⟨a8, c8, rfl, hn8, hb8⟩
            rw [pow_one_more] at hn8 ⊢
            have HN8 := Lib.hid hn8
            have HB8 := Lib.hid (below_up HB7.out hb8)
            clear hn8 hb8
            go_wp2_with fail
            go_roundw
            case rel => exact ⟨t + 1, _, a8, c8, by omega, by go_num, rfl, by rw [HE1.out]; exact HRES.out, HN8.out, HB8.out⟩
            case measure => simp [intOf]; omega
    · have htL : t = L := by omega
      subst htL
      rw [Nat.sub_self, Nat.pow_zero, Nat.div_one] at HV
      obtain rfl := HV.out
      go_wp2_with fail
      go_ret
      exact ⟨a1, c1, rfl, HN.out, below_up HB2.out HBW.out⟩

end Go.Proofs.Ytdmldnpadojflaa
