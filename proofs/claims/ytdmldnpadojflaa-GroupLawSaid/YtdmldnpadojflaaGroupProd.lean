/- The package group: Product. No condition. -/
import Derived.Test.YtdmldnpadojflaaGroupFace
namespace Go.Proofs.Ytdmldnpadojflaa
open Go.RowKit

/-- What a product of powers answers: its bytes, and an errno. -/
def prodV (G : GP) : List ByteArray → List ByteArray → Nat → ByteArray
  | a :: xs, n :: ys, z => if isEl G.q.m G.size a = false then ⟨#[]⟩ else if isSc G.q.m G.size n = false then ⟨#[]⟩ else prodV G xs ys (z * numOf a ^ numOf n)
  | _, _, z => textS (lowN G z) G.size
def prodE (G : GP) : List ByteArray → List ByteArray → Int
  | a :: xs, n :: ys => if isEl G.q.m G.size a = false then 7 else if isSc G.q.m G.size n = false then 6 else prodE G xs ys
  | _, _ => 0


set_option maxRecDepth 100000 in
set_option maxHeartbeats 400000 in
theorem product1_long (gb b1 b2 la ln : Nat) (aa an : Option Addr) (ca cn : Nat) (hl : 256 < la ∨ 256 < ln) (w : World)
    (hc1 : Bx w b1 36 [.slice aa la ca]) (hc2 : Bx w b2 36 [.slice an ln cn]) :
    Calls Try.prog 71 #[.pointer (some ⟨gb, 0, none⟩), .pointer (some ⟨b1, 0, none⟩), .pointer (some ⟨b2, 0, none⟩)] w (Ans (.string ⟨#[]⟩) 3 w) := by
  have hk1 := hc1.cell (i := 0) rfl
  have hk2 := hc2.cell (i := 0) rfl
  clear hc1 hc2
  by_cases ha : 256 < la
  · have hd : decide ((la : Int) > 256) = true := by simp; omega
    go_enter Try.func71, Try.ntmps71
    go_wp2_with fail
    go_ret2
    exact ⟨rfl, Below.refl _ _⟩
  · have hd : decide ((la : Int) > 256) = false := by simp; omega
    have hd2 : decide ((ln : Int) > 256) = true := by simp; omega
    go_enter Try.func71, Try.ntmps71
    go_wp2_with fail
    go_ret2
    exact ⟨rfl, Below.refl _ _⟩

set_option maxRecDepth 100000 in
set_option maxHeartbeats 400000 in
theorem product1_form (gb b1 b2 la ln : Nat) (aa an : Option Addr) (ca cn : Nat) (h1 : la ≤ 256) (h2 : ln ≤ 256) (hne : la ≠ ln) (w : World)
    (hc1 : Bx w b1 36 [.slice aa la ca]) (hc2 : Bx w b2 36 [.slice an ln cn]) :
    Calls Try.prog 71 #[.pointer (some ⟨gb, 0, none⟩), .pointer (some ⟨b1, 0, none⟩), .pointer (some ⟨b2, 0, none⟩)] w (Ans (.string ⟨#[]⟩) 2 w) := by
  have hk1 := hc1.cell (i := 0) rfl
  have hk2 := hc2.cell (i := 0) rfl
  clear hc1 hc2
  have hd : decide ((la : Int) > 256) = false := by simp; omega
  have hd2 : decide ((ln : Int) > 256) = false := by simp; omega
  have hd3 : ((la : Int) != (ln : Int)) = true := by rw [bne_iff_ne]; intro h; exact hne (by exact_mod_cast h)
  go_enter Try.func71, Try.ntmps71
  go_wp2_with fail
  go_ret2
  exact ⟨rfl, Below.refl _ _⟩

theorem drop_cons {α : Type} {l : List α} {i : Nat} (h : i < l.length) : l.drop i = l[i] :: l.drop (i + 1) := List.drop_eq_getElem_cons h

set_option maxRecDepth 100000 in
set_option maxHeartbeats 1000000 in
theorem product1_any (G : GP) (ok : G.Ok) (gb b1 b2 L : Nat) (xs ys : List ByteArray) (aa an : Option Addr) (ca cn : Nat) (ha : xs.length = L) (hn : ys.length = L) (hL : L ≤ 256) (w : World) (hG : GroupAt w gb G)
    (hc1 : Bx w b1 36 [.slice aa L ca]) (hc2 : Bx w b2 36 [.slice an L cn]) (hA : Sl w w.heap.size aa (xs.map Value.string)) (hN : Sl w w.heap.size an (ys.map Value.string)) :
    Calls Try.prog 71 #[.pointer (some ⟨gb, 0, none⟩), .pointer (some ⟨b1, 0, none⟩), .pointer (some ⟨b2, 0, none⟩)] w (Ans (.string (prodV G xs ys 1)) (prodE G xs ys) w) := by
  have HLA := Lib.hid ha
  have HLN := Lib.hid hn
  have HC1 := Lib.hid hc1
  have HC2 := Lib.hid hc2
  have HA := Lib.hid hA
  have HNN := Lib.hid hN
  have HG := Lib.hid hG
  have OK := Lib.hid ok
  have hk1 := hc1.cell (i := 0) rfl
  have hk2 := hc2.cell (i := 0) rfl
  clear ha hn hc1 hc2 hA hN hG ok
  have hd : decide ((L : Int) > 256) = false := by simp; omega
  have hd3 : ((L : Int) != (L : Int)) = false := by simp
  go_enter Try.func71, Try.ntmps71
  go_wp2_with fail
  refine (gOne_any G OK.out gb w HG.out).mono ?_
  rintro e w1 ⟨rfl, hb1⟩
  have HB1 := Lib.hid hb1
  clear hb1
  unfold elV limbV
  have hlb : Below w1.heap.size w1 (w1.alloc (.cells #[.int .u64 (dig (mont G.p.m 1) 0 : Int), .int .u64 (dig (mont G.p.m 1) 1 : Int), .int .u64 (dig (mont G.p.m 1) 2 : Int), .int .u64 (dig (mont G.p.m 1) 3 : Int)] 88)) := (Below.refl _ _).alloc (Nat.le_refl _) _
  have hlz : Blk (w1.alloc (.cells #[.int .u64 (dig (mont G.p.m 1) 0 : Int), .int .u64 (dig (mont G.p.m 1) 1 : Int), .int .u64 (dig (mont G.p.m 1) 2 : Int), .int .u64 (dig (mont G.p.m 1) 3 : Int)] 88)) w1.heap.size 88 (lim (mont G.p.m 1)) := Blk.new _ _ _ _ rfl
  obtain ⟨w2, hlw⟩ : ∃ W9 : World, (w1.alloc (.cells #[.int .u64 (dig (mont G.p.m 1) 0 : Int), .int .u64 (dig (mont G.p.m 1) 1 : Int), .int .u64 (dig (mont G.p.m 1) 2 : Int), .int .u64 (dig (mont G.p.m 1) 3 : Int)] 88)) = W9 := ⟨_, rfl⟩
  rw [hlw] at hlb hlz
  have HLw2 := Lib.hid hlb
  have HXw2 := Lib.hid hlz
  clear hlb hlz
  have HB2 := Lib.hid (below_up HB1.out HLw2.out)
  have hwb : w.heap.size ≤ w1.heap.size := HB1.out.size
  clear hk1 hk2
  have hk1 := (HC1.out.up HB2.out).cell (i := 0) rfl
  go_wp2_with fail
  go_loopw [7, 8, 9, 10, 30] (fun _ _ _ _ x wr => ∃ i z : Nat, i ≤ L ∧ x = .int .i64 (i : Int) ∧ Hid (Below w.heap.size w wr) ∧ Hid (Blk wr w1.heap.size 88 (lim (mont G.p.m z))) ∧ Hid (prodV G xs ys 1 = prodV G (xs.drop i) (ys.drop i) z) ∧ Hid (prodE G xs ys = prodE G (xs.drop i) (ys.drop i))) (fun _ _ _ _ x _ => L - (intOf x).toNat)
  case atStart => exact ⟨0, 1, Nat.zero_le _, rfl, HB2.out, HXw2.out, rfl, rfl⟩
  case round =>
    obtain ⟨i, z, hi, hxi, HB, HZ, HV, HE⟩ := hrel
    subst hxi
    clear hk1
    have hk1 := (HC1.out.up HB.out).cell (i := 0) rfl
    have hk2 := (HC2.out.up HB.out).cell (i := 0) rfl
    by_cases hiL : i < L
    · obtain ⟨s, hs⟩ : ∃ s, xs[i]'(by rw [HLA.out]; exact hiL) = s := ⟨_, rfl⟩
      obtain ⟨t, ht⟩ : ∃ t, ys[i]'(by rw [HLN.out]; exact hiL) = t := ⟨_, rfl⟩
      obtain ⟨b3, o3, rfl, hb3, hc3⟩ := HA.out.at i (by rw [List.length_map, HLA.out]; exact hiL)
      obtain ⟨b4, o4, rfl, hb4, hc4⟩ := HNN.out.at i (by rw [List.length_map, HLN.out]; exact hiL)
      rw [List.getElem_map, hs] at hc3
      rw [List.getElem_map, ht] at hc4
      have hx3 : wr.cell? ⟨b3, o3 + i, none⟩ = some (.string s) := by rw [HB.out.cell (p := ⟨b3, o3 + i, none⟩) hb3]; exact hc3
      have HC4 := Lib.hid hc4
      have hdx := drop_cons (show i < xs.length by rw [HLA.out]; exact hiL)
      have hdy := drop_cons (show i < ys.length by rw [HLN.out]; exact hiL)
      rw [hs] at hdx
      rw [ht] at hdy
      have HDX := Lib.hid hdx
      have HDY := Lib.hid hdy
      clear hs ht hc3 hc4 hdx hdy
      obtain ⟨ba, hba⟩ : ∃ b, isEl G.q.m G.size s = b := ⟨_, rfl⟩
      obtain ⟨bb, hbb⟩ : ∃ b, isSc G.q.m G.size t = b := ⟨_, rfl⟩
      have HBA := Lib.hid hba
      have HBB := Lib.hid hbb
      clear hba hbb
      go_wp2_with fail
      refine (gElem_m G OK.out gb s ba HBA.out wr (HG.out.up HB.out)).mono ?_
      rintro e w3 ⟨x, rfl, hb3', hx⟩
      have HX := Lib.hid hx
      have HB3 := Lib.hid (below_up HB.out hb3')
      have HZ3 := Lib.hid (HZ.out.below hb3' HZ.out.lt)
      clear hb3' hx hx3 hk1 hk2
      unfold limbV
      have hlb : Below w3.heap.size w3 (w3.alloc (.cells #[.int .u64 (dig x 0 : Int), .int .u64 (dig x 1 : Int), .int .u64 (dig x 2 : Int), .int .u64 (dig x 3 : Int)] 88)) := (Below.refl _ _).alloc (Nat.le_refl _) _
      have hlz : Blk (w3.alloc (.cells #[.int .u64 (dig x 0 : Int), .int .u64 (dig x 1 : Int), .int .u64 (dig x 2 : Int), .int .u64 (dig x 3 : Int)] 88)) w3.heap.size 88 (lim x) := Blk.new _ _ _ _ rfl
      obtain ⟨w4, hlw⟩ : ∃ W9 : World, (w3.alloc (.cells #[.int .u64 (dig x 0 : Int), .int .u64 (dig x 1 : Int), .int .u64 (dig x 2 : Int), .int .u64 (dig x 3 : Int)] 88)) = W9 := ⟨_, rfl⟩
      rw [hlw] at hlb hlz
      have HLw4 := Lib.hid hlb
      have HXw4 := Lib.hid hlz
      clear hlb hlz
      have HB4 := Lib.hid (below_up HB3.out HLw4.out)
      have HZ4 := Lib.hid (HZ3.out.below HLw4.out HZ3.out.lt)
      have hk2 := (HC2.out.up HB4.out).cell (i := 0) rfl
      have hx4 : w4.cell? ⟨b4, o4 + i, none⟩ = some (.string t) := by rw [HB4.out.cell (p := ⟨b4, o4 + i, none⟩) hb4]; exact HC4.out
      cases ba
      · go_wp2_with fail
        go_ret2
        exact ⟨by rw [HV.out, HE.out, HDX.out, HDY.out]; unfold prodV prodE; rw [if_pos HBA.out, if_pos HBA.out]; rfl, HB4.out⟩
      · obtain rfl : x = mont G.p.m (numOf s) := HX.out rfl
        go_wp2_with fail
        refine (gScalar_m G OK.out gb t bb HBB.out w4 (HG.out.up HB4.out)).mono ?_
        rintro e w5 ⟨y, rfl, hb5, hy⟩
        have HY := Lib.hid hy
        have HB5 := Lib.hid (below_up HB4.out hb5)
        have HZ5 := Lib.hid (HZ4.out.below hb5 HZ4.out.lt)
        have HX5 := Lib.hid (HXw4.out.below hb5 HXw4.out.lt)
        clear hb5 hy hx4 hk2 hlw
        unfold limbV
        have hlb : Below w5.heap.size w5 (w5.alloc (.cells #[.int .u64 (dig y 0 : Int), .int .u64 (dig y 1 : Int), .int .u64 (dig y 2 : Int), .int .u64 (dig y 3 : Int)] 93)) := (Below.refl _ _).alloc (Nat.le_refl _) _
        have hlz : Blk (w5.alloc (.cells #[.int .u64 (dig y 0 : Int), .int .u64 (dig y 1 : Int), .int .u64 (dig y 2 : Int), .int .u64 (dig y 3 : Int)] 93)) w5.heap.size 93 (lim y) := Blk.new _ _ _ _ rfl
        obtain ⟨w6, hlw⟩ : ∃ W9 : World, (w5.alloc (.cells #[.int .u64 (dig y 0 : Int), .int .u64 (dig y 1 : Int), .int .u64 (dig y 2 : Int), .int .u64 (dig y 3 : Int)] 93)) = W9 := ⟨_, rfl⟩
        rw [hlw] at hlb hlz
        have HLw6 := Lib.hid hlb
        have HXw6 := Lib.hid hlz
        clear hlb hlz
        have HB6 := Lib.hid (below_up HB5.out HLw6.out)
        have HZ6 := Lib.hid (HZ5.out.below HLw6.out HZ5.out.lt)
        have HX6 := Lib.hid (HX5.out.below HLw6.out HX5.out.lt)
        cases bb
        · go_wp2_with fail
          go_ret2
          exact ⟨by rw [HV.out, HE.out, HDX.out, HDY.out]; unfold prodV prodE; rw [if_neg (by rw [HBA.out]; decide), if_pos HBB.out, if_neg (by rw [HBA.out]; decide), if_pos HBB.out]; rfl, HB6.out⟩
        · obtain rfl : y = mont G.q.m (numOf t) := HY.out rfl
          have HV2 : Hid (prodV G xs ys 1 = prodV G (xs.drop (i + 1)) (ys.drop (i + 1)) (z * numOf s ^ numOf t)) := by
            show _ = _
            rw [HV.out, HDX.out, HDY.out, prodV, if_neg (by rw [HBA.out]; decide), if_neg (by rw [HBB.out]; decide)]
          have HE2 : Hid (prodE G xs ys = prodE G (xs.drop (i + 1)) (ys.drop (i + 1))) := by
            show _ = _
            rw [HE.out, HDX.out, HDY.out, prodE, if_neg (by rw [HBA.out]; decide), if_neg (by rw [HBB.out]; decide)]
          have HM : Hid (numOf t % G.q.m = numOf t) := Nat.mod_eq_of_lt (isSc_lt HBB.out)
          go_wp2_with fail
          have hz_0 := HZ6.out.cell (i := 0) (x := (dig (mont G.p.m z) 0 : Int)) rfl
          have hz_1 := HZ6.out.cell (i := 1) (x := (dig (mont G.p.m z) 1 : Int)) rfl
          have hz_2 := HZ6.out.cell (i := 2) (x := (dig (mont G.p.m z) 2 : Int)) rfl
          have hz_3 := HZ6.out.cell (i := 3) (x := (dig (mont G.p.m z) 3 : Int)) rfl
          have hx_0 := HX6.out.cell (i := 0) (x := (dig (mont G.p.m (numOf s)) 0 : Int)) rfl
          have hx_1 := HX6.out.cell (i := 1) (x := (dig (mont G.p.m (numOf s)) 1 : Int)) rfl
          have hx_2 := HX6.out.cell (i := 2) (x := (dig (mont G.p.m (numOf s)) 2 : Int)) rfl
          have hx_3 := HX6.out.cell (i := 3) (x := (dig (mont G.p.m (numOf s)) 3 : Int)) rfl
          have hy_0 := HXw6.out.cell (i := 0) (x := (dig (mont G.q.m (numOf t)) 0 : Int)) rfl
          have hy_1 := HXw6.out.cell (i := 1) (x := (dig (mont G.q.m (numOf t)) 1 : Int)) rfl
          have hy_2 := HXw6.out.cell (i := 2) (x := (dig (mont G.q.m (numOf t)) 2 : Int)) rfl
          have hy_3 := HXw6.out.cell (i := 3) (x := (dig (mont G.q.m (numOf t)) 3 : Int)) rfl
          have hl1 := HZ6.out.lt
          have hl2 := HX6.out.lt
          have hl3 := HXw6.out.lt
          refine wp_region_otail 7 (by kernel_rfl) (by kernel_rfl) ?_
          simp only [List.take_succ_cons, List.take_zero, List.drop_succ_cons, List.drop_zero]
          have hov1 := fun (E : Over w6) o => E.cell (b := w1.heap.size) o hl1
          have hov2 := fun (E : Over w6) o => E.cell (b := w3.heap.size) o hl2
          have hov3 := fun (E : Over w6) o => E.cell (b := w5.heap.size) o hl3
          have hpow := fun (E : Over w6) => gPower_any G OK.out gb (numOf s) (numOf t) E.w (HG.out.up (below_up HB6.out E.h))
          rw [HM.out] at hpow
          have HPOW := Lib.hid hpow
          clear hpow
          repeat (go_big_quiet_step (first | (go_at_call 76; exact calls_over (HPOW.out _)) | (go_at_call 75; exact calls_over (gTimes_any G OK.out gb z (numOf s ^ numOf t) _ (HG.out.up (below_up HB6.out (Over.h _)))))))
          all_goals (try unfold elV limbV)
          repeat (go_big_quiet_step (first | (go_at_call 76; exact calls_over (HPOW.out _)) | (go_at_call 75; exact calls_over (gTimes_any G OK.out gb z (numOf s ^ numOf t) _ (HG.out.up (below_up HB6.out (Over.h _)))))))
          all_goals (try unfold elV limbV)
          repeat (go_big_quiet_step (first | (go_at_call 76; exact calls_over (HPOW.out _)) | (go_at_call 75; exact calls_over (gTimes_any G OK.out gb z (numOf s ^ numOf t) _ (HG.out.up (below_up HB6.out (Over.h _)))))))
          refine wpQuiet_nil ?_
          rintro _ ⟨E, rfl⟩
          have HZ7 := Lib.hid (HZ6.out.below E.h HZ6.out.lt)
          have HB7 := Lib.hid (below_up HB6.out E.h)
          clear hov1 hov2 hov3 hz_0 hz_1 hz_2 hz_3
          generalize E.w = w7 at *
          have hz_0 := HZ7.out.cell (i := 0) (x := (dig (mont G.p.m z) 0 : Int)) rfl
          have hz_1 := HZ7.out.cell (i := 1) (x := (dig (mont G.p.m z) 1 : Int)) rfl
          have hz_2 := HZ7.out.cell (i := 2) (x := (dig (mont G.p.m z) 2 : Int)) rfl
          have hz_3 := HZ7.out.cell (i := 3) (x := (dig (mont G.p.m z) 3 : Int)) rfl
          have hzf_0 := HZ7.out.frozen 0
          have hzf_1 := HZ7.out.frozen 1
          have hzf_2 := HZ7.out.frozen 2
          have hzf_3 := HZ7.out.frozen 3
          have HB8 : Hid (Below w.heap.size w (((((w7).setCell ⟨w1.heap.size, 0, none⟩ (.int .u64 (dig (mont G.p.m (z * numOf s ^ numOf t)) 0 : Int))).setCell ⟨w1.heap.size, 1, none⟩ (.int .u64 (dig (mont G.p.m (z * numOf s ^ numOf t)) 1 : Int))).setCell ⟨w1.heap.size, 2, none⟩ (.int .u64 (dig (mont G.p.m (z * numOf s ^ numOf t)) 2 : Int))).setCell ⟨w1.heap.size, 3, none⟩ (.int .u64 (dig (mont G.p.m (z * numOf s ^ numOf t)) 3 : Int)))) := below_fill HB7.out hwb
          have HZ8 : Hid (Blk (((((w7).setCell ⟨w1.heap.size, 0, none⟩ (.int .u64 (dig (mont G.p.m (z * numOf s ^ numOf t)) 0 : Int))).setCell ⟨w1.heap.size, 1, none⟩ (.int .u64 (dig (mont G.p.m (z * numOf s ^ numOf t)) 1 : Int))).setCell ⟨w1.heap.size, 2, none⟩ (.int .u64 (dig (mont G.p.m (z * numOf s ^ numOf t)) 2 : Int))).setCell ⟨w1.heap.size, 3, none⟩ (.int .u64 (dig (mont G.p.m (z * numOf s ^ numOf t)) 3 : Int))) w1.heap.size 88 (lim (mont G.p.m (z * numOf s ^ numOf t)))) := HZ7.out.fill rfl _
          go_wp2_with fail
          go_roundw
          case rel => exact ⟨i + 1, z * numOf s ^ numOf t, by omega, by go_num, HB8.out, HZ8.out, HV2.out, HE2.out⟩
          case measure => simp [intOf]; omega
    · have hil : i = L := by omega
      subst hil
      have hz_0 := HZ.out.cell (i := 0) (x := (dig (mont G.p.m z) 0 : Int)) rfl
      have hz_1 := HZ.out.cell (i := 1) (x := (dig (mont G.p.m z) 1 : Int)) rfl
      have hz_2 := HZ.out.cell (i := 2) (x := (dig (mont G.p.m z) 2 : Int)) rfl
      have hz_3 := HZ.out.cell (i := 3) (x := (dig (mont G.p.m z) 3 : Int)) rfl
      go_wp2_with fail
      refine (gText_any G OK.out gb z wr (HG.out.up HB.out)).mono ?_
      rintro e w3 ⟨rfl, hb3⟩
      have HB3 := Lib.hid (below_up HB.out hb3)
      clear hb3
      go_wp2_with fail
      go_ret2
      refine ⟨?_, HB3.out⟩
      rw [HV.out, HE.out, List.drop_eq_nil_of_le (by rw [HLA.out]; exact Nat.le_refl _)]
      rfl

def proV (G : GP) (xs ys : List ByteArray) : ByteArray := if 256 < xs.length ∨ 256 < ys.length then ⟨#[]⟩ else if xs.length ≠ ys.length then ⟨#[]⟩ else prodV G xs ys 1
def proE (G : GP) (xs ys : List ByteArray) : Int := if 256 < xs.length ∨ 256 < ys.length then 3 else if xs.length ≠ ys.length then 2 else prodE G xs ys

theorem Product_call {k : Nat} (h1 : 1 ≤ k) (h3 : k ≤ 3) {xs ys : List ByteArray} {aa an : Option Addr} {la ln ca cn : Nat} (ha : xs.length = la) (hn : ys.length = ln) {w W0 w1 : World}
    (hA : Sl w w.heap.size aa (xs.map Value.string)) (hN : Sl w w.heap.size an (ys.map Value.string))
    (hz : Below w.heap.size w W0 ∧ Bx W0 w.heap.size 36 [.slice aa la ca] ∧ Bx W0 (w.heap.size + 1) 36 [.slice an ln cn]) (hb : Below W0.heap.size W0 w1) (hg : GroupAt w1 W0.heap.size (grp k)) :
    Calls Try.prog 71 #[.pointer (some ⟨W0.heap.size, 0, none⟩), .pointer (some ⟨w.heap.size, 0, none⟩), .pointer (some ⟨w.heap.size + 1, 0, none⟩)] w1 (Ans (.string (proV (grp k) xs ys)) (proE (grp k) xs ys) w1) := by
  have ok := grp_ok k h1 h3
  have z1 := hz.2.1.up hb
  have z2 := hz.2.2.up hb
  have hu := below_up hz.1 hb
  unfold proV proE
  rw [ha, hn]
  by_cases hl : 256 < la ∨ 256 < ln
  · rw [if_pos hl, if_pos hl]
    exact product1_long _ _ _ la ln aa an ca cn hl w1 z1 z2
  · rw [if_neg hl, if_neg hl]
    by_cases he : la = ln
    · subst he
      rw [if_neg (by simp), if_neg (by simp)]
      exact product1_any _ ok _ _ _ la xs ys aa an ca cn ha hn (by omega) w1 hg z1 z2 (hA.up hu) (hN.up hu)
    · rw [if_pos he, if_pos he]
      exact product1_form _ _ _ la ln aa an ca cn (by omega) (by omega) he w1 z1 z2

set_option maxRecDepth 100000 in
set_option maxHeartbeats 400000 in
theorem Product_none (k : Int) (hk : ¬ (1 ≤ k ∧ k ≤ 3)) (aa an : Option Addr) (la ln ca cn : Nat) (w : World) : Calls Try.prog 21 #[.int .i64 k, .slice aa la ca, .slice an ln cn] w (Ans (.string ⟨#[]⟩) 1 w) := by
  go_enter Try.func21, Try.ntmps21
  go_wp2_with fail
  obtain ⟨W0, hW0⟩ : ∃ W9 : World, ((w.alloc (.cells #[.slice aa la ca] 36)).alloc (.cells #[.slice an ln cn] 36)) = W9 := ⟨_, rfl⟩
  have hz := box2 w (.slice aa la ca) (.slice an ln cn) 36 36
  rw [hW0] at hz
  have HZ := Lib.hid hz
  clear hz
  simp only [hW0]
  clear hW0
  refine (withS_none k hk _ W0).mono ?_
  rintro e w1 ⟨rfl, hb⟩
  have HB := Lib.hid (below_up HZ.out.1 hb)
  clear hb
  go_wp2_with fail
  go_ret2
  exact ⟨rfl, HB.out⟩

set_option maxRecDepth 100000 in
set_option maxHeartbeats 400000 in
theorem Product_some (k : Nat) (h1 : 1 ≤ k) (h3 : k ≤ 3) (xs ys : List ByteArray) (aa an : Option Addr) (la ln ca cn : Nat) (ha : xs.length = la) (hn : ys.length = ln) (w : World)
    (hA : Sl w w.heap.size aa (xs.map Value.string)) (hN : Sl w w.heap.size an (ys.map Value.string)) :
    Calls Try.prog 21 #[.int .i64 (k : Int), .slice aa la ca, .slice an ln cn] w (Ans (.string (proV (grp k) xs ys)) (proE (grp k) xs ys) w) := by
  have HLA := Lib.hid ha
  have HLN := Lib.hid hn
  have HA := Lib.hid hA
  have HN := Lib.hid hN
  clear ha hn hA hN
  go_enter Try.func21, Try.ntmps21
  go_wp2_with fail
  obtain ⟨W0, hW0⟩ : ∃ W9 : World, ((w.alloc (.cells #[.slice aa la ca] 36)).alloc (.cells #[.slice an ln cn] 36)) = W9 := ⟨_, rfl⟩
  have hz := box2 w (.slice aa la ca) (.slice an ln cn) 36 36
  rw [hW0] at hz
  have HZ := Lib.hid hz
  clear hz
  simp only [hW0]
  clear hW0
  refine (withS_some k h1 h3 71 #[.pointer (some ⟨w.heap.size, 0, none⟩), .pointer (some ⟨w.heap.size + 1, 0, none⟩)] (.string (proV (grp k) xs ys)) (proE (grp k) xs ys) (enters_of Try.func71 (by kernel_rfl) rfl) W0 (fun w1 hb hg => Product_call h1 h3 HLA.out HLN.out HA.out HN.out HZ.out hb hg)).mono ?_
  rintro e w2 ⟨rfl, hb2⟩
  have HB2 := Lib.hid (below_up HZ.out.1 hb2)
  clear hb2
  go_wp2_with fail
  go_ret2
  exact ⟨rfl, HB2.out⟩

end Go.Proofs.Ytdmldnpadojflaa
