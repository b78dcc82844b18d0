/- A ring's mul. No condition. -/
import Derived.Test.YtdmldnpadojflaaRingAdd
import Derived.Test.YtdmldnpadojflaaMontPlain
import Derived.Laws.Cover3
namespace Go.Proofs.Ytdmldnpadojflaa
open Go.RowKit

/-- The five words. -/
def lim5 (n : Nat) : List Int := [(dig n 0 : Int), (dig n 1 : Int), (dig n 2 : Int), (dig n 3 : Int), (dig n 4 : Int)]

def mix5 (y t n : Nat) : List Int := (List.range 5).map fun i => if i < n then (dig y i : Int) else (dig t i : Int)
theorem mix5_zero (y t : Nat) : mix5 y t 0 = lim5 t := rfl
theorem mix5_at (y t n : Nat) (hn : n < 5) : (mix5 y t n)[n]? = some (dig t n : Int) := by
  simp [mix5, hn]
theorem mix5_set (y t n : Nat) (hn : n < 5) : (mix5 y t n).set n (dig y n : Int) = mix5 y t (n + 1) := by
  match n, hn with
  | 0, _ => rfl
  | 1, _ => rfl
  | 2, _ => rfl
  | 3, _ => rfl
  | 4, _ => rfl

def mixR (z y n : Nat) : List Int := (List.range 5).map fun i => if i < n then (dig z (i + 1) : Int) else (dig y i : Int)
theorem mixR_zero (z y : Nat) : mixR z y 0 = lim5 y := rfl
theorem mixR_at (z y n : Nat) (hn : n < 4) : (mixR z y n)[n + 1]? = some (dig y (n + 1) : Int) := by
  match n, hn with
  | 0, _ => rfl
  | 1, _ => rfl
  | 2, _ => rfl
  | 3, _ => rfl
theorem mixR_set (z y n : Nat) (hn : n < 5) : (mixR z y n).set n (dig z (n + 1) : Int) = mixR z y (n + 1) := by
  match n, hn with
  | 0, _ => rfl
  | 1, _ => rfl
  | 2, _ => rfl
  | 3, _ => rfl
  | 4, _ => rfl
theorem dig_div (z i : Nat) : dig (z / BB) i = dig z (i + 1) := by
  unfold dig
  rw [Nat.div_div_eq_div_mul, ← Nat.pow_succ']
theorem mixR_five (z y : Nat) : mixR z y 5 = lim5 (z / BB) := by
  simp only [lim5, dig_div]; rfl
theorem dig_five (y m q : Nat) (hy : y < BB ^ 5) (hm : m < BB ^ 4) (hq : q < BB) : dig m 4 = 0 ∧ (dig y 4 + mc y m q 4) / BB = dig (y + q * m) 5 ∧ (dig y 4 + mc y m q 4) % BB = dig (y + q * m) 4 := by
  have h0 : dig m 4 = 0 := by unfold dig; rw [Nat.div_eq_of_lt hm]; rfl
  have h1 := mc_succ y m q 4
  have h2 := mc_dig y m q 4
  rw [h0, Nat.mul_zero, Nat.add_zero] at h1 h2
  refine ⟨h0, ?_, h2⟩
  rw [h1]
  unfold dig
  rw [mc_split, Nat.div_eq_of_lt hy, Nat.div_eq_of_lt (Nat.lt_of_lt_of_le hm (Nat.pow_le_pow_right (by decide) (by omega))), Nat.mul_zero, Nat.add_zero, Nat.zero_add, Nat.mod_eq_of_lt (Nat.lt_of_le_of_lt (mc_le _ _ _ _) hq)]

theorem ring_m (R : RingP) (i : Nat) (hi : i < 4) : R.cells[i]? = some (dig R.m i : Int) := by
  match i, hi with
  | 0, _ => rfl
  | 1, _ => rfl
  | 2, _ => rfl
  | 3, _ => rfl

theorem u64_wrap (n : Nat) : IntKind.u64.wrap (n : Int) = ((n % BB : Nat) : Int) := by
  show IntKind.u64.wrap (n : Int) = ((n % 18446744073709551616 : Nat) : Int)
  simp only [IntKind.wrap, IntKind.bits, IntKind.signed, Bool.false_and]
  rw [if_neg (by simp)]
  omega

theorem Mul_at (x y h l : Nat) (hx : x < BB) (hy : y < BB) (eh : x * y / BB = h) (el : x * y % BB = l) (w : World) : Calls Try.prog 130 #[.int .u64 (x : Int), .int .u64 (y : Int)] w fun e w' => e = .returned (.tuple #[.int .u64 (h : Int), .int .u64 (l : Int)]) ∧ Below w.heap.size w w' := by
  subst eh
  subst el
  refine (Try.bits_Mul64 x y hx hy w).mono ?_
  rintro e w' ⟨rfl, rfl⟩
  exact ⟨rfl, Below.refl _ _⟩

set_option maxRecDepth 10000 in
set_option maxHeartbeats 2000000 in
theorem mul_any (R : RingP) (rb off a b : Nat) (ha : a < BB ^ 4) (hb : b < R.m) (hm : R.m < BB ^ 3 * 4611686018427387904) (hl : R.low < BB) (hlow : (R.low * R.m + 1) % BB = 0) (w : World) (hR : RingAt w rb off R) :
    Calls Try.prog 113 #[.pointer (some ⟨rb, off, none⟩), limbV a, limbV b] w fun e w' => (∃ r, e = .returned (limbV r) ∧ r < R.m ∧ (r * BB ^ 4) % R.m = (a * b) % R.m) ∧ Below w.heap.size w w' := by
  unfold limbV
  go_enter Try.func113, Try.ntmps113
  go_wp2_with fail
  generalize hW0 : (((w.alloc (Obj.cells #[.int .u64 (dig (a) 0 : Int), .int .u64 (dig (a) 1 : Int), .int .u64 (dig (a) 2 : Int), .int .u64 (dig (a) 3 : Int)] 76)).alloc (Obj.cells #[.int .u64 (dig (b) 0 : Int), .int .u64 (dig (b) 1 : Int), .int .u64 (dig (b) 2 : Int), .int .u64 (dig (b) 3 : Int)] 76)).alloc (Obj.cells #[.int .u64 0, .int .u64 0, .int .u64 0, .int .u64 0] 76)).alloc (Obj.cells #[.int .u64 0, .int .u64 0, .int .u64 0, .int .u64 0, .int .u64 0] 142) = W0 at *
  have hA : Blk W0 w.heap.size 76 (lim a) := by rw [← hW0]; exact (((Blk.new w _ (lim a) _ rfl).alloc _).alloc _).alloc _
  have hB : Blk W0 (w.heap.size + 1) 76 (lim b) := by
    rw [← hW0]
    have h := ((Blk.new (w.alloc (Obj.cells #[.int .u64 (dig (a) 0 : Int), .int .u64 (dig (a) 1 : Int), .int .u64 (dig (a) 2 : Int), .int .u64 (dig (a) 3 : Int)] 76)) 76 (lim b) _ rfl).alloc (Obj.cells #[.int .u64 0, .int .u64 0, .int .u64 0, .int .u64 0] 76)).alloc (Obj.cells #[.int .u64 0, .int .u64 0, .int .u64 0, .int .u64 0, .int .u64 0] 142)
    rwa [World.size_alloc] at h
  have hC : Blk W0 (w.heap.size + 2) 76 [0, 0, 0, 0] := by
    rw [← hW0]
    have h := (Blk.new ((w.alloc (Obj.cells #[.int .u64 (dig (a) 0 : Int), .int .u64 (dig (a) 1 : Int), .int .u64 (dig (a) 2 : Int), .int .u64 (dig (a) 3 : Int)] 76)).alloc (Obj.cells #[.int .u64 (dig (b) 0 : Int), .int .u64 (dig (b) 1 : Int), .int .u64 (dig (b) 2 : Int), .int .u64 (dig (b) 3 : Int)] 76)) 76 [0, 0, 0, 0] _ rfl).alloc (Obj.cells #[.int .u64 0, .int .u64 0, .int .u64 0, .int .u64 0, .int .u64 0] 142)
    rw [World.size_alloc, World.size_alloc] at h
    exact h
  have hT : Blk W0 (w.heap.size + 3) 142 (lim5 (montTo a b R.m R.low 0)) := by
    have e0 : lim5 (montTo a b R.m R.low 0) = [0, 0, 0, 0, 0] := by simp [lim5, montTo, dig]
    rw [← hW0, e0]
    have h := Blk.new (((w.alloc (Obj.cells #[.int .u64 (dig (a) 0 : Int), .int .u64 (dig (a) 1 : Int), .int .u64 (dig (a) 2 : Int), .int .u64 (dig (a) 3 : Int)] 76)).alloc (Obj.cells #[.int .u64 (dig (b) 0 : Int), .int .u64 (dig (b) 1 : Int), .int .u64 (dig (b) 2 : Int), .int .u64 (dig (b) 3 : Int)] 76)).alloc (Obj.cells #[.int .u64 0, .int .u64 0, .int .u64 0, .int .u64 0] 76)) 142 [0, 0, 0, 0, 0] _ rfl
    rw [World.size_alloc, World.size_alloc, World.size_alloc] at h
    exact h
  have hBW : Below w.heap.size w W0 := by rw [← hW0]; exact ((((Below.refl _ _).alloc (Nat.le_refl _) _).alloc (by simp) _).alloc (by simp; omega) _).alloc (by simp; omega) _
  clear hW0
  have hR0 := hR.up hBW
  have hrl := hR.lt
  have HA := Lib.hid hA
  have HB := Lib.hid hB
  have HC := Lib.hid hC
  have HBW := Lib.hid hBW
  have HR0 := Lib.hid hR0
  have HLA := Lib.hid ha
  have HLB := Lib.hid hb
  have HLM := Lib.hid hm
  have HLL := Lib.hid hl
  have HLW := Lib.hid hlow
  have hsz0 := hT.lt
  clear hA hB hC hBW hR0 hR ha hb hm hl hlow
  go_loopw [8, 9, 10, 11, 12, 13, 14, 15, 16, 17, 18] (fun _ _ _ _ _ _ _ _ _ _ i wr => ∃ j : Nat, j ≤ 4 ∧ i = .int .i64 j ∧ Hid (Blk wr (w.heap.size + 3) 142 (lim5 (montTo a b R.m R.low j))) ∧ Hid (Below (w.heap.size + 3) W0 wr)) (fun _ _ _ _ _ _ _ _ _ _ i _ => 4 - (intOf i).toNat)
  case atStart => exact ⟨0, Nat.zero_le _, rfl, hT, Below.refl _ _⟩
  case round =>
    clear hT
    obtain ⟨i, hi, rfl, HT, HN⟩ := hrel
    by_cases hil : i < 4
    · generalize hZ : montTo a b R.m R.low i = T at *
      have HZ := Lib.hid hZ
      clear hZ
      have hxa := (HA.out.below HN.out (by omega)).cell (lim_at a i hil)
      have hdx := dig_lt a i
      generalize hx : dig a i = x at *
      have HX := Lib.hid hx
      clear hx
      have hszr := HN.out.size
      go_wp2_with fail
      go_loopw [9, 10, 11, 12, 13, 21] (fun c _ _ _ _ jv w1 => ∃ j : Nat, j ≤ 4 ∧ jv = .int .i64 j ∧ c = .int .u64 (mc T b x j : Int) ∧ Hid (Blk w1 (w.heap.size + 3) 142 (mix5 (T + x * b) T j)) ∧ Hid (Below (w.heap.size + 3) W0 w1)) (fun _ _ _ _ _ jv _ => 4 - (intOf jv).toNat)
      case atStart => exact ⟨0, Nat.zero_le _, rfl, by simp [mc_zero], by show Blk _ _ _ _; rw [mix5_zero]; exact HT.out, HN.out⟩
      case round =>
        clear HT HN hszr
        obtain ⟨j, hj, rfl, rfl, HT, HN⟩ := hrel
        by_cases hjl : j < 4
        · have hxa1 := (HA.out.below HN.out (by omega)).cell (lim_at a i hil)
          rw [HX.out] at hxa1
          have hxb := (HB.out.below HN.out (by omega)).cell (lim_at b j hjl)
          have hxt := HT.out.cell (mix5_at (T + x * b) T j (by omega))
          have hxf := HT.out.frozen j
          have hsz1 := HN.out.size
          have htl := HT.out.lt
          clear hxa
          have hdy := dig_lt b j
          have hdt := dig_lt T j
          have hmc : mc T b x j < BB := Nat.lt_of_le_of_lt (mc_le T b x j) hdx
          have hmac := mac_split (dig T j) (x * dig b j) (mc T b x j) (mac_lt _ _ _ _ hdt hdx hdy hmc)
          rw [mc_dig, mc_succ] at hmac
          have hset := HT.out.set j (dig (T + x * b) j : Int)
          rw [mix5_set _ _ _ (by omega)] at hset
          have HSET := Lib.hid hset
          have HMAC := Lib.hid hmac
          have HDX := Lib.hid hdx
          have HDY := Lib.hid hdy
          have HDT := Lib.hid hdt
          have HMC := Lib.hid hmc
          clear hset hmac hdy hdt hmc
          generalize hy : dig b j = y at *
          have HY := Lib.hid hy
          clear hy
          obtain ⟨h0, eh⟩ : ∃ h0, x * y / BB = h0 := ⟨_, rfl⟩
          obtain ⟨l0, el⟩ : ∃ l0, x * y % BB = l0 := ⟨_, rfl⟩
          have hm3 := HMAC.out
          rw [eh, el] at hm3
          generalize ht : dig T j = t at *
          have HTT := Lib.hid ht
          clear ht
          have hl0 : l0 < BB := by rw [← el]; exact Nat.mod_lt _ (by decide)
          obtain ⟨s1, es1⟩ : ∃ s1, (l0 + t) % BB = s1 := ⟨_, rfl⟩
          obtain ⟨k1, ek1⟩ : ∃ k1, (l0 + t) / BB = k1 := ⟨_, rfl⟩
          rw [es1, ek1] at hm3
          obtain ⟨h1, eh1⟩ : ∃ h1, h0 + k1 = h1 := ⟨_, rfl⟩
          rw [eh1] at hm3
          generalize hc : mc T b x j = c at *
          obtain ⟨k2, ek2⟩ : ∃ k2, (s1 + c) / BB = k2 := ⟨_, rfl⟩
          rw [ek2] at hm3
          have hcall1 : ∀ W, (callFunc 131 #[.int .u64 (l0 : Int), .int .u64 (t : Int), .int .u64 0]).run Try.prog W = .ok (.value (.tuple #[.int .u64 (s1 : Int), .int .u64 (k1 : Int)])) W := by
            intro W
            rw [add64 _ _ _ (by omega) (by omega) (by omega) (by omega), ← es1, ← ek1]
            simp [BB]
          have hcall2 : ∀ W, (callFunc 131 #[.int .u64 (s1 : Int), .int .u64 (c : Int), .int .u64 0]).run Try.prog W = .ok (.value (.tuple #[.int .u64 (dig (T + x * b) j : Int), .int .u64 (k2 : Int)])) W := by
            intro W
            rw [add64 _ _ _ (by omega) (by omega) (by omega) (by omega), ← hm3.1, ← ek2]
            simp [BB]
          have HEH := Lib.hid eh
          have HEL := Lib.hid el
          have HM3 := Lib.hid hm3
          have HEH1 := Lib.hid eh1
          have HC1 := Lib.hid hc
          clear eh el hm3 eh1 hc es1 ek1 ek2 hl0
          go_wp2_with fail
          refine wp_region_over (by kernel_rfl) (by kernel_rfl) ?_
          have hov := fun (E : Over wr) o => E.cell (b := w.heap.size) o (by omega)
          have hov2 := fun (E : Over wr) o => E.cell (b := w.heap.size + 1) o (by omega)
          repeat (go_big_quiet_step (first | (go_at_call 130; exact calls_over (Mul_at x y h0 l0 HDX.out HDY.out HEH.out HEL.out _))))
          refine wpQuiet_nil ?_
          rintro _ ⟨E, rfl⟩
          have HNE := Lib.hid (HN.out.trans (E.h.mono (by omega)))
          have HTE := Lib.hid (HT.out.below E.h HT.out.lt)
          clear hov hov2 hxt hxf
          generalize E.w = w5 at *
          have hxt := HTE.out.cell (mix5_at (T + x * b) T j (by omega))
          have hxf := HTE.out.frozen j
          rw [HTT.out] at hxt
          have hset2 := HTE.out.set j (dig (T + x * b) j : Int)
          rw [mix5_set _ _ _ (by omega)] at hset2
          have HSET2 := Lib.hid hset2
          have HBE := Lib.hid (HNE.out.setCell (p := ⟨w.heap.size + 3, j, none⟩) (Nat.le_refl _) (.int .u64 (dig (T + x * b) j : Int)))
          clear hset2
          go_wp2_with fail
          go_roundw
          case rel => exact ⟨j + 1, by omega, by go_num, by rw [← Int.natCast_add, HEH1.out, u64_wrap, HM3.out.2.1, ← Int.natCast_add, u64_wrap, HM3.out.2.2], HSET2.out, HBE.out⟩
          case measure => simp [intOf]; omega
        · have hj4 : j = 4 := by omega
          subst hj4
          have hb4 : dig b 4 = 0 := by
            unfold dig
            rw [Nat.div_eq_of_lt (Nat.lt_trans HLB.out (Nat.lt_of_lt_of_le HLM.out (by decide)))]
            rfl
          have hy4 := mc_dig T b x 4
          rw [hb4, Nat.mul_zero, Nat.add_zero] at hy4
          have HY4 := Lib.hid hy4
          clear hb4 hy4 hxa
          generalize hYY : T + x * b = Y at *
          have HYY := Lib.hid hYY
          clear hYY
          have hw4 : IntKind.u64.wrap ((dig T 4 : Int) + (mc T b x 4 : Int)) = (dig Y 4 : Int) := by rw [← Int.natCast_add, u64_wrap, HY4.out]
          have ht4 := HT.out.cell (mix5_at Y T 4 (by omega))
          have ht0 := HT.out.cell (i := 0) (x := (dig Y 0 : Int)) rfl
          have hf4 := HT.out.frozen 4
          have hset4 := HT.out.set 4 (dig Y 4 : Int)
          rw [mix5_set _ _ _ (by omega)] at hset4
          have HT6 : Hid (Blk (wr.setCell ⟨w.heap.size + 1 + 1 + 1, 4, none⟩ (.int .u64 (dig Y 4 : Int))) (w.heap.size + 3) 142 (lim5 Y)) := hset4
          have HN6 : Hid (Below (w.heap.size + 3) W0 (wr.setCell ⟨w.heap.size + 1 + 1 + 1, 4, none⟩ (.int .u64 (dig Y 4 : Int)))) := HN.out.setCell (p := ⟨w.heap.size + 3, 4, none⟩) (Nat.le_refl _) (.int .u64 (dig Y 4 : Int))
          have htl := HT.out.lt
          clear hset4
          go_wp2_with fail
          generalize wr.setCell ⟨w.heap.size + 1 + 1 + 1, 4, none⟩ (.int .u64 (dig Y 4 : Int)) = w6 at *
          have HR6 := Lib.hid (HR0.out.below HN6.out (by omega))
          have hlw := HR6.out.cell 12 (R.low : Int) rfl
          have ht0 := HT6.out.cell (i := 0) (x := (dig Y 0 : Int)) rfl
          have hq : IntKind.u64.wrap ((dig Y 0 : Int) * (R.low : Int)) = ((dig Y 0 * R.low % BB : Nat) : Int) := by rw [← Int.natCast_mul, u64_wrap]
          have hql : dig Y 0 * R.low % BB < BB := Nat.mod_lt _ (by decide)
          generalize hqq : dig Y 0 * R.low % BB = q at *
          have HQ := Lib.hid hqq
          have HQL := Lib.hid hql
          have hrb6 := HR6.out.lt
          have ht6l := HT6.out.lt
          clear hqq hql ht4 hf4 hw4 HT HN
          refine wp_region_tree (fun w' => ∃ E : Over w6, w' = E.w) (.qs [0, 1, 2, 3, 4, 5, 6, 7] .done) (by kernel_rfl) (by kernel_rfl) (fun _ _ d _ _ h => by cases d <;> exact h) ⟨⟨_, (Below.refl _ _).drew⟩, rfl⟩ ?_
          have hov := fun (E : Over w6) o => E.cell (b := w.heap.size + 3) o (by omega)
          have hov2 := fun (E : Over w6) o => E.cell (b := rb) o (by omega)
          simp only [Tree.qs]
          repeat (refine tree_q rfl rfl ?_; go_big_quiet_step (fail); refine wpQuiet_nil ?_)
          refine tree_end ?_
          clear hov hov2
          have hr0 : w6.cell? ⟨rb, off, none⟩ = some (.int .u64 (dig R.m 0 : Int)) := HR6.out.cell 0 (dig R.m 0 : Int) rfl
          have hdm := dig_lt R.m 0
          have HDM := Lib.hid hdm
          obtain ⟨h0, eh⟩ : ∃ h0, q * dig R.m 0 / BB = h0 := ⟨_, rfl⟩
          obtain ⟨l0, el⟩ : ∃ l0, q * dig R.m 0 % BB = l0 := ⟨_, rfl⟩
          have HEH := Lib.hid eh
          have HEL := Lib.hid el
          clear hdm eh el hlw hq
          generalize hm0 : dig R.m 0 = m0 at *
          have HM0 := Lib.hid hm0
          clear hm0
          go_wp2_with fail
          refine (Mul_at q m0 h0 l0 HQL.out HDM.out HEH.out HEL.out _).mono ?_
          rintro e w7 ⟨rfl, hb7⟩
          have hb67 : Below w6.heap.size w6 w7 := (Below.refl _ _).drew.trans hb7
          have HT7 := Lib.hid (HT6.out.below hb67 HT6.out.lt)
          have HN7 := Lib.hid (HN6.out.trans (hb67.mono (by omega)))
          clear hb7 hb67 hr0 ht0 HT6
          have ht0 := HT7.out.cell (i := 0) (x := (dig Y 0 : Int)) rfl
          have htl7 := HT7.out.lt
          have HC1 : Hid (∃ s1 k1 : Nat, (∀ W, (callFunc 131 #[.int .u64 (l0 : Int), .int .u64 (dig Y 0 : Int), .int .u64 0]).run Try.prog W = .ok (.value (.tuple #[.int .u64 (s1 : Int), .int .u64 (k1 : Int)])) W) ∧ IntKind.u64.wrap ((h0 : Int) + (k1 : Int)) = (mc Y R.m q 1 : Int)) := by
            have hl0 : l0 < BB := by rw [← HEL.out]; exact Nat.mod_lt _ (by decide)
            have hdt := dig_lt Y 0
            have hm1 := mac_split (dig Y 0) (q * m0) 0 (mac_lt _ _ _ _ hdt HQL.out HDM.out (by decide))
            have hs1 := mc_succ Y R.m q 0
            rw [HM0.out, mc_zero] at hs1
            rw [HEH.out, HEL.out, hs1] at hm1
            refine ⟨(l0 + dig Y 0) % BB, (l0 + dig Y 0) / BB, fun W => ?_, ?_⟩
            · rw [add64 _ _ _ (by omega) (by omega) (by omega) (by omega)]
              simp [BB]
            · rw [← Int.natCast_add, u64_wrap, ← hm1.2.2]
              congr 1
              have h2 := hm1.2.1
              generalize (l0 + dig Y 0) / BB = k at *
              have h3 : ((l0 + dig Y 0) % BB + 0) / BB = 0 := by rw [Nat.add_zero]; exact Nat.div_eq_of_lt (Nat.mod_lt _ (by decide))
              rw [h3]; rfl
          obtain ⟨s1, k1, hcall1, hcw⟩ := HC1.out
          have HCW := Lib.hid hcw
          clear hcw HC1
          go_wp2_with fail
          rw [HCW.out]
          clear hcall1
          have hsz7 := HN7.out.size
          go_loopw [9, 10, 15, 16, 17] (fun c _ _ _ jv w1 => ∃ n : Nat, n ≤ 3 ∧ jv = .int .i64 ((n : Int) + 1) ∧ c = .int .u64 (mc Y R.m q (n + 1) : Int) ∧ Hid (Blk w1 (w.heap.size + 3) 142 (mixR (Y + q * R.m) Y n)) ∧ Hid (Below (w.heap.size + 3) W0 w1)) (fun _ _ _ _ jv _ => 4 - (intOf jv).toNat)
          case atStart => exact ⟨0, Nat.zero_le _, rfl, rfl, by show Blk _ _ _ _; rw [mixR_zero]; exact HT7.out, HN7.out⟩
          case round =>
            clear HT7 HN7 hsz7 ht0 htl7 HN6
            obtain ⟨n, hn, rfl, rfl, HT, HN⟩ := hrel
            have hsz1 := HN.out.size
            have htl := HT.out.lt
            have HR1 := Lib.hid (HR0.out.below HN.out (by omega))
            have hrb1 := HR1.out.lt
            by_cases hnl : n < 3
            · have hdy := dig_lt R.m (n + 1)
              have hdt := dig_lt Y (n + 1)
              have hmc : mc Y R.m q (n + 1) < BB := Nat.lt_of_le_of_lt (mc_le Y R.m q (n + 1)) HQL.out
              have hmac := mac_split (dig Y (n + 1)) (q * dig R.m (n + 1)) (mc Y R.m q (n + 1)) (mac_lt _ _ _ _ hdt HQL.out hdy hmc)
              rw [mc_dig, mc_succ] at hmac
              have hrm : wr.cell? ⟨rb, off + (n + 1), none⟩ = some (.int .u64 (dig R.m (n + 1) : Int)) := HR1.out.cell (n + 1) _ (ring_m R (n + 1) (by omega))
              have hxt := HT.out.cell (mixR_at (Y + q * R.m) Y n (by omega))
              have hset := HT.out.set n (dig (Y + q * R.m) (n + 1) : Int)
              rw [mixR_set _ _ _ (by omega)] at hset
              have HSET := Lib.hid hset
              have HMAC := Lib.hid hmac
              have HDY := Lib.hid hdy
              have HDT := Lib.hid hdt
              have HMC := Lib.hid hmc
              clear hset hmac hdy hdt hmc hxt
              generalize hy : dig R.m (n + 1) = y at *
              clear hy
              obtain ⟨h1, eh⟩ : ∃ h1, q * y / BB = h1 := ⟨_, rfl⟩
              obtain ⟨l1, el⟩ : ∃ l1, q * y % BB = l1 := ⟨_, rfl⟩
              have hm3 := HMAC.out
              rw [eh, el] at hm3
              generalize ht : dig Y (n + 1) = t at *
              have HTT := Lib.hid ht
              clear ht
              have hl0 : l1 < BB := by rw [← el]; exact Nat.mod_lt _ (by decide)
              obtain ⟨s2, es1⟩ : ∃ s2, (l1 + t) % BB = s2 := ⟨_, rfl⟩
              obtain ⟨k2, ek1⟩ : ∃ k2, (l1 + t) / BB = k2 := ⟨_, rfl⟩
              rw [es1, ek1] at hm3
              obtain ⟨h2, eh1⟩ : ∃ h2, h1 + k2 = h2 := ⟨_, rfl⟩
              rw [eh1] at hm3
              generalize hc : mc Y R.m q (n + 1) = c at *
              obtain ⟨k3, ek2⟩ : ∃ k3, (s2 + c) / BB = k3 := ⟨_, rfl⟩
              rw [ek2] at hm3
              have hcall1 : ∀ W, (callFunc 131 #[.int .u64 (l1 : Int), .int .u64 (t : Int), .int .u64 0]).run Try.prog W = .ok (.value (.tuple #[.int .u64 (s2 : Int), .int .u64 (k2 : Int)])) W := by
                intro W
                rw [add64 _ _ _ (by omega) (by omega) (by omega) (by omega), ← es1, ← ek1]
                simp [BB]
              have hcall2 : ∀ W, (callFunc 131 #[.int .u64 (s2 : Int), .int .u64 (c : Int), .int .u64 0]).run Try.prog W = .ok (.value (.tuple #[.int .u64 (dig (Y + q * R.m) (n + 1) : Int), .int .u64 (k3 : Int)])) W := by
                intro W
                rw [add64 _ _ _ (by omega) (by omega) (by omega) (by omega), ← hm3.1, ← ek2]
                simp [BB]
              have HEH1' := Lib.hid eh
              have HEL1 := Lib.hid el
              have HM3 := Lib.hid hm3
              have HEH1 := Lib.hid eh1
              have HC1 := Lib.hid hc
              clear eh el hm3 eh1 hc es1 ek1 ek2 hl0
              go_wp2_with fail
              refine (Mul_at q y h1 l1 HQL.out HDY.out HEH1'.out HEL1.out _).mono ?_
              rintro e w5 ⟨rfl, hb5⟩
              have HNE := Lib.hid (HN.out.trans (hb5.mono (by omega)))
              have HTE := Lib.hid (HT.out.below hb5 HT.out.lt)
              clear hb5
              have hxt := HTE.out.cell (mixR_at (Y + q * R.m) Y n (by omega))
              have hxt2 : ∃ v, w5.cell? ⟨w.heap.size + 3, n, none⟩ = some v := ⟨_, HTE.out.cell (List.getElem?_eq_getElem (by simp [mixR]; omega))⟩
              obtain ⟨v2, hxt2⟩ := hxt2
              have hxf := HTE.out.frozen n
              rw [HTT.out] at hxt
              have hset2 := HTE.out.set n (dig (Y + q * R.m) (n + 1) : Int)
              rw [mixR_set _ _ _ (by omega)] at hset2
              have HSET2 := Lib.hid hset2
              have HBE := Lib.hid (HNE.out.setCell (p := ⟨w.heap.size + 3, n, none⟩) (Nat.le_refl _) (.int .u64 (dig (Y + q * R.m) (n + 1) : Int)))
              clear hset2 hrm
              go_wp2_with fail
              go_roundw
              case rel => exact ⟨n + 1, by omega, by go_num, by rw [← Int.natCast_add, HEH1.out, u64_wrap, HM3.out.2.1, ← Int.natCast_add, u64_wrap, HM3.out.2.2], HSET2.out, HBE.out⟩
              case measure => simp [intOf]; omega
            · have hn3 : n = 3 := by omega
              subst hn3
              obtain ⟨hd0, hd5, hd4⟩ := dig_five Y R.m q (by
                have h1 := montTo_lt a b R.m R.low (by have := HLB.out; omega) i
                rw [HZ.out] at h1
                have h2 := dig_lt a i
                rw [HX.out] at h2
                have h3 : x * b ≤ BB * b := Nat.mul_le_mul_right _ (by omega)
                have h4 := HLB.out
                have h5 := HLM.out
                rw [← HYY.out]
                show _ < 18446744073709551616 ^ 5
                simp only [BB] at h3 h5
                omega) (Nat.lt_trans HLM.out (by decide)) HQL.out
              have hcall : ∀ W, (callFunc 131 #[.int .u64 (dig Y 4 : Int), .int .u64 (mc Y R.m q 4 : Int), .int .u64 0]).run Try.prog W = .ok (.value (.tuple #[.int .u64 (dig (Y + q * R.m) 4 : Int), .int .u64 (dig (Y + q * R.m) 5 : Int)])) W := by
                intro W
                rw [add64 _ _ _ (by omega) (by omega) (by omega) (by omega), ← hd4, ← hd5]
                simp [BB]
              have ht4 := HT.out.cell (i := 4) (x := (dig Y 4 : Int)) rfl
              have ht3 := HT.out.cell (i := 3) (x := (dig Y 3 : Int)) rfl
              have hf3 := HT.out.frozen 3
              have hf4 := HT.out.frozen 4
              have hset := (HT.out.set 3 (dig (Y + q * R.m) 4 : Int)).set 4 (dig (Y + q * R.m) 5 : Int)
              rw [mixR_set _ _ _ (by omega), mixR_set _ _ _ (by omega), mixR_five] at hset
              have HS2 := Lib.hid hset
              clear hset hd0 hd5 hd4
              go_wp2_with fail
              have hmt : (Y + q * R.m) / BB = montTo a b R.m R.low (i + 1) := by
                rw [montTo, HZ.out, HX.out, HYY.out, HQ.out]
              have HMT := Lib.hid hmt
              clear hmt
              go_roundw
              case rel => exact ⟨i + 1, by omega, by go_num, by rw [← HMT.out]; exact HS2.out, (HN.out.setCell (p := ⟨w.heap.size + 3, 3, none⟩) (Nat.le_refl _) _).setCell (p := ⟨w.heap.size + 3, 4, none⟩) (Nat.le_refl _) _⟩
              case measure => simp [intOf]; omega
    · have hi4 : i = 4 := by omega
      subst hi4
      have h0 := HT.out.cell (i := 0) (x := (dig (montTo a b R.m R.low 4) 0 : Int)) rfl
      have h1 := HT.out.cell (i := 1) (x := (dig (montTo a b R.m R.low 4) 1 : Int)) rfl
      have h2 := HT.out.cell (i := 2) (x := (dig (montTo a b R.m R.low 4) 2 : Int)) rfl
      have h3 := HT.out.cell (i := 3) (x := (dig (montTo a b R.m R.low 4) 3 : Int)) rfl
      have htl := HT.out.lt
      have hsz := HN.out.size
      have harr := run_arrayAt (P := Try.prog) (w := wr) 76 74 4 (some ⟨w.heap.size + 1 + 1 + 1, 0, none⟩) 4 5 Try.underlying76 (by decide)
      have hbl : Below w.heap.size w wr := HBW.out.trans (HN.out.mono (by omega))
      have HBL := Lib.hid hbl
      have HR5 := Lib.hid (HR0.out.below HN.out (by omega))
      have hTT : montTo a b R.m R.low 4 < BB ^ 4 := by
        have h1 := montTo_lt a b R.m R.low (by have := HLB.out; omega) 4
        have h4 := HLB.out
        have h5 := HLM.out
        show _ < 18446744073709551616 ^ 4
        simp only [BB] at h5
        omega
      have hT2 : montTo a b R.m R.low 4 < R.m + R.m := by
        have h1 := montTo_lt a b R.m R.low (by have := HLB.out; omega) 4
        have h4 := HLB.out
        omega
      have hT3 := montTo_mod a b R.m R.low HLW.out 4
      rw [Nat.mod_eq_of_lt HLA.out] at hT3
      have HT2 := Lib.hid hT2
      have HT3 := Lib.hid hT3
      have HTT := Lib.hid hTT
      have HC5 := Lib.hid (HC.out.below HN.out (by omega))
      clear hbl hTT hT2 hT3
      generalize montTo a b R.m R.low 4 = T at *
      go_wp2_with fail
      refine (once_any R rb off T _ HTT.out (Nat.lt_trans HLM.out (by decide)) rfl wr HR5.out).mono ?_
      rintro e w3 ⟨rfl, hb3⟩
      have hfin : (if R.m ≤ T then T - R.m else T) < R.m ∧ ((if R.m ≤ T then T - R.m else T) * BB ^ 4) % R.m = (a * b) % R.m := by
        have h2 := HT2.out
        rw [← HT3.out]
        split
        · refine ⟨by omega, ?_⟩
          have e : T * BB ^ 4 = (T - R.m) * BB ^ 4 + R.m * BB ^ 4 := by rw [← Nat.add_mul]; congr 1; omega
          rw [e, Nat.add_mul_mod_self_left]
        · exact ⟨by omega, rfl⟩
      have HFIN := Lib.hid hfin
      clear hfin
      generalize (if R.m ≤ T then T - R.m else T) = r at *
      unfold limbV
      have HZ := Lib.hid (HC5.out.below hb3 HC5.out.lt)
      have HBB := Lib.hid (below_up HBL.out hb3)
      clear hb3 harr h0 h1 h2 h3
      have HB5 := Lib.hid (below_fill (n := r) (b := w.heap.size + 1 + 1) HBB.out (by omega))
      have HS5 := Lib.hid (HZ.out.fill rfl r)
      have hz_0 := HZ.out.cell (i := 0) (x := 0) rfl
      have hz_1 := HZ.out.cell (i := 1) (x := 0) rfl
      have hz_2 := HZ.out.cell (i := 2) (x := 0) rfl
      have hz_3 := HZ.out.cell (i := 3) (x := 0) rfl
      have hzf_0 := HZ.out.frozen 0
      have hzf_1 := HZ.out.frozen 1
      have hzf_2 := HZ.out.frozen 2
      have hzf_3 := HZ.out.frozen 3
      go_wp2_with fail
      generalize (((((w3).setCell ⟨w.heap.size + 1 + 1, 0, none⟩ (.int .u64 (dig (r) 0 : Int))).setCell ⟨w.heap.size + 1 + 1, 1, none⟩ (.int .u64 (dig (r) 1 : Int))).setCell ⟨w.heap.size + 1 + 1, 2, none⟩ (.int .u64 (dig (r) 2 : Int))).setCell ⟨w.heap.size + 1 + 1, 3, none⟩ (.int .u64 (dig (r) 3 : Int))) = w5 at *
      clear hz_0 hz_1 hz_2 hz_3
      have hg_0 := HS5.out.cell (i := 0) (x := (dig (r) 0 : Int)) rfl
      have hg_1 := HS5.out.cell (i := 1) (x := (dig (r) 1 : Int)) rfl
      have hg_2 := HS5.out.cell (i := 2) (x := (dig (r) 2 : Int)) rfl
      have hg_3 := HS5.out.cell (i := 3) (x := (dig (r) 3 : Int)) rfl
      simp [bodyPost, results, Try.results113, go_sem, hg_0, hg_1, hg_2, hg_3]
      exact ⟨⟨r, ⟨rfl, rfl, rfl, rfl⟩, HFIN.out⟩, HB5.out⟩

end Go.Proofs.Ytdmldnpadojflaa
