/- GroupProducts: Product of any lists, as the document says. No condition. -/
import Derived.Test.YtdmldnpadojflaaLawElems
namespace Go.Proofs.Ytdmldnpadojflaa
open Go.ChangeShapes Go.WideShapes Go.ChangeAt Go.RowKit

set_option maxRecDepth 100000 in
set_option maxHeartbeats 400000 in
theorem groupProducts_none (k : Int) (hk : ¬ (1 ≤ k ∧ k ≤ 3)) (aa an : Option Addr) (la ln ca cn : Nat) (w : World) : Calls Try.prog 4 #[.int .i64 k, .slice aa la ca, .slice an ln cn] w fun e w' => e = .returned (.bool true) ∧ Below w.heap.size w w' := by
  go_enter Try.func4, Try.ntmps4
  go_wp2_with fail
  refine (Product_none k hk aa an la ln ca cn w).mono ?_
  rintro e w0 ⟨rfl, hb0⟩
  go_wp2_with fail
  refine (refKind_none k hk w0).mono ?_
  rintro e w1 ⟨rfl, hb1⟩
  go_wp2_with fail
  have u1 : Below w1.heap.size w1 (w1.alloc (.cells #[.int .i64 0, .slice none 0 0, .slice none 0 0] 25)) := (Below.refl _ _).alloc (Nat.le_refl _) _
  have hc : Car w (w1.alloc (.cells #[.int .i64 0, .slice none 0 0, .slice none 0 0] 25)) w1.heap.size 25 0 0 0 none none 0 0 none none 0 0 := ⟨below_up (below_up hb0 hb1) u1, Bx.new w1 _ _ _ rfl, NumAt.zero _ _, NumAt.zero _ _, NumAt.zero _ _, NumAt.zero _ _⟩
  obtain ⟨W2, hW2⟩ : ∃ W9 : World, (w1.alloc (.cells #[.int .i64 0, .slice none 0 0, .slice none 0 0] 25)) = W9 := ⟨_, rfl⟩
  rw [hW2] at hc ⊢
  clear hW2
  have HC := Lib.hid hc
  clear hc hb1 u1
  have hz_0 := HC.out.z.cell (i := 0) rfl
  have hz_1 := HC.out.z.cell (i := 1) rfl
  have hz_2 := HC.out.z.cell (i := 2) rfl
  go_wp2_with fail
  refine (lawText_err ⟨#[]⟩ 1 (by omega) W2).mono ?_
  rintro e w4 ⟨rfl, hb9⟩
  have HC9 := Lib.hid (HC.out.up hb9)
  clear hb9
  clear HC hz_0 hz_1 hz_2
  have HC := HC9
  clear HC9
  have hz_0 := HC.out.z.cell (i := 0) rfl
  have hz_1 := HC.out.z.cell (i := 1) rfl
  have hz_2 := HC.out.z.cell (i := 2) rfl
  go_wp2_with fail
  go_ret
  exact ⟨rfl, HC.out.b⟩


set_option maxRecDepth 100000 in
set_option maxHeartbeats 400000 in
theorem groupProducts_long (k : Nat) (h1 : 1 ≤ k) (h3 : k ≤ 3) (xs ys : List ByteArray) (aa an : Option Addr) (la ln ca cn : Nat) (ha : xs.length = la) (hn : ys.length = ln) (hl : 256 < la ∨ 256 < ln) (w : World)
    (hA : Sl w w.heap.size aa (xs.map Value.string)) (hN : Sl w w.heap.size an (ys.map Value.string)) :
    Calls Try.prog 4 #[.int .i64 (k : Int), .slice aa la ca, .slice an ln cn] w fun e w' => e = .returned (.bool true) ∧ Below w.heap.size w w' := by
  obtain ⟨hlq, hlp⟩ := grp_small k h1 h3
  have hsz : (grp k).size ≤ 32 := (grp_ok k h1 h3).size_le
  have hq0 : 0 < (grp k).q.m := (grp_ok k h1 h3).q.pos
  have hq16 : (grp k).q.m < DD ^ 16 := (grp_ok k h1 h3).q.lt4
  have hp0 : 0 < (grp k).p.m := (grp_ok k h1 h3).p.pos
  have hp16 : (grp k).p.m < DD ^ 16 := (grp_ok k h1 h3).p.lt4
  have hs0 : (((grp k).size : Int) == 0) = false := by
    obtain rfl | rfl | rfl : k = 1 ∨ k = 2 ∨ k = 3 := by omega
    all_goals rfl
  have hpr := Product_some k h1 h3 xs ys aa an la ln ca cn ha hn w hA hN
  have hl2 : 256 < xs.length ∨ 256 < ys.length := by omega
  simp only [proV, proE, if_pos hl2] at hpr
  have HPR := Lib.hid hpr
  clear hpr ha hn hA hN hl2
  by_cases ha : 256 < la
  · have hd : decide ((la : Int) > 256) = true := by simp; omega
    clear hl ha
    go_enter Try.func4, Try.ntmps4
    go_wp2_with fail
    refine HPR.out.mono ?_
    rintro e w0 ⟨rfl, hb0⟩
    have HB0 := Lib.hid hb0
    clear hb0
    go_wp2_with fail
    refine (refKind_some k h1 h3 w0).mono ?_
    rintro e w1 ⟨aq, cq, ap, cp, rfl, hq, hp, hb1⟩
    have u1 : Below w1.heap.size w1 (w1.alloc (.cells #[.int .i64 ((grp k).size : Int), .slice aq (dl (grp k).q.m) cq, .slice ap (dl (grp k).p.m) cp] 25)) := (Below.refl _ _).alloc (Nat.le_refl _) _
    have hc : Car w (w1.alloc (.cells #[.int .i64 ((grp k).size : Int), .slice aq (dl (grp k).q.m) cq, .slice ap (dl (grp k).p.m) cp] 25)) w1.heap.size 25 (grp k).size (grp k).q.m (grp k).p.m aq ap cq cp none none 0 0 := ⟨below_up (below_up HB0.out hb1) u1, Bx.new w1 _ _ _ rfl, hq.up u1, hp.up u1, NumAt.zero _ _, NumAt.zero _ _⟩
    obtain ⟨W2, hW2⟩ : ∃ W9 : World, (w1.alloc (.cells #[.int .i64 ((grp k).size : Int), .slice aq (dl (grp k).q.m) cq, .slice ap (dl (grp k).p.m) cp] 25)) = W9 := ⟨_, rfl⟩
    rw [hW2] at hc
    have HC := Lib.hid hc
    have HZL := Lib.hid (Bx.lt (HC.out.z))
    clear hc hq hp hb1 u1
    have hz_0 := HC.out.z.cell (i := 0) rfl
    have hz_1 := HC.out.z.cell (i := 1) rfl
    have hz_2 := HC.out.z.cell (i := 2) rfl
    go_wp2_with fail
    refine (lawText_err ⟨#[]⟩ 3 (by omega) W2).mono ?_
    rintro e w4 ⟨rfl, hb9⟩
    have HC9 := Lib.hid (HC.out.up hb9)
    clear hb9
    clear HC hz_0 hz_1 hz_2
    have HC := HC9
    clear HC9
    have hz_0 := HC.out.z.cell (i := 0) rfl
    have hz_1 := HC.out.z.cell (i := 1) rfl
    have hz_2 := HC.out.z.cell (i := 2) rfl
    go_wp2_with fail
    go_ret
    exact ⟨rfl, HC.out.b⟩
  · have hd : decide ((la : Int) > 256) = false := by simp; omega
    have hd2 : decide ((ln : Int) > 256) = true := by simp; omega
    clear hl ha
    go_enter Try.func4, Try.ntmps4
    go_wp2_with fail
    refine HPR.out.mono ?_
    rintro e w0 ⟨rfl, hb0⟩
    have HB0 := Lib.hid hb0
    clear hb0
    go_wp2_with fail
    refine (refKind_some k h1 h3 w0).mono ?_
    rintro e w1 ⟨aq, cq, ap, cp, rfl, hq, hp, hb1⟩
    have u1 : Below w1.heap.size w1 (w1.alloc (.cells #[.int .i64 ((grp k).size : Int), .slice aq (dl (grp k).q.m) cq, .slice ap (dl (grp k).p.m) cp] 25)) := (Below.refl _ _).alloc (Nat.le_refl _) _
    have hc : Car w (w1.alloc (.cells #[.int .i64 ((grp k).size : Int), .slice aq (dl (grp k).q.m) cq, .slice ap (dl (grp k).p.m) cp] 25)) w1.heap.size 25 (grp k).size (grp k).q.m (grp k).p.m aq ap cq cp none none 0 0 := ⟨below_up (below_up HB0.out hb1) u1, Bx.new w1 _ _ _ rfl, hq.up u1, hp.up u1, NumAt.zero _ _, NumAt.zero _ _⟩
    obtain ⟨W2, hW2⟩ : ∃ W9 : World, (w1.alloc (.cells #[.int .i64 ((grp k).size : Int), .slice aq (dl (grp k).q.m) cq, .slice ap (dl (grp k).p.m) cp] 25)) = W9 := ⟨_, rfl⟩
    rw [hW2] at hc
    have HC := Lib.hid hc
    have HZL := Lib.hid (Bx.lt (HC.out.z))
    clear hc hq hp hb1 u1
    have hz_0 := HC.out.z.cell (i := 0) rfl
    have hz_1 := HC.out.z.cell (i := 1) rfl
    have hz_2 := HC.out.z.cell (i := 2) rfl
    go_wp2_with fail
    refine (lawText_err ⟨#[]⟩ 3 (by omega) W2).mono ?_
    rintro e w4 ⟨rfl, hb9⟩
    have HC9 := Lib.hid (HC.out.up hb9)
    clear hb9
    clear HC hz_0 hz_1 hz_2
    have HC := HC9
    clear HC9
    have hz_0 := HC.out.z.cell (i := 0) rfl
    have hz_1 := HC.out.z.cell (i := 1) rfl
    have hz_2 := HC.out.z.cell (i := 2) rfl
    go_wp2_with fail
    go_ret
    exact ⟨rfl, HC.out.b⟩

set_option maxRecDepth 100000 in
set_option maxHeartbeats 400000 in
theorem groupProducts_form (k : Nat) (h1 : 1 ≤ k) (h3 : k ≤ 3) (xs ys : List ByteArray) (aa an : Option Addr) (la ln ca cn : Nat) (ha : xs.length = la) (hn : ys.length = ln) (hl1 : la ≤ 256) (hl2 : ln ≤ 256) (hne : la ≠ ln) (w : World)
    (hA : Sl w w.heap.size aa (xs.map Value.string)) (hN : Sl w w.heap.size an (ys.map Value.string)) :
    Calls Try.prog 4 #[.int .i64 (k : Int), .slice aa la ca, .slice an ln cn] w fun e w' => e = .returned (.bool true) ∧ Below w.heap.size w w' := by
  obtain ⟨hlq, hlp⟩ := grp_small k h1 h3
  have hsz : (grp k).size ≤ 32 := (grp_ok k h1 h3).size_le
  have hq0 : 0 < (grp k).q.m := (grp_ok k h1 h3).q.pos
  have hq16 : (grp k).q.m < DD ^ 16 := (grp_ok k h1 h3).q.lt4
  have hp0 : 0 < (grp k).p.m := (grp_ok k h1 h3).p.pos
  have hp16 : (grp k).p.m < DD ^ 16 := (grp_ok k h1 h3).p.lt4
  have hs0 : (((grp k).size : Int) == 0) = false := by
    obtain rfl | rfl | rfl : k = 1 ∨ k = 2 ∨ k = 3 := by omega
    all_goals rfl
  have hpr := Product_some k h1 h3 xs ys aa an la ln ca cn ha hn w hA hN
  have hx2 : ¬ (256 < xs.length ∨ 256 < ys.length) := by omega
  have hx3 : xs.length ≠ ys.length := by omega
  simp only [proV, proE, if_neg hx2, if_pos hx3] at hpr
  have HPR := Lib.hid hpr
  have hd : decide ((la : Int) > 256) = false := by simp; omega
  have hd2 : decide ((ln : Int) > 256) = false := by simp; omega
  have hd3 : ((la : Int) != (ln : Int)) = true := by rw [bne_iff_ne]; intro h; exact hne (by exact_mod_cast h)
  clear hpr ha hn hA hN hx2 hx3 hne
  go_enter Try.func4, Try.ntmps4
  go_wp2_with fail
  refine HPR.out.mono ?_
  rintro e w0 ⟨rfl, hb0⟩
  have HB0 := Lib.hid hb0
  clear hb0
  go_wp2_with fail
  refine (refKind_some k h1 h3 w0).mono ?_
  rintro e w1 ⟨aq, cq, ap, cp, rfl, hq, hp, hb1⟩
  have u1 : Below w1.heap.size w1 (w1.alloc (.cells #[.int .i64 ((grp k).size : Int), .slice aq (dl (grp k).q.m) cq, .slice ap (dl (grp k).p.m) cp] 25)) := (Below.refl _ _).alloc (Nat.le_refl _) _
  have hc : Car w (w1.alloc (.cells #[.int .i64 ((grp k).size : Int), .slice aq (dl (grp k).q.m) cq, .slice ap (dl (grp k).p.m) cp] 25)) w1.heap.size 25 (grp k).size (grp k).q.m (grp k).p.m aq ap cq cp none none 0 0 := ⟨below_up (below_up HB0.out hb1) u1, Bx.new w1 _ _ _ rfl, hq.up u1, hp.up u1, NumAt.zero _ _, NumAt.zero _ _⟩
  obtain ⟨W2, hW2⟩ : ∃ W9 : World, (w1.alloc (.cells #[.int .i64 ((grp k).size : Int), .slice aq (dl (grp k).q.m) cq, .slice ap (dl (grp k).p.m) cp] 25)) = W9 := ⟨_, rfl⟩
  rw [hW2] at hc
  have HC := Lib.hid hc
  have HZL := Lib.hid (Bx.lt (HC.out.z))
  clear hc hq hp hb1 u1
  have hz_0 := HC.out.z.cell (i := 0) rfl
  have hz_1 := HC.out.z.cell (i := 1) rfl
  have hz_2 := HC.out.z.cell (i := 2) rfl
  go_wp2_with fail
  refine (lawText_err ⟨#[]⟩ 2 (by omega) W2).mono ?_
  rintro e w4 ⟨rfl, hb9⟩
  have HC9 := Lib.hid (HC.out.up hb9)
  clear hb9
  clear HC hz_0 hz_1 hz_2
  have HC := HC9
  clear HC9
  have hz_0 := HC.out.z.cell (i := 0) rfl
  have hz_1 := HC.out.z.cell (i := 1) rfl
  have hz_2 := HC.out.z.cell (i := 2) rfl
  go_wp2_with fail
  go_ret
  exact ⟨rfl, HC.out.b⟩

set_option maxRecDepth 100000 in
set_option maxHeartbeats 2000000 in
theorem groupProducts_some (k : Nat) (h1 : 1 ≤ k) (h3 : k ≤ 3) (xs ys : List ByteArray) (aa an : Option Addr) (L ca cn : Nat) (ha : xs.length = L) (hn : ys.length = L) (hL : L ≤ 256) (w : World)
    (hA : Sl w w.heap.size aa (xs.map Value.string)) (hN : Sl w w.heap.size an (ys.map Value.string)) :
    Calls Try.prog 4 #[.int .i64 (k : Int), .slice aa L ca, .slice an L cn] w fun e w' => e = .returned (.bool true) ∧ Below w.heap.size w w' := by
  obtain ⟨hlq, hlp⟩ := grp_small k h1 h3
  have hsz : (grp k).size ≤ 32 := (grp_ok k h1 h3).size_le
  have hq0 : 0 < (grp k).q.m := (grp_ok k h1 h3).q.pos
  have hq16 : (grp k).q.m < DD ^ 16 := (grp_ok k h1 h3).q.lt4
  have hp0 : 0 < (grp k).p.m := (grp_ok k h1 h3).p.pos
  have hp16 : (grp k).p.m < DD ^ 16 := (grp_ok k h1 h3).p.lt4
  have hs0 : (((grp k).size : Int) == 0) = false := by
    obtain rfl | rfl | rfl : k = 1 ∨ k = 2 ∨ k = 3 := by omega
    all_goals rfl
  have hpr := Product_some k h1 h3 xs ys aa an L L ca cn ha hn w hA hN
  have hx2 : ¬ (256 < xs.length ∨ 256 < ys.length) := by omega
  have hx3 : ¬ xs.length ≠ ys.length := by omega
  simp only [proV, proE, if_neg hx2, if_neg hx3] at hpr
  obtain ⟨sv, hsv⟩ : ∃ s, prodV (grp k) xs ys 1 = s := ⟨_, rfl⟩
  obtain ⟨se, hse⟩ : ∃ s, prodE (grp k) xs ys = s := ⟨_, rfl⟩
  rw [hsv, hse] at hpr
  have HSV := Lib.hid hsv
  have HSE := Lib.hid hse
  have HPR := Lib.hid hpr
  have HLA := Lib.hid ha
  have HLN := Lib.hid hn
  have HA := Lib.hid hA
  have HNN := Lib.hid hN
  have htw : Hid ((grp k).p.m = 2 * (grp k).q.m + 1) := (grp_ok k h1 h3).twice
  have HP1 : Hid (1 < (grp k).p.m) := by show 1 < _; have := htw.out; omega
  have hd : decide ((L : Int) > 256) = false := by simp; omega
  have hd3 : ((L : Int) != (L : Int)) = false := by simp
  clear hsv hse hpr ha hn hA hN hx2 hx3
  go_enter Try.func4, Try.ntmps4
  go_wp2_with fail
  refine HPR.out.mono ?_
  rintro e w0 ⟨rfl, hb0⟩
  have HB0 := Lib.hid hb0
  clear hb0
  go_wp2_with fail
  refine (refKind_some k h1 h3 w0).mono ?_
  rintro e w1 ⟨aq, cq, ap, cp, rfl, hq, hp, hb1⟩
  have u1 : Below w1.heap.size w1 (w1.alloc (.cells #[.int .i64 ((grp k).size : Int), .slice aq (dl (grp k).q.m) cq, .slice ap (dl (grp k).p.m) cp] 25)) := (Below.refl _ _).alloc (Nat.le_refl _) _
  have hc : Car w (w1.alloc (.cells #[.int .i64 ((grp k).size : Int), .slice aq (dl (grp k).q.m) cq, .slice ap (dl (grp k).p.m) cp] 25)) w1.heap.size 25 (grp k).size (grp k).q.m (grp k).p.m aq ap cq cp none none 0 0 := ⟨below_up (below_up HB0.out hb1) u1, Bx.new w1 _ _ _ rfl, hq.up u1, hp.up u1, NumAt.zero _ _, NumAt.zero _ _⟩
  obtain ⟨W2, hW2⟩ : ∃ W9 : World, (w1.alloc (.cells #[.int .i64 ((grp k).size : Int), .slice aq (dl (grp k).q.m) cq, .slice ap (dl (grp k).p.m) cp] 25)) = W9 := ⟨_, rfl⟩
  rw [hW2] at hc
  have HC := Lib.hid hc
  have HZL := Lib.hid (Bx.lt (HC.out.z))
  clear hc hq hp hb1 u1
  have hz_0 := HC.out.z.cell (i := 0) rfl
  have hz_1 := HC.out.z.cell (i := 1) rfl
  have hz_2 := HC.out.z.cell (i := 2) rfl
  go_wp2_with fail
  refine (refOf_any 1 (by omega) W2).mono ?_
  rintro e w3 ⟨ax0, cx0, rfl, hn9, hb9⟩
  have HC9 := Lib.hid (HC.out.setx hb9 hn9)
  clear hb9 hn9
  clear HC hz_0 hz_1 hz_2
  have HC := HC9
  clear HC9
  have hz_0 := HC.out.z.cell (i := 0) rfl
  have hz_1 := HC.out.z.cell (i := 1) rfl
  have hz_2 := HC.out.z.cell (i := 2) rfl
  go_wp2_with fail
  go_loopw [10, 11, 49] (fun u _ x wr => ∃ (i o : Nat) (ao : Option Addr) (co : Nat), i ≤ L ∧ u = .slice ao (dl o) co ∧ x = .int .i64 (i : Int) ∧ Hid (Car w wr w1.heap.size 25 (grp k).size (grp k).q.m (grp k).p.m aq ap cq cp ao none o 0) ∧ Hid (o ≤ (grp k).q.m) ∧ Hid (∃ z, o = lowR (grp k).q.m (grp k).p.m (z % (grp k).p.m) ∧ sv = prodV (grp k) (xs.drop i) (ys.drop i) z) ∧ Hid (se = prodE (grp k) (xs.drop i) (ys.drop i))) (fun _ _ x _ => L - (intOf x).toNat)
  case atStart => exact ⟨0, 1, ax0, cx0, Nat.zero_le _, rfl, rfl, HC.out, hq0, ⟨1, by rw [Nat.mod_eq_of_lt HP1.out]; exact (lowR_fix hq0).symm, HSV.out.symm⟩, HSE.out.symm⟩
  case round =>
    clear HC hz_0 hz_1 hz_2
    obtain ⟨i, o, ao, co, hi, rfl, hxi, HC, HO, HV, HE⟩ := hrel
    subst hxi
    have hz_0 := HC.out.z.cell (i := 0) rfl
    have hz_1 := HC.out.z.cell (i := 1) rfl
    have hz_2 := HC.out.z.cell (i := 2) rfl
    have hk3 : ∀ b3, b3 < w.heap.size → ∀ W, Below w.heap.size w W → b3 < W.heap.size := fun b3 h W g => Nat.lt_of_lt_of_le h g.size
    by_cases hiL : i < L
    · obtain ⟨s, hs⟩ : ∃ s, xs[i]'(by rw [HLA.out]; exact hiL) = s := ⟨_, rfl⟩
      obtain ⟨t, ht⟩ : ∃ t, ys[i]'(by rw [HLN.out]; exact hiL) = t := ⟨_, rfl⟩
      obtain ⟨b3, o3, rfl, hb3, hc3⟩ := HA.out.at i (by rw [List.length_map, HLA.out]; exact hiL)
      obtain ⟨b4, o4, rfl, hb4, hc4⟩ := HNN.out.at i (by rw [List.length_map, HLN.out]; exact hiL)
      rw [List.getElem_map, hs] at hc3
      rw [List.getElem_map, ht] at hc4
      have hx3 : wr.cell? ⟨b3, o3 + i, none⟩ = some (.string s) := by rw [HC.out.b.cell (p := ⟨b3, o3 + i, none⟩) hb3]; exact hc3
      have hx4 : wr.cell? ⟨b4, o4 + i, none⟩ = some (.string t) := by rw [HC.out.b.cell (p := ⟨b4, o4 + i, none⟩) hb4]; exact hc4
      have HC3 := Lib.hid hc3
      have HC4 := Lib.hid hc4
      have hdx := drop_cons (show i < xs.length by rw [HLA.out]; exact hiL)
      have hdy := drop_cons (show i < ys.length by rw [HLN.out]; exact hiL)
      rw [hs] at hdx
      rw [ht] at hdy
      have HDX := Lib.hid hdx
      have HDY := Lib.hid hdy
      clear hs ht hc3 hc4 hdx hdy
      obtain ⟨ba, hba⟩ : ∃ b, isEl (grp k).q.m (grp k).size s = b := ⟨_, rfl⟩
      obtain ⟨bb, hbb⟩ : ∃ b, isSc (grp k).q.m (grp k).size t = b := ⟨_, rfl⟩
      have HBA := Lib.hid hba
      have HBB := Lib.hid hbb
      clear hba hbb
      have hl3 := hk3 b3 hb3 wr HC.out.b
      have hl4 := hk3 b4 hb4 wr HC.out.b
      go_wp2_with fail
      have HW0 : Hid (Below wr.heap.size wr wr.drew) := (Below.refl _ _).drew
      have hzl := HC.out.z.lt
      refine wp_region_tree (fun w' => ∃ E : Over wr, w' = E.w) (.qs [0, 1, 2, 3, 4] (.a 5 (.q 6 .done))) (by kernel_rfl) (by kernel_rfl) (fun _ _ d _ _ h => by cases d <;> exact h) ⟨⟨_, HW0.out⟩, rfl⟩ ?_
      have hov := fun (E : Over wr) o => E.cell (b := w1.heap.size) o hzl
      simp only [Tree.qs]
      have hov3 := fun (E : Over wr) o => E.cell (b := b3) o hl3
      repeat (refine tree_q rfl rfl ?_; go_big_quiet_step (fail); refine wpQuiet_nil ?_)
      refine tree_a rfl (fun K hK => ?_)
      go_simp
      refine ((HBA.out ▸ refIsElem_any s (grp k).size (grp k).q.m (grp k).p.m aq ap cq cp hsz wr.drew (HC.out.up HW0.out).q)).mono ?_
      rintro e w20 ⟨rfl, hb9⟩
      have HW20 := Lib.hid (below_up HW0.out hb9)
      clear hb9
      refine hK _ _ ⟨⟨⟨w20, HW20.out⟩, rfl⟩, ?_⟩
      clear hK K
      repeat (refine tree_q rfl rfl ?_; go_big_quiet_step (fail); refine wpQuiet_nil ?_)
      clear hov3 hx3 hl3 hl4
      cases ba
      · have hsv : sv = ⟨#[]⟩ := by
          obtain ⟨z, hz1, hz2⟩ := HV.out
          rw [hz2, HDX.out, HDY.out, prodV, if_pos HBA.out]
        have hse : se = 7 := by rw [HE.out, HDX.out, HDY.out, prodE, if_pos HBA.out]
        subst hsv hse
        refine tree_end ?_
        have HC9 := Lib.hid (HC.out.up HW20.out)
        clear hov hzl
        clear HC hz_0 hz_1 hz_2
        have HC := HC9
        clear HC9
        have hz_0 := HC.out.z.cell (i := 0) rfl
        have hz_1 := HC.out.z.cell (i := 1) rfl
        have hz_2 := HC.out.z.cell (i := 2) rfl
        go_wp2_with fail
        refine (lawText_err ⟨#[]⟩ 7 (by omega) w20).mono ?_
        rintro e w21 ⟨rfl, hb9⟩
        have HC9 := Lib.hid (HC.out.up hb9)
        clear hb9
        clear HC hz_0 hz_1 hz_2
        have HC := HC9
        clear HC9
        have hz_0 := HC.out.z.cell (i := 0) rfl
        have hz_1 := HC.out.z.cell (i := 1) rfl
        have hz_2 := HC.out.z.cell (i := 2) rfl
        go_wp2_with fail
        go_ret
        exact ⟨rfl, HC.out.b⟩
      · clear hx4
        refine tree_end ?_
        have HC9 := Lib.hid (HC.out.up HW20.out)
        clear hov hzl
        clear HC hz_0 hz_1 hz_2
        have HC := HC9
        clear HC9
        have hz_0 := HC.out.z.cell (i := 0) rfl
        have hz_1 := HC.out.z.cell (i := 1) rfl
        have hz_2 := HC.out.z.cell (i := 2) rfl
        go_wp2_with fail
        have hx4 : w20.cell? ⟨b4, o4 + i, none⟩ = some (.string t) := by rw [HC.out.b.cell (p := ⟨b4, o4 + i, none⟩) hb4]; exact HC4.out
        have hl4 := hk3 b4 hb4 w20 HC.out.b
        have HW0 : Hid (Below w20.heap.size w20 w20.drew) := (Below.refl _ _).drew
        have hzl := HC.out.z.lt
        refine wp_region_tree (fun w' => ∃ E : Over w20, w' = E.w) (.qs [0, 1, 2, 3, 4] (.a 5 (.q 6 .done))) (by kernel_rfl) (by kernel_rfl) (fun _ _ d _ _ h => by cases d <;> exact h) ⟨⟨_, HW0.out⟩, rfl⟩ ?_
        have hov := fun (E : Over w20) o => E.cell (b := w1.heap.size) o hzl
        simp only [Tree.qs]
        have hov4 := fun (E : Over w20) o => E.cell (b := b4) o hl4
        repeat (refine tree_q rfl rfl ?_; go_big_quiet_step (fail); refine wpQuiet_nil ?_)
        refine tree_a rfl (fun K hK => ?_)
        go_simp
        refine ((HBB.out ▸ refIsScalar_any t (grp k).size (grp k).q.m (grp k).p.m aq ap cq cp hsz w20.drew (HC.out.up HW0.out).q)).mono ?_
        rintro e w30 ⟨rfl, hb9⟩
        have HW30 := Lib.hid (below_up HW0.out hb9)
        clear hb9
        refine hK _ _ ⟨⟨⟨w30, HW30.out⟩, rfl⟩, ?_⟩
        clear hK K
        repeat (refine tree_q rfl rfl ?_; go_big_quiet_step (fail); refine wpQuiet_nil ?_)
        clear hov4 hx4 hl4
        cases bb
        · have hsv : sv = ⟨#[]⟩ := by
            obtain ⟨z, hz1, hz2⟩ := HV.out
            rw [hz2, HDX.out, HDY.out, prodV, if_neg (by rw [HBA.out]; decide), if_pos HBB.out]
          have hse : se = 6 := by rw [HE.out, HDX.out, HDY.out, prodE, if_neg (by rw [HBA.out]; decide), if_pos HBB.out]
          subst hsv hse
          refine tree_end ?_
          have HC9 := Lib.hid (HC.out.up HW30.out)
          clear hov hzl
          clear HC hz_0 hz_1 hz_2
          have HC := HC9
          clear HC9
          have hz_0 := HC.out.z.cell (i := 0) rfl
          have hz_1 := HC.out.z.cell (i := 1) rfl
          have hz_2 := HC.out.z.cell (i := 2) rfl
          go_wp2_with fail
          refine (lawText_err ⟨#[]⟩ 6 (by omega) w30).mono ?_
          rintro e w31 ⟨rfl, hb9⟩
          have HC9 := Lib.hid (HC.out.up hb9)
          clear hb9
          clear HC hz_0 hz_1 hz_2
          have HC := HC9
          clear HC9
          have hz_0 := HC.out.z.cell (i := 0) rfl
          have hz_1 := HC.out.z.cell (i := 1) rfl
          have hz_2 := HC.out.z.cell (i := 2) rfl
          go_wp2_with fail
          go_ret
          exact ⟨rfl, HC.out.b⟩
        · have hS9 := isEl_facts HBA.out
          have hT9 := isSc_facts HBB.out
          have HLS : Hid (s.size ≤ 1048576) := by show _ ≤ _; omega
          have HLT : Hid (t.size ≤ 1048576) := by show _ ≤ _; omega
          have HNS : Hid (numOf s < DD ^ 16) := Nat.lt_of_le_of_lt hS9.2.2 hq16
          have HDT : Hid (dl (numOf t) ≤ 65536) := Nat.le_trans (dl_of_lt (numOf t) 16 (Nat.lt_trans hT9.2 hq16)) (by decide)
          obtain ⟨rp, hrp⟩ : ∃ r, lowR (grp k).q.m (grp k).p.m (numOf s ^ numOf t % (grp k).p.m) = r := ⟨_, rfl⟩
          have hrpq : rp ≤ (grp k).q.m := by rw [← hrp]; exact lowR_leq htw.out (Nat.mod_lt _ hp0)
          obtain ⟨ro, hro⟩ : ∃ r, lowR (grp k).q.m (grp k).p.m (o * rp % (grp k).p.m) = r := ⟨_, rfl⟩
          have hroq : ro ≤ (grp k).q.m := by rw [← hro]; exact lowR_leq htw.out (Nat.mod_lt _ hp0)
          have HRP16 : Hid (rp < DD ^ 16) := Nat.lt_of_le_of_lt hrpq hq16
          have HO16 : Hid (o < DD ^ 16) := Nat.lt_of_le_of_lt HO.out hq16
          have HROQ := Lib.hid hroq
          have HRP := Lib.hid hrp
          have HRO := Lib.hid hro
          have HV2 : Hid (∃ z, ro = lowR (grp k).q.m (grp k).p.m (z % (grp k).p.m) ∧ sv = prodV (grp k) (xs.drop (i + 1)) (ys.drop (i + 1)) z) := by
            obtain ⟨z, hz1, hz2⟩ := HV.out
            refine ⟨z * numOf s ^ numOf t, ?_, ?_⟩
            · rw [← hro, ← hrp, hz1]
              exact low_mul hq0 htw.out _ _
            · rw [hz2, HDX.out, HDY.out, prodV, if_neg (by rw [HBA.out]; decide), if_neg (by rw [HBB.out]; decide)]
          have HE2 : Hid (se = prodE (grp k) (xs.drop (i + 1)) (ys.drop (i + 1))) := by
            show _ = _
            rw [HE.out, HDX.out, HDY.out, prodE, if_neg (by rw [HBA.out]; decide), if_neg (by rw [HBB.out]; decide)]
          clear hS9 hT9 hrp hro hrpq hroq
          refine tree_end ?_
          have HC9 := Lib.hid (HC.out.up HW30.out)
          clear hov hzl
          clear HC hz_0 hz_1 hz_2
          have HC := HC9
          clear HC9
          have hz_0 := HC.out.z.cell (i := 0) rfl
          have hz_1 := HC.out.z.cell (i := 1) rfl
          have hz_2 := HC.out.z.cell (i := 2) rfl
          go_wp2_with fail
          have hx3 : w30.cell? ⟨b3, o3 + i, none⟩ = some (.string s) := by rw [HC.out.b.cell (p := ⟨b3, o3 + i, none⟩) hb3]; exact HC3.out
          have hx4 : w30.cell? ⟨b4, o4 + i, none⟩ = some (.string t) := by rw [HC.out.b.cell (p := ⟨b4, o4 + i, none⟩) hb4]; exact HC4.out
          have hl3 := hk3 b3 hb3 w30 HC.out.b
          have hl4 := hk3 b4 hb4 w30 HC.out.b
          have HW0 : Hid (Below w30.heap.size w30 w30.drew) := (Below.refl _ _).drew
          have hzl := HC.out.z.lt
          refine wp_region_tree (fun w' => ∃ E : Over w30, w' = E.w) (.qs [0, 1, 2, 3, 4, 5, 6, 8, 9, 10, 11] (.a 7 (.a 12 (.a 13 (.a 14 (.q 15 .done)))))) (by kernel_rfl) (by kernel_rfl) (fun _ _ d _ _ h => by cases d <;> exact h) ⟨⟨_, HW0.out⟩, rfl⟩ ?_
          have hov := fun (E : Over w30) o => E.cell (b := w1.heap.size) o hzl
          simp only [Tree.qs]
          have hov3 := fun (E : Over w30) o => E.cell (b := b3) o hl3
          have hov4 := fun (E : Over w30) o => E.cell (b := b4) o hl4
          repeat (refine tree_q rfl rfl ?_; go_big_quiet_step (fail); refine wpQuiet_nil ?_)
          refine tree_a rfl (fun K hK => ?_)
          go_simp
          refine (refRead_any s HLS.out w30.drew).mono ?_
          rintro e w40 ⟨a40, c40, rfl, hn9, hb9⟩
          have HN40 := Lib.hid hn9
          have HW40 := Lib.hid (below_up HW0.out hb9)
          have HU40 := Lib.hid hb9
          clear hn9 hb9
          refine hK _ _ ⟨⟨⟨w40, HW40.out⟩, rfl⟩, ?_⟩
          clear hK K
          repeat (refine tree_q rfl rfl ?_; go_big_quiet_step (fail); refine wpQuiet_nil ?_)
          refine tree_a rfl (fun K hK => ?_)
          go_simp
          refine (refRead_any t HLT.out w40).mono ?_
          rintro e w41 ⟨a41, c41, rfl, hn9, hb9⟩
          have HN41 := Lib.hid hn9
          have HW41 := Lib.hid (below_up HW40.out hb9)
          have HU41 := Lib.hid hb9
          clear hn9 hb9
          refine hK _ _ ⟨⟨⟨w41, HW41.out⟩, rfl⟩, ?_⟩
          clear hK K
          repeat (refine tree_q rfl rfl ?_; go_big_quiet_step (fail); refine wpQuiet_nil ?_)
          refine tree_a rfl (fun K hK => ?_)
          go_simp
          have h9 := refPow_any (numOf s) (numOf t) (grp k).size (grp k).q.m (grp k).p.m a40 a41 aq ap c40 c41 cq cp HNS.out HDT.out HP1.out hp16 w41 (HN40.out.up HU41.out) HN41.out (HC.out.up HW41.out).q (HC.out.up HW41.out).p
          rw [HRP.out] at h9
          refine h9.mono ?_
          clear h9
          rintro e w42 ⟨a42, c42, rfl, hn9, hb9⟩
          have HN42 := Lib.hid hn9
          have HW42 := Lib.hid (below_up HW41.out hb9)
          have HU42 := Lib.hid hb9
          clear hn9 hb9
          refine hK _ _ ⟨⟨⟨w42, HW42.out⟩, rfl⟩, ?_⟩
          clear hK K
          repeat (refine tree_q rfl rfl ?_; go_big_quiet_step (fail); refine wpQuiet_nil ?_)
          refine tree_a rfl (fun K hK => ?_)
          go_simp
          have h9 := refProduct_any o rp (grp k).size (grp k).q.m (grp k).p.m ao a42 aq ap co c42 cq cp HO16.out HRP16.out hp0 hp16 w42 (HC.out.up HW42.out).x HN42.out (HC.out.up HW42.out).q (HC.out.up HW42.out).p
          rw [HRO.out] at h9
          refine h9.mono ?_
          clear h9
          rintro e w43 ⟨a43, c43, rfl, hn9, hb9⟩
          have HN43 := Lib.hid hn9
          have HW43 := Lib.hid (below_up HW42.out hb9)
          have HU43 := Lib.hid hb9
          clear hn9 hb9
          refine hK _ _ ⟨⟨⟨w43, HW43.out⟩, rfl⟩, ?_⟩
          clear hK K
          repeat (refine tree_q rfl rfl ?_; go_big_quiet_step (fail); refine wpQuiet_nil ?_)
          clear hov3 hov4 hx3 hx4 hl3 hl4
          refine tree_end ?_
          have HC9 := Lib.hid ((HC.out.up HW42.out).setx HU43.out HN43.out)
          clear hov hzl
          clear HC hz_0 hz_1 hz_2
          have HC := HC9
          clear HC9
          have hz_0 := HC.out.z.cell (i := 0) rfl
          have hz_1 := HC.out.z.cell (i := 1) rfl
          have hz_2 := HC.out.z.cell (i := 2) rfl
          go_wp2_with fail
          go_roundw
          case rel => exact ⟨i + 1, ro, a43, c43, by omega, rfl, by go_num, HC.out, HROQ.out, HV2.out, HE2.out⟩
          case measure => simp [intOf]; omega
    · have hil : i = L := by omega
      subst hil
      have hsv : sv = textS o (grp k).size := by
        obtain ⟨z, hz1, hz2⟩ := HV.out
        rw [hz2, hz1, List.drop_eq_nil_of_le (by rw [HLA.out]; exact Nat.le_refl _)]
        rfl
      have hse : se = 0 := by rw [HE.out, List.drop_eq_nil_of_le (by rw [HLA.out]; exact Nat.le_refl _)]; rfl
      have HDO : Hid (dl o ≤ 1048576) := small_dl _ (Nat.lt_of_le_of_lt HO.out hq16)
      subst hsv hse
      go_wp2_with fail
      refine (refText_any o (grp k).size ao co HDO.out (by omega) wr HC.out.x).mono ?_
      rintro e w50 ⟨rfl, hb9⟩
      have HC9 := Lib.hid (HC.out.up hb9)
      clear hb9
      clear HC hz_0 hz_1 hz_2
      have HC := HC9
      clear HC9
      have hz_0 := HC.out.z.cell (i := 0) rfl
      have hz_1 := HC.out.z.cell (i := 1) rfl
      have hz_2 := HC.out.z.cell (i := 2) rfl
      go_wp2_with fail
      refine (lawText_ok (textS o (grp k).size) w50).mono ?_
      rintro e w51 ⟨rfl, hb9⟩
      have HC9 := Lib.hid (HC.out.up hb9)
      clear hb9
      clear HC hz_0 hz_1 hz_2
      have HC := HC9
      clear HC9
      have hz_0 := HC.out.z.cell (i := 0) rfl
      have hz_1 := HC.out.z.cell (i := 1) rfl
      have hz_2 := HC.out.z.cell (i := 2) rfl
      go_wp2_with fail
      go_ret
      exact ⟨rfl, HC.out.b⟩

theorem groupProducts_any (k : Int) (xs ys : List ByteArray) (aa an : Option Addr) (la ln ca cn : Nat) (ha : xs.length = la) (hn : ys.length = ln) (w : World)
    (hA : Sl w w.heap.size aa (xs.map Value.string)) (hN : Sl w w.heap.size an (ys.map Value.string)) :
    Calls Try.prog 4 #[.int .i64 k, .slice aa la ca, .slice an ln cn] w fun e w' => e = .returned (.bool true) ∧ Below w.heap.size w w' := by
  by_cases hk : 1 ≤ k ∧ k ≤ 3
  · obtain ⟨j, rfl⟩ : ∃ j : Nat, k = j := ⟨k.toNat, by omega⟩
    by_cases hl : 256 < la ∨ 256 < ln
    · exact groupProducts_long j (by omega) (by omega) xs ys aa an la ln ca cn ha hn hl w hA hN
    · by_cases he : la = ln
      · subst he
        exact groupProducts_some j (by omega) (by omega) xs ys aa an la ca cn ha hn (by omega) w hA hN
      · exact groupProducts_form j (by omega) (by omega) xs ys aa an la ln ca cn ha hn (by omega) (by omega) he w hA hN
  · exact groupProducts_none k hk aa an la ln ca cn w

set_option maxRecDepth 100000 in
theorem groupProducts_calls {H : Type} (enc : TypeId × Value → H) (W : World) (base : Nat) {v0 v1 v2 : Value} {d0 d1 d2 : DataW H} {p0 p1 p2 : List MemPlace}
    (h0 : DataW.Trod enc Try.prog W 0 (fun _ => true) true 3 v0 d0 p0) (h1 : DataW.Trod enc Try.prog W 0 (fun _ => true) true 36 v1 d1 p1) (h2 : DataW.Trod enc Try.prog W 0 (fun _ => true) true 36 v2 d2 p2)
    (k0 : Value.okWide Try.prog W .any base 3 v0) (k1 : Value.okWide Try.prog W .any base 36 v1) (k2 : Value.okWide Try.prog W .any base 36 v2)
    (_lt0 : ∀ x ∈ p0, x.block < W.heap.size) (lt1 : ∀ x ∈ p1, x.block < W.heap.size) (lt2 : ∀ x ∈ p2, x.block < W.heap.size)
    (_hsz : (DataW.weightsEach Try.prog ([3, 36, 36] ++ Rows.groupProductsSpec.plain.varTypes Try.prog) ([d0, d1, d2] ++ [])).all (· ≤ reachBytes) = true) :
    Calls Try.prog 4 #[v0, v1, v2] W fun e w' => e = .returned (.bool true) ∧ Below W.heap.size W w' := by
  obtain ⟨k, rfl, _, _, _⟩ := open_int Try.underlying3 k0 h0
  obtain ⟨a, len, cap, rfl⟩ := okWide_slice Try.underlying36 k1
  obtain ⟨a2, len2, cap2, rfl⟩ := okWide_slice Try.underlying36 k2
  obtain ⟨xs, hx, hs⟩ := open_Sl_strings Try.underlying36 Try.underlying9 (by kernel_rfl) h1 lt1
  obtain ⟨ys, hy, ht⟩ := open_Sl_strings Try.underlying36 Try.underlying9 (by kernel_rfl) h2 lt2
  exact groupProducts_any k xs ys a a2 len len2 cap cap2 hx.symm hy.symm W hs ht

set_option maxRecDepth 100000 in
theorem groupProducts_lifted (os : Os) (started : os.Started) (H : Type) (enc : TypeId × Value → H) :
    ReturnsInHanded {} Try.checked os 4 .any (Rows.groupProductsSpec.pre6 enc Try.prog Try.f4 Rows.groupProductsRow.domain false) (Rows.groupProductsSpec.post enc Try.prog Try.f4 false true false false) := by
  refine returnsInHanded_of_change_sized (C := Try.checked) law_own started (by kernel_rfl) Try.func4
    (ChangeSpec.witness6 (enc := enc) (C := Try.checked) false ⟨#[], #[.int .i64 0, .slice none 0 0, .slice none 0 0], []⟩ 8 (by kernel_rfl) (by kernel_rfl) (by kernel_rfl) (by kernel_rfl)) ?_
  intro W base args ds gs before hval0 hW _ hsz0 _
  have hsz : (DataW.weightsEach Try.prog (Try.f4.params.toList ++ Rows.groupProductsSpec.plain.varTypes Try.prog) (ds ++ gs)).all (· ≤ reachBytes) = true := hsz0
  clear hsz0
  have hval : ∀ (j : Nat) t v, Try.f4.params[j]? = some t → args[j]? = some v → Value.okWide Try.prog W .any base t v := hval0
  have hW' := hW
  obtain ⟨p, q, hA0, hV, rfl, _, _⟩ := hW
  have hA : DataW.TrodAll enc Try.prog W 0 (fun _ => true) true Try.f4.params.toList args.toList ds p := hA0
  rw [Try.params4] at hA hval hsz
  obtain ⟨v0, vs0, d0, ds0, p0, q0, hargs, rfl, rfl, h0, r0⟩ := trodAll_cons hA
  obtain ⟨v1, vs1, d1, ds1, p1, q1, rfl, rfl, rfl, h1, r1⟩ := trodAll_cons r0
  obtain ⟨v2, vs2, d2, ds2, p2, q2, rfl, rfl, rfl, h2, r2⟩ := trodAll_cons r1
  obtain ⟨rfl, rfl, rfl⟩ := trodAll_nil r2
  obtain rfl : args = #[v0, v1, v2] := by cases args; simp_all
  obtain ⟨rfl, rfl⟩ := trodVars_none hV
  have lt0 : ∀ x ∈ p0, x.block < W.heap.size := by obtain ⟨m, hm⟩ := h0; exact DataW.trod_lt m _ _ _ hm
  have lt1 : ∀ x ∈ p1, x.block < W.heap.size := by obtain ⟨m, hm⟩ := h1; exact DataW.trod_lt m _ _ _ hm
  have lt2 : ∀ x ∈ p2, x.block < W.heap.size := by obtain ⟨m, hm⟩ := h2; exact DataW.trod_lt m _ _ _ hm
  clear hA0 hval0
  refine (groupProducts_calls enc W base h0 h1 h2 (hval 0 3 v0 rfl rfl) (hval 1 36 v1 rfl rfl) (hval 2 36 v2 rfl rfl) lt0 lt1 lt2 hsz).mono fun e W' ⟨he, bel⟩ => ?_
  subst he
  exact ⟨_, rfl, _, _, _, [], _, [], hW', trodAll_mk1 (shut_bool Try.underlying4 _), (trodAll_cons_mk (Below.trod law_laidOut (by kernel_rfl) (of_decide_eq_true (by kernel_rfl)) h0 bel lt0) (trodAll_cons_mk (Below.trod law_laidOut (by kernel_rfl) (of_decide_eq_true (by kernel_rfl)) h1 bel lt1) (trodAll_cons_mk (Below.trod law_laidOut (by kernel_rfl) (of_decide_eq_true (by kernel_rfl)) h2 bel lt2) trodAll_mk0))), rfl, bel.frame _, fun h => by cases h⟩

theorem groupProducts_holds : Rows.GroupProductsSaid :=
  OpenClaim.holds_of_wide 4 Try.f4 rfl rfl rfl rfl rfl rfl rfl ⟨rfl, rfl, rfl, rfl, rfl⟩ rfl rfl rfl rfl rfl (by kernel_rfl) Try.func4 (by kernel_rfl)
    (of_decide_eq_true (by kernel_rfl)) (by unfold Func.isWrapper; first | (rw [if_pos (by decide +kernel)]; kernel_rfl) | (rw [if_neg (by decide +kernel)]; exact ⟨rfl, rfl⟩))
    (fun os started H enc _ => groupProducts_lifted os started H enc)
#print axioms groupProducts_holds



end Go.Proofs.Ytdmldnpadojflaa
