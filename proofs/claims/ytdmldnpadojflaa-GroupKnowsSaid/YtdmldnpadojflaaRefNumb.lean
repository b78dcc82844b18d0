/- The document's Number. No condition. -/
import Derived.Test.YtdmldnpadojflaaRefMem
import Derived.Test.YtdmldnpadojflaaGrpText
namespace Go.Proofs.Ytdmldnpadojflaa
open Go.RowKit







theorem number_neg (q t : Nat) (hq : 1 ≤ q) (n : Int) (hn : n = -((t : Int) + 1)) : ((0 + q - t % q) % q + q - 1) % q = modI q n := by
  have hm : t % q < q := Nat.mod_lt _ hq
  unfold modI
  have e : (((0 + q - t % q) % q + q - 1) % q : Nat) = (((((0 + q - t % q) % q + q - 1) % q : Nat) : Int)).toNat := rfl
  rw [e]
  congr 1
  generalize hr : t % q = r at *
  have ht := Nat.div_add_mod t q
  rw [hr] at ht
  generalize t / q = k at *
  have hn2 : n = (q : Int) * (-((k : Int) + 1)) + ((q : Int) - 1 - (r : Int)) := by
    rw [hn, ← ht]
    push_cast
    rw [Int.mul_neg, Int.mul_add, Int.mul_one]
    omega
  rw [hn2, Int.mul_add_emod_self_left, Int.emod_eq_of_lt (by omega) (by omega)]
  by_cases h0 : r = 0
  · subst h0
    rw [Nat.zero_add, Nat.sub_zero, Nat.mod_self, Nat.zero_add, Nat.mod_eq_of_lt (by omega)]
    omega
  · rw [Nat.mod_eq_of_lt (show 0 + q - r < q by omega), show 0 + q - r + q - 1 = q - r - 1 + q by omega, Nat.add_mod_right, Nat.mod_eq_of_lt (by omega)]
    omega

set_option maxRecDepth 100000 in
set_option maxHeartbeats 2000000 in
theorem refNumber_pos (n : Nat) (sz q p : Nat) (aq ap : Option Addr) (cq cp : Nat) (hn : n ≤ 9223372036854775807) (hq : 1 ≤ q) (w : World) (hQ : NumAt w aq q) :
    Calls Try.prog 31 #[.agg #[.int .i64 (sz : Int), .slice aq (dl q) cq, .slice ap (dl p) cp], .int .i64 (n : Int)] w fun e w' => NumR w e w' (n % q) := by
  have HQ := Lib.hid hQ
  have hn16 : dl n ≤ 1048576 := Nat.le_trans (dl_of_lt n 4 (by have : DD ^ 4 = 18446744073709551616 := (by decide); omega)) (by decide)
  have hneg : decide ((n : Int) < 0) = false := by simp
  clear hQ
  go_enter Try.func31, Try.ntmps31
  have hzz : Bx (w.alloc (.cells #[.int .i64 (sz : Int), .slice aq (dl q) cq, .slice ap (dl p) cp] 25)) w.heap.size 25 (gR sz q p aq ap cq cp) := Bx.new w _ _ _ rfl
  have hbz : Below w.heap.size w (w.alloc (.cells #[.int .i64 (sz : Int), .slice aq (dl q) cq, .slice ap (dl p) cp] 25)) := (Below.refl w.heap.size w).alloc (Nat.le_refl _) _
  obtain ⟨W2, hW2⟩ : ∃ W9 : World, (w.alloc (.cells #[.int .i64 (sz : Int), .slice aq (dl q) cq, .slice ap (dl p) cp] 25)) = W9 := ⟨_, rfl⟩
  rw [hW2] at hzz hbz
  have HZ := Lib.hid hzz
  have HBZ := Lib.hid hbz
  have hz_0 := HZ.out.cell (i := 0) rfl
  have hz_1 := HZ.out.cell (i := 1) rfl
  have hz_2 := HZ.out.cell (i := 2) rfl
  have hzl := HZ.out.lt
  clear hzz hbz
  go_wp2_with fail
  have HW0 : Hid (Below W2.heap.size W2 W2.drew) := (Below.refl _ _).drew
  refine wp_region_tree (fun w' => ∃ E : Over W2, w' = E.w) (.qs [0, 2, 3] (.a 1 (.a 4 (.q 5 .done)))) (by kernel_rfl) (by kernel_rfl) (fun _ _ d _ _ h => by cases d <;> exact h) ⟨⟨_, HW0.out⟩, rfl⟩ ?_
  have hov := fun (E : Over W2) o => E.cell (b := w.heap.size) o hzl
  simp only [Tree.qs]
  repeat (refine tree_q rfl rfl ?_; go_big_quiet_step (fail); refine wpQuiet_nil ?_)
  refine tree_a rfl (fun K hK => ?_)
  go_simp
  refine (refOf_any n hn _).mono ?_
  rintro e w4 ⟨a4, c4, rfl, hn9, hb9⟩
  have HN4 := Lib.hid hn9
  have HW4 := Lib.hid (below_up HW0.out hb9)
  have HR4 := Lib.hid hb9
  clear hn9 hb9
  refine hK _ _ ⟨⟨⟨w4, HW4.out⟩, rfl⟩, ?_⟩
  clear hK K
  refine tree_a rfl (fun K hK => ?_)
  go_simp
  refine (refMod_any n q a4 aq c4 cq hn16 hq w4 HN4.out (HQ.out.up (below_up HBZ.out HW4.out))).mono ?_
  rintro e w5 ⟨a5, c5, rfl, hn9, hb9⟩
  have HN5 := Lib.hid hn9
  have HW5 := Lib.hid (below_up HW4.out hb9)
  have HR5 := Lib.hid hb9
  clear hn9 hb9
  refine hK _ _ ⟨⟨⟨w5, HW5.out⟩, rfl⟩, ?_⟩
  clear hK K
  refine tree_q rfl rfl ?_
  go_big_quiet_step (fail)
  refine wpQuiet_nil ?_
  refine tree_end ?_
  have HF := Lib.hid (below_up HBZ.out HW5.out)
  clear hov
  go_wp2_with fail
  go_ret
  exact ⟨a5, c5, rfl, HN5.out, HF.out⟩

set_option maxRecDepth 100000 in
set_option maxHeartbeats 400000 in
theorem refNumber_neg (n : Int) (t : Nat) (sz q p : Nat) (aq ap : Option Addr) (cq cp : Nat) (hn : n = -((t : Int) + 1)) (hn2 : -9223372036854775808 ≤ n) (hq : 1 ≤ q) (hq2 : q < DD ^ 16) (w : World) (hQ : NumAt w aq q) :
    Calls Try.prog 31 #[.agg #[.int .i64 (sz : Int), .slice aq (dl q) cq, .slice ap (dl p) cp], .int .i64 n] w fun e w' => NumR w e w' (modI q n) := by
  have HQ := Lib.hid hQ
  have ht : t ≤ 9223372036854775807 := by omega
  have hn16 : dl t ≤ 1048576 := Nat.le_trans (dl_of_lt t 4 (by have : DD ^ 4 = 18446744073709551616 := (by decide); omega)) (by decide)
  have hneg : decide (n < 0) = true := by simp; omega
  have hx1 : -(n + 1) = (t : Int) := by omega
  have hM := number_neg q t hq n hn
  have hrq : t % q < q := Nat.mod_lt _ hq
  have hsq : (0 + q - t % q) % q < q := Nat.mod_lt _ hq
  obtain ⟨r, hr⟩ : ∃ r, t % q = r := ⟨_, rfl⟩
  rw [hr] at hM hrq hsq
  obtain ⟨u, hu⟩ : ∃ u, (0 + q - r) % q = u := ⟨_, rfl⟩
  rw [hu] at hM hsq
  have HM := Lib.hid hM
  have HRR := Lib.hid hr
  have HUU := Lib.hid hu
  clear hM hr hu
  generalize hV : modI q n = V at *
  clear hV
  have hD : (0 : Nat) < DD ^ 16 := Nat.pow_pos (by decide)
  clear hQ hn
  go_enter Try.func31, Try.ntmps31
  have hzz : Bx (w.alloc (.cells #[.int .i64 (sz : Int), .slice aq (dl q) cq, .slice ap (dl p) cp] 25)) w.heap.size 25 (gR sz q p aq ap cq cp) := Bx.new w _ _ _ rfl
  have hbz : Below w.heap.size w (w.alloc (.cells #[.int .i64 (sz : Int), .slice aq (dl q) cq, .slice ap (dl p) cp] 25)) := (Below.refl w.heap.size w).alloc (Nat.le_refl _) _
  obtain ⟨W2, hW2⟩ : ∃ W9 : World, (w.alloc (.cells #[.int .i64 (sz : Int), .slice aq (dl q) cq, .slice ap (dl p) cp] 25)) = W9 := ⟨_, rfl⟩
  rw [hW2] at hzz hbz
  have HZ := Lib.hid hzz
  have HBZ := Lib.hid hbz
  have hz_0 := HZ.out.cell (i := 0) rfl
  have hz_1 := HZ.out.cell (i := 1) rfl
  have hz_2 := HZ.out.cell (i := 2) rfl
  have hzl := HZ.out.lt
  clear hzz hbz
  go_wp2_with fail
  have HW0 : Hid (Below W2.heap.size W2 W2.drew) := (Below.refl _ _).drew
  refine wp_region_tree (fun w' => ∃ E : Over W2, w' = E.w) (.qs [0, 1, 3, 4, 5, 7, 8] (.a 2 (.a 6 (.a 9 (.a 10 (.a 11 (.a 12 (.q 13 .done)))))))) (by kernel_rfl) (by kernel_rfl) (fun _ _ d _ _ h => by cases d <;> exact h) ⟨⟨_, HW0.out⟩, rfl⟩ ?_
  have hov := fun (E : Over W2) o => E.cell (b := w.heap.size) o hzl
  simp only [Tree.qs]
  repeat (refine tree_q rfl rfl ?_; go_big_quiet_step (fail); refine wpQuiet_nil ?_)
  refine tree_a rfl (fun K hK => ?_)
  go_simp
  refine (refOf_any 0 (by omega) _).mono ?_
  rintro e w4 ⟨a4, c4, rfl, hn9, hb9⟩
  have HN4 := Lib.hid hn9
  have HW4 := Lib.hid (below_up HW0.out hb9)
  have HR4 := Lib.hid hb9
  clear hn9 hb9
  refine hK _ _ ⟨⟨⟨w4, HW4.out⟩, rfl⟩, ?_⟩
  clear hK K
  refine tree_a rfl (fun K hK => ?_)
  go_simp
  refine (refOf_any t ht _).mono ?_
  rintro e w5 ⟨a5, c5, rfl, hn9, hb9⟩
  have HN5 := Lib.hid hn9
  have HW5 := Lib.hid (below_up HW4.out hb9)
  have HR5 := Lib.hid hb9
  clear hn9 hb9
  refine hK _ _ ⟨⟨⟨w5, HW5.out⟩, rfl⟩, ?_⟩
  clear hK K
  refine tree_a rfl (fun K hK => ?_)
  go_simp
  have h9 := refMod_any t q a5 aq c5 cq hn16 hq w5 HN5.out (HQ.out.up (below_up HBZ.out HW5.out))
  rw [HRR.out] at h9
  refine h9.mono ?_
  clear h9
  rintro e w6 ⟨a6, c6, rfl, hn9, hb9⟩
  have HN6 := Lib.hid hn9
  have HW6 := Lib.hid (below_up HW5.out hb9)
  have HR6 := Lib.hid hb9
  clear hn9 hb9
  refine hK _ _ ⟨⟨⟨w6, HW6.out⟩, rfl⟩, ?_⟩
  clear hK K
  refine tree_a rfl (fun K hK => ?_)
  go_simp
  have h9 := refSub_any 0 r sz q p a4 a6 aq ap c4 c6 cq cp hD (Nat.le_of_lt hrq) hq hq2 w6 ((HN4.out.up HR5.out).up HR6.out) HN6.out (HQ.out.up (below_up HBZ.out HW6.out))
  rw [HUU.out] at h9
  refine h9.mono ?_
  clear h9
  rintro e w7 ⟨a7, c7, rfl, hn9, hb9⟩
  have HN7 := Lib.hid hn9
  have HW7 := Lib.hid (below_up HW6.out hb9)
  have HR7 := Lib.hid hb9
  clear hn9 hb9
  refine hK _ _ ⟨⟨⟨w7, HW7.out⟩, rfl⟩, ?_⟩
  clear hK K
  refine tree_a rfl (fun K hK => ?_)
  go_simp
  refine (refOf_any 1 (by omega) _).mono ?_
  rintro e w8 ⟨a8, c8, rfl, hn9, hb9⟩
  have HN8 := Lib.hid hn9
  have HW8 := Lib.hid (below_up HW7.out hb9)
  have HR8 := Lib.hid hb9
  clear hn9 hb9
  refine hK _ _ ⟨⟨⟨w8, HW8.out⟩, rfl⟩, ?_⟩
  clear hK K
  refine tree_a rfl (fun K hK => ?_)
  go_simp
  have h9 := refSub_any u 1 sz q p a7 a8 aq ap c7 c8 cq cp (Nat.lt_trans hsq hq2) hq hq hq2 w8 (HN7.out.up HR8.out) HN8.out (HQ.out.up (below_up HBZ.out HW8.out))
  rw [HM.out] at h9
  refine h9.mono ?_
  clear h9
  rintro e w9 ⟨a9, c9, rfl, hn9, hb9⟩
  have HN9 := Lib.hid hn9
  have HW9 := Lib.hid (below_up HW8.out hb9)
  have HR9 := Lib.hid hb9
  clear hn9 hb9
  refine hK _ _ ⟨⟨⟨w9, HW9.out⟩, rfl⟩, ?_⟩
  clear hK K
  refine tree_q rfl rfl ?_
  go_big_quiet_step (fail)
  refine wpQuiet_nil ?_
  refine tree_end ?_
  have HF := Lib.hid (below_up HBZ.out HW9.out)
  clear hov
  go_wp2_with fail
  go_ret
  exact ⟨a9, c9, rfl, HN9.out, HF.out⟩

theorem refNumber_any (n : Int) (sz q p : Nat) (aq ap : Option Addr) (cq cp : Nat) (h1 : -9223372036854775808 ≤ n) (h2 : n ≤ 9223372036854775807) (hq : 1 ≤ q) (hq2 : q < DD ^ 16) (w : World) (hQ : NumAt w aq q) :
    Calls Try.prog 31 #[.agg #[.int .i64 (sz : Int), .slice aq (dl q) cq, .slice ap (dl p) cp], .int .i64 n] w fun e w' => NumR w e w' (modI q n) := by
  by_cases hn : 0 ≤ n
  · obtain ⟨k, rfl⟩ : ∃ k : Nat, n = k := ⟨n.toNat, by omega⟩
    rw [modI_pos]
    exact refNumber_pos k sz q p aq ap cq cp (by omega) hq w hQ
  · exact refNumber_neg n (-(n + 1)).toNat sz q p aq ap cq cp (by omega) h1 hq hq2 w hQ

end Go.Proofs.Ytdmldnpadojflaa
