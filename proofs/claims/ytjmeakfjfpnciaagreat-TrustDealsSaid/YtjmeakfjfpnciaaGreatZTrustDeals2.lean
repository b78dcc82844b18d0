/- Texts of this seat, one behind the other: what TrustDeals leans on. No condition beyond those that each names. -/
import Derived.Test.YtjmeakfjfpnciaaGreatZTrustDeals1
import Derived.Laws.StructEq
import Derived.ChangeKeysEq
import Derived.Deep.Cut
import Derived.Deep.CutRange
import Derived.IntWalk

set_option maxRecDepth 100000
set_option maxHeartbeats 4000000
set_option linter.unusedVariables false
set_option linter.unusedSimpArgs false
namespace Go.Proofs.YtjmeakfjfpnciaaGreat
open Go.RowKit
theorem addM (R : RingP) (ok : R.Ok) (rb off x y : Nat) (w : World) (hR : RingAt w rb off R) :
  Calls Tryz.prog 137 #[.pointer (some ⟨rb, off, none⟩), limbV (mont R.m x), limbV (mont R.m y)] w fun e w' => e = .returned (limbV (mont R.m (x + y))) ∧ Below w.heap.size w w' :=
 ringAdd_any R rb off _ _ _ (by
  have h1 := mont_lt ok.pos x
  have h2 := mont_lt ok.pos y
  have h3 := ok.top
  simp only [BB] at h3
  show _ < 18446744073709551616 ^ 4
  omega) ok.lt4 (mont_add R.m x y ok.pos).symm w hR
theorem subM (R : RingP) (ok : R.Ok) (rb off x y : Nat) (hy : y ≤ R.m) (w : World) (hR : RingAt w rb off R) :
  Calls Tryz.prog 181 #[.pointer (some ⟨rb, off, none⟩), limbV (mont R.m x), limbV (mont R.m y)] w fun e w' => e = .returned (limbV (mont R.m (x + (R.m - y)))) ∧ Below w.heap.size w w' :=
 ringSub_any R rb off _ _ _ (mont_lt ok.pos x) (mont_lt ok.pos y) ok.lt4 (mont_sub R.m x y hy ok.pos).symm w hR
theorem outM (R : RingP) (ok : R.Ok) (rb off x : Nat) (w : World) (hR : RingAt w rb off R) :
  Calls Tryz.prog 87 #[.pointer (some ⟨rb, off, none⟩), limbV (mont R.m x)] w fun e w' => e = .returned (limbV (x % R.m)) ∧ Below w.heap.size w w' := by
 rw [← mont_mod]
 exact out_any R ok rb off _ (Nat.mod_lt _ ok.pos) w hR
structure GP where
 kind : Nat
 size : Nat
 p : RingP
 q : RingP
structure GroupAt (W : World) (gb : Nat) (G : GP) : Prop where
 lt : gb < W.heap.size
 kind : W.cell? ⟨gb, 0, none⟩ = some (.int .i64 G.kind)
 size : W.cell? ⟨gb, 1, none⟩ = some (.int .i64 G.size)
 p : RingAt W gb 2 G.p
 q : RingAt W gb 15 G.q
theorem GroupAt.below {W W' : World} {gb n : Nat} {G : GP} (h : GroupAt W gb G) (hb : Below n W W') (hn : gb < n) : GroupAt W' gb G :=
 ⟨Nat.lt_of_lt_of_le h.lt hb.size, by rw [hb.cell (p := ⟨gb, 0, none⟩) hn]; exact h.kind, by rw [hb.cell (p := ⟨gb, 1, none⟩) hn]; exact h.size, h.p.below hb hn, h.q.below hb hn⟩
theorem GroupAt.up {W W' : World} {gb : Nat} {G : GP} (h : GroupAt W gb G) (hb : Below W.heap.size W W') : GroupAt W' gb G := h.below hb h.lt
structure GP.Ok (G : GP) : Prop where
 p : G.p.Ok
 q : G.q.Ok
 twice : G.p.m = 2 * G.q.m + 1
 size_le : G.size ≤ 32
 fits : G.q.m ≤ 256 ^ G.size
 odd : 256 < G.q.m
theorem GroupAt.ms {W : World} {gb : Nat} {G : GP} (h : GroupAt W gb G) : W.cell? ⟨gb, 0, none⟩ = some (.int .i64 G.kind) ∧ W.cell? ⟨gb, 1, none⟩ = some (.int .i64 G.size) ∧ W.cell? ⟨gb, 2, none⟩ = some (.int .u64 (dig G.p.m 0 : Int)) ∧ W.cell? ⟨gb, 3, none⟩ = some (.int .u64 (dig G.p.m 1 : Int)) ∧ W.cell? ⟨gb, 4, none⟩ = some (.int .u64 (dig G.p.m 2 : Int)) ∧ W.cell? ⟨gb, 5, none⟩ = some (.int .u64 (dig G.p.m 3 : Int)) ∧ W.cell? ⟨gb, 15, none⟩ = some (.int .u64 (dig G.q.m 0 : Int)) ∧ W.cell? ⟨gb, 16, none⟩ = some (.int .u64 (dig G.q.m 1 : Int)) ∧ W.cell? ⟨gb, 17, none⟩ = some (.int .u64 (dig G.q.m 2 : Int)) ∧ W.cell? ⟨gb, 18, none⟩ = some (.int .u64 (dig G.q.m 3 : Int)) :=
 ⟨h.kind, h.size, h.p.cell 0 _ rfl, h.p.cell 1 _ rfl, h.p.cell 2 _ rfl, h.p.cell 3 _ rfl, h.q.cell 0 _ rfl, h.q.cell 1 _ rfl, h.q.cell 2 _ rfl, h.q.cell 3 _ rfl⟩
theorem GroupAt.all {W : World} {gb : Nat} {G : GP} (h : GroupAt W gb G) (ok : G.Ok) : (W.cell? ⟨gb, 0, none⟩ = some (.int .i64 G.kind) ∧ W.cell? ⟨gb, 1, none⟩ = some (.int .i64 G.size) ∧ W.cell? ⟨gb, 2, none⟩ = some (.int .u64 (dig G.p.m 0 : Int)) ∧ W.cell? ⟨gb, 3, none⟩ = some (.int .u64 (dig G.p.m 1 : Int)) ∧ W.cell? ⟨gb, 4, none⟩ = some (.int .u64 (dig G.p.m 2 : Int)) ∧ W.cell? ⟨gb, 5, none⟩ = some (.int .u64 (dig G.p.m 3 : Int)) ∧ W.cell? ⟨gb, 15, none⟩ = some (.int .u64 (dig G.q.m 0 : Int)) ∧ W.cell? ⟨gb, 16, none⟩ = some (.int .u64 (dig G.q.m 1 : Int)) ∧ W.cell? ⟨gb, 17, none⟩ = some (.int .u64 (dig G.q.m 2 : Int)) ∧ W.cell? ⟨gb, 18, none⟩ = some (.int .u64 (dig G.q.m 3 : Int))) ∧ W.cell? ⟨gb, 6, none⟩ = some (.int .u64 (dig (mont G.p.m 1) 0 : Int)) ∧ W.cell? ⟨gb, 7, none⟩ = some (.int .u64 (dig (mont G.p.m 1) 1 : Int)) ∧ W.cell? ⟨gb, 8, none⟩ = some (.int .u64 (dig (mont G.p.m 1) 2 : Int)) ∧ W.cell? ⟨gb, 9, none⟩ = some (.int .u64 (dig (mont G.p.m 1) 3 : Int)) ∧ W.cell? ⟨gb, 19, none⟩ = some (.int .u64 (dig (mont G.q.m 1) 0 : Int)) ∧ W.cell? ⟨gb, 20, none⟩ = some (.int .u64 (dig (mont G.q.m 1) 1 : Int)) ∧ W.cell? ⟨gb, 21, none⟩ = some (.int .u64 (dig (mont G.q.m 1) 2 : Int)) ∧ W.cell? ⟨gb, 22, none⟩ = some (.int .u64 (dig (mont G.q.m 1) 3 : Int)) :=
 ⟨h.ms, by rw [← ok.p.one']; exact h.p.cell 4 _ rfl, by rw [← ok.p.one']; exact h.p.cell 5 _ rfl, by rw [← ok.p.one']; exact h.p.cell 6 _ rfl, by rw [← ok.p.one']; exact h.p.cell 7 _ rfl, by rw [← ok.q.one']; exact h.q.cell 4 _ rfl, by rw [← ok.q.one']; exact h.q.cell 5 _ rfl, by rw [← ok.q.one']; exact h.q.cell 6 _ rfl, by rw [← ok.q.one']; exact h.q.cell 7 _ rfl⟩
def scV (G : GP) (x : Nat) : Value := limbV (mont G.q.m x)
def elV (G : GP) (y : Nat) : Value := limbV (mont G.p.m y)
theorem limbV_small (c : Nat) (hc : c < BB) : limbV c = .agg #[.int .u64 (c : Int), .int .u64 0, .int .u64 0, .int .u64 0] := by
 have h0 : dig c 0 = c := by simp only [dig, Nat.pow_zero, Nat.div_one]; exact Nat.mod_eq_of_lt hc
 have h : ∀ i, 0 < i → dig c i = 0 := fun i hi => by
  unfold dig
  have : BB ≤ BB ^ i := by
   have := Nat.pow_le_pow_right (n := BB) (by decide) (show 1 ≤ i from hi)
   rwa [Nat.pow_one] at this
  rw [Nat.div_eq_of_lt (Nat.lt_of_lt_of_le hc this)]
  rfl
 simp only [limbV, h0, h 1 (by omega), h 2 (by omega), h 3 (by omega)]
 rfl
theorem subZ (R : RingP) (ok : R.Ok) (rb off y : Nat) (hy : y ≤ R.m) (w : World) (hR : RingAt w rb off R) :
  Calls Tryz.prog 181 #[.pointer (some ⟨rb, off, none⟩), .agg #[.int .u64 0, .int .u64 0, .int .u64 0, .int .u64 0], limbV (mont R.m y)] w fun e w' => e = .returned (limbV (mont R.m (R.m - y))) ∧ Below w.heap.size w w' := by
 have h := subM R ok rb off 0 y hy w hR
 rw [mont_zero, limbV_small 0 (by decide), Nat.zero_add] at h
 exact h
theorem inSmall (R : RingP) (ok : R.Ok) (rb off c : Nat) (hc : c < BB) (w : World) (hR : RingAt w rb off R) :
  Calls Tryz.prog 103 #[.pointer (some ⟨rb, off, none⟩), .agg #[.int .u64 (c : Int), .int .u64 0, .int .u64 0, .int .u64 0]] w fun e w' => e = .returned (limbV (mont R.m c)) ∧ Below w.heap.size w w' := by
 have h := in_any R ok rb off c (Nat.lt_trans hc (by decide)) w hR
 rwa [limbV_small c hc] at h
theorem onceSmall (R : RingP) (ok : R.Ok) (rb off c : Nat) (hc : c < 256) (h256 : 256 < R.m) (w : World) (hR : RingAt w rb off R) :
  Calls Tryz.prog 152 #[.pointer (some ⟨rb, off, none⟩), .agg #[.int .u64 (c : Int), .int .u64 0, .int .u64 0, .int .u64 0]] w fun e w' => e = .returned (.agg #[.int .u64 (c : Int), .int .u64 0, .int .u64 0, .int .u64 0]) ∧ Below w.heap.size w w' := by
 have hb : c < BB := Nat.lt_trans hc (by decide)
 have h := once_any R rb off c c (Nat.lt_trans hb (by decide)) ok.lt4 (by rw [if_neg (by omega)]) w hR
 rwa [limbV_small c hb] at h
theorem gAdd_any (G : GP) (ok : G.Ok) (gb : Nat) (x y : Nat)  (w : World) (hG : GroupAt w gb G) :
  Calls Tryz.prog 78 #[.pointer (some ⟨gb, 0, none⟩), scV G x, scV G y] w fun e w' => e = .returned (scV G (x + y)) ∧ Below w.heap.size w w' := by
 have OK := Lib.hid ok
 clear ok
 unfold scV limbV
 go_enter Tryz.func78, Tryz.ntmps78
 go_wp2_with fail
 obtain ⟨W0, hW0, hBW, hX0, hX1, hC⟩ := boxLLZ w 89 (mont G.q.m (x)) 89 (mont G.q.m (y)) 89
 rw [hW0]
 clear hW0
 have hG0 := hG.up hBW
 have hgl := hG0.lt
 have hga := hG0.all OK.out
 have hx0_ := Blk.l4 (mont G.q.m (x)) hX0
 have hl0 := hX0.lt
 have hx1_ := Blk.l4 (mont G.q.m (y)) hX1
 have hl1 := hX1.lt
 have HC := Lib.hid hC
 have HBW := Lib.hid hBW
 clear hC hBW hG hX0 hX1
 refine wp_region_otail 9 (by kernel_rfl) (by kernel_rfl) ?_
 simp only [List.take_succ_cons, List.take_zero, List.drop_succ_cons, List.drop_zero]
 have hovg := fun (E : Over W0) o => E.cell (b := gb) o hgl
 have hov0 := fun (E : Over W0) o => E.cell (b := w.heap.size) o hl0
 have hov1 := fun (E : Over W0) o => E.cell (b := w.heap.size + 1) o hl1
 repeat (go_big_quiet_step (first | (go_at_call 137; exact calls_over (addM G.q OK.out.q gb 15 x y _ (hG0.up (Over.h _)).q))))
 all_goals (try unfold limbV)
 repeat (go_big_quiet_step (first | (go_at_call 137; exact calls_over (addM G.q OK.out.q gb 15 x y _ (hG0.up (Over.h _)).q))))
 all_goals (try unfold limbV)
 repeat (go_big_quiet_step (first | (go_at_call 137; exact calls_over (addM G.q OK.out.q gb 15 x y _ (hG0.up (Over.h _)).q))))
 refine wpQuiet_nil ?_
 rintro _ ⟨E, rfl⟩
 have HZ := Lib.hid (HC.out.below E.h HC.out.lt)
 have HBB := Lib.hid (below_up HBW.out E.h)
 clear hovg hov0 hov1
 generalize E.w = w3 at *
 obtain ⟨w5, hq5, HB5, HS5⟩ := fillE HBB HZ (by omega) (mont G.q.m (x + y))
 have hz_ := Blk.z4 HZ.out
 have hzf_ := HZ.out.frozen
 go_wp2_with fail
 clear hz_
 have hg_ := Blk.l4 (mont G.q.m (x + y)) HS5.out
 simp [bodyPost, results, Tryz.results78, go_sem, hg_]
 exact HB5.out
theorem gMul_any (G : GP) (ok : G.Ok) (gb : Nat) (x y : Nat)  (w : World) (hG : GroupAt w gb G) :
  Calls Tryz.prog 84 #[.pointer (some ⟨gb, 0, none⟩), scV G x, scV G y] w fun e w' => e = .returned (scV G (x * y)) ∧ Below w.heap.size w w' := by
 have OK := Lib.hid ok
 clear ok
 unfold scV limbV
 go_enter Tryz.func84, Tryz.ntmps84
 go_wp2_with fail
 obtain ⟨W0, hW0, hBW, hX0, hX1, hC⟩ := boxLLZ w 89 (mont G.q.m (x)) 89 (mont G.q.m (y)) 89
 rw [hW0]
 clear hW0
 have hG0 := hG.up hBW
 have hgl := hG0.lt
 have hga := hG0.all OK.out
 have hx0_ := Blk.l4 (mont G.q.m (x)) hX0
 have hl0 := hX0.lt
 have hx1_ := Blk.l4 (mont G.q.m (y)) hX1
 have hl1 := hX1.lt
 have HC := Lib.hid hC
 have HBW := Lib.hid hBW
 clear hC hBW hG hX0 hX1
 refine wp_region_otail 9 (by kernel_rfl) (by kernel_rfl) ?_
 simp only [List.take_succ_cons, List.take_zero, List.drop_succ_cons, List.drop_zero]
 have hovg := fun (E : Over W0) o => E.cell (b := gb) o hgl
 have hov0 := fun (E : Over W0) o => E.cell (b := w.heap.size) o hl0
 have hov1 := fun (E : Over W0) o => E.cell (b := w.heap.size + 1) o hl1
 repeat (go_big_quiet_step (first | (go_at_call 108; exact calls_over (mulM G.q OK.out.q gb 15 x y _ (hG0.up (Over.h _)).q))))
 all_goals (try unfold limbV)
 repeat (go_big_quiet_step (first | (go_at_call 108; exact calls_over (mulM G.q OK.out.q gb 15 x y _ (hG0.up (Over.h _)).q))))
 all_goals (try unfold limbV)
 repeat (go_big_quiet_step (first | (go_at_call 108; exact calls_over (mulM G.q OK.out.q gb 15 x y _ (hG0.up (Over.h _)).q))))
 refine wpQuiet_nil ?_
 rintro _ ⟨E, rfl⟩
 have HZ := Lib.hid (HC.out.below E.h HC.out.lt)
 have HBB := Lib.hid (below_up HBW.out E.h)
 clear hovg hov0 hov1
 generalize E.w = w3 at *
 obtain ⟨w5, hq5, HB5, HS5⟩ := fillE HBB HZ (by omega) (mont G.q.m (x * y))
 have hz_ := Blk.z4 HZ.out
 have hzf_ := HZ.out.frozen
 go_wp2_with fail
 clear hz_
 have hg_ := Blk.l4 (mont G.q.m (x * y)) HS5.out
 simp [bodyPost, results, Tryz.results84, go_sem, hg_]
 exact HB5.out
theorem gNeg_any (G : GP) (ok : G.Ok) (gb : Nat) (y : Nat) (hy : y ≤ G.q.m) (w : World) (hG : GroupAt w gb G) :
  Calls Tryz.prog 145 #[.pointer (some ⟨gb, 0, none⟩), scV G y] w fun e w' => e = .returned (scV G (G.q.m - y)) ∧ Below w.heap.size w w' := by
 have OK := Lib.hid ok
 clear ok
 unfold scV limbV
 go_enter Tryz.func145, Tryz.ntmps145
 go_wp2_with fail
 obtain ⟨W0, hW0, hBW, hX0, hC⟩ := boxLZ w 89 (mont G.q.m (y)) 89
 rw [hW0]
 clear hW0
 have hG0 := hG.up hBW
 have hgl := hG0.lt
 have hga := hG0.all OK.out
 have hx0_ := Blk.l4 (mont G.q.m (y)) hX0
 have hl0 := hX0.lt
 have HC := Lib.hid hC
 have HBW := Lib.hid hBW
 clear hC hBW hG hX0
 refine wp_region_otail 8 (by kernel_rfl) (by kernel_rfl) ?_
 simp only [List.take_succ_cons, List.take_zero, List.drop_succ_cons, List.drop_zero]
 have hovg := fun (E : Over W0) o => E.cell (b := gb) o hgl
 have hov0 := fun (E : Over W0) o => E.cell (b := w.heap.size) o hl0
 repeat (go_big_quiet_step (first | (go_at_call 181; exact calls_over (subZ G.q OK.out.q gb 15 y hy _ (hG0.up (Over.h _)).q))))
 all_goals (try unfold limbV)
 repeat (go_big_quiet_step (first | (go_at_call 181; exact calls_over (subZ G.q OK.out.q gb 15 y hy _ (hG0.up (Over.h _)).q))))
 all_goals (try unfold limbV)
 repeat (go_big_quiet_step (first | (go_at_call 181; exact calls_over (subZ G.q OK.out.q gb 15 y hy _ (hG0.up (Over.h _)).q))))
 refine wpQuiet_nil ?_
 rintro _ ⟨E, rfl⟩
 have HZ := Lib.hid (HC.out.below E.h HC.out.lt)
 have HBB := Lib.hid (below_up HBW.out E.h)
 clear hovg hov0
 generalize E.w = w3 at *
 obtain ⟨w5, hq5, HB5, HS5⟩ := fillE HBB HZ (by omega) (mont G.q.m (G.q.m - y))
 have hz_ := Blk.z4 HZ.out
 have hzf_ := HZ.out.frozen
 go_wp2_with fail
 clear hz_
 have hg_ := Blk.l4 (mont G.q.m (G.q.m - y)) HS5.out
 simp [bodyPost, results, Tryz.results145, go_sem, hg_]
 exact HB5.out
theorem gPlusOne_any (G : GP) (ok : G.Ok) (gb : Nat) (x : Nat)  (w : World) (hG : GroupAt w gb G) :
  Calls Tryz.prog 146 #[scV G x, .pointer (some ⟨gb, 0, none⟩)] w fun e w' => e = .returned (scV G (x + 1)) ∧ Below w.heap.size w w' := by
 have OK := Lib.hid ok
 clear ok
 unfold scV limbV
 go_enter Tryz.func146, Tryz.ntmps146
 go_wp2_with fail
 obtain ⟨W0, hW0, hBW, hX0, hC⟩ := boxLZ w 89 (mont G.q.m (x)) 89
 rw [hW0]
 clear hW0
 have hG0 := hG.up hBW
 have hgl := hG0.lt
 have hga := hG0.all OK.out
 have hx0_ := Blk.l4 (mont G.q.m (x)) hX0
 have hl0 := hX0.lt
 have HC := Lib.hid hC
 have HBW := Lib.hid hBW
 clear hC hBW hG hX0
 refine wp_region_otail 12 (by kernel_rfl) (by kernel_rfl) ?_
 simp only [List.take_succ_cons, List.take_zero, List.drop_succ_cons, List.drop_zero]
 have hovg := fun (E : Over W0) o => E.cell (b := gb) o hgl
 have hov0 := fun (E : Over W0) o => E.cell (b := w.heap.size) o hl0
 repeat (go_big_quiet_step (first | (go_at_call 137; exact calls_over (addM G.q OK.out.q gb 15 x 1 _ (hG0.up (Over.h _)).q))))
 all_goals (try unfold limbV)
 repeat (go_big_quiet_step (first | (go_at_call 137; exact calls_over (addM G.q OK.out.q gb 15 x 1 _ (hG0.up (Over.h _)).q))))
 all_goals (try unfold limbV)
 repeat (go_big_quiet_step (first | (go_at_call 137; exact calls_over (addM G.q OK.out.q gb 15 x 1 _ (hG0.up (Over.h _)).q))))
 refine wpQuiet_nil ?_
 rintro _ ⟨E, rfl⟩
 have HZ := Lib.hid (HC.out.below E.h HC.out.lt)
 have HBB := Lib.hid (below_up HBW.out E.h)
 clear hovg hov0
 generalize E.w = w3 at *
 obtain ⟨w5, hq5, HB5, HS5⟩ := fillE HBB HZ (by omega) (mont G.q.m (x + 1))
 have hz_ := Blk.z4 HZ.out
 have hzf_ := HZ.out.frozen
 go_wp2_with fail
 clear hz_
 have hg_ := Blk.l4 (mont G.q.m (x + 1)) HS5.out
 simp [bodyPost, results, Tryz.results146, go_sem, hg_]
 exact HB5.out
theorem gTimes_any (G : GP) (ok : G.Ok) (gb : Nat) (x y : Nat)  (w : World) (hG : GroupAt w gb G) :
  Calls Tryz.prog 63 #[.pointer (some ⟨gb, 0, none⟩), elV G x, elV G y] w fun e w' => e = .returned (elV G (x * y)) ∧ Below w.heap.size w w' := by
 have OK := Lib.hid ok
 clear ok
 unfold elV limbV
 go_enter Tryz.func63, Tryz.ntmps63
 go_wp2_with fail
 obtain ⟨W0, hW0, hBW, hX0, hX1, hC⟩ := boxLLZ w 91 (mont G.p.m (x)) 91 (mont G.p.m (y)) 91
 rw [hW0]
 clear hW0
 have hG0 := hG.up hBW
 have hgl := hG0.lt
 have hga := hG0.all OK.out
 have hx0_ := Blk.l4 (mont G.p.m (x)) hX0
 have hl0 := hX0.lt
 have hx1_ := Blk.l4 (mont G.p.m (y)) hX1
 have hl1 := hX1.lt
 have HC := Lib.hid hC
 have HBW := Lib.hid hBW
 clear hC hBW hG hX0 hX1
 refine wp_region_otail 9 (by kernel_rfl) (by kernel_rfl) ?_
 simp only [List.take_succ_cons, List.take_zero, List.drop_succ_cons, List.drop_zero]
 have hovg := fun (E : Over W0) o => E.cell (b := gb) o hgl
 have hov0 := fun (E : Over W0) o => E.cell (b := w.heap.size) o hl0
 have hov1 := fun (E : Over W0) o => E.cell (b := w.heap.size + 1) o hl1
 repeat (go_big_quiet_step (first | (go_at_call 108; exact calls_over (mulM G.p OK.out.p gb 2 x y _ (hG0.up (Over.h _)).p))))
 all_goals (try unfold limbV)
 repeat (go_big_quiet_step (first | (go_at_call 108; exact calls_over (mulM G.p OK.out.p gb 2 x y _ (hG0.up (Over.h _)).p))))
 all_goals (try unfold limbV)
 repeat (go_big_quiet_step (first | (go_at_call 108; exact calls_over (mulM G.p OK.out.p gb 2 x y _ (hG0.up (Over.h _)).p))))
 refine wpQuiet_nil ?_
 rintro _ ⟨E, rfl⟩
 have HZ := Lib.hid (HC.out.below E.h HC.out.lt)
 have HBB := Lib.hid (below_up HBW.out E.h)
 clear hovg hov0 hov1
 generalize E.w = w3 at *
 obtain ⟨w5, hq5, HB5, HS5⟩ := fillE HBB HZ (by omega) (mont G.p.m (x * y))
 have hz_ := Blk.z4 HZ.out
 have hzf_ := HZ.out.frozen
 go_wp2_with fail
 clear hz_
 have hg_ := Blk.l4 (mont G.p.m (x * y)) HS5.out
 simp [bodyPost, results, Tryz.results63, go_sem, hg_]
 exact HB5.out
theorem gPower_any (G : GP) (ok : G.Ok) (gb : Nat) (x n : Nat)  (w : World) (hG : GroupAt w gb G) :
  Calls Tryz.prog 91 #[.pointer (some ⟨gb, 0, none⟩), elV G x, scV G n] w fun e w' => e = .returned (elV G (x ^ (n % G.q.m))) ∧ Below w.heap.size w w' := by
 have OK := Lib.hid ok
 clear ok
 unfold elV scV limbV
 go_enter Tryz.func91, Tryz.ntmps91
 go_wp2_with fail
 obtain ⟨W0, hW0, hBW, hX0, hX1, hC⟩ := boxLLZ w 91 (mont G.p.m (x)) 89 (mont G.q.m (n)) 91
 rw [hW0]
 clear hW0
 have hG0 := hG.up hBW
 have hgl := hG0.lt
 have hga := hG0.all OK.out
 have hx0_ := Blk.l4 (mont G.p.m (x)) hX0
 have hl0 := hX0.lt
 have hx1_ := Blk.l4 (mont G.q.m (n)) hX1
 have hl1 := hX1.lt
 have HC := Lib.hid hC
 have HBW := Lib.hid hBW
 clear hC hBW hG hX0 hX1
 refine wp_region_otail 13 (by kernel_rfl) (by kernel_rfl) ?_
 simp only [List.take_succ_cons, List.take_zero, List.drop_succ_cons, List.drop_zero]
 have hovg := fun (E : Over W0) o => E.cell (b := gb) o hgl
 have hov0 := fun (E : Over W0) o => E.cell (b := w.heap.size) o hl0
 have hov1 := fun (E : Over W0) o => E.cell (b := w.heap.size + 1) o hl1
 repeat (go_big_quiet_step (first | (go_at_call 87; exact calls_over (outM G.q OK.out.q gb 15 n _ (hG0.up (Over.h _)).q)) | (go_at_call 144; exact calls_over (pow_any G.p OK.out.p gb 2 x (n % G.q.m) (Nat.lt_trans (Nat.mod_lt _ OK.out.q.pos) OK.out.q.lt4) _ (hG0.up (Over.h _)).p))))
 all_goals (try unfold limbV)
 repeat (go_big_quiet_step (first | (go_at_call 87; exact calls_over (outM G.q OK.out.q gb 15 n _ (hG0.up (Over.h _)).q)) | (go_at_call 144; exact calls_over (pow_any G.p OK.out.p gb 2 x (n % G.q.m) (Nat.lt_trans (Nat.mod_lt _ OK.out.q.pos) OK.out.q.lt4) _ (hG0.up (Over.h _)).p))))
 all_goals (try unfold limbV)
 repeat (go_big_quiet_step (first | (go_at_call 87; exact calls_over (outM G.q OK.out.q gb 15 n _ (hG0.up (Over.h _)).q)) | (go_at_call 144; exact calls_over (pow_any G.p OK.out.p gb 2 x (n % G.q.m) (Nat.lt_trans (Nat.mod_lt _ OK.out.q.pos) OK.out.q.lt4) _ (hG0.up (Over.h _)).p))))
 refine wpQuiet_nil ?_
 rintro _ ⟨E, rfl⟩
 have HZ := Lib.hid (HC.out.below E.h HC.out.lt)
 have HBB := Lib.hid (below_up HBW.out E.h)
 clear hovg hov0 hov1
 generalize E.w = w3 at *
 obtain ⟨w5, hq5, HB5, HS5⟩ := fillE HBB HZ (by omega) (mont G.p.m (x ^ (n % G.q.m)))
 have hz_ := Blk.z4 HZ.out
 have hzf_ := HZ.out.frozen
 go_wp2_with fail
 clear hz_
 have hg_ := Blk.l4 (mont G.p.m (x ^ (n % G.q.m))) HS5.out
 simp [bodyPost, results, Tryz.results91, go_sem, hg_]
 exact HB5.out
theorem gBase_any (G : GP) (ok : G.Ok) (gb : Nat)  (w : World) (hG : GroupAt w gb G) :
  Calls Tryz.prog 92 #[.pointer (some ⟨gb, 0, none⟩)] w fun e w' => e = .returned (elV G (2)) ∧ Below w.heap.size w w' := by
 have OK := Lib.hid ok
 clear ok
 unfold elV limbV
 go_enter Tryz.func92, Tryz.ntmps92
 go_wp2_with fail
 obtain ⟨W0, hW0, hBW, hC⟩ := boxZ w 91
 rw [hW0]
 clear hW0
 have hG0 := hG.up hBW
 have hgl := hG0.lt
 have hga := hG0.all OK.out
 have HC := Lib.hid hC
 have HBW := Lib.hid hBW
 clear hC hBW hG
 refine wp_region_otail 15 (by kernel_rfl) (by kernel_rfl) ?_
 simp only [List.take_succ_cons, List.take_zero, List.drop_succ_cons, List.drop_zero]
 have hovg := fun (E : Over W0) o => E.cell (b := gb) o hgl
 repeat (go_big_quiet_step (first | (go_at_call 137; exact calls_over (addM G.p OK.out.p gb 2 1 1 _ (hG0.up (Over.h _)).p))))
 all_goals (try unfold limbV)
 repeat (go_big_quiet_step (first | (go_at_call 137; exact calls_over (addM G.p OK.out.p gb 2 1 1 _ (hG0.up (Over.h _)).p))))
 all_goals (try unfold limbV)
 repeat (go_big_quiet_step (first | (go_at_call 137; exact calls_over (addM G.p OK.out.p gb 2 1 1 _ (hG0.up (Over.h _)).p))))
 refine wpQuiet_nil ?_
 rintro _ ⟨E, rfl⟩
 have HZ := Lib.hid (HC.out.below E.h HC.out.lt)
 have HBB := Lib.hid (below_up HBW.out E.h)
 clear hovg
 generalize E.w = w3 at *
 obtain ⟨w5, hq5, HB5, HS5⟩ := fillE HBB HZ (by omega) (mont G.p.m (2))
 have hz_ := Blk.z4 HZ.out
 have hzf_ := HZ.out.frozen
 go_wp2_with fail
 clear hz_
 have hg_ := Blk.l4 (mont G.p.m (2)) HS5.out
 simp [bodyPost, results, Tryz.results92, go_sem, hg_]
 exact HB5.out
theorem gOne_any (G : GP) (ok : G.Ok) (gb : Nat) (w : World) (hG : GroupAt w gb G) :
  Calls Tryz.prog 62 #[.pointer (some ⟨gb, 0, none⟩)] w fun e w' => e = .returned (elV G 1) ∧ Below w.heap.size w w' := by
 have OK := Lib.hid ok
 clear ok
 unfold elV limbV
 have hG0 := hG
 have hgl := hG0.lt
 have hga := hG0.all OK.out
 go_enter Tryz.func62, Tryz.ntmps62
 go_wp2_with fail
 simp [bodyPost, results, Tryz.results62, go_sem]
 exact (Below.refl _ _).alloc (Nat.le_refl _) _
end Go.Proofs.YtjmeakfjfpnciaaGreat
namespace Go.Proofs.YtjmeakfjfpnciaaGreat
open Go.RowKit
theorem run_equalIn_four {P : Program} (w : World) (d : Nat) (t e : TypeId) (ht : P.underlying t = some (.array 4 e)) (he : P.underlying e = some (.int .u64)) (i : TypeInfo) (hi : P.info? e = some i) (hc : P.cellsOf e = 1) (hp : P.plainKey e = true) (x0 x1 x2 x3 y0 y1 y2 y3 : Int) :
  (Op.equalIn (d + 2) t (.agg #[.int .u64 x0, .int .u64 x1, .int .u64 x2, .int .u64 x3]) (.agg #[.int .u64 y0, .int .u64 y1, .int .u64 y2, .int .u64 y3])).run P w = .ok (x0 == y0 && (x1 == y1 && (x2 == y2 && x3 == y3))) w := by
 rw [Op.equalIn]
 simp only [Sem.run_bind, run_underlying ht, Result.andThen_ok, run_sizeOf w hi, hc]
 have hx : ∀ (xs : Array Value) (k : Nat) (v : Value), xs[k]? = some v → (part e xs (k * 1)).run P w = .ok v w := fun xs k v h => run_part_plain w hp (by simpa using h)
 have eqi : ∀ a b : Int, (Op.equalIn (d + 1) e (.int .u64 a) (.int .u64 b)).run P w = .ok (a == b) w := fun a b => run_equalIn_int w d e .u64 .u64 a b he
 have h0 := hx #[.int .u64 x0, .int .u64 x1, .int .u64 x2, .int .u64 x3] 0 _ rfl
 have h1 := hx #[.int .u64 x0, .int .u64 x1, .int .u64 x2, .int .u64 x3] 1 _ rfl
 have h2 := hx #[.int .u64 x0, .int .u64 x1, .int .u64 x2, .int .u64 x3] 2 _ rfl
 have h3 := hx #[.int .u64 x0, .int .u64 x1, .int .u64 x2, .int .u64 x3] 3 _ rfl
 have g0 := hx #[.int .u64 y0, .int .u64 y1, .int .u64 y2, .int .u64 y3] 0 _ rfl
 have g1 := hx #[.int .u64 y0, .int .u64 y1, .int .u64 y2, .int .u64 y3] 1 _ rfl
 have g2 := hx #[.int .u64 y0, .int .u64 y1, .int .u64 y2, .int .u64 y3] 2 _ rfl
 have g3 := hx #[.int .u64 y0, .int .u64 y1, .int .u64 y2, .int .u64 y3] 3 _ rfl
 clear hx
 simp only [Std.Legacy.Range.forIn_eq_forIn_range', Std.Legacy.Range.size]
 have r4 : List.range' 0 ((4 - 0 + 1 - 1) / 1) 1 = [0, 1, 2, 3] := rfl
 rw [r4]
 simp only [List.forIn_cons, List.forIn_nil, Sem.run_bind, Sem.run_ite, Sem.run_pure, Result.andThen_ok, h0, g0]
 cases h0' : (x0 == y0) <;> cases h1' : (x1 == y1) <;> cases h2' : (x2 == y2) <;> cases h3' : (x3 == y3) <;> first | (simp [Sem.run_bind, h1, h2, h3, g1, g2, g3, eqi, h1', h2', h3']; done) | (simp [Sem.run_bind, h1, h2, h3, g1, g2, g3, eqi, h1', h2', h3']; simpa using h0')
theorem wpQuiet_bin {P : Program} {ops : Array Oper} {C : World → Prop} {Q : Act → Prop} {a : Act} {o : Oper} {rest : List Oper} (hw : Region.wanted o (yielded ops a.tmps) = true) (op : BinOp) (x y : Operand) (t t2 : TypeId) (ho : o.op = .binOp op t x y t2)
  (u v r : Value) (hx : a.eval x = u) (hy : a.eval y = v) (hg : ∀ w, (eqGuard op t x y u v).run P w = .ok () w) (hb : ∀ w, (binOp op t u v).run P w = .ok r w)
  (h : wpQuiet P ops C Q rest (a.put o.dst r)) : wpQuiet P ops C Q (o :: rest) a := by
 refine wpQuiet_step fun K hK => ?_
 rw [if_pos hw]
 refine ⟨r, fun w _ => ?_, hK _ h⟩
 unfold Oper.quietAt execOp
 simp only [ho, hx, hy, Sem.run_bind, hg, hb, Result.andThen_ok, Sem.run_pure]
 exact ⟨rfl, rfl⟩
theorem oper_value {P : Program} {o : Oper} {a : Act} {w w' : World} {v : Value} {K : Act → World → Prop} {Q : Exit → Act → World → Prop} (h : (execOp a.eval o).run P w = .ok (.value v) w') (hk : K (a.put o.dst v) w') : Oper.wp P o a w K Q := by
 unfold Oper.wp
 rw [h]
 exact hk
theorem if_wanted {o : Oper} {ys : Nat → Option Bool} {A B : Prop} (h : o.guard = none) (hk : A) : if Region.wanted o ys = true then A else B := by
 have hw : Region.wanted o ys = true := by unfold Region.wanted; rw [h]
 rw [if_pos hw]; exact hk
end Go.Proofs.YtjmeakfjfpnciaaGreat
namespace Go.Proofs.YtjmeakfjfpnciaaGreat
open Go.RowKit
theorem lim_eq (x y : Nat) (hx : x < BB ^ 4) (hy : y < BB ^ 4) (h0 : dig x 0 = dig y 0) (h1 : dig x 1 = dig y 1) (h2 : dig x 2 = dig y 2) (h3 : dig x 3 = dig y 3) : x = y := by
 have e : ∀ z, z < BB ^ 4 → z = dig z 0 + BB * dig z 1 + BB ^ 2 * dig z 2 + BB ^ 3 * dig z 3 := fun z hz => by
  have a3 := mod_succ z 3
  have a2 := mod_succ z 2
  have a1 := mod_succ z 1
  have a0 := mod_succ z 0
  rw [Nat.mod_eq_of_lt hz] at a3
  simp only [Nat.pow_zero, Nat.mod_one, Nat.zero_add, Nat.pow_one, Nat.one_mul] at a0 a1
  simp only [Nat.reduceAdd] at a1 a2
  omega
 have ex := e x hx
 have ey := e y hy
 rw [h0, h1, h2, h3] at ex
 generalize hs : dig y 0 + BB * dig y 1 + BB ^ 2 * dig y 2 + BB ^ 3 * dig y 3 = s at *
 omega
theorem infoU64 : (Tryz.prog.info? 85).isSome = true := by kernel_rfl
theorem cellsU64 : Tryz.prog.cellsOf 85 = 1 := by kernel_rfl
theorem plainU64 : Tryz.prog.plainKey 85 = true := by kernel_rfl
theorem eqLimbs (x y : Nat) (hx : x < BB ^ 4) (hy : y < BB ^ 4) (w : World) (b : Bool) (hb : b = decide (x = y)) :
  (Op.equalIn 10000 87 (.agg #[.int .u64 (dig x 0 : Int), .int .u64 (dig x 1 : Int), .int .u64 (dig x 2 : Int), .int .u64 (dig x 3 : Int)]) (.agg #[.int .u64 (dig y 0 : Int), .int .u64 (dig y 1 : Int), .int .u64 (dig y 2 : Int), .int .u64 (dig y 3 : Int)])).run Tryz.prog w = .ok b w := by
 obtain ⟨i, hi⟩ := Option.isSome_iff_exists.1 infoU64
 rw [run_equalIn_four w 9998 _ _ Tryz.underlying87 Tryz.underlying85 i hi cellsU64 plainU64, hb]
 refine congrArg (fun b => Result.ok b w) ?_
 rw [Bool.eq_iff_iff]
 simp only [Bool.and_eq_true, beq_iff_eq, Int.natCast_inj, decide_eq_true_eq]
 exact ⟨fun ⟨h0, h1, h2, h3⟩ => lim_eq x y hx hy h0 h1 h2 h3, fun e => by rw [e]; exact ⟨rfl, rfl, rfl, rfl⟩⟩
theorem guardLimbs (op : BinOp) (x y : Operand) (xs ys : Array Value) (w : World) : (eqGuard op 87 x y (.agg xs) (.agg ys)).run Tryz.prog w = .ok () w := run_eqGuard_agg w op _ x y xs ys (by kernel_rfl)
theorem binLimbs {xs ys : Array Value} {b : Bool} {w : World} (h : (Op.equalIn 10000 87 (.agg xs) (.agg ys)).run Tryz.prog w = .ok b w) : (binOp .eql 87 (.agg xs) (.agg ys)).run Tryz.prog w = .ok (.bool b) w := by
 rw [run_eql_struct, h]
 rfl
theorem eqZero (x : Nat) (hx : x < BB ^ 4) (w : World) (b : Bool) (hb : b = decide (x = 0)) :
  (Op.equalIn 10000 87 (.agg #[.int .u64 (dig x 0 : Int), .int .u64 (dig x 1 : Int), .int .u64 (dig x 2 : Int), .int .u64 (dig x 3 : Int)]) (.agg #[.int .u64 0, .int .u64 0, .int .u64 0, .int .u64 0])).run Tryz.prog w = .ok b w := by
 have h := eqLimbs x 0 hx (by decide) w b hb
 simpa [dig] using h
theorem gPut_any (G : GP) (ok : G.Ok) (gb x : Nat) (w : World) (hG : GroupAt w gb G) :
  Calls Tryz.prog 45 #[.pointer (some ⟨gb, 0, none⟩), scV G x] w fun e w' => e = .returned (.string (textS (x % G.q.m) G.size)) ∧ Below w.heap.size w w' := by
 have OK := Lib.hid ok
 clear ok
 unfold scV limbV
 go_enter Tryz.func45, Tryz.ntmps45
 go_wp2_with fail
 obtain ⟨W0, hW0, hBW, hX⟩ := boxL w 89 (mont G.q.m x)
 rw [hW0]
 clear hW0
 have hG0 := hG.up hBW
 have hgl := hG0.lt
 have hga := hG0.all OK.out
 have hx_ := Blk.l4 (mont G.q.m x) hX
 have hlx := hX.lt
 have HBW := Lib.hid hBW
 clear hX hBW hG
 refine wp_region_over (by kernel_rfl) (by kernel_rfl) ?_
 have hovg := fun (E : Over W0) o => E.cell (b := gb) o hgl
 have hov0 := fun (E : Over W0) o => E.cell (b := w.heap.size) o hlx
 repeat (go_big_quiet_step (first | (go_at_call 87; exact calls_over (outM G.q OK.out.q gb 15 x _ (hG0.up (Over.h _)).q)) | (go_at_call 90; exact calls_over (text_any (x % G.q.m) G.size OK.out.size_le _))))
 refine wpQuiet_nil ?_
 rintro _ ⟨E, rfl⟩
 have HBB := Lib.hid (below_up HBW.out E.h)
 clear hovg hov0
 generalize E.w = w3 at *
 go_wp2_with fail
 go_ret
 exact ⟨rfl, HBB.out⟩
end Go.Proofs.YtjmeakfjfpnciaaGreat
namespace Go.Proofs.YtjmeakfjfpnciaaGreat
open Go.RowKit
theorem numOf_lt (s : ByteArray) (hs : s.size ≤ 32) : numOf s < BB ^ 4 := by
 have h := numL_lt s.data.toList
 have e : s.data.toList.length = s.size := rfl
 rw [e] at h
 exact Nat.lt_of_lt_of_le h (by
  have := Nat.pow_le_pow_right (n := 256) (by decide) hs
  exact Nat.le_trans this (by decide))
theorem cmp_is (a b : Nat) (c : Int) (ha : a < BB ^ 4) (hb : b < BB ^ 4) (hc : cmpI a b = c) (w : World) : Calls Tryz.prog 88 #[limbV a, limbV b] w fun e w' => e = .returned (.int .i64 c) ∧ Below w.heap.size w w' := by
 subst hc; exact cmp_any a b ha hb w
theorem gScalar_long (G : GP) (ok : G.Ok) (gb : Nat) (s : ByteArray) (hs : 32 < s.size) (w : World) (hG : GroupAt w gb G) :
  Calls Tryz.prog 55 #[.pointer (some ⟨gb, 0, none⟩), .string s] w fun e w' => e = .returned (.tuple #[limbV 0, .bool false]) ∧ Below w.heap.size w w' := by
 have e0 : limbV 0 = .agg #[.int .u64 0, .int .u64 0, .int .u64 0, .int .u64 0] := limbV_small 0 (by decide)
 rw [e0]
 clear e0
 have OK := Lib.hid ok
 clear ok
 go_enter Tryz.func55, Tryz.ntmps55
 go_wp2_with fail
 obtain ⟨W0, hW0, hBW, hC⟩ := boxZ w 89
 rw [hW0]
 clear hW0
 have HG0 := Lib.hid (hG.up hBW)
 have HC := Lib.hid hC
 have HBW := Lib.hid hBW
 have hcl := hC.lt
 clear hG hC hBW
 refine (read_long s hs W0).mono ?_
 rintro e w2 ⟨rfl, hb2⟩
 have hz2 := hb2.size
 have HN : Hid (Blk (w2.alloc (Obj.cells #[.int .u64 (dig (0) 0 : Int), .int .u64 (dig (0) 1 : Int), .int .u64 (dig (0) 2 : Int), .int .u64 (dig (0) 3 : Int)] 87)) w2.heap.size 87 (lim (0))) := Blk.new w2 _ _ _ rfl
 have HB3 := Lib.hid (hb2.alloc hz2 (Obj.cells #[.int .u64 (dig (0) 0 : Int), .int .u64 (dig (0) 1 : Int), .int .u64 (dig (0) 2 : Int), .int .u64 (dig (0) 3 : Int)] 87))
 clear hb2
 unfold limbV
 go_wp2_with fail
 generalize w2.alloc (Obj.cells #[.int .u64 (dig (0) 0 : Int), .int .u64 (dig (0) 1 : Int), .int .u64 (dig (0) 2 : Int), .int .u64 (dig (0) 3 : Int)] 87) = W3 at *
 have hG0 := HG0.out.up HB3.out
 have hgl := hG0.lt
 have hga := hG0.all OK.out
 have hn_ := Blk.l4 (0) HN.out
 have hln := HN.out.lt
 refine wp_region_over (by kernel_rfl) (by kernel_rfl) ?_
 repeat (go_big_quiet_step (fail))
 refine wpQuiet_nil ?_
 rintro _ ⟨E, rfl⟩
 have HZ := Lib.hid ((HC.out.below HB3.out HC.out.lt).below E.h (by have := HB3.out.size; omega))
 have HBB := Lib.hid (below_up (below_up HBW.out HB3.out) E.h)
 generalize E.w = w3 at *
 have HS5 : Hid (Blk (((((w3).setCell ⟨w.heap.size, 0, none⟩ (.int .u64 0)).setCell ⟨w.heap.size, 1, none⟩ (.int .u64 0)).setCell ⟨w.heap.size, 2, none⟩ (.int .u64 0)).setCell ⟨w.heap.size, 3, none⟩ (.int .u64 0)) (w.heap.size) 89 [0, 0, 0, 0]) := (((HZ.out.set 0 0).set 1 0).set 2 0).set 3 0
 have HB5 : Hid (Below w.heap.size w (((((w3).setCell ⟨w.heap.size, 0, none⟩ (.int .u64 0)).setCell ⟨w.heap.size, 1, none⟩ (.int .u64 0)).setCell ⟨w.heap.size, 2, none⟩ (.int .u64 0)).setCell ⟨w.heap.size, 3, none⟩ (.int .u64 0))) := below_four HBB.out (by omega) _ _ _ _
 have hz_ := Blk.z4 HZ.out
 have hzf_ := HZ.out.frozen
 go_wp2_with fail
 generalize (((((w3).setCell ⟨w.heap.size, 0, none⟩ (.int .u64 0)).setCell ⟨w.heap.size, 1, none⟩ (.int .u64 0)).setCell ⟨w.heap.size, 2, none⟩ (.int .u64 0)).setCell ⟨w.heap.size, 3, none⟩ (.int .u64 0)) = w5 at *
 clear hz_
 have hg_ := Blk.z4 HS5.out
 simp [bodyPost, results, Tryz.results55, go_sem, hg_]
 exact HB5.out
theorem gScalar_len (G : GP) (ok : G.Ok) (gb : Nat) (s : ByteArray) (hs : s.size ≤ 32) (hl : s.size ≠ G.size) (w : World) (hG : GroupAt w gb G) :
  Calls Tryz.prog 55 #[.pointer (some ⟨gb, 0, none⟩), .string s] w fun e w' => e = .returned (.tuple #[limbV 0, .bool false]) ∧ Below w.heap.size w w' := by
 have e0 : limbV 0 = .agg #[.int .u64 0, .int .u64 0, .int .u64 0, .int .u64 0] := limbV_small 0 (by decide)
 rw [e0]
 clear e0
 have OK := Lib.hid ok
 clear ok
 go_enter Tryz.func55, Tryz.ntmps55
 go_wp2_with fail
 obtain ⟨W0, hW0, hBW, hC⟩ := boxZ w 89
 rw [hW0]
 clear hW0
 have HG0 := Lib.hid (hG.up hBW)
 have HC := Lib.hid hC
 have HBW := Lib.hid hBW
 have hcl := hC.lt
 clear hG hC hBW
 refine (read_any s hs W0).mono ?_
 rintro e w2 ⟨rfl, hb2⟩
 have hz2 := hb2.size
 have HN : Hid (Blk (w2.alloc (Obj.cells #[.int .u64 (dig (numOf s) 0 : Int), .int .u64 (dig (numOf s) 1 : Int), .int .u64 (dig (numOf s) 2 : Int), .int .u64 (dig (numOf s) 3 : Int)] 87)) w2.heap.size 87 (lim (numOf s))) := Blk.new w2 _ _ _ rfl
 have HB3 := Lib.hid (hb2.alloc hz2 (Obj.cells #[.int .u64 (dig (numOf s) 0 : Int), .int .u64 (dig (numOf s) 1 : Int), .int .u64 (dig (numOf s) 2 : Int), .int .u64 (dig (numOf s) 3 : Int)] 87))
 clear hb2
 unfold limbV
 go_wp2_with fail
 generalize w2.alloc (Obj.cells #[.int .u64 (dig (numOf s) 0 : Int), .int .u64 (dig (numOf s) 1 : Int), .int .u64 (dig (numOf s) 2 : Int), .int .u64 (dig (numOf s) 3 : Int)] 87) = W3 at *
 have hG0 := HG0.out.up HB3.out
 have hgl := hG0.lt
 have hga := hG0.all OK.out
 have hn_ := Blk.l4 (numOf s) HN.out
 have hln := HN.out.lt
 have hne : ((s.size : Int) != (G.size : Int)) = true := by simp; omega
 have hovg := fun (E : Over W3) o => E.cell (b := gb) o hgl
 refine wp_region_over (by kernel_rfl) (by kernel_rfl) ?_
 repeat (go_big_quiet_step (fail))
 refine wpQuiet_nil ?_
 rintro _ ⟨E, rfl⟩
 have HZ := Lib.hid ((HC.out.below HB3.out HC.out.lt).below E.h (by have := HB3.out.size; omega))
 have HBB := Lib.hid (below_up (below_up HBW.out HB3.out) E.h)
 clear hovg
 generalize E.w = w3 at *
 have HS5 : Hid (Blk (((((w3).setCell ⟨w.heap.size, 0, none⟩ (.int .u64 0)).setCell ⟨w.heap.size, 1, none⟩ (.int .u64 0)).setCell ⟨w.heap.size, 2, none⟩ (.int .u64 0)).setCell ⟨w.heap.size, 3, none⟩ (.int .u64 0)) (w.heap.size) 89 [0, 0, 0, 0]) := (((HZ.out.set 0 0).set 1 0).set 2 0).set 3 0
 have HB5 : Hid (Below w.heap.size w (((((w3).setCell ⟨w.heap.size, 0, none⟩ (.int .u64 0)).setCell ⟨w.heap.size, 1, none⟩ (.int .u64 0)).setCell ⟨w.heap.size, 2, none⟩ (.int .u64 0)).setCell ⟨w.heap.size, 3, none⟩ (.int .u64 0))) := below_four HBB.out (by omega) _ _ _ _
 have hz_ := Blk.z4 HZ.out
 have hzf_ := HZ.out.frozen
 go_wp2_with fail
 generalize (((((w3).setCell ⟨w.heap.size, 0, none⟩ (.int .u64 0)).setCell ⟨w.heap.size, 1, none⟩ (.int .u64 0)).setCell ⟨w.heap.size, 2, none⟩ (.int .u64 0)).setCell ⟨w.heap.size, 3, none⟩ (.int .u64 0)) = w5 at *
 clear hz_
 have hg_ := Blk.z4 HS5.out
 simp [bodyPost, results, Tryz.results55, go_sem, hg_]
 exact HB5.out
theorem gElem_long (G : GP) (ok : G.Ok) (gb : Nat) (s : ByteArray) (hs : 32 < s.size) (w : World) (hG : GroupAt w gb G) :
  Calls Tryz.prog 85 #[.pointer (some ⟨gb, 0, none⟩), .string s] w fun e w' => e = .returned (.tuple #[limbV 0, .bool false]) ∧ Below w.heap.size w w' := by
 have e0 : limbV 0 = .agg #[.int .u64 0, .int .u64 0, .int .u64 0, .int .u64 0] := limbV_small 0 (by decide)
 rw [e0]
 clear e0
 have OK := Lib.hid ok
 clear ok
 go_enter Tryz.func85, Tryz.ntmps85
 go_wp2_with fail
 obtain ⟨W0, hW0, hBW, hC⟩ := boxZ w 91
 rw [hW0]
 clear hW0
 have HG0 := Lib.hid (hG.up hBW)
 have HC := Lib.hid hC
 have HBW := Lib.hid hBW
 have hcl := hC.lt
 clear hG hC hBW
 refine (read_long s hs W0).mono ?_
 rintro e w2 ⟨rfl, hb2⟩
 have hz2 := hb2.size
 have HN : Hid (Blk (w2.alloc (Obj.cells #[.int .u64 (dig (0) 0 : Int), .int .u64 (dig (0) 1 : Int), .int .u64 (dig (0) 2 : Int), .int .u64 (dig (0) 3 : Int)] 87)) w2.heap.size 87 (lim (0))) := Blk.new w2 _ _ _ rfl
 have HB3 := Lib.hid (hb2.alloc hz2 (Obj.cells #[.int .u64 (dig (0) 0 : Int), .int .u64 (dig (0) 1 : Int), .int .u64 (dig (0) 2 : Int), .int .u64 (dig (0) 3 : Int)] 87))
 clear hb2
 unfold limbV
 go_wp2_with fail
 generalize w2.alloc (Obj.cells #[.int .u64 (dig (0) 0 : Int), .int .u64 (dig (0) 1 : Int), .int .u64 (dig (0) 2 : Int), .int .u64 (dig (0) 3 : Int)] 87) = W3 at *
 have hG0 := HG0.out.up HB3.out
 have hgl := hG0.lt
 have hga := hG0.all OK.out
 have hn_ := Blk.l4 (0) HN.out
 have hln := HN.out.lt
 refine wp_region_over (by kernel_rfl) (by kernel_rfl) ?_
 repeat (go_big_quiet_step (fail))
 refine wpQuiet_nil ?_
 rintro _ ⟨E, rfl⟩
 have HZ := Lib.hid ((HC.out.below HB3.out HC.out.lt).below E.h (by have := HB3.out.size; omega))
 have HBB := Lib.hid (below_up (below_up HBW.out HB3.out) E.h)
 generalize E.w = w3 at *
 have HS5 : Hid (Blk (((((w3).setCell ⟨w.heap.size, 0, none⟩ (.int .u64 0)).setCell ⟨w.heap.size, 1, none⟩ (.int .u64 0)).setCell ⟨w.heap.size, 2, none⟩ (.int .u64 0)).setCell ⟨w.heap.size, 3, none⟩ (.int .u64 0)) (w.heap.size) 91 [0, 0, 0, 0]) := (((HZ.out.set 0 0).set 1 0).set 2 0).set 3 0
 have HB5 : Hid (Below w.heap.size w (((((w3).setCell ⟨w.heap.size, 0, none⟩ (.int .u64 0)).setCell ⟨w.heap.size, 1, none⟩ (.int .u64 0)).setCell ⟨w.heap.size, 2, none⟩ (.int .u64 0)).setCell ⟨w.heap.size, 3, none⟩ (.int .u64 0))) := below_four HBB.out (by omega) _ _ _ _
 have hz_ := Blk.z4 HZ.out
 have hzf_ := HZ.out.frozen
 go_wp2_with fail
 generalize (((((w3).setCell ⟨w.heap.size, 0, none⟩ (.int .u64 0)).setCell ⟨w.heap.size, 1, none⟩ (.int .u64 0)).setCell ⟨w.heap.size, 2, none⟩ (.int .u64 0)).setCell ⟨w.heap.size, 3, none⟩ (.int .u64 0)) = w5 at *
 clear hz_
 have hg_ := Blk.z4 HS5.out
 simp [bodyPost, results, Tryz.results85, go_sem, hg_]
 exact HB5.out
theorem gElem_len (G : GP) (ok : G.Ok) (gb : Nat) (s : ByteArray) (hs : s.size ≤ 32) (hl : s.size ≠ G.size) (w : World) (hG : GroupAt w gb G) :
  Calls Tryz.prog 85 #[.pointer (some ⟨gb, 0, none⟩), .string s] w fun e w' => e = .returned (.tuple #[limbV 0, .bool false]) ∧ Below w.heap.size w w' := by
 have e0 : limbV 0 = .agg #[.int .u64 0, .int .u64 0, .int .u64 0, .int .u64 0] := limbV_small 0 (by decide)
 rw [e0]
 clear e0
 have OK := Lib.hid ok
 clear ok
 go_enter Tryz.func85, Tryz.ntmps85
 go_wp2_with fail
 obtain ⟨W0, hW0, hBW, hC⟩ := boxZ w 91
 rw [hW0]
 clear hW0
 have HG0 := Lib.hid (hG.up hBW)
 have HC := Lib.hid hC
 have HBW := Lib.hid hBW
 have hcl := hC.lt
 clear hG hC hBW
 refine (read_any s hs W0).mono ?_
 rintro e w2 ⟨rfl, hb2⟩
 have hz2 := hb2.size
 have HN : Hid (Blk (w2.alloc (Obj.cells #[.int .u64 (dig (numOf s) 0 : Int), .int .u64 (dig (numOf s) 1 : Int), .int .u64 (dig (numOf s) 2 : Int), .int .u64 (dig (numOf s) 3 : Int)] 87)) w2.heap.size 87 (lim (numOf s))) := Blk.new w2 _ _ _ rfl
 have HB3 := Lib.hid (hb2.alloc hz2 (Obj.cells #[.int .u64 (dig (numOf s) 0 : Int), .int .u64 (dig (numOf s) 1 : Int), .int .u64 (dig (numOf s) 2 : Int), .int .u64 (dig (numOf s) 3 : Int)] 87))
 clear hb2
 unfold limbV
 go_wp2_with fail
 generalize w2.alloc (Obj.cells #[.int .u64 (dig (numOf s) 0 : Int), .int .u64 (dig (numOf s) 1 : Int), .int .u64 (dig (numOf s) 2 : Int), .int .u64 (dig (numOf s) 3 : Int)] 87) = W3 at *
 have hG0 := HG0.out.up HB3.out
 have hgl := hG0.lt
 have hga := hG0.all OK.out
 have hn_ := Blk.l4 (numOf s) HN.out
 have hln := HN.out.lt
 have hne : ((s.size : Int) != (G.size : Int)) = true := by simp; omega
 have hovg := fun (E : Over W3) o => E.cell (b := gb) o hgl
 refine wp_region_over (by kernel_rfl) (by kernel_rfl) ?_
 repeat (go_big_quiet_step (fail))
 refine wpQuiet_nil ?_
 rintro _ ⟨E, rfl⟩
 have HZ := Lib.hid ((HC.out.below HB3.out HC.out.lt).below E.h (by have := HB3.out.size; omega))
 have HBB := Lib.hid (below_up (below_up HBW.out HB3.out) E.h)
 clear hovg
 generalize E.w = w3 at *
 have HS5 : Hid (Blk (((((w3).setCell ⟨w.heap.size, 0, none⟩ (.int .u64 0)).setCell ⟨w.heap.size, 1, none⟩ (.int .u64 0)).setCell ⟨w.heap.size, 2, none⟩ (.int .u64 0)).setCell ⟨w.heap.size, 3, none⟩ (.int .u64 0)) (w.heap.size) 91 [0, 0, 0, 0]) := (((HZ.out.set 0 0).set 1 0).set 2 0).set 3 0
 have HB5 : Hid (Below w.heap.size w (((((w3).setCell ⟨w.heap.size, 0, none⟩ (.int .u64 0)).setCell ⟨w.heap.size, 1, none⟩ (.int .u64 0)).setCell ⟨w.heap.size, 2, none⟩ (.int .u64 0)).setCell ⟨w.heap.size, 3, none⟩ (.int .u64 0))) := below_four HBB.out (by omega) _ _ _ _
 have hz_ := Blk.z4 HZ.out
 have hzf_ := HZ.out.frozen
 go_wp2_with fail
 generalize (((((w3).setCell ⟨w.heap.size, 0, none⟩ (.int .u64 0)).setCell ⟨w.heap.size, 1, none⟩ (.int .u64 0)).setCell ⟨w.heap.size, 2, none⟩ (.int .u64 0)).setCell ⟨w.heap.size, 3, none⟩ (.int .u64 0)) = w5 at *
 clear hz_
 have hg_ := Blk.z4 HS5.out
 simp [bodyPost, results, Tryz.results85, go_sem, hg_]
 exact HB5.out
theorem gScalar_eq (G : GP) (ok : G.Ok) (gb : Nat) (s : ByteArray) (hl : s.size = G.size) (hc : numOf s = G.q.m) (w : World) (hG : GroupAt w gb G) :
  Calls Tryz.prog 55 #[.pointer (some ⟨gb, 0, none⟩), .string s] w fun e w' => e = .returned (.tuple #[limbV 0, .bool false]) ∧ Below w.heap.size w w' := by
 have e0 : limbV 0 = .agg #[.int .u64 0, .int .u64 0, .int .u64 0, .int .u64 0] := limbV_small 0 (by decide)
 rw [e0]
 clear e0
 have hs : s.size ≤ 32 := by have := ok.size_le; omega
 have HLT := Lib.hid (numOf_lt s hs)
 have HCI : Hid (cmpI (numOf s) G.q.m = 0) := by show _ = _; unfold cmpI; rw [if_neg (by omega), if_neg (by omega)]
 have HL := Lib.hid hl
 clear hl hc
 have OK := Lib.hid ok
 clear ok
 go_enter Tryz.func55, Tryz.ntmps55
 go_wp2_with fail
 obtain ⟨W0, hW0, hBW, hC⟩ := boxZ w 89
 rw [hW0]
 clear hW0
 have HG0 := Lib.hid (hG.up hBW)
 have HC := Lib.hid hC
 have HBW := Lib.hid hBW
 have hcl := hC.lt
 clear hG hC hBW
 refine (read_any s hs W0).mono ?_
 rintro e w2 ⟨rfl, hb2⟩
 have hz2 := hb2.size
 have HN : Hid (Blk (w2.alloc (Obj.cells #[.int .u64 (dig (numOf s) 0 : Int), .int .u64 (dig (numOf s) 1 : Int), .int .u64 (dig (numOf s) 2 : Int), .int .u64 (dig (numOf s) 3 : Int)] 87)) w2.heap.size 87 (lim (numOf s))) := Blk.new w2 _ _ _ rfl
 have HB3 := Lib.hid (hb2.alloc hz2 (Obj.cells #[.int .u64 (dig (numOf s) 0 : Int), .int .u64 (dig (numOf s) 1 : Int), .int .u64 (dig (numOf s) 2 : Int), .int .u64 (dig (numOf s) 3 : Int)] 87))
 clear hb2
 unfold limbV
 go_wp2_with fail
 generalize w2.alloc (Obj.cells #[.int .u64 (dig (numOf s) 0 : Int), .int .u64 (dig (numOf s) 1 : Int), .int .u64 (dig (numOf s) 2 : Int), .int .u64 (dig (numOf s) 3 : Int)] 87) = W3 at *
 have hG0 := HG0.out.up HB3.out
 have hgl := hG0.lt
 have hga := hG0.all OK.out
 have hn_ := Blk.l4 (numOf s) HN.out
 have hln := HN.out.lt
 have hne : ((s.size : Int) != (G.size : Int)) = false := by simp [HL.out]
 have hovg := fun (E : Over W3) o => E.cell (b := gb) o hgl
 have hovn := fun (E : Over W3) o => E.cell (b := w2.heap.size) o hln
 refine wp_region_over (by kernel_rfl) (by kernel_rfl) ?_
 repeat (go_big_quiet_step (first | (go_at_call 88; exact calls_over (cmp_is (numOf s) G.q.m 0 HLT.out OK.out.q.lt4 HCI.out _))))
 refine wpQuiet_nil ?_
 rintro _ ⟨E, rfl⟩
 have HZ := Lib.hid ((HC.out.below HB3.out HC.out.lt).below E.h (by have := HB3.out.size; omega))
 have HBB := Lib.hid (below_up (below_up HBW.out HB3.out) E.h)
 clear hovg hovn
 generalize E.w = w3 at *
 have HS5 : Hid (Blk (((((w3).setCell ⟨w.heap.size, 0, none⟩ (.int .u64 0)).setCell ⟨w.heap.size, 1, none⟩ (.int .u64 0)).setCell ⟨w.heap.size, 2, none⟩ (.int .u64 0)).setCell ⟨w.heap.size, 3, none⟩ (.int .u64 0)) (w.heap.size) 89 [0, 0, 0, 0]) := (((HZ.out.set 0 0).set 1 0).set 2 0).set 3 0
 have HB5 : Hid (Below w.heap.size w (((((w3).setCell ⟨w.heap.size, 0, none⟩ (.int .u64 0)).setCell ⟨w.heap.size, 1, none⟩ (.int .u64 0)).setCell ⟨w.heap.size, 2, none⟩ (.int .u64 0)).setCell ⟨w.heap.size, 3, none⟩ (.int .u64 0))) := below_four HBB.out (by omega) _ _ _ _
 have hz_ := Blk.z4 HZ.out
 have hzf_ := HZ.out.frozen
 go_wp2_with fail
 generalize (((((w3).setCell ⟨w.heap.size, 0, none⟩ (.int .u64 0)).setCell ⟨w.heap.size, 1, none⟩ (.int .u64 0)).setCell ⟨w.heap.size, 2, none⟩ (.int .u64 0)).setCell ⟨w.heap.size, 3, none⟩ (.int .u64 0)) = w5 at *
 clear hz_
 have hg_ := Blk.z4 HS5.out
 simp [bodyPost, results, Tryz.results55, go_sem, hg_]
 exact HB5.out
theorem gScalar_gt (G : GP) (ok : G.Ok) (gb : Nat) (s : ByteArray) (hl : s.size = G.size) (hc : G.q.m < numOf s) (w : World) (hG : GroupAt w gb G) :
  Calls Tryz.prog 55 #[.pointer (some ⟨gb, 0, none⟩), .string s] w fun e w' => e = .returned (.tuple #[limbV 0, .bool false]) ∧ Below w.heap.size w w' := by
 have e0 : limbV 0 = .agg #[.int .u64 0, .int .u64 0, .int .u64 0, .int .u64 0] := limbV_small 0 (by decide)
 rw [e0]
 clear e0
 have hs : s.size ≤ 32 := by have := ok.size_le; omega
 have HLT := Lib.hid (numOf_lt s hs)
 have HCI : Hid (cmpI (numOf s) G.q.m = 1) := by show _ = _; unfold cmpI; rw [if_neg (by omega), if_pos (by omega)]
 have HL := Lib.hid hl
 clear hl hc
 have OK := Lib.hid ok
 clear ok
 go_enter Tryz.func55, Tryz.ntmps55
 go_wp2_with fail
 obtain ⟨W0, hW0, hBW, hC⟩ := boxZ w 89
 rw [hW0]
 clear hW0
 have HG0 := Lib.hid (hG.up hBW)
 have HC := Lib.hid hC
 have HBW := Lib.hid hBW
 have hcl := hC.lt
 clear hG hC hBW
 refine (read_any s hs W0).mono ?_
 rintro e w2 ⟨rfl, hb2⟩
 have hz2 := hb2.size
 have HN : Hid (Blk (w2.alloc (Obj.cells #[.int .u64 (dig (numOf s) 0 : Int), .int .u64 (dig (numOf s) 1 : Int), .int .u64 (dig (numOf s) 2 : Int), .int .u64 (dig (numOf s) 3 : Int)] 87)) w2.heap.size 87 (lim (numOf s))) := Blk.new w2 _ _ _ rfl
 have HB3 := Lib.hid (hb2.alloc hz2 (Obj.cells #[.int .u64 (dig (numOf s) 0 : Int), .int .u64 (dig (numOf s) 1 : Int), .int .u64 (dig (numOf s) 2 : Int), .int .u64 (dig (numOf s) 3 : Int)] 87))
 clear hb2
 unfold limbV
 go_wp2_with fail
 generalize w2.alloc (Obj.cells #[.int .u64 (dig (numOf s) 0 : Int), .int .u64 (dig (numOf s) 1 : Int), .int .u64 (dig (numOf s) 2 : Int), .int .u64 (dig (numOf s) 3 : Int)] 87) = W3 at *
 have hG0 := HG0.out.up HB3.out
 have hgl := hG0.lt
 have hga := hG0.all OK.out
 have hn_ := Blk.l4 (numOf s) HN.out
 have hln := HN.out.lt
 have hne : ((s.size : Int) != (G.size : Int)) = false := by simp [HL.out]
 have hovg := fun (E : Over W3) o => E.cell (b := gb) o hgl
 have hovn := fun (E : Over W3) o => E.cell (b := w2.heap.size) o hln
 refine wp_region_over (by kernel_rfl) (by kernel_rfl) ?_
 repeat (go_big_quiet_step (first | (go_at_call 88; exact calls_over (cmp_is (numOf s) G.q.m 1 HLT.out OK.out.q.lt4 HCI.out _))))
 refine wpQuiet_nil ?_
 rintro _ ⟨E, rfl⟩
 have HZ := Lib.hid ((HC.out.below HB3.out HC.out.lt).below E.h (by have := HB3.out.size; omega))
 have HBB := Lib.hid (below_up (below_up HBW.out HB3.out) E.h)
 clear hovg hovn
 generalize E.w = w3 at *
 have HS5 : Hid (Blk (((((w3).setCell ⟨w.heap.size, 0, none⟩ (.int .u64 0)).setCell ⟨w.heap.size, 1, none⟩ (.int .u64 0)).setCell ⟨w.heap.size, 2, none⟩ (.int .u64 0)).setCell ⟨w.heap.size, 3, none⟩ (.int .u64 0)) (w.heap.size) 89 [0, 0, 0, 0]) := (((HZ.out.set 0 0).set 1 0).set 2 0).set 3 0
 have HB5 : Hid (Below w.heap.size w (((((w3).setCell ⟨w.heap.size, 0, none⟩ (.int .u64 0)).setCell ⟨w.heap.size, 1, none⟩ (.int .u64 0)).setCell ⟨w.heap.size, 2, none⟩ (.int .u64 0)).setCell ⟨w.heap.size, 3, none⟩ (.int .u64 0))) := below_four HBB.out (by omega) _ _ _ _
 have hz_ := Blk.z4 HZ.out
 have hzf_ := HZ.out.frozen
 go_wp2_with fail
 generalize (((((w3).setCell ⟨w.heap.size, 0, none⟩ (.int .u64 0)).setCell ⟨w.heap.size, 1, none⟩ (.int .u64 0)).setCell ⟨w.heap.size, 2, none⟩ (.int .u64 0)).setCell ⟨w.heap.size, 3, none⟩ (.int .u64 0)) = w5 at *
 clear hz_
 have hg_ := Blk.z4 HS5.out
 simp [bodyPost, results, Tryz.results55, go_sem, hg_]
 exact HB5.out
theorem gScalar_yes (G : GP) (ok : G.Ok) (gb : Nat) (s : ByteArray) (hl : s.size = G.size) (hc : numOf s < G.q.m) (w : World) (hG : GroupAt w gb G) :
  Calls Tryz.prog 55 #[.pointer (some ⟨gb, 0, none⟩), .string s] w fun e w' => e = .returned (.tuple #[scV G (numOf s), .bool true]) ∧ Below w.heap.size w w' := by
 have hs : s.size ≤ 32 := by have := ok.size_le; omega
 have HLT := Lib.hid (numOf_lt s hs)
 have HCI : Hid (cmpI (numOf s) G.q.m = -1) := by show _ = _; unfold cmpI; rw [if_pos hc]
 have HL := Lib.hid hl
 clear hl hc
 unfold scV limbV
 have OK := Lib.hid ok
 clear ok
 go_enter Tryz.func55, Tryz.ntmps55
 go_wp2_with fail
 obtain ⟨W0, hW0, hBW, hC⟩ := boxZ w 89
 rw [hW0]
 clear hW0
 have HG0 := Lib.hid (hG.up hBW)
 have HC := Lib.hid hC
 have HBW := Lib.hid hBW
 have hcl := hC.lt
 clear hG hC hBW
 refine (read_any s hs W0).mono ?_
 rintro e w2 ⟨rfl, hb2⟩
 have hz2 := hb2.size
 have HN : Hid (Blk (w2.alloc (Obj.cells #[.int .u64 (dig (numOf s) 0 : Int), .int .u64 (dig (numOf s) 1 : Int), .int .u64 (dig (numOf s) 2 : Int), .int .u64 (dig (numOf s) 3 : Int)] 87)) w2.heap.size 87 (lim (numOf s))) := Blk.new w2 _ _ _ rfl
 have HB3 := Lib.hid (hb2.alloc hz2 (Obj.cells #[.int .u64 (dig (numOf s) 0 : Int), .int .u64 (dig (numOf s) 1 : Int), .int .u64 (dig (numOf s) 2 : Int), .int .u64 (dig (numOf s) 3 : Int)] 87))
 clear hb2
 unfold limbV
 go_wp2_with fail
 generalize w2.alloc (Obj.cells #[.int .u64 (dig (numOf s) 0 : Int), .int .u64 (dig (numOf s) 1 : Int), .int .u64 (dig (numOf s) 2 : Int), .int .u64 (dig (numOf s) 3 : Int)] 87) = W3 at *
 have hG0 := HG0.out.up HB3.out
 have hgl := hG0.lt
 have hga := hG0.all OK.out
 have hn_ := Blk.l4 (numOf s) HN.out
 have hln := HN.out.lt
 have hne : ((s.size : Int) != (G.size : Int)) = false := by simp [HL.out]
 have hovg := fun (E : Over W3) o => E.cell (b := gb) o hgl
 have hovn := fun (E : Over W3) o => E.cell (b := w2.heap.size) o hln
 refine wp_region_over (by kernel_rfl) (by kernel_rfl) ?_
 repeat (go_big_quiet_step (first | (go_at_call 88; exact calls_over (cmp_is (numOf s) G.q.m (-1) HLT.out OK.out.q.lt4 HCI.out _))))
 refine wpQuiet_nil ?_
 rintro _ ⟨E, rfl⟩
 have HC3 := Lib.hid ((HC.out.below HB3.out HC.out.lt).below E.h (by have := HB3.out.size; omega))
 have HB33 := Lib.hid (below_up (below_up HBW.out HB3.out) E.h)
 have HN3 := Lib.hid (HN.out.below E.h HN.out.lt)
 have hG3 := hG0.up E.h
 clear hovg hovn hG0 hn_ hln HC HBW HB3 HN
 generalize E.w = w3 at *
 have hn_ := Blk.l4 (numOf s) HN3.out
 have hln := HN3.out.lt
 go_wp2_with fail
 refine wp_region_otail 6 (by kernel_rfl) (by kernel_rfl) ?_
 simp only [List.take_succ_cons, List.take_zero, List.drop_succ_cons, List.drop_zero]
 have hovn := fun (E : Over w3) o => E.cell (b := w2.heap.size) o hln
 repeat (go_big_quiet_step (first | (go_at_call 103; exact calls_over (in_any G.q OK.out.q gb 15 (numOf s) HLT.out _ (hG3.up (Over.h _)).q))))
 all_goals (try unfold limbV)
 repeat (go_big_quiet_step (first | (go_at_call 103; exact calls_over (in_any G.q OK.out.q gb 15 (numOf s) HLT.out _ (hG3.up (Over.h _)).q))))
 all_goals (try unfold limbV)
 repeat (go_big_quiet_step (first | (go_at_call 103; exact calls_over (in_any G.q OK.out.q gb 15 (numOf s) HLT.out _ (hG3.up (Over.h _)).q))))
 refine wpQuiet_nil ?_
 rintro _ ⟨E, rfl⟩
 have HZ := Lib.hid (HC3.out.below E.h HC3.out.lt)
 have HBB := Lib.hid (below_up HB33.out E.h)
 clear hovn
 generalize E.w = w4 at *
 obtain ⟨w5, hq5, HB5, HS5⟩ := fillE HBB HZ (by omega) (mont G.q.m (numOf s))
 have hz_ := Blk.z4 HZ.out
 have hzf_ := HZ.out.frozen
 go_wp2_with fail
 clear hz_
 have hg_ := Blk.l4 (mont G.q.m (numOf s)) HS5.out
 simp [bodyPost, results, Tryz.results55, go_sem, hg_]
 exact HB5.out
theorem gElem_zero (G : GP) (ok : G.Ok) (gb : Nat) (s : ByteArray) (hl : s.size = G.size) (hc : numOf s = 0) (w : World) (hG : GroupAt w gb G) :
  Calls Tryz.prog 85 #[.pointer (some ⟨gb, 0, none⟩), .string s] w fun e w' => e = .returned (.tuple #[limbV 0, .bool false]) ∧ Below w.heap.size w w' := by
 have e0 : limbV 0 = .agg #[.int .u64 0, .int .u64 0, .int .u64 0, .int .u64 0] := limbV_small 0 (by decide)
 rw [e0]
 clear e0
 have hs : s.size ≤ 32 := by have := ok.size_le; omega
 have hq := ok.odd
 have HLT := Lib.hid (numOf_lt s hs)
 have HCI : Hid (cmpI (numOf s) G.q.m = -1) := by show _ = _; unfold cmpI; rw [if_pos (by omega)]
 have HEQ : Hid (∀ W, (Op.equalIn 10000 87 (.agg #[.int .u64 (dig (numOf s) 0 : Int), .int .u64 (dig (numOf s) 1 : Int), .int .u64 (dig (numOf s) 2 : Int), .int .u64 (dig (numOf s) 3 : Int)]) (.agg #[.int .u64 0, .int .u64 0, .int .u64 0, .int .u64 0])).run Tryz.prog W = .ok true W) :=
 fun W => eqZero (numOf s) (numOf_lt s hs) W true (by simp; omega)
 have HL := Lib.hid hl
 clear hl hc hq
 have OK := Lib.hid ok
 clear ok
 go_enter Tryz.func85, Tryz.ntmps85
 go_wp2_with fail
 obtain ⟨W0, hW0, hBW, hC⟩ := boxZ w 91
 rw [hW0]
 clear hW0
 have HG0 := Lib.hid (hG.up hBW)
 have HC := Lib.hid hC
 have HBW := Lib.hid hBW
 have hcl := hC.lt
 clear hG hC hBW
 refine (read_any s hs W0).mono ?_
 rintro e w2 ⟨rfl, hb2⟩
 have hz2 := hb2.size
 have HN : Hid (Blk (w2.alloc (Obj.cells #[.int .u64 (dig (numOf s) 0 : Int), .int .u64 (dig (numOf s) 1 : Int), .int .u64 (dig (numOf s) 2 : Int), .int .u64 (dig (numOf s) 3 : Int)] 87)) w2.heap.size 87 (lim (numOf s))) := Blk.new w2 _ _ _ rfl
 have HB3 := Lib.hid (hb2.alloc hz2 (Obj.cells #[.int .u64 (dig (numOf s) 0 : Int), .int .u64 (dig (numOf s) 1 : Int), .int .u64 (dig (numOf s) 2 : Int), .int .u64 (dig (numOf s) 3 : Int)] 87))
 clear hb2
 unfold limbV
 go_wp2_with fail
 generalize w2.alloc (Obj.cells #[.int .u64 (dig (numOf s) 0 : Int), .int .u64 (dig (numOf s) 1 : Int), .int .u64 (dig (numOf s) 2 : Int), .int .u64 (dig (numOf s) 3 : Int)] 87) = W3 at *
 have hG0 := HG0.out.up HB3.out
 have hgl := hG0.lt
 have hga := hG0.all OK.out
 have hn_ := Blk.l4 (numOf s) HN.out
 have hln := HN.out.lt
 have hne : ((s.size : Int) != (G.size : Int)) = false := by simp [HL.out]
 have hovg := fun (E : Over W3) o => E.cell (b := gb) o hgl
 have hovn := fun (E : Over W3) o => E.cell (b := w2.heap.size) o hln
 refine wp_region_over (by kernel_rfl) (by kernel_rfl) ?_
 iterate 14 (go_big_quiet_step (fail))
 refine wpQuiet_bin rfl .eql _ _ 87 _ rfl _ _ (.bool true) rfl rfl (fun _ => guardLimbs _ _ _ _ _ _) (fun _ => binLimbs (HEQ.out _)) ?_
 simp only [Act.put, List.setIfInBounds_toArray, List.set_cons_succ, List.set_cons_zero]
 repeat (go_big_quiet_step (first | (go_at_call 88; exact calls_over (cmp_is (numOf s) G.q.m (-1) HLT.out OK.out.q.lt4 HCI.out _))))
 refine wpQuiet_nil ?_
 rintro _ ⟨E, rfl⟩
 have HZ := Lib.hid ((HC.out.below HB3.out HC.out.lt).below E.h (by have := HB3.out.size; omega))
 have HBB := Lib.hid (below_up (below_up HBW.out HB3.out) E.h)
 clear hovg hovn
 generalize E.w = w3 at *
 have HS5 : Hid (Blk (((((w3).setCell ⟨w.heap.size, 0, none⟩ (.int .u64 0)).setCell ⟨w.heap.size, 1, none⟩ (.int .u64 0)).setCell ⟨w.heap.size, 2, none⟩ (.int .u64 0)).setCell ⟨w.heap.size, 3, none⟩ (.int .u64 0)) (w.heap.size) 91 [0, 0, 0, 0]) := (((HZ.out.set 0 0).set 1 0).set 2 0).set 3 0
 have HB5 : Hid (Below w.heap.size w (((((w3).setCell ⟨w.heap.size, 0, none⟩ (.int .u64 0)).setCell ⟨w.heap.size, 1, none⟩ (.int .u64 0)).setCell ⟨w.heap.size, 2, none⟩ (.int .u64 0)).setCell ⟨w.heap.size, 3, none⟩ (.int .u64 0))) := below_four HBB.out (by omega) _ _ _ _
 have hz_ := Blk.z4 HZ.out
 have hzf_ := HZ.out.frozen
 go_wp2_with fail
 generalize (((((w3).setCell ⟨w.heap.size, 0, none⟩ (.int .u64 0)).setCell ⟨w.heap.size, 1, none⟩ (.int .u64 0)).setCell ⟨w.heap.size, 2, none⟩ (.int .u64 0)).setCell ⟨w.heap.size, 3, none⟩ (.int .u64 0)) = w5 at *
 clear hz_
 have hg_ := Blk.z4 HS5.out
 simp [bodyPost, results, Tryz.results85, go_sem, hg_]
 exact HB5.out
theorem gElem_gt (G : GP) (ok : G.Ok) (gb : Nat) (s : ByteArray) (hl : s.size = G.size) (hc : G.q.m < numOf s) (w : World) (hG : GroupAt w gb G) :
  Calls Tryz.prog 85 #[.pointer (some ⟨gb, 0, none⟩), .string s] w fun e w' => e = .returned (.tuple #[limbV 0, .bool false]) ∧ Below w.heap.size w w' := by
 have e0 : limbV 0 = .agg #[.int .u64 0, .int .u64 0, .int .u64 0, .int .u64 0] := limbV_small 0 (by decide)
 rw [e0]
 clear e0
 have hs : s.size ≤ 32 := by have := ok.size_le; omega
 have hq := ok.odd
 have HLT := Lib.hid (numOf_lt s hs)
 have HCI : Hid (cmpI (numOf s) G.q.m = 1) := by show _ = _; unfold cmpI; rw [if_neg (by omega), if_pos (by omega)]
 have HEQ : Hid (∀ W, (Op.equalIn 10000 87 (.agg #[.int .u64 (dig (numOf s) 0 : Int), .int .u64 (dig (numOf s) 1 : Int), .int .u64 (dig (numOf s) 2 : Int), .int .u64 (dig (numOf s) 3 : Int)]) (.agg #[.int .u64 0, .int .u64 0, .int .u64 0, .int .u64 0])).run Tryz.prog W = .ok false W) :=
 fun W => eqZero (numOf s) (numOf_lt s hs) W false (by simp; omega)
 have HL := Lib.hid hl
 clear hl hc hq
 have OK := Lib.hid ok
 clear ok
 go_enter Tryz.func85, Tryz.ntmps85
 go_wp2_with fail
 obtain ⟨W0, hW0, hBW, hC⟩ := boxZ w 91
 rw [hW0]
 clear hW0
 have HG0 := Lib.hid (hG.up hBW)
 have HC := Lib.hid hC
 have HBW := Lib.hid hBW
 have hcl := hC.lt
 clear hG hC hBW
 refine (read_any s hs W0).mono ?_
 rintro e w2 ⟨rfl, hb2⟩
 have hz2 := hb2.size
 have HN : Hid (Blk (w2.alloc (Obj.cells #[.int .u64 (dig (numOf s) 0 : Int), .int .u64 (dig (numOf s) 1 : Int), .int .u64 (dig (numOf s) 2 : Int), .int .u64 (dig (numOf s) 3 : Int)] 87)) w2.heap.size 87 (lim (numOf s))) := Blk.new w2 _ _ _ rfl
 have HB3 := Lib.hid (hb2.alloc hz2 (Obj.cells #[.int .u64 (dig (numOf s) 0 : Int), .int .u64 (dig (numOf s) 1 : Int), .int .u64 (dig (numOf s) 2 : Int), .int .u64 (dig (numOf s) 3 : Int)] 87))
 clear hb2
 unfold limbV
 go_wp2_with fail
 generalize w2.alloc (Obj.cells #[.int .u64 (dig (numOf s) 0 : Int), .int .u64 (dig (numOf s) 1 : Int), .int .u64 (dig (numOf s) 2 : Int), .int .u64 (dig (numOf s) 3 : Int)] 87) = W3 at *
 have hG0 := HG0.out.up HB3.out
 have hgl := hG0.lt
 have hga := hG0.all OK.out
 have hn_ := Blk.l4 (numOf s) HN.out
 have hln := HN.out.lt
 have hne : ((s.size : Int) != (G.size : Int)) = false := by simp [HL.out]
 have hovg := fun (E : Over W3) o => E.cell (b := gb) o hgl
 have hovn := fun (E : Over W3) o => E.cell (b := w2.heap.size) o hln
 refine wp_region_over (by kernel_rfl) (by kernel_rfl) ?_
 iterate 14 (go_big_quiet_step (fail))
 refine wpQuiet_bin rfl .eql _ _ 87 _ rfl _ _ (.bool false) rfl rfl (fun _ => guardLimbs _ _ _ _ _ _) (fun _ => binLimbs (HEQ.out _)) ?_
 simp only [Act.put, List.setIfInBounds_toArray, List.set_cons_succ, List.set_cons_zero]
 repeat (go_big_quiet_step (first | (go_at_call 88; exact calls_over (cmp_is (numOf s) G.q.m (1) HLT.out OK.out.q.lt4 HCI.out _))))
 refine wpQuiet_nil ?_
 rintro _ ⟨E, rfl⟩
 have HZ := Lib.hid ((HC.out.below HB3.out HC.out.lt).below E.h (by have := HB3.out.size; omega))
 have HBB := Lib.hid (below_up (below_up HBW.out HB3.out) E.h)
 clear hovg hovn
 generalize E.w = w3 at *
 have HS5 : Hid (Blk (((((w3).setCell ⟨w.heap.size, 0, none⟩ (.int .u64 0)).setCell ⟨w.heap.size, 1, none⟩ (.int .u64 0)).setCell ⟨w.heap.size, 2, none⟩ (.int .u64 0)).setCell ⟨w.heap.size, 3, none⟩ (.int .u64 0)) (w.heap.size) 91 [0, 0, 0, 0]) := (((HZ.out.set 0 0).set 1 0).set 2 0).set 3 0
 have HB5 : Hid (Below w.heap.size w (((((w3).setCell ⟨w.heap.size, 0, none⟩ (.int .u64 0)).setCell ⟨w.heap.size, 1, none⟩ (.int .u64 0)).setCell ⟨w.heap.size, 2, none⟩ (.int .u64 0)).setCell ⟨w.heap.size, 3, none⟩ (.int .u64 0))) := below_four HBB.out (by omega) _ _ _ _
 have hz_ := Blk.z4 HZ.out
 have hzf_ := HZ.out.frozen
 go_wp2_with fail
 generalize (((((w3).setCell ⟨w.heap.size, 0, none⟩ (.int .u64 0)).setCell ⟨w.heap.size, 1, none⟩ (.int .u64 0)).setCell ⟨w.heap.size, 2, none⟩ (.int .u64 0)).setCell ⟨w.heap.size, 3, none⟩ (.int .u64 0)) = w5 at *
 clear hz_
 have hg_ := Blk.z4 HS5.out
 simp [bodyPost, results, Tryz.results85, go_sem, hg_]
 exact HB5.out
theorem gElem_lt (G : GP) (ok : G.Ok) (gb : Nat) (s : ByteArray) (hl : s.size = G.size) (h0 : 0 < numOf s) (hc : numOf s < G.q.m) (w : World) (hG : GroupAt w gb G) :
  Calls Tryz.prog 85 #[.pointer (some ⟨gb, 0, none⟩), .string s] w fun e w' => e = .returned (.tuple #[elV G (numOf s), .bool true]) ∧ Below w.heap.size w w' := by
 have hs : s.size ≤ 32 := by have := ok.size_le; omega
 have HLT := Lib.hid (numOf_lt s hs)
 have HCI : Hid (cmpI (numOf s) G.q.m = -1) := by show _ = _; unfold cmpI; rw [if_pos (by omega)]
 have HEQ : Hid (∀ W, (Op.equalIn 10000 87 (.agg #[.int .u64 (dig (numOf s) 0 : Int), .int .u64 (dig (numOf s) 1 : Int), .int .u64 (dig (numOf s) 2 : Int), .int .u64 (dig (numOf s) 3 : Int)]) (.agg #[.int .u64 0, .int .u64 0, .int .u64 0, .int .u64 0])).run Tryz.prog W = .ok false W) :=
 fun W => eqZero (numOf s) (numOf_lt s hs) W false (by simp; omega)
 have HL := Lib.hid hl
 clear hl hc h0
 unfold elV limbV
 have OK := Lib.hid ok
 clear ok
 go_enter Tryz.func85, Tryz.ntmps85
 go_wp2_with fail
 obtain ⟨W0, hW0, hBW, hC⟩ := boxZ w 91
 rw [hW0]
 clear hW0
 have HG0 := Lib.hid (hG.up hBW)
 have HC := Lib.hid hC
 have HBW := Lib.hid hBW
 have hcl := hC.lt
 clear hG hC hBW
 refine (read_any s hs W0).mono ?_
 rintro e w2 ⟨rfl, hb2⟩
 have hz2 := hb2.size
 have HN : Hid (Blk (w2.alloc (Obj.cells #[.int .u64 (dig (numOf s) 0 : Int), .int .u64 (dig (numOf s) 1 : Int), .int .u64 (dig (numOf s) 2 : Int), .int .u64 (dig (numOf s) 3 : Int)] 87)) w2.heap.size 87 (lim (numOf s))) := Blk.new w2 _ _ _ rfl
 have HB3 := Lib.hid (hb2.alloc hz2 (Obj.cells #[.int .u64 (dig (numOf s) 0 : Int), .int .u64 (dig (numOf s) 1 : Int), .int .u64 (dig (numOf s) 2 : Int), .int .u64 (dig (numOf s) 3 : Int)] 87))
 clear hb2
 unfold limbV
 go_wp2_with fail
 generalize w2.alloc (Obj.cells #[.int .u64 (dig (numOf s) 0 : Int), .int .u64 (dig (numOf s) 1 : Int), .int .u64 (dig (numOf s) 2 : Int), .int .u64 (dig (numOf s) 3 : Int)] 87) = W3 at *
 have hG0 := HG0.out.up HB3.out
 have hgl := hG0.lt
 have hga := hG0.all OK.out
 have hn_ := Blk.l4 (numOf s) HN.out
 have hln := HN.out.lt
 have hne : ((s.size : Int) != (G.size : Int)) = false := by simp [HL.out]
 have hovg := fun (E : Over W3) o => E.cell (b := gb) o hgl
 have hovn := fun (E : Over W3) o => E.cell (b := w2.heap.size) o hln
 refine wp_region_over (by kernel_rfl) (by kernel_rfl) ?_
 iterate 14 (go_big_quiet_step (fail))
 refine wpQuiet_bin rfl .eql _ _ 87 _ rfl _ _ (.bool false) rfl rfl (fun _ => guardLimbs _ _ _ _ _ _) (fun _ => binLimbs (HEQ.out _)) ?_
 simp only [Act.put, List.setIfInBounds_toArray, List.set_cons_succ, List.set_cons_zero]
 repeat (go_big_quiet_step (first | (go_at_call 88; exact calls_over (cmp_is (numOf s) G.q.m (-1) HLT.out OK.out.q.lt4 HCI.out _))))
 refine wpQuiet_nil ?_
 rintro _ ⟨E, rfl⟩
 have HC3 := Lib.hid ((HC.out.below HB3.out HC.out.lt).below E.h (by have := HB3.out.size; omega))
 have HB33 := Lib.hid (below_up (below_up HBW.out HB3.out) E.h)
 have HN3 := Lib.hid (HN.out.below E.h HN.out.lt)
 have hG3 := hG0.up E.h
 clear hovg hovn hG0 hn_ hln HC HBW HB3 HN
 generalize E.w = w3 at *
 have hn_ := Blk.l4 (numOf s) HN3.out
 have hln := HN3.out.lt
 go_wp2_with fail
 refine wp_region_otail 6 (by kernel_rfl) (by kernel_rfl) ?_
 simp only [List.take_succ_cons, List.take_zero, List.drop_succ_cons, List.drop_zero]
 have hovn := fun (E : Over w3) o => E.cell (b := w2.heap.size) o hln
 repeat (go_big_quiet_step (first | (go_at_call 103; exact calls_over (in_any G.p OK.out.p gb 2 (numOf s) HLT.out _ (hG3.up (Over.h _)).p))))
 all_goals (try unfold limbV)
 repeat (go_big_quiet_step (first | (go_at_call 103; exact calls_over (in_any G.p OK.out.p gb 2 (numOf s) HLT.out _ (hG3.up (Over.h _)).p))))
 all_goals (try unfold limbV)
 repeat (go_big_quiet_step (first | (go_at_call 103; exact calls_over (in_any G.p OK.out.p gb 2 (numOf s) HLT.out _ (hG3.up (Over.h _)).p))))
 refine wpQuiet_nil ?_
 rintro _ ⟨E, rfl⟩
 have HZ := Lib.hid (HC3.out.below E.h HC3.out.lt)
 have HBB := Lib.hid (below_up HB33.out E.h)
 clear hovn
 generalize E.w = w4 at *
 obtain ⟨w5, hq5, HB5, HS5⟩ := fillE HBB HZ (by omega) (mont G.p.m (numOf s))
 have hz_ := Blk.z4 HZ.out
 have hzf_ := HZ.out.frozen
 go_wp2_with fail
 clear hz_
 have hg_ := Blk.l4 (mont G.p.m (numOf s)) HS5.out
 simp [bodyPost, results, Tryz.results85, go_sem, hg_]
 exact HB5.out
theorem gElem_eq (G : GP) (ok : G.Ok) (gb : Nat) (s : ByteArray) (hl : s.size = G.size) (h0 : 0 < numOf s) (hc : numOf s = G.q.m) (w : World) (hG : GroupAt w gb G) :
  Calls Tryz.prog 85 #[.pointer (some ⟨gb, 0, none⟩), .string s] w fun e w' => e = .returned (.tuple #[elV G (numOf s), .bool true]) ∧ Below w.heap.size w w' := by
 have hs : s.size ≤ 32 := by have := ok.size_le; omega
 have HLT := Lib.hid (numOf_lt s hs)
 have HCI : Hid (cmpI (numOf s) G.q.m = 0) := by show _ = _; unfold cmpI; rw [if_neg (by omega), if_neg (by omega)]
 have HEQ : Hid (∀ W, (Op.equalIn 10000 87 (.agg #[.int .u64 (dig (numOf s) 0 : Int), .int .u64 (dig (numOf s) 1 : Int), .int .u64 (dig (numOf s) 2 : Int), .int .u64 (dig (numOf s) 3 : Int)]) (.agg #[.int .u64 0, .int .u64 0, .int .u64 0, .int .u64 0])).run Tryz.prog W = .ok false W) :=
 fun W => eqZero (numOf s) (numOf_lt s hs) W false (by simp; omega)
 have HL := Lib.hid hl
 clear hl hc h0
 unfold elV limbV
 have OK := Lib.hid ok
 clear ok
 go_enter Tryz.func85, Tryz.ntmps85
 go_wp2_with fail
 obtain ⟨W0, hW0, hBW, hC⟩ := boxZ w 91
 rw [hW0]
 clear hW0
 have HG0 := Lib.hid (hG.up hBW)
 have HC := Lib.hid hC
 have HBW := Lib.hid hBW
 have hcl := hC.lt
 clear hG hC hBW
 refine (read_any s hs W0).mono ?_
 rintro e w2 ⟨rfl, hb2⟩
 have hz2 := hb2.size
 have HN : Hid (Blk (w2.alloc (Obj.cells #[.int .u64 (dig (numOf s) 0 : Int), .int .u64 (dig (numOf s) 1 : Int), .int .u64 (dig (numOf s) 2 : Int), .int .u64 (dig (numOf s) 3 : Int)] 87)) w2.heap.size 87 (lim (numOf s))) := Blk.new w2 _ _ _ rfl
 have HB3 := Lib.hid (hb2.alloc hz2 (Obj.cells #[.int .u64 (dig (numOf s) 0 : Int), .int .u64 (dig (numOf s) 1 : Int), .int .u64 (dig (numOf s) 2 : Int), .int .u64 (dig (numOf s) 3 : Int)] 87))
 clear hb2
 unfold limbV
 go_wp2_with fail
 generalize w2.alloc (Obj.cells #[.int .u64 (dig (numOf s) 0 : Int), .int .u64 (dig (numOf s) 1 : Int), .int .u64 (dig (numOf s) 2 : Int), .int .u64 (dig (numOf s) 3 : Int)] 87) = W3 at *
 have hG0 := HG0.out.up HB3.out
 have hgl := hG0.lt
 have hga := hG0.all OK.out
 have hn_ := Blk.l4 (numOf s) HN.out
 have hln := HN.out.lt
 have hne : ((s.size : Int) != (G.size : Int)) = false := by simp [HL.out]
 have hovg := fun (E : Over W3) o => E.cell (b := gb) o hgl
 have hovn := fun (E : Over W3) o => E.cell (b := w2.heap.size) o hln
 refine wp_region_over (by kernel_rfl) (by kernel_rfl) ?_
 iterate 14 (go_big_quiet_step (fail))
 refine wpQuiet_bin rfl .eql _ _ 87 _ rfl _ _ (.bool false) rfl rfl (fun _ => guardLimbs _ _ _ _ _ _) (fun _ => binLimbs (HEQ.out _)) ?_
 simp only [Act.put, List.setIfInBounds_toArray, List.set_cons_succ, List.set_cons_zero]
 repeat (go_big_quiet_step (first | (go_at_call 88; exact calls_over (cmp_is (numOf s) G.q.m (0) HLT.out OK.out.q.lt4 HCI.out _))))
 refine wpQuiet_nil ?_
 rintro _ ⟨E, rfl⟩
 have HC3 := Lib.hid ((HC.out.below HB3.out HC.out.lt).below E.h (by have := HB3.out.size; omega))
 have HB33 := Lib.hid (below_up (below_up HBW.out HB3.out) E.h)
 have HN3 := Lib.hid (HN.out.below E.h HN.out.lt)
 have hG3 := hG0.up E.h
 clear hovg hovn hG0 hn_ hln HC HBW HB3 HN
 generalize E.w = w3 at *
 have hn_ := Blk.l4 (numOf s) HN3.out
 have hln := HN3.out.lt
 go_wp2_with fail
 refine wp_region_otail 6 (by kernel_rfl) (by kernel_rfl) ?_
 simp only [List.take_succ_cons, List.take_zero, List.drop_succ_cons, List.drop_zero]
 have hovn := fun (E : Over w3) o => E.cell (b := w2.heap.size) o hln
 repeat (go_big_quiet_step (first | (go_at_call 103; exact calls_over (in_any G.p OK.out.p gb 2 (numOf s) HLT.out _ (hG3.up (Over.h _)).p))))
 all_goals (try unfold limbV)
 repeat (go_big_quiet_step (first | (go_at_call 103; exact calls_over (in_any G.p OK.out.p gb 2 (numOf s) HLT.out _ (hG3.up (Over.h _)).p))))
 all_goals (try unfold limbV)
 repeat (go_big_quiet_step (first | (go_at_call 103; exact calls_over (in_any G.p OK.out.p gb 2 (numOf s) HLT.out _ (hG3.up (Over.h _)).p))))
 refine wpQuiet_nil ?_
 rintro _ ⟨E, rfl⟩
 have HZ := Lib.hid (HC3.out.below E.h HC3.out.lt)
 have HBB := Lib.hid (below_up HB33.out E.h)
 clear hovn
 generalize E.w = w4 at *
 obtain ⟨w5, hq5, HB5, HS5⟩ := fillE HBB HZ (by omega) (mont G.p.m (numOf s))
 have hz_ := Blk.z4 HZ.out
 have hzf_ := HZ.out.frozen
 go_wp2_with fail
 clear hz_
 have hg_ := Blk.l4 (mont G.p.m (numOf s)) HS5.out
 simp [bodyPost, results, Tryz.results85, go_sem, hg_]
 exact HB5.out
end Go.Proofs.YtjmeakfjfpnciaaGreat
namespace Go.Proofs.YtjmeakfjfpnciaaGreat
open Go.RowKit
theorem numL_snoc (c : UInt8) : ∀ l : List UInt8, numL (l ++ [c]) = numL l * 256 + c.toNat
 | [] => by simp [numL]
 | d :: t => by
  rw [List.cons_append, numL, numL, numL_snoc c t, List.length_append, List.length_singleton, Nat.pow_succ, Nat.add_mul, Nat.mul_assoc, Nat.add_assoc]
def numHead (s : ByteArray) (k : Nat) : Nat := numL (s.data.toList.take k)
theorem numHead_zero (s : ByteArray) : numHead s 0 = 0 := by simp [numHead, numL]
theorem numHead_all (s : ByteArray) : numHead s s.size = numOf s := by
 have : s.data.toList.take s.size = s.data.toList := List.take_of_length_le (Nat.le_refl _)
 simp only [numHead, this, numOf]
theorem numHead_succ (s : ByteArray) (k : Nat) (hk : k < s.size) : numHead s (k + 1) = numHead s k * 256 + s[k].toNat := by
 have h : s.data.toList.take (k + 1) = s.data.toList.take k ++ [s[k]] := by
  rw [List.take_succ_eq_append_getElem (by simpa using hk)]; rfl
 rw [numHead, h, numL_snoc, numHead]
theorem numL_bytes (a : Nat) : ∀ size, numL ((textL a size size).map fun n => UInt8.ofNat n.toNat) = a % 256 ^ size
 | 0 => by simp [textL, numL, Nat.mod_one]
 | size + 1 => by
  have e : textL a (size + 1) (size + 1) = (byteAt a size : Int) :: textL a size size := by
   unfold textL
   rw [List.range_succ_eq_map, List.map_cons, List.map_map]
   congr 1
   ·simp
   ·refine List.map_congr_left fun p hp => ?_
    have hp' : p < size := by simpa using hp
    simp only [Function.comp_apply]
    rw [if_pos (by omega), if_pos (by omega), show size + 1 - 1 - (p + 1) = size - 1 - p by omega]
  rw [e, List.map_cons, numL, numL_bytes a size, List.length_map, textL_length]
  have hb : (UInt8.ofNat ((byteAt a size : Nat) : Int).toNat).toNat = a / 256 ^ size % 256 := by
   rw [Int.toNat_natCast, UInt8.toNat_ofNat']
   unfold byteAt
   omega
  rw [hb, Nat.pow_succ, Nat.mod_mul, Nat.add_comm, Nat.mul_comm]
theorem numOf_textS (a size : Nat) : numOf (textS a size) = a % 256 ^ size := numL_bytes a size
theorem textS_size (a size : Nat) : (textS a size).size = size := by rw [textS, strOfNums_size, textL_length]
theorem scV_mod (G : GP) (x : Nat) : scV G (x % G.q.m) = scV G x := by unfold scV; rw [mont_mod]
theorem scV_eq (G : GP) {x y : Nat} (h : x % G.q.m = y % G.q.m) : scV G x = scV G y := by rw [← scV_mod G x, ← scV_mod G y, h]
theorem gByte_any (G : GP) (ok : G.Ok) (gb c : Nat) (hc : c < 256) (w : World) (hG : GroupAt w gb G) :
  Calls Tryz.prog 180 #[.pointer (some ⟨gb, 0, none⟩), .int .u8 (c : Int)] w fun e w' => e = .returned (scV G c) ∧ Below w.heap.size w w' := by
 have OK := Lib.hid ok
 clear ok
 unfold scV limbV
 go_enter Tryz.func180, Tryz.ntmps180
 go_wp2_with fail
 obtain ⟨W0, hW0, hBW, hC⟩ := boxZ w 89
 rw [hW0]
 clear hW0
 have hG0 := hG.up hBW
 have HC := Lib.hid hC
 have HBW := Lib.hid hBW
 clear hC hBW hG
 refine wp_region_otail 12 (by kernel_rfl) (by kernel_rfl) ?_
 simp only [List.take_succ_cons, List.take_zero, List.drop_succ_cons, List.drop_zero]
 repeat (go_big_quiet_step (first | (go_at_call 152; exact calls_over (onceSmall G.q OK.out.q gb 15 c hc OK.out.odd _ (hG0.up (Over.h _)).q)) | (go_at_call 103; exact calls_over (inSmall G.q OK.out.q gb 15 c (by simp only [BB]; omega) _ (hG0.up (Over.h _)).q))))
 all_goals (try unfold limbV)
 repeat (go_big_quiet_step (first | (go_at_call 152; exact calls_over (onceSmall G.q OK.out.q gb 15 c hc OK.out.odd _ (hG0.up (Over.h _)).q)) | (go_at_call 103; exact calls_over (inSmall G.q OK.out.q gb 15 c (by simp only [BB]; omega) _ (hG0.up (Over.h _)).q))))
 all_goals (try unfold limbV)
 repeat (go_big_quiet_step (first | (go_at_call 152; exact calls_over (onceSmall G.q OK.out.q gb 15 c hc OK.out.odd _ (hG0.up (Over.h _)).q)) | (go_at_call 103; exact calls_over (inSmall G.q OK.out.q gb 15 c (by simp only [BB]; omega) _ (hG0.up (Over.h _)).q))))
 refine wpQuiet_nil ?_
 rintro _ ⟨E, rfl⟩
 have HZ := Lib.hid (HC.out.below E.h HC.out.lt)
 have HBB := Lib.hid (below_up HBW.out E.h)
 generalize E.w = w3 at *
 obtain ⟨w5, hq5, HB5, HS5⟩ := fillE HBB HZ (by omega) (mont G.q.m c)
 have hz_ := Blk.z4 HZ.out
 have hzf_ := HZ.out.frozen
 go_wp2_with fail
 clear hz_
 have hg_ := Blk.l4 (mont G.q.m c) HS5.out
 simp [bodyPost, results, Tryz.results180, go_sem, hg_]
 exact HB5.out
theorem boxZZZ (w : World) (t0 t1 t2 : TypeId) : ∃ W, ((w.alloc (Obj.cells #[.int .u64 0, .int .u64 0, .int .u64 0, .int .u64 0] t0)).alloc (Obj.cells #[.int .u64 0, .int .u64 0, .int .u64 0, .int .u64 0] t1)).alloc (Obj.cells #[.int .u64 0, .int .u64 0, .int .u64 0, .int .u64 0] t2) = W ∧ Below w.heap.size w W ∧ Blk W w.heap.size t0 [0, 0, 0, 0] ∧ Blk W (w.heap.size + 1) t1 [0, 0, 0, 0] ∧ Blk W (w.heap.size + 2) t2 [0, 0, 0, 0] := by
 refine ⟨_, rfl, (((Below.refl _ _).alloc (Nat.le_refl _) _).alloc (by simp) _).alloc (by simp; omega) _, ?_, ?_, ?_⟩
 ·have h := (((Blk.new w t0 [0, 0, 0, 0] _ rfl).alloc (Obj.cells #[.int .u64 0, .int .u64 0, .int .u64 0, .int .u64 0] t1)).alloc (Obj.cells #[.int .u64 0, .int .u64 0, .int .u64 0, .int .u64 0] t2))
  exact h
 ·have h := ((Blk.new (w.alloc (Obj.cells #[.int .u64 0, .int .u64 0, .int .u64 0, .int .u64 0] t0)) t1 [0, 0, 0, 0] _ rfl).alloc (Obj.cells #[.int .u64 0, .int .u64 0, .int .u64 0, .int .u64 0] t2))
  rw [World.size_alloc] at h
  exact h
 ·have h := (Blk.new ((w.alloc (Obj.cells #[.int .u64 0, .int .u64 0, .int .u64 0, .int .u64 0] t0)).alloc (Obj.cells #[.int .u64 0, .int .u64 0, .int .u64 0, .int .u64 0] t1)) t2 [0, 0, 0, 0] _ rfl)
  rw [World.size_alloc, World.size_alloc] at h
  exact h
theorem Blk.fillOther {W : World} {b c : Nat} {t : TypeId} {xs : List Int} (h : Blk W b t xs) (hne : b ≠ c) (n : Nat) : Blk (((((W).setCell ⟨c, 0, none⟩ (.int .u64 (dig (n) 0 : Int))).setCell ⟨c, 1, none⟩ (.int .u64 (dig (n) 1 : Int))).setCell ⟨c, 2, none⟩ (.int .u64 (dig (n) 2 : Int))).setCell ⟨c, 3, none⟩ (.int .u64 (dig (n) 3 : Int))) b t xs :=
 (((h.other hne _ _).other hne _ _).other hne _ _).other hne _ _
theorem gReduce_any (G : GP) (ok : G.Ok) (gb : Nat) (s : ByteArray) (hs : s.size ≤ maxLen) (w : World) (hG : GroupAt w gb G) :
  Calls Tryz.prog 142 #[.pointer (some ⟨gb, 0, none⟩), .string s] w fun e w' => e = .returned (scV G (numOf s)) ∧ Below w.heap.size w w' := by
 unfold maxLen at hs
 have OK := Lib.hid ok
 clear ok
 unfold scV limbV
 go_enter Tryz.func142, Tryz.ntmps142
 go_wp2_with fail
 obtain ⟨W0, hW0, hBW, hC, hO, hS⟩ := boxZZZ w 89 89 89
 rw [hW0]
 clear hW0
 have HG := Lib.hid hG
 have HC := Lib.hid hC
 have HO := Lib.hid hO
 have HS := Lib.hid hS
 have HBW := Lib.hid hBW
 clear hG hC hO hS hBW
 refine (inSmall G.q OK.out.q gb 15 256 (by decide) W0 (HG.out.below HBW.out HG.out.lt).q).mono ?_
 rintro e w2 ⟨rfl, hb2⟩
 have HS2 := Lib.hid (HS.out.below hb2 HS.out.lt)
 have HB2 := Lib.hid (below_up HBW.out hb2)
 have HO3 : Hid (Blk (((((w2).setCell ⟨w.heap.size + 2, 0, none⟩ (.int .u64 (dig (mont G.q.m 256) 0 : Int))).setCell ⟨w.heap.size + 2, 1, none⟩ (.int .u64 (dig (mont G.q.m 256) 1 : Int))).setCell ⟨w.heap.size + 2, 2, none⟩ (.int .u64 (dig (mont G.q.m 256) 2 : Int))).setCell ⟨w.heap.size + 2, 3, none⟩ (.int .u64 (dig (mont G.q.m 256) 3 : Int))) (w.heap.size + 1) 89 (lim (mont G.q.m (numHead s 0)))) := by
  rw [numHead_zero, mont_zero]
  exact (HO.out.below hb2 HO.out.lt).fillOther (by omega) _
 have HC3 : Hid (Blk (((((w2).setCell ⟨w.heap.size + 2, 0, none⟩ (.int .u64 (dig (mont G.q.m 256) 0 : Int))).setCell ⟨w.heap.size + 2, 1, none⟩ (.int .u64 (dig (mont G.q.m 256) 1 : Int))).setCell ⟨w.heap.size + 2, 2, none⟩ (.int .u64 (dig (mont G.q.m 256) 2 : Int))).setCell ⟨w.heap.size + 2, 3, none⟩ (.int .u64 (dig (mont G.q.m 256) 3 : Int))) w.heap.size 89 [0, 0, 0, 0]) := (HC.out.below hb2 HC.out.lt).fillOther (by omega) _
 clear hb2 HO HS HC HBW
 unfold limbV
 have HS3 := Lib.hid (HS2.out.fill rfl (mont G.q.m 256))
 have HB3 := Lib.hid (below_fill (n := mont G.q.m 256) (b := w.heap.size + 2) HB2.out (by omega))
 have hz_ := Blk.z4 HS2.out
 have hzf_ := HS2.out.frozen
 go_wp2_with fail
 generalize (((((w2).setCell ⟨w.heap.size + 1 + 1, 0, none⟩ (.int .u64 (dig (mont G.q.m 256) 0 : Int))).setCell ⟨w.heap.size + 1 + 1, 1, none⟩ (.int .u64 (dig (mont G.q.m 256) 1 : Int))).setCell ⟨w.heap.size + 1 + 1, 2, none⟩ (.int .u64 (dig (mont G.q.m 256) 2 : Int))).setCell ⟨w.heap.size + 1 + 1, 3, none⟩ (.int .u64 (dig (mont G.q.m 256) 3 : Int))) = W3 at *
 clear hz_ hzf_ HS2 HB2
 go_loopw [7, 16] (fun _ i wr => ∃ k : Nat, k ≤ s.size ∧ i = .int .i64 k ∧ Hid (Blk wr (w.heap.size + 1) 89 (lim (mont G.q.m (numHead s k)))) ∧ Hid (Blk wr (w.heap.size + 2) 89 (lim (mont G.q.m 256))) ∧ Hid (Blk wr w.heap.size 89 [0, 0, 0, 0]) ∧ Hid (Below w.heap.size w wr)) (fun _ i _ => s.size - (intOf i).toNat)
 case atStart => exact ⟨0, Nat.zero_le _, rfl, HO3.out, HS3.out, HC3.out, HB3.out⟩
 case round =>
  clear HO3 HS3 HC3 HB3
  obtain ⟨k, hk, rfl, HO, HS, HC, HB⟩ := hrel
  have ho_ := Blk.l4 (mont G.q.m (numHead s k)) HO.out
  have hlo := HO.out.lt
  by_cases hkl : k < s.size
  ·have hs_ := Blk.l4 (mont G.q.m 256) HS.out
   have hls := HS.out.lt
   have hG0 := HG.out.below HB.out HG.out.lt
   have hc256 := (s[k]'hkl).toNat_lt
   go_wp2_with fail
   refine wp_region_otail 11 (by kernel_rfl) (by kernel_rfl) ?_
   simp only [List.take_succ_cons, List.take_zero, List.drop_succ_cons, List.drop_zero]
   have hov0 := fun (E : Over wr) o => E.cell (b := w.heap.size + 1) o hlo
   have hov1 := fun (E : Over wr) o => E.cell (b := w.heap.size + 2) o hls
   repeat (go_big_quiet_step (first | (go_at_call 84; exact calls_over (gMul_any G OK.out gb (numHead s k) 256 _ (hG0.up (Over.h _)))) | (go_at_call 180; exact calls_over (gByte_any G OK.out gb (s[k]'hkl).toNat hc256 _ (hG0.up (Over.h _)))) | (go_at_call 78; exact calls_over (gAdd_any G OK.out gb (numHead s k * 256) (s[k]'hkl).toNat _ (hG0.up (Over.h _))))))
   all_goals (try unfold limbV)
   repeat (go_big_quiet_step (first | (go_at_call 84; exact calls_over (gMul_any G OK.out gb (numHead s k) 256 _ (hG0.up (Over.h _)))) | (go_at_call 180; exact calls_over (gByte_any G OK.out gb (s[k]'hkl).toNat hc256 _ (hG0.up (Over.h _)))) | (go_at_call 78; exact calls_over (gAdd_any G OK.out gb (numHead s k * 256) (s[k]'hkl).toNat _ (hG0.up (Over.h _))))))
   all_goals (try unfold limbV)
   repeat (go_big_quiet_step (first | (go_at_call 84; exact calls_over (gMul_any G OK.out gb (numHead s k) 256 _ (hG0.up (Over.h _)))) | (go_at_call 180; exact calls_over (gByte_any G OK.out gb (s[k]'hkl).toNat hc256 _ (hG0.up (Over.h _)))) | (go_at_call 78; exact calls_over (gAdd_any G OK.out gb (numHead s k * 256) (s[k]'hkl).toNat _ (hG0.up (Over.h _))))))
   refine wpQuiet_nil ?_
   rintro _ ⟨E, rfl⟩
   have HO2 := Lib.hid (HO.out.below E.h HO.out.lt)
   have HS2 := Lib.hid (HS.out.below E.h HS.out.lt)
   have HC2 := Lib.hid (HC.out.below E.h HC.out.lt)
   have HB2 := Lib.hid (HB.out.trans (E.h.mono HB.out.size))
   clear hov0 hov1 ho_ hs_ hG0
   generalize E.w = w3 at *
   rw [← numHead_succ s k hkl]
   unfold scV limbV
   have ho_ := Blk.l4 (mont G.q.m (numHead s k)) HO2.out
   have hof_ := HO2.out.frozen
   have HO4 := Lib.hid (HO2.out.fill rfl (mont G.q.m (numHead s (k + 1))))
   have HS4 := Lib.hid (HS2.out.fillOther (c := w.heap.size + 1) (by omega) (mont G.q.m (numHead s (k + 1))))
   have HC4 := Lib.hid (HC2.out.fillOther (c := w.heap.size + 1) (by omega) (mont G.q.m (numHead s (k + 1))))
   have HB4 := Lib.hid (below_fill (n := mont G.q.m (numHead s (k + 1))) (b := w.heap.size + 1) HB2.out (by omega))
   go_wp2_with fail
   go_roundw
   case rel => exact ⟨k + 1, by omega, by go_num, HO4.out, HS4.out, HC4.out, HB4.out⟩
   case measure => simp [intOf]; omega
  ·have hks : k = s.size := by omega
   subst hks
   rw [numHead_all] at ho_
   have HZ := HC
   have HBB := HB
   obtain ⟨w5, hq5, HB5, HS5⟩ := fillE HBB HZ (by omega) (mont G.q.m (numOf s))
   have hz_ := Blk.z4 HZ.out
   have hzf_ := HZ.out.frozen
   go_wp2_with fail
   clear hz_
   have hg_ := Blk.l4 (mont G.q.m (numOf s)) HS5.out
   simp [bodyPost, results, Tryz.results142, go_sem, hg_]
   exact HB5.out
end Go.Proofs.YtjmeakfjfpnciaaGreat
namespace Go.Proofs.YtjmeakfjfpnciaaGreat
open Go.RowKit
theorem text8 (n : Nat) (hn : n < BB) (w : World) : Calls Tryz.prog 90 #[.agg #[.int .u64 (n : Int), .int .u64 0, .int .u64 0, .int .u64 0], .int .i64 8] w fun e w' => e = .returned (.string (textS n 8)) ∧ Below w.heap.size w w' := by
 have h := text_any n 8 (by decide) w
 rwa [limbV_small n hn] at h
theorem gNumber_pos (G : GP) (ok : G.Ok) (gb n : Nat) (hn : n ≤ 9223372036854775807) (w : World) (hG : GroupAt w gb G) :
  Calls Tryz.prog 93 #[.pointer (some ⟨gb, 0, none⟩), .int .i64 (n : Int)] w fun e w' => e = .returned (scV G n) ∧ Below w.heap.size w w' := by
 have OK := Lib.hid ok
 clear ok
 have hn2 : (n : Int) < 18446744073709551616 := by omega
 have hneg : ¬ (n : Int) < 0 := by omega
 have HNUM : Hid (numOf (textS n 8) = n) := by
  show _ = _
  rw [numOf_textS]
  exact Nat.mod_eq_of_lt (by omega)
 have hw : IntKind.u64.wrap (n : Int) = (n : Int) := wraps_u64 _ (by omega) (by omega)
 unfold scV limbV
 go_enter Tryz.func93, Tryz.ntmps93
 go_wp2_with fail
 obtain ⟨W0, hW0, hBW, hC⟩ := boxZ w 89
 rw [hW0]
 clear hW0
 have HG := Lib.hid hG
 have HC := Lib.hid hC
 have HBW := Lib.hid hBW
 clear hG hC hBW
 refine (text8 n (by simp only [BB]; omega) W0).mono ?_
 rintro e w2 ⟨rfl, hb2⟩
 have HB2 := Lib.hid (below_up HBW.out hb2)
 have HC2 := Lib.hid (HC.out.below hb2 HC.out.lt)
 clear hb2 HC HBW
 go_wp2_with fail
 refine (gReduce_any G OK.out gb (textS n 8) (by rw [textS_size]; unfold maxLen; omega) w2 (HG.out.below HB2.out HG.out.lt)).mono ?_
 rintro e w3 ⟨rfl, hb3⟩
 have HBB := Lib.hid (HB2.out.trans (hb3.mono HB2.out.size))
 have HZ := Lib.hid (HC2.out.below hb3 HC2.out.lt)
 clear hb3 HC2 HB2
 rw [HNUM.out]
 unfold scV limbV
 obtain ⟨w5, hq5, HB5, HS5⟩ := fillE HBB HZ (by omega) (mont G.q.m n)
 have hz_ := Blk.z4 HZ.out
 have hzf_ := HZ.out.frozen
 go_wp2_with fail
 clear hz_
 have hg_ := Blk.l4 (mont G.q.m n) HS5.out
 simp [bodyPost, results, Tryz.results93, go_sem, hg_]
 exact HB5.out
def modI (q : Nat) (n : Int) : Nat := (n % (q : Int)).toNat
theorem modI_pos (q n : Nat) : modI q (n : Int) = n % q := by
 unfold modI; rw [← Int.natCast_emod]; rfl
theorem modI_neg (q m : Nat) (hq : 0 < q) : (q - (m + 1) % q) % q = modI q (-(m : Int) - 1) := by
 unfold modI
 have hr := Nat.mod_lt (m + 1) hq
 have hd := Nat.div_add_mod (m + 1) q
 generalize (m + 1) % q = r at *
 generalize (m + 1) / q = d at *
 have e : (-(m : Int) - 1) = ((q - r : Nat) : Int) + (q : Int) * (-(d : Int) - 1) := by
  rw [Int.mul_sub, Int.mul_one, Int.mul_neg]
  have : (q : Int) * (d : Int) = ((q * d : Nat) : Int) := by simp
  rw [this]; omega
 rw [e, Int.add_mul_emod_self_left, ← Int.natCast_emod]
 rfl
theorem gNumber_neg (G : GP) (ok : G.Ok) (gb m : Nat) (hm : m ≤ 9223372036854775807) (w : World) (hG : GroupAt w gb G) :
  Calls Tryz.prog 93 #[.pointer (some ⟨gb, 0, none⟩), .int .i64 (-(m : Int) - 1)] w fun e w' => e = .returned (scV G (modI G.q.m (-(m : Int) - 1))) ∧ Below w.heap.size w w' := by
 have OK := Lib.hid ok
 clear ok
 obtain ⟨n, hn⟩ : ∃ n : Int, n = -(m : Int) - 1 := ⟨_, rfl⟩
 rw [← hn]
 have hneg : n < 0 := by omega
 have e1 : IntKind.i64.wrap (n + 1) = n + 1 := IntWalk.i64_in _ (by omega)
 have e2 : IntKind.i64.wrap (-(n + 1)) = (m : Int) := by rw [IntWalk.i64_in _ (by omega)]; omega
 have HRES : Hid (scV G (modI G.q.m n) = scV G (G.q.m - (m + 1) % G.q.m)) := scV_eq G (by
  rw [hn, ← modI_neg _ _ OK.out.q.pos, Nat.mod_mod])
 have HM := Lib.hid hn
 clear hn
 rw [HRES.out]
 unfold scV limbV
 go_enter Tryz.func93, Tryz.ntmps93
 go_wp2_with fail
 obtain ⟨W0, hW0, hBW, hC⟩ := boxZ w 89
 rw [hW0]
 clear hW0
 have HG := Lib.hid hG
 have HC := Lib.hid hC
 have HBW := Lib.hid hBW
 clear hG hC hBW
 refine (gNumber_pos G OK.out gb m hm W0 (HG.out.below HBW.out HG.out.lt)).mono ?_
 rintro e w2 ⟨rfl, hb2⟩
 have HB2 := Lib.hid (below_up HBW.out hb2)
 have HC2 := Lib.hid (HC.out.below hb2 HC.out.lt)
 clear hb2 HC HBW
 go_wp2_with fail
 refine (gPlusOne_any G OK.out gb m w2 (HG.out.below HB2.out HG.out.lt)).mono ?_
 rintro e w3 ⟨rfl, hb3⟩
 have HB3 := Lib.hid (HB2.out.trans (hb3.mono HB2.out.size))
 have HC3 := Lib.hid (HC2.out.below hb3 HC2.out.lt)
 clear hb3 HC2 HB2
 rw [← scV_mod G (m + 1)]
 go_wp2_with fail
 refine (gNeg_any G OK.out gb ((m + 1) % G.q.m) (Nat.le_of_lt (Nat.mod_lt _ OK.out.q.pos)) w3 (HG.out.below HB3.out HG.out.lt)).mono ?_
 rintro e w4 ⟨rfl, hb4⟩
 have HBB := Lib.hid (HB3.out.trans (hb4.mono HB3.out.size))
 have HZ := Lib.hid (HC3.out.below hb4 HC3.out.lt)
 clear hb4 HC3 HB3
 unfold scV limbV
 obtain ⟨w5, hq5, HB5, HS5⟩ := fillE HBB HZ (by omega) (mont G.q.m (G.q.m - (m + 1) % G.q.m))
 have hz_ := Blk.z4 HZ.out
 have hzf_ := HZ.out.frozen
 go_wp2_with fail
 clear hz_
 have hg_ := Blk.l4 (mont G.q.m (G.q.m - (m + 1) % G.q.m)) HS5.out
 simp [bodyPost, results, Tryz.results93, go_sem, hg_]
 exact HB5.out
theorem gNumber_any (G : GP) (ok : G.Ok) (gb : Nat) (n : Int) (h1 : -9223372036854775808 ≤ n) (h2 : n ≤ 9223372036854775807) (w : World) (hG : GroupAt w gb G) :
  Calls Tryz.prog 93 #[.pointer (some ⟨gb, 0, none⟩), .int .i64 n] w fun e w' => e = .returned (scV G (modI G.q.m n)) ∧ Below w.heap.size w w' := by
 rcases Int.lt_or_le n 0 with h | h
 ·obtain ⟨m, hm⟩ : ∃ m : Nat, n = -(m : Int) - 1 := ⟨(-n - 1).toNat, by omega⟩
  subst hm
  exact gNumber_neg G ok gb m (by omega) w hG
 ·obtain ⟨m, rfl⟩ := Int.eq_ofNat_of_zero_le h
  rw [modI_pos, scV_mod]
  exact gNumber_pos G ok gb m (by omega) w hG
theorem zeroLimbs (w : World) : (zeroValue 87).run Tryz.prog w = .ok (.agg #[.int .u64 0, .int .u64 0, .int .u64 0, .int .u64 0]) w := by kernel_rfl
theorem allocLimbs (ρ : Operand → Value) (o : Oper) (ho : o.op = .alloc 87) (w : World) : (execOp ρ o).run Tryz.prog w = .ok (.value (.pointer (some ⟨w.heap.size, 0, none⟩))) (w.alloc (Obj.cells #[.int .u64 0, .int .u64 0, .int .u64 0, .int .u64 0] 87)) := by
 unfold execOp
 rw [ho]
 simp only [Instr.alloc, Sem.run_bind, zeroLimbs, Result.andThen_ok]
 rfl
theorem newLimbs (W0 : World) : Blk (W0.alloc (Obj.cells #[.int .u64 0, .int .u64 0, .int .u64 0, .int .u64 0] 87)).drew W0.heap.size 87 [0, 0, 0, 0] := Blk.new W0 _ [0, 0, 0, 0] _ rfl
def lowN (G : GP) (y : Nat) : Nat := if G.q.m < y % G.p.m then G.p.m - y % G.p.m else y % G.p.m
theorem minusLow (a b : Nat) (ha : a < BB ^ 4) (h : b ≤ a) (w : World) : Calls Tryz.prog 89 #[limbV a, limbV b] w fun e w' => e = .returned (.tuple #[limbV (a - b), .int .u64 0]) ∧ Below w.heap.size w w' := by
 have h1 := minus_any a b (by omega) w
 rw [sub256_ok a b ha h, under_four a b ha (by omega), if_neg (by omega)] at h1
 exact h1
theorem gText_any (G : GP) (ok : G.Ok) (gb y : Nat) (w : World) (hG : GroupAt w gb G) :
  Calls Tryz.prog 43 #[.pointer (some ⟨gb, 0, none⟩), elV G y] w fun e w' => e = .returned (.string (textS (lowN G y) G.size)) ∧ Below w.heap.size w w' := by
 have OK := Lib.hid ok
 clear ok
 have HGW := Lib.hid hG.lt
 obtain ⟨N, hN⟩ : ∃ N, y % G.p.m = N := ⟨_, rfl⟩
 have HLOW : Hid (lowN G y = if G.q.m < N then G.p.m - N else N) := by show _ = _; unfold lowN; rw [hN]
 have hNp : N < G.p.m := by rw [← hN]; exact Nat.mod_lt _ OK.out.p.pos
 have HN := Lib.hid hN
 have HNP := Lib.hid hNp
 clear hN hNp
 unfold elV limbV
 go_enter Tryz.func43, Tryz.ntmps43
 go_wp2_with fail
 obtain ⟨W0, hW0, hBW, hX⟩ := boxL w 91 (mont G.p.m y)
 rw [hW0]
 clear hW0
 have hG0 := hG.up hBW
 have hx_ := Blk.l4 (mont G.p.m y) hX
 have hlx := hX.lt
 have HBW := Lib.hid hBW
 clear hX hBW hG
 go_cut [5] from 6 to 11 (fun v w2 => ∃ b, v = .pointer (some ⟨b, 0, none⟩) ∧ Hid (W0.heap.size ≤ b) ∧ Hid (Blk w2 b 87 (lim N)) ∧ Hid (Below W0.heap.size W0 w2))
 case first =>
  refine wp_region_tree (fun w' => ∃ E : Over W0, w' = E.w) (.qs [0, 1, 2, 3, 4] (.two 5 (.a 6 (.a 7 .done)) 6 (.a 5 (.a 7 .done)))) (by kernel_rfl) (by kernel_rfl) (fun _ _ d _ _ h => by cases d <;> exact h) ?_ ?_
  ·exact ⟨⟨_, (Below.refl _ _).drew⟩, rfl⟩
  have hov := fun (E : Over W0) o => E.cell (b := w.heap.size) o (by omega)
  simp only [Tree.qs]
  repeat (refine tree_q rfl rfl ?_; go_big_quiet_step (fail); refine wpQuiet_nil ?_)
  refine tree_two rfl rfl ?call ?alloc
  case call =>
   intro K hK
   go_simp
   refine (outM G.p OK.out.p gb 2 y _ (hG0.up (Below.refl _ _).drew).p).mono ?_
   rintro e w2 ⟨rfl, hb2⟩
   rw [HN.out]
   unfold limbV
   have hb2' : Below W0.heap.size W0 w2 := (Below.refl _ _).drew.trans hb2
   have HB2 := Lib.hid hb2'
   refine hK _ _ ⟨⟨⟨w2, hb2'⟩, rfl⟩, ?_⟩
   clear hK K hb2 hb2'
   refine tree_a rfl (fun K hK => ?_)
   go_simp
   refine hK _ _ ⟨⟨⟨_, HB2.out.alloc HB2.out.size _⟩, rfl⟩, ?_⟩
   clear hK K
   refine tree_a rfl (fun K hK => ?_)
   go_simp
   refine hK _ _ ⟨⟨⟨_, HB2.out.alloc HB2.out.size _⟩, rfl⟩, ?_⟩
   clear hK K
   refine tree_end ?_
   go_wp2_with fail
   go_meet
   case rel => exact ⟨_, rfl, HB2.out.size, Blk.new w2 _ _ _ rfl, HB2.out.alloc HB2.out.size _⟩
  case alloc =>
   intro K hK
   refine if_wanted rfl ?_
   refine oper_value (allocLimbs _ _ rfl _) ?_
   simp only [Act.put, List.setIfInBounds_toArray, List.set_cons_succ, List.set_cons_zero]
   have hal : Below W0.heap.size W0 (W0.alloc (Obj.cells #[.int .u64 0, .int .u64 0, .int .u64 0, .int .u64 0] 87)).drew := ((Below.refl _ _).alloc (Nat.le_refl _) _).drew
   have hnew := newLimbs W0
   refine hK _ _ ⟨⟨⟨_, hal⟩, rfl⟩, ?_⟩
   clear hK K
   refine tree_a rfl (fun K hK => ?_)
   go_simp
   refine (outM G.p OK.out.p gb 2 y _ (hG0.up hal).p).mono ?_
   rintro e w2 ⟨rfl, hb2⟩
   rw [HN.out]
   unfold limbV
   have HB2 := Lib.hid (below_up hal hb2)
   have HN2 := Lib.hid (hnew.below hb2 hnew.lt)
   refine hK _ _ ⟨⟨⟨w2, HB2.out⟩, rfl⟩, ?_⟩
   clear hK K hb2 hal hnew
   refine tree_a rfl (fun K hK => ?_)
   have hy_ := Blk.z4 HN2.out
   have hyf_ := HN2.out.frozen
   go_simp
   have h4 := Lib.hid (below_fill (n := N) HB2.out (Nat.le_refl W0.heap.size))
   refine hK _ _ ⟨⟨⟨_, h4.out⟩, rfl⟩, ?_⟩
   clear hK K
   refine tree_end ?_
   have HF := Lib.hid (HN2.out.fill rfl N)
   go_wp2_with fail
   go_meet
   case rel => exact ⟨_, rfl, Nat.le_refl _, HF.out, h4.out⟩
 case rest =>
  obtain ⟨b, rfl, HB, HNB, HBC⟩ := hcut
  have hb := HB.out
  have hwb := HBW.out.size
  have hbl := HNB.out.lt
  have hG1 := hG0.up HBC.out
  have HBW1 := Lib.hid (below_up HBW.out HBC.out)
  clear hG0 hx_ hlx HB
  have hgl := hG1.lt
  have hga := hG1.ms
  have hn_ := Blk.l4 (N) HNB.out
  by_cases hlow : G.q.m < N
  ·have HCI : Hid (cmpI N G.q.m = 1) := by show _ = _; unfold cmpI; rw [if_neg (by omega), if_pos hlow]
   have HL2 : Hid (lowN G y = G.p.m - N) := by show _ = _; rw [HLOW.out, if_pos hlow]
   clear hlow
   go_wp2_with fail
   have hovg := fun (E : Over wc) o => E.cell (b := gb) o hgl
   have hovn := fun (E : Over wc) o => E.cell (b := b) o hbl
   refine wp_region_over (by kernel_rfl) (by kernel_rfl) ?_
   repeat (go_big_quiet_step (first | (go_at_call 88; exact calls_over (cmp_is N G.q.m 1 (Nat.lt_trans HNP.out OK.out.p.lt4) OK.out.q.lt4 HCI.out _))))
   refine wpQuiet_nil ?_
   rintro _ ⟨E, rfl⟩
   have hG2 := hG1.up E.h
   have HNB2 := Lib.hid (HNB.out.below E.h hbl)
   have HBW2 := Lib.hid (below_up HBW1.out E.h)
   clear hovg hovn hn_ hbl hgl hga hG1 HNB HBW1
   obtain ⟨w2, hw2⟩ : ∃ W9 : World, E.w = W9 := ⟨_, rfl⟩
   rw [hw2] at hG2 HNB2 HBW2 ⊢
   clear hw2 E
   have hgl := hG2.lt
   have hga := hG2.ms
   have hn_ := Blk.l4 (N) HNB2.out
   have hbl := HNB2.out.lt
   go_wp2_with fail
   refine wp_region_otree 6 (.a 6 (.qs [7, 8, 9] (.a 10 .done))) (by kernel_rfl) (by kernel_rfl) (fun _ _ d _ _ h => by cases d <;> exact h) ?_
   simp only [List.take_succ_cons, List.take_zero]
   have hovg := fun (E : Over w2) o => E.cell (b := gb) o hgl
   have hovn := fun (E : Over w2) o => E.cell (b := b) o hbl
   repeat (go_big_quiet_step (fail))
   refine wpQuiet_nil ?_
   rintro _ ⟨E, rfl⟩
   have hG3 := hG2.up E.h
   have HNB3 := Lib.hid (HNB2.out.below E.h hbl)
   have HBW3 := Lib.hid (below_up HBW2.out E.h)
   clear hovg hovn hn_ hbl hgl hga hG2 HNB2 HBW2
   obtain ⟨w3, hw3⟩ : ∃ W9 : World, E.w = W9 := ⟨_, rfl⟩
   rw [hw3] at hG3 HNB3 HBW3 ⊢
   clear hw3 E
   refine tree_a rfl (fun K hK => ?_)
   go_simp
   refine (minusLow G.p.m N OK.out.p.lt4 (Nat.le_of_lt HNP.out) _).mono ?_
   rintro e w4 ⟨rfl, hb4⟩
   have hG4 := hG3.up hb4
   have HNB4 := Lib.hid (HNB3.out.below hb4 HNB3.out.lt)
   have HBW4 := Lib.hid (below_up HBW3.out hb4)
   clear hG3 HNB3 HBW3 hb4
   unfold limbV
   refine hK _ _ ⟨trivial, ?_⟩
   clear hK K
   simp only [Tree.qs]
   repeat (refine tree_q rfl rfl ?_; go_big_quiet_step (fail); refine wpQuiet_nil ?_)
   have hn_ := Blk.l4 (N) HNB4.out
   have hnf_ := HNB4.out.frozen
   refine tree_a rfl (fun K hK => ?_)
   go_simp
   refine hK _ _ ⟨trivial, ?_⟩
   clear hK K
   refine tree_end ?_
   have HS5 := Lib.hid (HNB4.out.fill rfl (G.p.m - N))
   have HB5 := Lib.hid (below_fill (n := G.p.m - N) (b := b) HBW4.out (by omega))
   have hG5 := hG4.below (below_four (o := 0) (Below.refl w.heap.size w4) (show w.heap.size ≤ b by omega) (.int .u64 (dig (G.p.m - N) 0 : Int)) (.int .u64 (dig (G.p.m - N) 1 : Int)) (.int .u64 (dig (G.p.m - N) 2 : Int)) (.int .u64 (dig (G.p.m - N) 3 : Int))) HGW.out
   obtain ⟨w5, hw5⟩ : ∃ W9 : World, (((((w4).setCell ⟨b, 0, none⟩ (.int .u64 (dig (G.p.m - N) 0 : Int))).setCell ⟨b, 1, none⟩ (.int .u64 (dig (G.p.m - N) 1 : Int))).setCell ⟨b, 2, none⟩ (.int .u64 (dig (G.p.m - N) 2 : Int))).setCell ⟨b, 3, none⟩ (.int .u64 (dig (G.p.m - N) 3 : Int))) = W9 := ⟨_, rfl⟩
   clear hn_ hnf_ HNB4 HBW4 hG4
   rw [hw5] at HS5 HB5 ⊢
   have hG6 : GroupAt w5 gb G := by rw [← hw5]; exact hG5
   clear hw5 hG5
   go_wp2_with fail
   have hgl4 := hG6.lt
   have hgs4 := hG6.size
   have hm_ := Blk.l4 (G.p.m - N) HS5.out
   have hml := HS5.out.lt
   refine wp_region_over (by kernel_rfl) (by kernel_rfl) ?_
   have hovg4 := fun (E : Over w5) o => E.cell (b := gb) o hgl4
   have hovn4 := fun (E : Over w5) o => E.cell (b := b) o hml
   repeat (go_big_quiet_step (first | (go_at_call 90; exact calls_over (text_any (G.p.m - N) G.size OK.out.size_le _))))
   refine wpQuiet_nil ?_
   rintro _ ⟨E, rfl⟩
   have HB9 := Lib.hid (below_up HB5.out E.h)
   clear hovg4 hovn4 hm_
   obtain ⟨w9, hw9⟩ : ∃ W9 : World, E.w = W9 := ⟨_, rfl⟩
   rw [hw9] at HB9 ⊢
   clear hw9 E
   go_wp2_with fail
   go_ret
   exact ⟨by rw [HL2.out]; rfl, HB9.out⟩
  ·have HL2 : Hid (lowN G y = N) := by show _ = _; rw [HLOW.out, if_neg hlow]
   by_cases heq : N = G.q.m
   ·have HCI : Hid (cmpI N G.q.m = 0) := by show _ = _; unfold cmpI; rw [if_neg (by omega), if_neg (by omega)]
    clear hlow heq
    go_wp2_with fail
    have hovg := fun (E : Over wc) o => E.cell (b := gb) o hgl
    have hovn := fun (E : Over wc) o => E.cell (b := b) o hbl
    refine wp_region_over (by kernel_rfl) (by kernel_rfl) ?_
    repeat (go_big_quiet_step (first | (go_at_call 88; exact calls_over (cmp_is N G.q.m 0 (Nat.lt_trans HNP.out OK.out.p.lt4) OK.out.q.lt4 HCI.out _))))
    refine wpQuiet_nil ?_
    rintro _ ⟨E, rfl⟩
    have hG2 := hG1.up E.h
    have HNB2 := Lib.hid (HNB.out.below E.h hbl)
    have HBW2 := Lib.hid (below_up HBW1.out E.h)
    clear hovg hovn hn_ hbl hgl hga hG1 HNB HBW1
    obtain ⟨w2, hw2⟩ : ∃ W9 : World, E.w = W9 := ⟨_, rfl⟩
    rw [hw2] at hG2 HNB2 HBW2 ⊢
    clear hw2 E
    go_wp2_with fail
    have hgl4 := hG2.lt
    have hgs4 := hG2.size
    have hm_ := Blk.l4 (N) HNB2.out
    have hml := HNB2.out.lt
    refine wp_region_over (by kernel_rfl) (by kernel_rfl) ?_
    have hovg4 := fun (E : Over w2) o => E.cell (b := gb) o hgl4
    have hovn4 := fun (E : Over w2) o => E.cell (b := b) o hml
    repeat (go_big_quiet_step (first | (go_at_call 90; exact calls_over (text_any (N) G.size OK.out.size_le _))))
    refine wpQuiet_nil ?_
    rintro _ ⟨E, rfl⟩
    have HB9 := Lib.hid (below_up HBW2.out E.h)
    clear hovg4 hovn4 hm_
    obtain ⟨w9, hw9⟩ : ∃ W9 : World, E.w = W9 := ⟨_, rfl⟩
    rw [hw9] at HB9 ⊢
    clear hw9 E
    go_wp2_with fail
    go_ret
    exact ⟨by rw [HL2.out]; rfl, HB9.out⟩
   ·have HCI : Hid (cmpI N G.q.m = -1) := by show _ = _; unfold cmpI; rw [if_pos (by omega)]
    clear hlow heq
    go_wp2_with fail
    have hovg := fun (E : Over wc) o => E.cell (b := gb) o hgl
    have hovn := fun (E : Over wc) o => E.cell (b := b) o hbl
    refine wp_region_over (by kernel_rfl) (by kernel_rfl) ?_
    repeat (go_big_quiet_step (first | (go_at_call 88; exact calls_over (cmp_is N G.q.m (-1) (Nat.lt_trans HNP.out OK.out.p.lt4) OK.out.q.lt4 HCI.out _))))
    refine wpQuiet_nil ?_
    rintro _ ⟨E, rfl⟩
    have hG2 := hG1.up E.h
    have HNB2 := Lib.hid (HNB.out.below E.h hbl)
    have HBW2 := Lib.hid (below_up HBW1.out E.h)
    clear hovg hovn hn_ hbl hgl hga hG1 HNB HBW1
    obtain ⟨w2, hw2⟩ : ∃ W9 : World, E.w = W9 := ⟨_, rfl⟩
    rw [hw2] at hG2 HNB2 HBW2 ⊢
    clear hw2 E
    go_wp2_with fail
    have hgl4 := hG2.lt
    have hgs4 := hG2.size
    have hm_ := Blk.l4 (N) HNB2.out
    have hml := HNB2.out.lt
    refine wp_region_over (by kernel_rfl) (by kernel_rfl) ?_
    have hovg4 := fun (E : Over w2) o => E.cell (b := gb) o hgl4
    have hovn4 := fun (E : Over w2) o => E.cell (b := b) o hml
    repeat (go_big_quiet_step (first | (go_at_call 90; exact calls_over (text_any (N) G.size OK.out.size_le _))))
    refine wpQuiet_nil ?_
    rintro _ ⟨E, rfl⟩
    have HB9 := Lib.hid (below_up HBW2.out E.h)
    clear hovg4 hovn4 hm_
    obtain ⟨w9, hw9⟩ : ∃ W9 : World, E.w = W9 := ⟨_, rfl⟩
    rw [hw9] at HB9 ⊢
    clear hw9 E
    go_wp2_with fail
    go_ret
    exact ⟨by rw [HL2.out]; rfl, HB9.out⟩
end Go.Proofs.YtjmeakfjfpnciaaGreat
namespace Go.Proofs.YtjmeakfjfpnciaaGreat
open Go.RowKit
def of4 (a b c d : Nat) : Nat := a + BB * b + BB ^ 2 * c + BB ^ 3 * d
def grp : Nat → GP
 | 1 => ⟨1, 2, ⟨1283, 1100, 131, 690135397925220949⟩, ⟨641, 1, 1, 28778071877862015⟩⟩
 | 2 => ⟨2, 8, ⟨1152930863340584963, 576503707391577365, 1074843801509405873, 2177741659672237397⟩, ⟨576465431670292481, 354135386165974715, 178479071281353849, 14411523486952456191⟩⟩
 | _ => ⟨3, 32, ⟨of4 0x3 0x0 0x237f 0x2000000000000000, of4 0xffffffffffffffeb 0xffffffffffffffff 0xffffffffffff0786 0x1fffffffffffffff, of4 0xffffffe27829fc43 0xffffffffffffffff 0xfffea297c8e063fe 0x1fffffffffffffff, 0x5555555555555555⟩,
   ⟨of4 0x1 0x8000000000000000 0x11bf 0x1000000000000000, of4 0xfffffffffffffff1 0x7fffffffffffffff 0xfffffffffffef5c7 0xfffffffffffffff, of4 0xffffffec501bfd01 0x7fffffffffffffff 0xfffea297c8ce92bf 0xfffffffffffffff, 0xffffffffffffffff⟩⟩
theorem grp_ok (k : Nat) (h1 : 1 ≤ k) (h3 : k ≤ 3) : (grp k).Ok := by
 obtain rfl | rfl | rfl : k = 1 ∨ k = 2 ∨ k = 3 := by omega
 all_goals exact ⟨⟨by decide, by decide, by decide, by decide, by decide, by decide⟩, ⟨by decide, by decide, by decide, by decide, by decide, by decide⟩, by decide, by decide, by decide, by decide⟩
def GP.cells (G : GP) : List Value := .int .i64 G.kind :: .int .i64 G.size :: (G.p.cells ++ G.q.cells).map (Value.int .u64)
theorem cells_length (R : RingP) : R.cells.length = 13 := rfl
theorem groupAt_of {W : World} {b : Nat} {t : TypeId} {G : GP} (h : W.heap[b]? = some (.cells G.cells.toArray t (0, 0))) : GroupAt W b G := by
 have hc : ∀ i v, G.cells[i]? = some v → W.cell? ⟨b, i, none⟩ = some v := fun i v hv => by
  simp only [World.cell?, h]
  simpa using hv
 refine ⟨(Array.getElem?_eq_some_iff.1 h).1, hc 0 _ rfl, hc 1 _ rfl, ⟨(Array.getElem?_eq_some_iff.1 h).1, fun i x hx => hc (2 + i) _ ?_⟩, ⟨(Array.getElem?_eq_some_iff.1 h).1, fun i x hx => hc (15 + i) _ ?_⟩⟩
 ·rw [show 2 + i = i + 1 + 1 by omega]
  simp only [GP.cells, List.getElem?_cons_succ, List.getElem?_map]
  rw [List.getElem?_append_left (by have := (List.getElem?_eq_some_iff.1 hx).1; exact this), hx]
  rfl
 ·rw [show 15 + i = 13 + i + 1 + 1 by omega]
  simp only [GP.cells, List.getElem?_cons_succ, List.getElem?_map]
  rw [List.getElem?_append_right (by rw [cells_length]; omega), cells_length, show 13 + i - 13 = i by omega, hx]
  rfl
theorem of_none (k : Int) (hk : ¬ (1 ≤ k ∧ k ≤ 3)) (w : World) : Calls Tryz.prog 40 #[.int .i64 k] w fun e w' => e = .returned (.pointer none) ∧ w = w' := by
 have h1 : (k == 1) = false := by simp; omega
 have h2 : (k == 2) = false := by simp; omega
 have h3 : (k == 3) = false := by simp; omega
 go_enter Tryz.func40, Tryz.ntmps40
 go_wp2_with fail
 go_ret
 exact ⟨rfl, rfl⟩
theorem of_some (k : Nat) (h1 : 1 ≤ k) (h3 : k ≤ 3) (w : World) : Calls Tryz.prog 40 #[.int .i64 k] w fun e w' => e = .returned (.pointer (some ⟨w.heap.size, 0, none⟩)) ∧ GroupAt w' w.heap.size (grp k) ∧ Below w.heap.size w w' := by
 obtain rfl | rfl | rfl : k = 1 ∨ k = 2 ∨ k = 3 := by omega
 all_goals
  go_enter Tryz.func40, Tryz.ntmps40
  go_wp2_with fail
  go_ret
  refine ⟨rfl, groupAt_of (t := 137) ?_, (Below.refl _ _).alloc (Nat.le_refl _) _⟩
  rw [heap_alloc_new]
  exact congrArg (fun l => some (Obj.cells l 137 (0, 0))) (by kernel_rfl)
end Go.Proofs.YtjmeakfjfpnciaaGreat
namespace Go.Proofs.YtjmeakfjfpnciaaGreat
def dg (B n i : Nat) : Nat := n / B ^ i % B
section
variable {B : Nat}
theorem dg_lt (hB : 0 < B) (n i : Nat) : dg B n i < B := Nat.mod_lt _ hB
theorem dg_mod_succ (n i : Nat) : n % B ^ (i + 1) = n % B ^ i + B ^ i * dg B n i := Nat.mod_pow_succ
theorem dg_div (n i : Nat) : n / B ^ i = B * (n / B ^ (i + 1)) + dg B n i := by
 unfold dg
 rw [Nat.pow_succ, ← Nat.div_div_eq_div_mul]
 exact (Nat.div_add_mod _ _).symm
theorem dg_zero (n i : Nat) (h : n < B ^ i) : dg B n i = 0 := by unfold dg; rw [Nat.div_eq_of_lt h, Nat.zero_mod]
theorem dg_above (hB : 0 < B) (n i k : Nat) (h : n < B ^ i) (hk : i ≤ k) : dg B n k = 0 := dg_zero n k (Nat.lt_of_lt_of_le h (Nat.pow_le_pow_right hB hk))
def mcB (B x y p j : Nat) : Nat := (x % B ^ j + p * (y % B ^ j)) / B ^ j
theorem mcB_le (hB : 0 < B) (x y p j : Nat) : mcB B x y p j ≤ p := by
 have hp : 0 < B ^ j := Nat.pow_pos hB
 have h1 := Nat.mod_lt x hp
 have h2 := Nat.mod_lt y hp
 unfold mcB
 have h3 : p * (y % B ^ j) ≤ p * (B ^ j - 1) := Nat.mul_le_mul_left _ (by omega)
 have h4 : p * (B ^ j - 1) + p = p * B ^ j := by
  rw [← Nat.mul_succ]; congr 1; omega
 have : (x % B ^ j + p * (y % B ^ j)) / B ^ j < p + 1 := Nat.div_lt_of_lt_mul (by rw [Nat.mul_add, Nat.mul_one, Nat.mul_comm (B ^ j) p]; omega)
 omega
theorem mcB_split (hB : 0 < B) (x y p j : Nat) : (x + p * y) / B ^ j = x / B ^ j + p * (y / B ^ j) + mcB B x y p j := by
 have hp : 0 < B ^ j := Nat.pow_pos hB
 have e : x + p * y = (x % B ^ j + p * (y % B ^ j)) + B ^ j * (x / B ^ j + p * (y / B ^ j)) := by
  have hx := Nat.mod_add_div x (B ^ j)
  have hy := Nat.mod_add_div y (B ^ j)
  have h1 : p * y = p * (y % B ^ j) + p * (B ^ j * (y / B ^ j)) := by rw [← Nat.mul_add, hy]
  have h2 : B ^ j * (p * (y / B ^ j)) = p * (B ^ j * (y / B ^ j)) := by rw [Nat.mul_left_comm]
  rw [Nat.mul_add, h2]
  omega
 rw [e, Nat.add_mul_div_left _ _ hp, mcB]
 omega
theorem mod_macB (u v c p : Nat) : (u % B + p * (v % B) + c) % B = (u + p * v + c) % B := by
 have h : (p * (v % B)) % B = (p * v) % B := by rw [Nat.mul_mod, Nat.mod_mod, ← Nat.mul_mod]
 have h1 : (u % B + p * (v % B)) % B = (u + p * v) % B := by rw [Nat.add_mod, Nat.mod_mod, h, ← Nat.add_mod]
 rw [Nat.add_mod, h1, ← Nat.add_mod]
theorem mcB_dig (hB : 0 < B) (x y p j : Nat) : (dg B x j + p * dg B y j + mcB B x y p j) % B = dg B (x + p * y) j := by
 unfold dg
 rw [mcB_split hB, mod_macB]
theorem mcB_succ (hB : 0 < B) (x y p j : Nat) : (dg B x j + p * dg B y j + mcB B x y p j) / B = mcB B x y p (j + 1) := by
 have hp : 0 < B ^ j := Nat.pow_pos hB
 have e : x % B ^ (j + 1) + p * (y % B ^ (j + 1)) = (x % B ^ j + p * (y % B ^ j)) + B ^ j * (dg B x j + p * dg B y j) := by
  rw [dg_mod_succ, dg_mod_succ, Nat.mul_add, Nat.mul_add]
  have h2 : p * (B ^ j * dg B y j) = B ^ j * (p * dg B y j) := by rw [Nat.mul_left_comm]
  omega
 unfold mcB
 rw [e, Nat.pow_succ, ← Nat.div_div_eq_div_mul, Nat.add_mul_div_left _ _ hp]
 congr 1
 omega
theorem mcB_zero (x y p : Nat) : mcB B x y p 0 = 0 := by simp [mcB, Nat.mod_one]
end
abbrev DD : Nat := 65536
def dl (n : Nat) : Nat := if n = 0 then 0 else n.log2 / 16 + 1
theorem dl_zero : dl 0 = 0 := rfl
theorem lt_dl (n : Nat) : n < DD ^ dl n := by
 unfold dl
 split
 ·subst n; decide
 ·rename_i h
  show n < (2 ^ 16) ^ _
  rw [← Nat.pow_mul]
  exact (Nat.log2_lt h).1 (by omega)
theorem dl_le (n : Nat) (h : n ≠ 0) : DD ^ (dl n - 1) ≤ n := by
 unfold dl
 rw [if_neg h]
 show (2 ^ 16) ^ _ ≤ n
 rw [← Nat.pow_mul]
 exact Nat.le_trans (Nat.pow_le_pow_right (by omega) (by omega)) (Nat.log2_self_le h)
theorem dl_pos (n : Nat) (h : n ≠ 0) : 0 < dl n := by unfold dl; rw [if_neg h]; omega
theorem dl_of_lt (n k : Nat) (h : n < DD ^ k) : dl n ≤ k := by
 rcases Nat.eq_zero_or_pos n with rfl | hn
 ·exact Nat.zero_le _
 ·rcases Nat.lt_or_ge k (dl n) with h1 | h1
  ·have h2 := dl_le n (by omega)
   have h3 := Nat.pow_le_pow_right (n := DD) (by decide) (show k ≤ dl n - 1 by omega)
   omega
  ·exact h1
theorem dl_top (n : Nat) (h : n ≠ 0) : dg DD n (dl n - 1) ≠ 0 := by
 have h1 := dl_le n h
 have h2 := lt_dl n
 have hp := dl_pos n h
 have e : DD ^ dl n = DD ^ (dl n - 1) * DD := by rw [← Nat.pow_succ]; congr 1; omega
 unfold dg
 rw [Nat.mod_eq_of_lt (Nat.div_lt_of_lt_mul (by rw [← e]; exact h2))]
 have := Nat.div_pos h1 (Nat.pow_pos (n := dl n - 1) (show 0 < DD by decide))
 omega
theorem dl_mono (a b : Nat) (h : a ≤ b) : dl a ≤ dl b := dl_of_lt a (dl b) (Nat.lt_of_le_of_lt h (lt_dl b))
def digs (n : Nat) : List Nat := (List.range (dl n)).map (dg DD n)
theorem digs_length (n : Nat) : (digs n).length = dl n := by simp [digs]
def digsTo (n k : Nat) : List Nat := (List.range k).map (dg DD n)
theorem digsTo_succ (n k : Nat) : digsTo n (k + 1) = digsTo n k ++ [dg DD n k] := by simp [digsTo, List.range_succ]
theorem lt_of_dg (a b p : Nat) (h : a / DD ^ (p + 1) = b / DD ^ (p + 1)) (hd : dg DD a p < dg DD b p) : a < b := by
 rcases Nat.lt_or_ge a b with h1 | h1
 ·exact h1
 ·have := Nat.div_le_div_right (c := DD ^ p) h1
  rw [dg_div a p, dg_div b p, h] at this
  omega
theorem same_of_dg (a b p : Nat) (h : a / DD ^ (p + 1) = b / DD ^ (p + 1)) (hd : dg DD a p = dg DD b p) : a / DD ^ p = b / DD ^ p := by
 rw [dg_div a p, dg_div b p, h, hd]
theorem lt_of_dl (a b : Nat) (h : dl a < dl b) : a < b := by
 rcases Nat.lt_or_ge a b with h1 | h1
 ·exact h1
 ·have := dl_mono b a h1; omega
theorem dg_byte (v c k : Nat) (hv : v < 256 ^ k) (hc : c < 256) (j : Nat) : dg DD (c * 256 ^ k + v) j = if j = k / 2 then dg DD v j + c * 256 ^ (k % 2) else dg DD v j := by
 have hb : DD = 256 ^ 2 := rfl
 unfold dg
 rw [hb, ← Nat.pow_mul]
 rcases Nat.lt_trichotomy j (k / 2) with h | h | h
 ·rw [if_neg (by omega)]
  have e : (256 : Nat) ^ k = 256 ^ (2 * j) * (256 ^ 2 * 256 ^ (k - 2 * j - 2)) := by rw [← Nat.pow_add, ← Nat.pow_add]; congr 1; omega
  rw [e, Nat.mul_left_comm, Nat.add_comm, Nat.add_mul_div_left _ _ (Nat.pow_pos (by omega)), Nat.mul_left_comm c, Nat.add_mul_mod_self_left]
 ·subst h
  rw [if_pos rfl]
  have hk : 2 * (k / 2) + k % 2 = k := Nat.div_add_mod k 2
  have e : (256 : Nat) ^ k = 256 ^ (2 * (k / 2)) * 256 ^ (k % 2) := by rw [← Nat.pow_add, hk]
  rw [e, Nat.mul_left_comm, Nat.add_comm, Nat.add_mul_div_left _ _ (Nat.pow_pos (by omega))]
  have hq : v / 256 ^ (2 * (k / 2)) < 256 ^ (k % 2) := Nat.div_lt_of_lt_mul (by rw [← e]; exact hv)
  have h8 : (256 : Nat) ^ (k % 2) * 256 ≤ 256 ^ 2 := by rw [← Nat.pow_succ]; exact Nat.pow_le_pow_right (by omega) (by omega)
  have h9 : c * 256 ^ (k % 2) ≤ 255 * 256 ^ (k % 2) := Nat.mul_le_mul_right _ (by omega)
  generalize (256 : Nat) ^ (k % 2) = p at *
  generalize v / 256 ^ (2 * (k / 2)) = q at *
  rw [Nat.mod_eq_of_lt (by omega), Nat.mod_eq_of_lt (a := q) (by omega)]
 ·rw [if_neg (by omega)]
  have hle : (256 : Nat) ^ (k + 1) ≤ 256 ^ (2 * j) := Nat.pow_le_pow_right (by omega) (by omega)
  have h9 : c * 256 ^ k ≤ 255 * 256 ^ k := Nat.mul_le_mul_right _ (by omega)
  rw [Nat.pow_succ] at hle
  rw [Nat.div_eq_of_lt (by omega), Nat.div_eq_of_lt (by omega)]
theorem digsTo_put (v c k n : Nat) (hv : v < 256 ^ k) (hc : c < 256) : (digsTo v n).set (k / 2) (dg DD v (k / 2) + c * 256 ^ (k % 2)) = digsTo (c * 256 ^ k + v) n := by
 refine List.ext_getElem (by simp [digsTo]) (fun i h1 h2 => ?_)
 rw [List.getElem_set]
 simp only [digsTo, List.getElem_map, List.getElem_range]
 rw [dg_byte v c k hv hc]
 by_cases h : k / 2 = i
 ·subst h; rw [if_pos rfl]
 ·rw [if_neg h, if_neg (Ne.symm h)]
theorem byte_dg (n i : Nat) : byteAt n i = dg DD n (i / 2) / 256 ^ (i % 2) % 256 := by
 unfold byteAt dg
 have hb : DD = 256 ^ 2 := rfl
 rw [hb, ← Nat.pow_mul]
 have e : (256 : Nat) ^ 2 = 256 ^ (i % 2) * (256 * 256 ^ (1 - i % 2)) := by
  rw [← Nat.pow_succ', ← Nat.pow_add]; congr 1; omega
 rw [e, Nat.mod_mul_right_div_self, Nat.mod_mul_right_mod, Nat.div_div_eq_div_mul, ← Nat.pow_add]
 congr 3
 omega
end Go.Proofs.YtjmeakfjfpnciaaGreat
namespace Go.Proofs.YtjmeakfjfpnciaaGreat
open Go.RowKit
def dV (d : Nat) : Value := .int .i64 (d : Int)
def NumAt (w : World) (a : Option Addr) (n : Nat) : Prop := Sl w w.heap.size a ((digs n).map dV)
theorem NumAt.up {W w : World} {a : Option Addr} {n : Nat} (h : NumAt W a n) (hb : Below W.heap.size W w) : NumAt w a n := Sl.up h hb
theorem NumAt.zero (w : World) (a : Option Addr) : NumAt w a 0 := Or.inl rfl
theorem NumAt.at {w : World} {a : Option Addr} {n : Nat} (h : NumAt w a n) (i : Nat) (hi : i < dl n) :
  ∃ b off, a = some ⟨b, off, none⟩ ∧ b < w.heap.size ∧ w.cell? ⟨b, off + i, none⟩ = some (.int .i64 (dg DD n i : Int)) := by
 obtain ⟨b, off, h1, h2, h3⟩ := Sl.at h i (by simp [digs_length]; exact hi)
 refine ⟨b, off, h1, h2, ?_⟩
 rw [h3]
 simp [digs, dV]
theorem NumAt.all {w : World} {a : Option Addr} {n : Nat} (h : NumAt w a n) (h0 : 0 < dl n) :
  ∃ b off, a = some ⟨b, off, none⟩ ∧ b < w.heap.size ∧ ∀ i, i < dl n → w.cell? ⟨b, off + i, none⟩ = some (.int .i64 (dg DD n i : Int)) := by
 obtain ⟨b, off, h1, h2, _⟩ := h.at 0 h0
 refine ⟨b, off, h1, h2, fun i hi => ?_⟩
 obtain ⟨b', off', h1', _, h3'⟩ := h.at i hi
 rw [h1] at h1'
 cases h1'
 exact h3'
theorem NumAt.of {w : World} {n b off : Nat} (hb : b < w.heap.size) (h : ∀ i, i < dl n → w.cell? ⟨b, off + i, none⟩ = some (.int .i64 (dg DD n i : Int))) : NumAt w (some ⟨b, off, none⟩) n := by
 refine Or.inr ⟨b, off, rfl, hb, fun i v hv => ?_⟩
 have hi : i < dl n := by
  have := (List.getElem?_eq_some_iff.1 hv).1
  simpa [digs_length] using this
 rw [h i hi]
 simp [digs, hi, dV] at hv
 rw [← hv]
def NumR (w : World) (e : Ending) (w' : World) (n : Nat) : Prop := ∃ a cap, e = .returned (.slice a (dl n) cap) ∧ NumAt w' a n ∧ Below w.heap.size w w'
theorem dg_nought (n i : Nat) (h : dl n ≤ i) : dg DD n i = 0 := dg_above (by decide) n (dl n) i (lt_dl n) h
def TrimR (b off n : Nat) (w : World) (e : Ending) (w' : World) : Prop := ∃ cap', e = .returned (.slice (some ⟨b, off, none⟩) (dl n) cap') ∧ w = w'
theorem trim_any (n k b off cap : Nat) (hk : n < DD ^ k) (hm : k ≤ 1073741824) (hkc : k ≤ cap) (w : World) (_hb : b < w.heap.size) (hc : ∀ i, i < k → w.cell? ⟨b, off + i, none⟩ = some (.int .i64 (dg DD n i : Int))) :
  Calls Tryz.prog 105 #[.slice (some ⟨b, off, none⟩) k cap] w (TrimR b off n w) := by
 have hle := dl_of_lt n k hk
 have HC := Lib.hid hc
 clear hc
 go_enter Tryz.func105, Tryz.ntmps105
 go_wp2_with fail
 go_loop [0] (fun v => ∃ j c : Nat, dl n ≤ j ∧ j ≤ k ∧ j ≤ c ∧ v = .slice (some ⟨b, off, none⟩) j c) (fun v => match v with | .slice _ j _ => j | _ => 0)
 case atStart => exact ⟨k, cap, hle, Nat.le_refl _, hkc, rfl⟩
 case round =>
  obtain ⟨j, c, h1, h2, h3, rfl⟩ := hrel
  rcases Nat.eq_zero_or_pos j with rfl | hjp
  ·go_wp2_with fail
   go_ret
   have e0 : dl n = 0 := by omega
   exact ⟨c, by rw [e0]; rfl, rfl⟩
  ·obtain ⟨p, rfl⟩ : ∃ p, j = p + 1 := ⟨j - 1, by omega⟩
   have hcell := HC.out p (by omega)
   have hidx : ((p + 1 : Nat) : Int) - 1 = (p : Int) := by omega
   by_cases hz : p < dl n
   ·have hp : dl n = p + 1 := by omega
    have hne : n ≠ 0 := by rintro rfl; rw [dl_zero] at hz; omega
    have htop := dl_top n hne
    rw [hp, Nat.add_sub_cancel] at htop
    have hd : ((dg DD n p : Int) == 0) = false := by simp; omega
    have HP := Lib.hid hp
    clear hp htop
    go_wp2_with fail
    go_ret
    exact ⟨c, by rw [HP.out]; rfl, rfl⟩
   ·have h0 := dg_nought n p (by omega)
    rw [h0] at hcell
    clear h0
    go_wp2_with fail
    go_round
    case rel => exact ⟨p, c, by omega, by omega, by omega, rfl⟩
    case measure => simp
end Go.Proofs.YtjmeakfjfpnciaaGreat
namespace Go.Proofs.YtjmeakfjfpnciaaGreat
open Go.RowKit
theorem infoInt3 : (Tryz.prog.info? 3).map (fun i => (i.zero, i.size, i.bytes)) = some (some (.int .i64 0), 1, 8) := by kernel_rfl
structure OwnD (W w : World) (v : Value) (n k : Nat) : Prop where
 own : w.ownsRow 0 3 1 v k ((digsTo n k).map dV)
 new_ : ∀ q, v.ownBlock = some q → W.heap.size ≤ q
 below : Below W.heap.size W w
theorem OwnD.nil (W : World) (n : Nat) : OwnD W W (.slice none 0 0) n 0 := ⟨World.ownsRow_nil _ _ _ _, fun q h => by simp [Value.ownBlock] at h, Below.refl _ _⟩
theorem OwnD.push {W w w1 : World} {v : Value} {n k g c : Nat} (h : OwnD W w v n k) (hown : w1.ownsRow 0 3 1 (.slice (some ⟨g, 0, none⟩) (k + 1) c) (k + 1) ((digsTo n k).map dV ++ [.int .i64 (dg DD n k : Int)])) (hp : Pushed w w1 v g) : OwnD W w1 (.slice (some ⟨g, 0, none⟩) (k + 1) c) n (k + 1) :=
 ⟨by rw [digsTo_succ, List.map_append]; exact hown, hp.from_ h.below.size h.new_, hp.below h.below h.below.size h.new_⟩
theorem own_form3 {w : World} {base e k n : Nat} {v : Value} {xs : List Value} (h : w.ownsRow base e k v n xs) : ∃ a c, v = .slice a n c ∧ (n = 0 ∨ ∃ g, a = some ⟨g, 0, none⟩ ∧ g < w.heap.size) := by
 rcases h.2 with ⟨hv, h0⟩ | ⟨g, cap, cur, hv, _, hg, _⟩
 ·subst h0; exact ⟨none, 0, hv, Or.inl rfl⟩
 ·exact ⟨_, cap, hv, Or.inr ⟨g, rfl, (Array.getElem?_eq_some_iff.1 hg).1⟩⟩
theorem own_cap {w : World} {base e k n g c : Nat} {xs : List Value} (h : w.ownsRow base e k (.slice (some ⟨g, 0, none⟩) n c) n xs) : n ≤ c ∧ c ≤ maxLen := by
 rcases h.2 with ⟨hv, _⟩ | ⟨g', cap, cur, hv, _, _, h1, h2⟩
 ·cases hv
 ·cases hv
  exact ⟨h1, h2.1⟩
theorem sl_of_own {w : World} {base e n : Nat} {a : Option Addr} {c : Nat} {xs : List Value} (h : w.ownsRow base e 1 (.slice a n c) n xs) : Sl w w.heap.size a xs := by
 rcases h.2 with ⟨hv, h0⟩ | ⟨g, cap, cur, hv, hb, hg, hr⟩
 ·have := h.1; subst h0; left; exact List.length_eq_zero_iff.1 (by simpa using this)
 ·simp only [Value.slice.injEq] at hv
  obtain ⟨rfl, _, rfl⟩ := hv
  refine Or.inr ⟨g, 0, rfl, (Array.getElem?_eq_some_iff.1 hg).1, fun i u hu => ?_⟩
  have hi : i < n * 1 := by have := (List.getElem?_eq_some_iff.1 hu).1; rw [h.1] at this; exact this
  rw [Nat.zero_add, h.cellAt i hi]; exact hu
theorem dl_iff (n j : Nat) : 0 < n / DD ^ j ↔ j < dl n := by
 rcases Nat.lt_or_ge j (dl n) with h | h
 ·have hn : n ≠ 0 := by rintro rfl; rw [dl_zero] at h; omega
  have h1 := dl_le n hn
  have h2 := Nat.pow_le_pow_right (n := DD) (by decide) (show j ≤ dl n - 1 by omega)
  exact ⟨fun _ => h, fun _ => Nat.div_pos (by omega) (Nat.pow_pos (by decide))⟩
 ·have h1 := lt_dl n
  have h2 := Nat.pow_le_pow_right (n := DD) (by decide) h
  rw [Nat.div_eq_of_lt (by omega)]
  omega
theorem refOf_any (n : Nat) (hn : n ≤ 9223372036854775807) (w : World) : Calls Tryz.prog 80 #[.int .i64 (n : Int)] w fun e w' => NumR w e w' n := by
 obtain ⟨i0, hi, hz0, hz1, hz2⟩ := info_parts infoInt3
 have hdl : dl n ≤ 4 := dl_of_lt n 4 (by show n < 65536 ^ 4; omega)
 go_enter Tryz.func80, Tryz.ntmps80
 go_wp2_with fail
 go_loopw [0, 3] (fun x u wr => ∃ j : Nat, j ≤ dl n ∧ x = .int .i64 (n / DD ^ j : Nat) ∧ Hid (OwnD w wr u n j)) (fun x _ _ => (intOf x).toNat)
 case atStart => exact ⟨0, Nat.zero_le _, by simp, OwnD.nil w n⟩
 case round =>
  obtain ⟨j, hj, rfl, HO⟩ := hrel
  have hle : n / DD ^ j ≤ n := Nat.div_le_self _ _
  have hiff := dl_iff n j
  by_cases hjl : j < dl n
  ·have hpos := hiff.2 hjl
   have hdg : ((n / DD ^ j : Nat) : Int) % 65536 = (dg DD n j : Int) := by
    unfold dg
    generalize n / DD ^ j = x
    show (x : Int) % 65536 = ((x % 65536 : Nat) : Int)
    omega
   have hnx : ((n / DD ^ j : Nat) : Int) / 65536 = ((n / DD ^ (j + 1) : Nat) : Int) := by
    rw [Nat.pow_succ, ← Nat.div_div_eq_div_mul]
    generalize n / DD ^ j = x
    show (x : Int) / 65536 = ((x / 65536 : Nat) : Int)
    omega
   have hdec : n / DD ^ (j + 1) < n / DD ^ j := by
    rw [Nat.pow_succ, ← Nat.div_div_eq_div_mul]
    exact Nat.div_lt_self hpos (by decide)
   clear hiff
   generalize n / DD ^ j = x at *
   generalize hx1 : n / DD ^ (j + 1) = x1 at *
   have HX1 := Lib.hid hx1
   clear hx1
   generalize hd : dg DD n j = d at *
   have HD := Lib.hid hd
   clear hd
   go_wp2_with (at_builtin; refine wpList_push wr rfl _ _ 95 rfl 3 i0 _ 1 8 Tryz.underlying95 hi hz0 hz1 hz2 rfl (by omega) u3 j ((digsTo n j).map dV) rfl HO.out.own _ _ _ rfl rfl rfl (by simp [Value.oneCell']) (by omega) (by unfold maxLen; omega) ?_)
   intro g gc w1 hown hp
   have HO1 := Lib.hid (HO.out.push (by rw [HD.out]; exact hown) hp)
   clear hown hp
   go_wp2_with fail
   go_roundw
   case rel => exact ⟨j + 1, by omega, by rw [HX1.out], HO1.out⟩
   case measure => simp [intOf]; omega
  ·have hjn : j = dl n := by omega
   subst hjn
   have h0 : ¬ 0 < n / DD ^ dl n := fun h => hjl (hiff.1 h)
   have h00 : n / DD ^ dl n = 0 := Nat.eq_zero_of_not_pos h0
   rw [h00]
   clear hiff h0 h00 hle
   go_wp2_with fail
   go_ret
   obtain ⟨a, c, rfl, _⟩ := own_form3 HO.out.own
   exact ⟨a, c, rfl, sl_of_own HO.out.own, HO.out.below⟩
def TrimO (v : Value) (n : Nat) (w : World) (e : Ending) (w' : World) : Prop := ∃ a cap, e = .returned (.slice a (dl n) cap) ∧ NumAt w a n ∧ (∀ q o, a = some ⟨q, o, none⟩ → v.ownBlock = some q) ∧ w = w'
def NumN (w : World) (e : Ending) (w' : World) (n : Nat) : Prop := ∃ a cap, e = .returned (.slice a (dl n) cap) ∧ NumAt w' a n ∧ (∀ q o, a = some ⟨q, o, none⟩ → w.heap.size ≤ q) ∧ Below w.heap.size w w'
theorem NumN.r {w w' : World} {e : Ending} {n : Nat} (h : NumN w e w' n) : NumR w e w' n := let ⟨a, c, h1, h2, _, h4⟩ := h; ⟨a, c, h1, h2, h4⟩
theorem trim_none (w : World) : Calls Tryz.prog 105 #[.slice none 0 0] w (TrimO (.slice none 0 0) 0 w) := by
 go_enter Tryz.func105, Tryz.ntmps105
 go_wp2_with fail
 go_loop [0] (fun v => v = .slice none 0 0) (fun _ => 0)
 case atStart => rfl
 case round =>
  subst hrel
  go_wp2_with fail
  go_ret
  exact ⟨none, 0, rfl, NumAt.zero _ _, (fun q o h => by cases h), rfl⟩
theorem trim_own {v : Value} {n k : Nat} {w : World} (h : w.ownsRow 0 3 1 v k ((digsTo n k).map dV)) (hn : n < DD ^ k) (hk : k ≤ 1073741824) :
  Calls Tryz.prog 105 #[v] w (TrimO v n w) := by
 obtain ⟨a, c, rfl, hg⟩ := own_form3 h
 rcases h.2 with ⟨hv, h0⟩ | ⟨g, cap, cur, hv, _, hgl, _⟩
 ·subst h0
  cases hv
  have h1 : n = 0 := by rw [Nat.pow_zero] at hn; omega
  subst h1
  exact trim_none w
 ·cases hv
  have hcell : ∀ i, i < k → w.cell? ⟨g, 0 + i, none⟩ = some (.int .i64 (dg DD n i : Int)) := fun i hi => by
   rw [Nat.zero_add, h.cellAt i (by omega)]
   simp [digsTo, hi, dV]
  refine (trim_any n k g 0 c hn hk (own_cap h).1 w (Array.getElem?_eq_some_iff.1 hgl).1 hcell).mono ?_
  rintro e w' ⟨cap', rfl, rfl⟩
  exact ⟨_, cap', rfl, NumAt.of (Array.getElem?_eq_some_iff.1 hgl).1 fun i hi => hcell i (Nat.lt_of_lt_of_le hi (dl_of_lt n k hn)), (fun q o h => by cases h; rfl), rfl⟩
theorem plus_end (a b j : Nat) (ha : dl a ≤ j) (hb : dl b ≤ j) (hc : mcB DD a b 1 j = 0) : a + b < DD ^ j := by
 have h := mcB_split (B := DD) (by decide) a b 1 j
 have h1 := Nat.lt_of_lt_of_le (lt_dl a) (Nat.pow_le_pow_right (n := DD) (by decide) ha)
 have h2 := Nat.lt_of_lt_of_le (lt_dl b) (Nat.pow_le_pow_right (n := DD) (by decide) hb)
 rw [Nat.div_eq_of_lt h1, Nat.div_eq_of_lt h2, hc, Nat.one_mul] at h
 rcases Nat.lt_or_ge (a + b) (DD ^ j) with h3 | h3
 ·exact h3
 ·have := Nat.div_pos h3 (Nat.pow_pos (show 0 < DD by decide))
  omega
theorem plus_last (a b j : Nat) (ha : dl a < j) (hb : dl b < j) : mcB DD a b 1 j = 0 := by
 obtain ⟨p, rfl⟩ : ∃ p, j = p + 1 := ⟨j - 1, by omega⟩
 have h1 := Nat.lt_of_lt_of_le (lt_dl a) (Nat.pow_le_pow_right (n := DD) (by decide) (show dl a ≤ p by omega))
 have h2 := Nat.lt_of_lt_of_le (lt_dl b) (Nat.pow_le_pow_right (n := DD) (by decide) (show dl b ≤ p by omega))
 have h3 : DD ^ (p + 1) = DD ^ p * 65536 := Nat.pow_succ ..
 unfold mcB
 rw [Nat.mod_eq_of_lt (by omega), Nat.mod_eq_of_lt (by omega), Nat.one_mul]
 exact Nat.div_eq_of_lt (by omega)
theorem refPlus_new (a b : Nat) (aa ab : Option Addr) (ca cb : Nat) (hla : dl a ≤ 1048576) (hlb : dl b ≤ 1048576) (w : World) (hA : NumAt w aa a) (hB : NumAt w ab b) :
  Calls Tryz.prog 94 #[.slice aa (dl a) ca, .slice ab (dl b) cb] w fun e w' => NumN w e w' (a + b) := by
 obtain ⟨i0, hi, hz0, hz1, hz2⟩ := info_parts infoInt3
 have HA := Lib.hid hA
 have HB := Lib.hid hB
 clear hA hB
 go_enter Tryz.func94, Tryz.ntmps94
 go_wp2_with fail
 go_loopw [5, 6, 7] (fun u c i wr => ∃ j : Nat, j ≤ 1048577 ∧ (j ≤ dl a ∨ j ≤ dl b ∨ (j ≤ dl a + 1 ∧ j ≤ dl b + 1) ∨ j ≤ max (dl a) (dl b) + 1) ∧ i = .int .i64 j ∧ c = .int .i64 (mcB DD a b 1 j : Nat) ∧ Hid (OwnD w wr u (a + b) j)) (fun _ _ i _ => max (dl a) (dl b) + 1 - (intOf i).toNat)
 case atStart => exact ⟨0, Nat.zero_le _, Or.inl (Nat.zero_le _), rfl, by rw [mcB_zero]; rfl, OwnD.nil w _⟩
 case round =>
  obtain ⟨j, hj, hjm, rfl, rfl, HO⟩ := hrel
  have hja : j ≤ max (dl a) (dl b) + 1 := by omega
  have hc1 := mcB_le (B := DD) (by decide) a b 1 j
  have hda : dg DD a j < 65536 := dg_lt (B := DD) (by decide) a j
  have hdb : dg DD b j < 65536 := dg_lt (B := DD) (by decide) b j
  have hdig := mcB_dig (B := DD) (by decide) a b 1 j
  have hsuc := mcB_succ (B := DD) (by decide) a b 1 j
  have hna := dg_nought a j
  have hnb := dg_nought b j
  have hend := plus_end a b j
  have hlast := plus_last a b j
  simp only [Nat.one_mul] at hdig hsuc
  generalize mcB DD a b 1 j = c at *
  generalize hc2 : mcB DD a b 1 (j + 1) = c2 at *
  generalize hD : dg DD (a + b) j = D at *
  have HC2 := Lib.hid hc2
  have HD := Lib.hid hD
  have HDIG := Lib.hid hdig
  have HSUC := Lib.hid hsuc
  have HEND := Lib.hid hend
  have hlast' : 0 < c → ¬ (dl a < j ∧ dl b < j) := fun h h1 => by have := hlast h1.1 h1.2; omega
  have hDlt : D < 65536 := by rw [← hD]; exact dg_lt (by decide) _ _
  clear hc2 hD hdig hsuc hend hlast
  by_cases hla' : j < dl a
  ·obtain ⟨b1, o1, rfl, hb1, hcell1⟩ := (HA.out.up HO.out.below).all (by omega)
   have hx1 := hcell1 j hla'
   have hdla : ¬ dl a = 0 := by omega
   clear hcell1 hna
   by_cases hlb' : j < dl b
   ·obtain ⟨b2, o2, rfl, hb2, hcell2⟩ := (HB.out.up HO.out.below).all (by omega)
    have hx2 := hcell2 j hlb'
    clear hcell2 hnb
    generalize dg DD a j = da at *
    generalize dg DD b j = db at *
    have hm1 : ((c : Int) + (da : Int) + (db : Int)) % 65536 = (D : Int) := by have h := HDIG.out; have h2 : (DD : Nat) = 65536 := rfl; rw [h2] at h; omega
    have hd1 : ((c : Int) + (da : Int) + (db : Int)) / 65536 = (c2 : Int) := by have h := HSUC.out; have h2 : (DD : Nat) = 65536 := rfl; rw [h2] at h; omega
    have hb0 : 0 ≤ (c : Int) + (da : Int) + (db : Int) := by omega
    have hb9 : (c : Int) + (da : Int) + (db : Int) ≤ 131072 := by omega
    go_wp2_with (at_builtin; refine wpList_push wr rfl _ _ 95 rfl 3 i0 _ 1 8 Tryz.underlying95 hi hz0 hz1 hz2 rfl (by omega) u5 j ((digsTo (a + b) j).map dV) rfl HO.out.own _ _ _ rfl rfl rfl (by simp [Value.oneCell']) (by omega) (by unfold maxLen; omega) ?_)
    intro g gc w1 hown hp
    have HO1 := Lib.hid (HO.out.push (by rw [HD.out]; exact hown) hp)
    clear hown hp
    go_wp2_with fail
    go_roundw
    case rel => exact ⟨j + 1, by omega, by omega, by go_num, by first | rw [hd1, HC2.out] | rw [HC2.out], HO1.out⟩
    case measure => simp [intOf]; omega
   ·have h0 := hnb (by omega)
    rw [h0] at HDIG HSUC
    clear hnb h0 hdb
    generalize dg DD a j = da at *
    have hm1 : ((c : Int) + (da : Int)) % 65536 = (D : Int) := by have h := HDIG.out; have h2 : (DD : Nat) = 65536 := rfl; rw [h2] at h; omega
    have hd1 : ((c : Int) + (da : Int)) / 65536 = (c2 : Int) := by have h := HSUC.out; have h2 : (DD : Nat) = 65536 := rfl; rw [h2] at h; omega
    have hb0 : 0 ≤ (c : Int) + (da : Int) := by omega
    have hb9 : (c : Int) + (da : Int) ≤ 131072 := by omega
    go_wp2_with (at_builtin; refine wpList_push wr rfl _ _ 95 rfl 3 i0 _ 1 8 Tryz.underlying95 hi hz0 hz1 hz2 rfl (by omega) u5 j ((digsTo (a + b) j).map dV) rfl HO.out.own _ _ _ rfl rfl rfl (by simp [Value.oneCell']) (by omega) (by unfold maxLen; omega) ?_)
    intro g gc w1 hown hp
    have HO1 := Lib.hid (HO.out.push (by rw [HD.out]; exact hown) hp)
    clear hown hp
    go_wp2_with fail
    go_roundw
    case rel => exact ⟨j + 1, by omega, by omega, by go_num, by first | rw [hd1, HC2.out] | rw [HC2.out], HO1.out⟩
    case measure => simp [intOf]; omega
  ·have h0 := hna (by omega)
   rw [h0] at HDIG HSUC
   clear hna h0 hda
   by_cases hlb' : j < dl b
   ·obtain ⟨b2, o2, rfl, hb2, hcell2⟩ := (HB.out.up HO.out.below).all (by omega)
    have hx2 := hcell2 j hlb'
    clear hcell2 hnb
    generalize dg DD b j = db at *
    have hm1 : ((c : Int) + (db : Int)) % 65536 = (D : Int) := by have h := HDIG.out; have h2 : (DD : Nat) = 65536 := rfl; rw [h2] at h; omega
    have hd1 : ((c : Int) + (db : Int)) / 65536 = (c2 : Int) := by have h := HSUC.out; have h2 : (DD : Nat) = 65536 := rfl; rw [h2] at h; omega
    have hb0 : 0 ≤ (c : Int) + (db : Int) := by omega
    have hb9 : (c : Int) + (db : Int) ≤ 131072 := by omega
    go_wp2_with (at_builtin; refine wpList_push wr rfl _ _ 95 rfl 3 i0 _ 1 8 Tryz.underlying95 hi hz0 hz1 hz2 rfl (by omega) u5 j ((digsTo (a + b) j).map dV) rfl HO.out.own _ _ _ rfl rfl rfl (by simp [Value.oneCell']) (by omega) (by unfold maxLen; omega) ?_)
    intro g gc w1 hown hp
    have HO1 := Lib.hid (HO.out.push (by rw [HD.out]; exact hown) hp)
    clear hown hp
    go_wp2_with fail
    go_roundw
    case rel => exact ⟨j + 1, by omega, by omega, by go_num, by first | rw [hd1, HC2.out] | rw [HC2.out], HO1.out⟩
    case measure => simp [intOf]; omega
   ·have h0 := hnb (by omega)
    rw [h0] at HDIG HSUC
    clear hnb h0 hdb
    by_cases hcp : 0 < c
    ·have hlast2 := hlast' hcp
     have hm1 : ((c : Int)) % 65536 = (D : Int) := by have h := HDIG.out; have h2 : (DD : Nat) = 65536 := rfl; rw [h2] at h; omega
     have hd1 : ((c : Int)) / 65536 = (c2 : Int) := by have h := HSUC.out; have h2 : (DD : Nat) = 65536 := rfl; rw [h2] at h; omega
     have hb0 : 0 ≤ (c : Int) := by omega
     have hb9 : (c : Int) ≤ 131072 := by omega
     go_wp2_with (at_builtin; refine wpList_push wr rfl _ _ 95 rfl 3 i0 _ 1 8 Tryz.underlying95 hi hz0 hz1 hz2 rfl (by omega) u5 j ((digsTo (a + b) j).map dV) rfl HO.out.own _ _ _ rfl rfl rfl (by simp [Value.oneCell']) (by omega) (by unfold maxLen; omega) ?_)
     intro g gc w1 hown hp
     have HO1 := Lib.hid (HO.out.push (by rw [HD.out]; exact hown) hp)
     clear hown hp
     go_wp2_with fail
     go_roundw
     case rel => exact ⟨j + 1, by omega, by omega, by go_num, by first | rw [hd1, HC2.out] | rw [HC2.out], HO1.out⟩
     case measure => simp [intOf]; omega
    ·have hc0 : c = 0 := by omega
     have HLT := Lib.hid (HEND.out (by omega) (by omega) hc0)
     subst hc0
     clear hlast'
     go_wp2_with fail
     refine (trim_own HO.out.own HLT.out (by omega)).mono ?_
     rintro e w' ⟨a', cap', rfl, hN, hnew, rfl⟩
     have HN := Lib.hid hN
     have HNEW := Lib.hid hnew
     clear hN hnew
     go_wp2_with fail
     go_ret
     exact ⟨a', cap', rfl, HN.out, fun q o h => HO.out.new_ q (HNEW.out q o h), HO.out.below⟩
theorem refPlus_any (a b : Nat) (aa ab : Option Addr) (ca cb : Nat) (hla : dl a ≤ 1048576) (hlb : dl b ≤ 1048576) (w : World) (hA : NumAt w aa a) (hB : NumAt w ab b) :
  Calls Tryz.prog 94 #[.slice aa (dl a) ca, .slice ab (dl b) cb] w fun e w' => NumR w e w' (a + b) :=
 (refPlus_new a b aa ab ca cb hla hlb w hA hB).mono fun _ _ h => h.r
end Go.Proofs.YtjmeakfjfpnciaaGreat
namespace Go.Proofs.YtjmeakfjfpnciaaGreat
open Go.RowKit
def rowT (a b i : Nat) : Nat := (a % DD ^ i) * b
theorem rowT_zero (a b : Nat) : rowT a b 0 = 0 := by simp [rowT, Nat.mod_one]
theorem rowT_succ (a b i : Nat) : rowT a b (i + 1) = rowT a b i + dg DD a i * (b * DD ^ i) := by
 unfold rowT
 rw [dg_mod_succ, Nat.add_mul]
 congr 1
 rw [Nat.mul_comm (DD ^ i), Nat.mul_assoc, Nat.mul_comm (DD ^ i) b]
theorem rowT_lt (a b i : Nat) : rowT a b i < DD ^ (i + dl b) := by
 have h1 := Nat.mod_lt a (Nat.pow_pos (n := i) (show 0 < DD by decide))
 have h2 := lt_dl b
 unfold rowT
 rw [Nat.pow_add]
 rcases Nat.eq_zero_or_pos b with rfl | hb
 ·rw [Nat.mul_zero]; exact Nat.mul_pos (Nat.pow_pos (by decide)) (Nat.pow_pos (by decide))
 ·exact Nat.lt_of_lt_of_le (Nat.mul_lt_mul_of_pos_right h1 hb) (Nat.mul_le_mul_left _ (Nat.le_of_lt h2))
theorem rowT_all (a b : Nat) : rowT a b (dl a) = a * b := by unfold rowT; rw [Nat.mod_eq_of_lt (lt_dl a)]
theorem dg_shift (b i j : Nat) : dg DD (b * DD ^ i) (i + j) = dg DD b j := by
 unfold dg
 rw [Nat.pow_add, ← Nat.div_div_eq_div_mul, Nat.mul_div_cancel _ (Nat.pow_pos (by decide))]
def rowM (a b i j K : Nat) : List Nat := (List.range K).map fun p => if p < i + j then dg DD (rowT a b (i + 1)) p else dg DD (rowT a b i) p
theorem dg_mod_lt (n p i : Nat) (h : p < i) : dg DD n p = dg DD (n % DD ^ i) p := by
 unfold dg
 have e : DD ^ i = DD ^ p * (DD * DD ^ (i - p - 1)) := by rw [← Nat.pow_succ', ← Nat.pow_add]; congr 1; omega
 rw [e, Nat.mod_mul_right_div_self, Nat.mod_mul_right_mod]
theorem rowM_zero (a b i K : Nat) : rowM a b i 0 K = digsTo (rowT a b i) K := by
 unfold rowM digsTo
 refine List.map_congr_left fun p _ => ?_
 split
 ·rename_i h
  rw [rowT_succ, dg_mod_lt _ p i (by omega), ← Nat.mul_assoc, Nat.mul_comm _ (DD ^ i), Nat.add_mul_mod_self_left, ← dg_mod_lt _ p i (by omega)]
 ·rfl
theorem rowM_at (a b i j K : Nat) (h : i + j < K) : ((rowM a b i j K).map dV)[i + j]? = some (.int .i64 (dg DD (rowT a b i) (i + j) : Int)) := by
 simp [rowM, h, dV]
theorem rowM_set (a b i j K : Nat) : ((rowM a b i j K).map dV).set (i + j) (.int .i64 (dg DD (rowT a b (i + 1)) (i + j) : Int)) = (rowM a b i (j + 1) K).map dV := by
 rw [show (Value.int .i64 (dg DD (rowT a b (i + 1)) (i + j) : Int)) = dV (dg DD (rowT a b (i + 1)) (i + j)) from rfl, ← List.map_set]
 congr 1
 refine List.ext_getElem (by simp [rowM]) (fun p h1 h2 => ?_)
 rw [List.getElem_set]
 simp only [rowM, List.getElem_map, List.getElem_range]
 by_cases h : i + j = p
 ·subst h; rw [if_pos rfl, if_pos (by omega)]
 ·rw [if_neg h]
  by_cases h3 : p < i + j
  ·rw [if_pos h3, if_pos (by omega)]
  ·rw [if_neg h3, if_neg (by omega)]
theorem rowM_end (a b i K : Nat) : rowM a b i (dl b + 1) K = digsTo (rowT a b (i + 1)) K := by
 unfold rowM digsTo
 refine List.map_congr_left fun p _ => ?_
 split
 ·rfl
 ·rename_i h
  rw [dg_above (by decide) _ _ p (rowT_lt a b i) (by omega), dg_above (by decide) _ _ p (rowT_lt a b (i + 1)) (by omega)]
theorem up_start (a b i p : Nat) : mcB DD (rowT a b i) (b * DD ^ i) p i = 0 := by
 unfold mcB
 rw [Nat.mul_mod_left, Nat.mul_zero, Nat.add_zero]
 exact Nat.div_eq_of_lt (Nat.mod_lt _ (Nat.pow_pos (by decide)))
theorem up_end (a b i : Nat) : mcB DD (rowT a b i) (b * DD ^ i) (dg DD a i) (i + dl b) = dg DD (rowT a b (i + 1)) (i + dl b) := by
 have h := mcB_dig (B := DD) (by decide) (rowT a b i) (b * DD ^ i) (dg DD a i) (i + dl b)
 rw [dg_shift, dg_nought b (dl b) (Nat.le_refl _), Nat.mul_zero, Nat.add_zero, dg_zero _ _ (rowT_lt a b i), Nat.zero_add, ← rowT_succ] at h
 rw [← h]
 exact (Nat.mod_eq_of_lt (Nat.lt_of_le_of_lt (mcB_le (by decide) _ _ _ _) (dg_lt (by decide) _ _))).symm
theorem zeros_made (K : Nat) : (madeCells #[Value.int .i64 0] K).toList = (digsTo 0 K).map dV := by
 refine List.ext_getElem (by simp [madeCells, digsTo]) (fun i h1 h2 => by simp [madeCells, digsTo, Nat.mod_one, dV, dg])
theorem refTimes_any (a b : Nat) (aa ab : Option Addr) (ca cb : Nat) (hla : dl a ≤ 1048576) (hlb : dl b ≤ 1048576) (w : World) (hA : NumAt w aa a) (hB : NumAt w ab b) :
  Calls Tryz.prog 96 #[.slice aa (dl a) ca, .slice ab (dl b) cb] w fun e w' => NumR w e w' (a * b) := by
 obtain ⟨i0, hi, hz0, hz1, hz2⟩ := info_parts infoInt3
 have HA := Lib.hid hA
 have HB := Lib.hid hB
 clear hA hB
 obtain ⟨K, hK⟩ : ∃ K, dl a + dl b = K := ⟨_, rfl⟩
 have hK1 : (dl a : Int) + (dl b : Int) = (K : Int) := by omega
 go_enter Tryz.func96, Tryz.ntmps96
 go_wp2_with (at_make; refine wpList_make_full _ rfl _ _ 95 rfl 0 3 i0 (.int .i64 0) 1 Tryz.underlying95 hi hz0 hz1 _ _ _ _ K rfl rfl ?c1 ?c2 ?c3 ?c4 ?c5 ?_)
 case c1 => rfl
 case c2 => rfl
 case c3 => rw [hz2]; omega
 case c4 => unfold maxLen; omega
 case c5 => omega
 intro w1 hown hgrow
 have e0 : digsTo 0 K = digsTo (rowT a b 0) K := by rw [rowT_zero]
 rw [zeros_made, e0] at hown
 clear e0
 have HO1 := Lib.hid hown
 have HB1 : Hid (Below w.heap.size w w1) := (Below.refl _ _).grown hgrow (Nat.le_refl _) (by simp)
 have HK := Lib.hid hK
 have hKs : K ≤ 2097152 := by omega
 have hlaK : dl a ≤ K := by omega
 clear hown hgrow hi hz0 hz1 hz2 hK hK1
 go_wp2_with fail
 go_loopw [6, 7, 8, 9] (fun x _ _ _ wr => ∃ i : Nat, i ≤ dl a ∧ x = .int .i64 i ∧ Hid (wr.ownsRow 0 3 1 (.slice (some ⟨w.heap.size, 0, none⟩) K K) K ((digsTo (rowT a b i) K).map dV)) ∧ Hid (Below w.heap.size w wr)) (fun x _ _ _ _ => dl a - (intOf x).toNat)
 case atStart => exact ⟨0, Nat.zero_le _, rfl, HO1.out, HB1.out⟩
 case round =>
  clear HO1 HB1
  obtain ⟨i, hi, rfl, HO, HN⟩ := hrel
  by_cases hil : i < dl a
  ·obtain ⟨W2, rfl⟩ : ∃ W2 : World, W2 = wr := ⟨_, rfl⟩
   obtain ⟨b1, o1, rfl, hb1, hcell1⟩ := HA.out.all (by omega)
   have hx1 := hcell1 i hil
   have HX1 := Lib.hid hx1
   have hda : dg DD a i < 65536 := dg_lt (B := DD) (by decide) a i
   clear hcell1 hx1
   go_wp2_with fail
   go_loopw [7, 8, 9] (fun c x _ wr => ∃ j : Nat, j ≤ dl b ∧ x = .int .i64 j ∧ c = .int .i64 (mcB DD (rowT a b i) (b * DD ^ i) (dg DD a i) (i + j) : Nat) ∧ Hid (wr.ownsRow 0 3 1 (.slice (some ⟨w.heap.size, 0, none⟩) K K) K ((rowM a b i j K).map dV)) ∧ Hid (Below w.heap.size w wr)) (fun _ x _ _ => dl b - (intOf x).toNat)
   case atStart => exact ⟨0, Nat.zero_le _, rfl, by rw [Nat.add_zero, up_start]; rfl, by show World.ownsRow _ _ _ _ _ _ _; rw [rowM_zero]; exact HO.out, HN.out⟩
   case round =>
    clear HO HN
    obtain ⟨j, hj, rfl, rfl, HO, HN⟩ := hrel
    have hsz := HN.out.size
    have hlw := (HO.out.lt w.heap.size (by simp [Value.ownBlock])).2
    have hc1 := mcB_le (B := DD) (by decide) (rowT a b i) (b * DD ^ i) (dg DD a i) (i + j)
    by_cases hjl : j < dl b
    ·obtain ⟨b2, o2, rfl, hb2, hcell2⟩ := HB.out.all (by omega)
     have hx2 := hcell2 j hjl
     have hdb : dg DD b j < 65536 := dg_lt (B := DD) (by decide) b j
     have hdt : dg DD (rowT a b i) (i + j) < 65536 := dg_lt (B := DD) (by decide) _ _
     have hKij : i + j < K := by have := HK.out; omega
     have hdig := mcB_dig (B := DD) (by decide) (rowT a b i) (b * DD ^ i) (dg DD a i) (i + j)
     have hsuc := mcB_succ (B := DD) (by decide) (rowT a b i) (b * DD ^ i) (dg DD a i) (i + j)
     rw [dg_shift, ← rowT_succ] at hdig
     rw [dg_shift] at hsuc
     have hx3 := HO.out.cellAt (i + j) (by omega)
     rw [rowM_at a b i j K hKij] at hx3
     have hf3 := HO.out.frozenAt (i + j)
     have HS := Lib.hid (HO.out.stored (i + j) (.int .i64 (dg DD (rowT a b (i + 1)) (i + j) : Int)))
     have hx1' : wr.cell? ⟨b1, o1 + i, none⟩ = some (.int .i64 (dg DD a i : Int)) := by rw [HN.out.cell (p := ⟨b1, o1 + i, none⟩) hb1]; exact HX1.out
     have hx2' : wr.cell? ⟨b2, o2 + j, none⟩ = some (.int .i64 (dg DD b j : Int)) := by rw [HN.out.cell (p := ⟨b2, o2 + j, none⟩) hb2]; exact hx2
     have hprod : dg DD a i * dg DD b j ≤ 65535 * 65535 := Nat.mul_le_mul (by omega) (by omega)
     have hpi : (dg DD a i : Int) * (dg DD b j : Int) = ((dg DD a i * dg DD b j : Nat) : Int) := by simp
     clear hx2 hcell2
     generalize hT1 : dg DD (rowT a b (i + 1)) (i + j) = d1 at *
     generalize dg DD (rowT a b i) (i + j) = d0 at *
     generalize mcB DD (rowT a b i) (b * DD ^ i) (dg DD a i) (i + j) = c at *
     generalize hc2 : mcB DD (rowT a b i) (b * DD ^ i) (dg DD a i) (i + j + 1) = c2 at *
     generalize hpp : dg DD a i * dg DD b j = pr at *
     have HDIG := Lib.hid hdig
     have HSUC := Lib.hid hsuc
     have HC2 := Lib.hid hc2
     have HPI := Lib.hid hpi
     have HT1 := Lib.hid hT1
     generalize dg DD a i = da at *
     generalize dg DD b j = db at *
     clear hdig hsuc hc2 hT1 hpp
     have hm1 : ((d0 : Int) + (pr : Int) + (c : Int)) % 65536 = (d1 : Int) := by have h := HDIG.out; have h2 : (DD : Nat) = 65536 := rfl; rw [h2] at h; omega
     have hd1 : ((d0 : Int) + (pr : Int) + (c : Int)) / 65536 = (c2 : Int) := by have h := HSUC.out; have h2 : (DD : Nat) = 65536 := rfl; rw [h2] at h; omega
     go_wp2_with fail
     refine wp_region_over (by kernel_rfl) (by kernel_rfl) ?_
     have hov1 := fun (E : Over wr) o => E.cell (b := b1) o (by omega)
     have hov2 := fun (E : Over wr) o => E.cell (b := b2) o (by omega)
     have hov3 := fun (E : Over wr) o => E.cell (b := w.heap.size) o hlw
     repeat (go_big_quiet_step (fail))
     refine wpQuiet_nil ?_
     rintro _ ⟨E, rfl⟩
     have HOE := Lib.hid (HO.out.kept (below_grown E.h) (Or.inr (by simp [Value.ownBlock])))
     have HNE := Lib.hid (HN.out.trans (E.h.mono hsz))
     clear hov1 hov2 hov3 hx1' hx2' hx3 hf3 HS
     obtain ⟨w5, hw5⟩ : ∃ W9 : World, E.w = W9 := ⟨_, rfl⟩
     rw [hw5] at HOE HNE ⊢
     clear hw5 E
     have hx3 := HOE.out.cellAt (i + j) (by omega)
     rw [rowM_at a b i j K hKij] at hx3
     have hf3 := HOE.out.frozenAt (i + j)
     have hst := (HOE.out.stored (i + j) (.int .i64 (dg DD (rowT a b (i + 1)) (i + j) : Int))).1
     rw [rowM_set, HT1.out] at hst
     have HS := Lib.hid hst
     have HSB := Lib.hid (HNE.out.setCell (p := ⟨w.heap.size, i + j, none⟩) (Nat.le_refl _) (.int .i64 (d1 : Int)))
     clear hst
     go_wp2_with fail
     go_roundw
     case rel => exact ⟨j + 1, by omega, by go_num, by first | (rw [hd1, ← HC2.out]; rfl) | (rw [← HC2.out]; rfl), HS.out, HSB.out⟩
     case measure => simp [intOf]; omega
    ·have hjb : j = dl b := by omega
     subst hjb
     have hKij : i + dl b < K := by have := HK.out; omega
     have hx3 := HO.out.cellAt (i + dl b) (by omega)
     rw [rowM_at a b i (dl b) K hKij] at hx3
     have hf3 := HO.out.frozenAt (i + dl b)
     have hst := (HO.out.stored (i + dl b) (.int .i64 (dg DD (rowT a b (i + 1)) (i + dl b) : Int))).1
     rw [rowM_set, rowM_end, ← up_end] at hst
     have HS := Lib.hid hst
     have HSB := Lib.hid (HN.out.setCell (p := ⟨w.heap.size, i + dl b, none⟩) (Nat.le_refl _) (.int .i64 (mcB DD (rowT a b i) (b * DD ^ i) (dg DD a i) (i + dl b) : Nat)))
     clear hst
     go_wp2_with fail
     go_roundw
     case rel => exact ⟨i + 1, by omega, by go_num, HS.out, HSB.out⟩
     case measure => simp [intOf]; omega
  ·have hia : i = dl a := by omega
   subst hia
   rw [rowT_all] at HO
   have hlt : a * b < DD ^ K := by
    have h := rowT_lt a b (dl a)
    rw [rowT_all, HK.out] at h
    exact h
   have HLT := Lib.hid hlt
   clear hlt
   go_wp2_with fail
   refine (trim_own HO.out HLT.out (by omega)).mono ?_
   rintro e w' ⟨a', cap', rfl, hN, _, rfl⟩
   have HNN := Lib.hid hN
   clear hN
   go_wp2_with fail
   go_ret
   exact ⟨a', cap', rfl, HNN.out, HN.out⟩
theorem refTwo_any (k : Nat) (hk : k ≤ 255) (w : World) : Calls Tryz.prog 95 #[.int .i64 (k : Int)] w fun e w' => NumR w e w' (2 ^ k) := by
 have hdl : ∀ i, i ≤ k → dl (2 ^ i) ≤ 1048576 := fun i hi => by
  refine Nat.le_trans (dl_of_lt (2 ^ i) 16 ?_) (by decide)
  show 2 ^ i < (2 ^ 16) ^ 16
  rw [← Nat.pow_mul]
  exact Nat.pow_lt_pow_right (by omega) (by omega)
 have HDL := Lib.hid hdl
 clear hdl
 go_enter Tryz.func95, Tryz.ntmps95
 go_wp2_with fail
 refine (refOf_any 1 (by omega) w).mono ?_
 rintro e w1 ⟨a1, c1, rfl, hn1, hb1⟩
 have HN1 := Lib.hid hn1
 have HB1 := Lib.hid hb1
 clear hn1 hb1
 go_wp2_with fail
 go_loopw [3, 4] (fun u x wr => ∃ (i : Nat) (a : Option Addr) (c : Nat), i ≤ k ∧ x = .int .i64 i ∧ u = .slice a (dl (2 ^ i)) c ∧ Hid (NumAt wr a (2 ^ i)) ∧ Hid (Below w.heap.size w wr)) (fun _ x _ => k - (intOf x).toNat)
 case atStart => exact ⟨0, a1, c1, Nat.zero_le _, rfl, by rw [Nat.pow_zero], HN1.out, HB1.out⟩
 case round =>
  clear HN1 HB1
  obtain ⟨i, a, c, hi, rfl, rfl, HN, HB⟩ := hrel
  by_cases hik : i < k
  ·have h1 := HDL.out i hi
   go_wp2_with fail
   refine (refPlus_any (2 ^ i) (2 ^ i) a a c c h1 h1 wr HN.out HN.out).mono ?_
   rintro e w2 ⟨a2, c2, rfl, hn2, hb2⟩
   rw [← Nat.two_mul, ← Nat.pow_succ'] at hn2 ⊢
   have HN2 := Lib.hid hn2
   have HB2 := Lib.hid (below_up HB.out hb2)
   clear hn2 hb2
   go_wp2_with fail
   go_roundw
   case rel => exact ⟨i + 1, a2, c2, by omega, by go_num, rfl, HN2.out, HB2.out⟩
   case measure => simp [intOf]; omega
  ·have hik2 : i = k := by omega
   subst hik2
   go_wp2_with fail
   go_ret
   exact ⟨a, c, rfl, HN.out, HB.out⟩
end Go.Proofs.YtjmeakfjfpnciaaGreat
namespace Go.Proofs.YtjmeakfjfpnciaaGreat
open Go.RowKit
def Bx (W : World) (b : Nat) (t : TypeId) (cs : List Value) : Prop := W.heap[b]? = some (.cells cs.toArray t (0, 0))
section
variable {W W' : World} {b c i n : Nat} {t : TypeId} {cs : List Value} {v : Value}
theorem Bx.lt (h : Bx W b t cs) : b < W.heap.size := (Array.getElem?_eq_some_iff.1 h).1
theorem Bx.cell (h : Bx W b t cs) (hx : cs[i]? = some v) : W.cell? ⟨b, i, none⟩ = some v := by
 simp [World.cell?, show W.heap[b]? = _ from h, hx]
theorem Bx.frozen (h : Bx W b t cs) (i : Nat) : W.frozen? ⟨b, i, none⟩ = false := by
 simp [World.frozen?, show W.heap[b]? = _ from h]
theorem Bx.below (h : Bx W b t cs) (hb : Below n W W') (hn : b < n) : Bx W' b t cs := (hb.block b hn).trans h
theorem Bx.up (h : Bx W b t cs) (hb : Below W.heap.size W W') : Bx W' b t cs := h.below hb h.lt
theorem Bx.alloc (h : Bx W b t cs) (o : Obj) : Bx (W.alloc o) b t cs := (Below.heap_alloc W o b h.lt).trans h
theorem Bx.new (W : World) (t : TypeId) (cs : List Value) (ar : Array Value) (har : ar = cs.toArray) : Bx (W.alloc (.cells ar t)) W.heap.size t cs := by
 subst har; exact heap_alloc_new W _
theorem Bx.set (h : Bx W b t cs) (i : Nat) (v : Value) : Bx (W.setCell ⟨b, i, none⟩ v) b t (cs.set i v) := by
 obtain ⟨hlt, hk⟩ := Array.getElem?_eq_some_iff.1 h
 show (W.heap.modify b _)[b]? = _
 rw [Array.getElem?_eq_getElem (by rw [Array.size_modify]; exact hlt), Array.getElem_modify_self, hk]
 simp
end
def KindR (w : World) (e : Ending) (w' : World) (G : GP) : Prop :=
 ∃ aq cq ap cp, e = .returned (.agg #[.int .i64 (G.size : Int), .slice aq (dl G.q.m) cq, .slice ap (dl G.p.m) cp]) ∧ NumAt w' aq G.q.m ∧ NumAt w' ap G.p.m ∧ Below w.heap.size w w'
theorem NumAt.store {w : World} {a : Option Addr} {n b : Nat} (h : NumAt w a n) (hne : ∀ q o, a = some ⟨q, o, none⟩ → q ≠ b) (i : Nat) (v : Value) : NumAt (w.setCell ⟨b, i, none⟩ v) a n := by
 rcases h with h | ⟨q, o, rfl, hq, hc⟩
 ·exact Or.inl h
 ·refine Or.inr ⟨q, o, rfl, ?_, fun j u hu => ?_⟩
  ·show q < (w.heap.modify _ _).size; rw [Array.size_modify]; exact hq
  ·rw [World.cell?_of_block (w := w) (a := ⟨q, o + j, none⟩) (Below.heap_setCell w ⟨b, i, none⟩ v q (hne q o rfl))]
   exact hc j u hu
theorem small_dl (n : Nat) (h : n < DD ^ 16) : dl n ≤ 1048576 := Nat.le_trans (dl_of_lt n 16 h) (by decide)
theorem refKind_one (w : World) : Calls Tryz.prog 47 #[.int .i64 1] w fun e w' => KindR w e w' (grp 1) := by
 go_enter Tryz.func47, Tryz.ntmps47
 go_wp2_with fail
 have hb0 : Below w.heap.size w (w.alloc (.cells #[.int .i64 0, .slice none 0 0, .slice none 0 0] 97)) := (Below.refl _ _).alloc (Nat.le_refl _) _
 have hz0 : Bx (w.alloc (.cells #[.int .i64 0, .slice none 0 0, .slice none 0 0] 97)) w.heap.size 97 [.int .i64 0, .slice none 0 0, .slice none 0 0] := Bx.new w _ _ _ rfl
 obtain ⟨W0, hW0⟩ : ∃ W9 : World, (w.alloc (.cells #[.int .i64 0, .slice none 0 0, .slice none 0 0] 97)) = W9 := ⟨_, rfl⟩
 rw [hW0] at hb0 hz0 ⊢
 have HB0 := Lib.hid hb0
 have HZ0 := Lib.hid hz0
 clear hW0 hb0 hz0
 refine (refOf_any 5 (by omega) W0).mono ?_
 rintro e w1 ⟨ah, ch, rfl, hh, hb1⟩
 have Hh := Lib.hid hh
 have HBw1 := Lib.hid (below_up HB0.out hb1)
 have HZ := Lib.hid (HZ0.out.up hb1)
 clear hh hb1 HB0 HZ0
 go_wp2_with fail
 refine (refTwo_any 7 (by omega) w1).mono ?_
 rintro e wt ⟨at', ct', rfl, hn9, hb9⟩
 have Ht := Lib.hid hn9
 have HBwt := Lib.hid (below_up HBw1.out hb9)
 have HZ_9 := Lib.hid (HZ.out.up hb9)
 clear HZ
 have HZ := HZ_9
 clear HZ_9
 have Hh_9 := Lib.hid (Hh.out.up hb9)
 clear Hh
 have Hh := Hh_9
 clear Hh_9 hn9 hb9 HBw1
 go_wp2_with fail
 refine (refTimes_any 5 (2 ^ 7) ah at' ch ct' (small_dl _ (by decide)) (small_dl _ (by decide)) wt Hh.out Ht.out).mono ?_
 rintro e wm ⟨am, cm, rfl, hn9, hb9⟩
 have Hm := Lib.hid hn9
 have HBwm := Lib.hid (below_up HBwt.out hb9)
 have HZ_9 := Lib.hid (HZ.out.up hb9)
 clear HZ
 have HZ := HZ_9
 clear HZ_9 hn9 hb9 HBwt
 go_wp2_with fail
 refine (refOf_any 1 (by omega) wm).mono ?_
 rintro e wo ⟨ao, co, rfl, hn9, hb9⟩
 have Ho := Lib.hid hn9
 have HBwo := Lib.hid (below_up HBwm.out hb9)
 have HZ_9 := Lib.hid (HZ.out.up hb9)
 clear HZ
 have HZ := HZ_9
 clear HZ_9
 have Hm_9 := Lib.hid (Hm.out.up hb9)
 clear Hm
 have Hm := Hm_9
 clear Hm_9 hn9 hb9 HBwm
 go_wp2_with fail
 refine (refPlus_new (5 * 2 ^ 7) 1 am ao cm co (small_dl _ (by decide)) (small_dl _ (by decide)) wo Hm.out Ho.out).mono ?_
 rintro e wq ⟨aq, cq, rfl, hn9, hnew, hb9⟩
 have HNQ := Lib.hid hnew
 have hzo := HBwo.out.size
 have hzb := HZ.out.lt
 clear hnew
 have Hq := Lib.hid hn9
 have HBwq := Lib.hid (below_up HBwo.out hb9)
 have HZ_9 := Lib.hid (HZ.out.up hb9)
 clear HZ
 have HZ := HZ_9
 clear HZ_9 hn9 hb9 HBwo
 go_wp2_with fail
 refine (refPlus_any (5 * 2 ^ 7 + 1) (5 * 2 ^ 7 + 1) aq aq cq cq (small_dl _ (by decide)) (small_dl _ (by decide)) wq Hq.out Hq.out).mono ?_
 rintro e wd ⟨ad, cd, rfl, hn9, hb9⟩
 have Hd := Lib.hid hn9
 have HBwd := Lib.hid (below_up HBwq.out hb9)
 have HZ_9 := Lib.hid (HZ.out.up hb9)
 clear HZ
 have HZ := HZ_9
 clear HZ_9
 have Hq_9 := Lib.hid (Hq.out.up hb9)
 clear Hq
 have Hq := Hq_9
 clear Hq_9 hn9 hb9 HBwq
 go_wp2_with fail
 refine (refOf_any 1 (by omega) wd).mono ?_
 rintro e wu ⟨au, cu, rfl, hn9, hb9⟩
 have Hu := Lib.hid hn9
 have HBwu := Lib.hid (below_up HBwd.out hb9)
 have HZ_9 := Lib.hid (HZ.out.up hb9)
 clear HZ
 have HZ := HZ_9
 clear HZ_9
 have Hq_9 := Lib.hid (Hq.out.up hb9)
 clear Hq
 have Hq := Hq_9
 clear Hq_9
 have Hd_9 := Lib.hid (Hd.out.up hb9)
 clear Hd
 have Hd := Hd_9
 clear Hd_9 hn9 hb9 HBwd
 go_wp2_with fail
 refine (refPlus_new (5 * 2 ^ 7 + 1 + (5 * 2 ^ 7 + 1)) 1 ad au cd cu (small_dl _ (by decide)) (small_dl _ (by decide)) wu Hd.out Hu.out).mono ?_
 rintro e wp ⟨ap, cp, rfl, hn9, hnew, hb9⟩
 have HNP := Lib.hid hnew
 have hzu := HBwu.out.size
 have hzb2 := HZ.out.lt
 clear hnew
 have Hp := Lib.hid hn9
 have HBwp := Lib.hid (below_up HBwu.out hb9)
 have HZ_9 := Lib.hid (HZ.out.up hb9)
 clear HZ
 have HZ := HZ_9
 clear HZ_9
 have Hq_9 := Lib.hid (Hq.out.up hb9)
 clear Hq
 have Hq := Hq_9
 clear Hq_9 hn9 hb9 HBwu
 have hz_0 := HZ.out.cell (i := 0) (v := .int .i64 0) rfl
 have hz_1 := HZ.out.cell (i := 1) (v := .slice none 0 0) rfl
 have hz_2 := HZ.out.cell (i := 2) (v := .slice none 0 0) rfl
 have hzf_0 := HZ.out.frozen 0
 have hzf_1 := HZ.out.frozen 1
 have hzf_2 := HZ.out.frozen 2
 have HZ5 := Lib.hid (((HZ.out.set 0 (.int .i64 2)).set 1 (.slice aq (dl (5 * 2 ^ 7 + 1)) cq)).set 2 (.slice ap (dl (5 * 2 ^ 7 + 1 + (5 * 2 ^ 7 + 1) + 1)) cp))
 have HB5 := Lib.hid (((HBwp.out.setCell (p := ⟨w.heap.size, 0, none⟩) (Nat.le_refl _) (.int .i64 2)).setCell (p := ⟨w.heap.size, 1, none⟩) (Nat.le_refl _) (.slice aq (dl (5 * 2 ^ 7 + 1)) cq)).setCell (p := ⟨w.heap.size, 2, none⟩) (Nat.le_refl _) (.slice ap (dl (5 * 2 ^ 7 + 1 + (5 * 2 ^ 7 + 1) + 1)) cp))
 have HQ5 := Lib.hid (((Hq.out.store (b := w.heap.size) (fun q o h => by have := HNQ.out q o h; omega) 0 (.int .i64 2)).store (b := w.heap.size) (fun q o h => by have := HNQ.out q o h; omega) 1 (.slice aq (dl (5 * 2 ^ 7 + 1)) cq)).store (b := w.heap.size) (fun q o h => by have := HNQ.out q o h; omega) 2 (.slice ap (dl (5 * 2 ^ 7 + 1 + (5 * 2 ^ 7 + 1) + 1)) cp))
 have HP5 := Lib.hid (((Hp.out.store (b := w.heap.size) (fun q o h => by have := HNP.out q o h; omega) 0 (.int .i64 2)).store (b := w.heap.size) (fun q o h => by have := HNP.out q o h; omega) 1 (.slice aq (dl (5 * 2 ^ 7 + 1)) cq)).store (b := w.heap.size) (fun q o h => by have := HNP.out q o h; omega) 2 (.slice ap (dl (5 * 2 ^ 7 + 1 + (5 * 2 ^ 7 + 1) + 1)) cp))
 obtain ⟨w5, hw5⟩ : ∃ W9 : World, ((wp.setCell ⟨w.heap.size, 0, none⟩ (.int .i64 2)).setCell ⟨w.heap.size, 1, none⟩ (.slice aq (dl (5 * 2 ^ 7 + 1)) cq)).setCell ⟨w.heap.size, 2, none⟩ (.slice ap (dl (5 * 2 ^ 7 + 1 + (5 * 2 ^ 7 + 1) + 1)) cp) = W9 := ⟨_, rfl⟩
 go_wp2_with fail
 rw [hw5] at HZ5 HB5 HQ5 HP5
 have hg_0 := HZ5.out.cell (i := 0) (v := .int .i64 2) rfl
 have hg_1 := HZ5.out.cell (i := 1) (v := .slice aq (dl (5 * 2 ^ 7 + 1)) cq) rfl
 have hg_2 := HZ5.out.cell (i := 2) (v := .slice ap (dl (5 * 2 ^ 7 + 1 + (5 * 2 ^ 7 + 1) + 1)) cp) rfl
 have eq_ : (grp 1).q.m = 5 * 2 ^ 7 + 1 := by decide
 have ep_ : (grp 1).p.m = 5 * 2 ^ 7 + 1 + (5 * 2 ^ 7 + 1) + 1 := by decide
 refine bodyPost_ret (v := .agg #[.int .i64 2, .slice aq (dl (5 * 2 ^ 7 + 1)) cq, .slice ap (dl (5 * 2 ^ 7 + 1 + (5 * 2 ^ 7 + 1) + 1)) cp]) (by simp [results, Tryz.results47, go_sem, hg_0, hg_1, hg_2]) rfl ?_
 refine ⟨aq, cq, ap, cp, ?_, ?_, ?_, HB5.out⟩
 ·rw [eq_, ep_]; rfl
 ·rw [eq_]; exact HQ5.out
 ·rw [ep_]; exact HP5.out
theorem refKind_two (w : World) : Calls Tryz.prog 47 #[.int .i64 2] w fun e w' => KindR w e w' (grp 2) := by
 go_enter Tryz.func47, Tryz.ntmps47
 go_wp2_with fail
 have hb0 : Below w.heap.size w (w.alloc (.cells #[.int .i64 0, .slice none 0 0, .slice none 0 0] 97)) := (Below.refl _ _).alloc (Nat.le_refl _) _
 have hz0 : Bx (w.alloc (.cells #[.int .i64 0, .slice none 0 0, .slice none 0 0] 97)) w.heap.size 97 [.int .i64 0, .slice none 0 0, .slice none 0 0] := Bx.new w _ _ _ rfl
 obtain ⟨W0, hW0⟩ : ∃ W9 : World, (w.alloc (.cells #[.int .i64 0, .slice none 0 0, .slice none 0 0] 97)) = W9 := ⟨_, rfl⟩
 rw [hW0] at hb0 hz0 ⊢
 have HB0 := Lib.hid hb0
 have HZ0 := Lib.hid hz0
 clear hW0 hb0 hz0
 refine (refOf_any 5 (by omega) W0).mono ?_
 rintro e w1 ⟨ah, ch, rfl, hh, hb1⟩
 have HB1 := Lib.hid (below_up HB0.out hb1)
 have HZ1 := Lib.hid (HZ0.out.up hb1)
 clear hh hb1 HB0 HZ0
 go_wp2_with fail
 refine (refOf_any 268437635 (by omega) w1).mono ?_
 rintro e w1' ⟨ah, ch, rfl, hh, hb1⟩
 have Hh := Lib.hid hh
 have HBw1 := Lib.hid (below_up HB1.out hb1)
 have HZ := Lib.hid (HZ1.out.up hb1)
 clear hh hb1 HB1 HZ1
 obtain ⟨w1, rfl⟩ : ∃ w1 : World, w1 = w1' := ⟨_, rfl⟩
 go_wp2_with fail
 refine (refTwo_any 31 (by omega) w1).mono ?_
 rintro e wt ⟨at', ct', rfl, hn9, hb9⟩
 have Ht := Lib.hid hn9
 have HBwt := Lib.hid (below_up HBw1.out hb9)
 have HZ_9 := Lib.hid (HZ.out.up hb9)
 clear HZ
 have HZ := HZ_9
 clear HZ_9
 have Hh_9 := Lib.hid (Hh.out.up hb9)
 clear Hh
 have Hh := Hh_9
 clear Hh_9 hn9 hb9 HBw1
 go_wp2_with fail
 refine (refTimes_any 268437635 (2 ^ 31) ah at' ch ct' (small_dl _ (by decide)) (small_dl _ (by decide)) wt Hh.out Ht.out).mono ?_
 rintro e wm ⟨am, cm, rfl, hn9, hb9⟩
 have Hm := Lib.hid hn9
 have HBwm := Lib.hid (below_up HBwt.out hb9)
 have HZ_9 := Lib.hid (HZ.out.up hb9)
 clear HZ
 have HZ := HZ_9
 clear HZ_9 hn9 hb9 HBwt
 go_wp2_with fail
 refine (refOf_any 1 (by omega) wm).mono ?_
 rintro e wo ⟨ao, co, rfl, hn9, hb9⟩
 have Ho := Lib.hid hn9
 have HBwo := Lib.hid (below_up HBwm.out hb9)
 have HZ_9 := Lib.hid (HZ.out.up hb9)
 clear HZ
 have HZ := HZ_9
 clear HZ_9
 have Hm_9 := Lib.hid (Hm.out.up hb9)
 clear Hm
 have Hm := Hm_9
 clear Hm_9 hn9 hb9 HBwm
 go_wp2_with fail
 refine (refPlus_new (268437635 * 2 ^ 31) 1 am ao cm co (small_dl _ (by decide)) (small_dl _ (by decide)) wo Hm.out Ho.out).mono ?_
 rintro e wq ⟨aq, cq, rfl, hn9, hnew, hb9⟩
 have HNQ := Lib.hid hnew
 have hzo := HBwo.out.size
 have hzb := HZ.out.lt
 clear hnew
 have Hq := Lib.hid hn9
 have HBwq := Lib.hid (below_up HBwo.out hb9)
 have HZ_9 := Lib.hid (HZ.out.up hb9)
 clear HZ
 have HZ := HZ_9
 clear HZ_9 hn9 hb9 HBwo
 go_wp2_with fail
 refine (refPlus_any (268437635 * 2 ^ 31 + 1) (268437635 * 2 ^ 31 + 1) aq aq cq cq (small_dl _ (by decide)) (small_dl _ (by decide)) wq Hq.out Hq.out).mono ?_
 rintro e wd ⟨ad, cd, rfl, hn9, hb9⟩
 have Hd := Lib.hid hn9
 have HBwd := Lib.hid (below_up HBwq.out hb9)
 have HZ_9 := Lib.hid (HZ.out.up hb9)
 clear HZ
 have HZ := HZ_9
 clear HZ_9
 have Hq_9 := Lib.hid (Hq.out.up hb9)
 clear Hq
 have Hq := Hq_9
 clear Hq_9 hn9 hb9 HBwq
 go_wp2_with fail
 refine (refOf_any 1 (by omega) wd).mono ?_
 rintro e wu ⟨au, cu, rfl, hn9, hb9⟩
 have Hu := Lib.hid hn9
 have HBwu := Lib.hid (below_up HBwd.out hb9)
 have HZ_9 := Lib.hid (HZ.out.up hb9)
 clear HZ
 have HZ := HZ_9
 clear HZ_9
 have Hq_9 := Lib.hid (Hq.out.up hb9)
 clear Hq
 have Hq := Hq_9
 clear Hq_9
 have Hd_9 := Lib.hid (Hd.out.up hb9)
 clear Hd
 have Hd := Hd_9
 clear Hd_9 hn9 hb9 HBwd
 go_wp2_with fail
 refine (refPlus_new (268437635 * 2 ^ 31 + 1 + (268437635 * 2 ^ 31 + 1)) 1 ad au cd cu (small_dl _ (by decide)) (small_dl _ (by decide)) wu Hd.out Hu.out).mono ?_
 rintro e wp ⟨ap, cp, rfl, hn9, hnew, hb9⟩
 have HNP := Lib.hid hnew
 have hzu := HBwu.out.size
 have hzb2 := HZ.out.lt
 clear hnew
 have Hp := Lib.hid hn9
 have HBwp := Lib.hid (below_up HBwu.out hb9)
 have HZ_9 := Lib.hid (HZ.out.up hb9)
 clear HZ
 have HZ := HZ_9
 clear HZ_9
 have Hq_9 := Lib.hid (Hq.out.up hb9)
 clear Hq
 have Hq := Hq_9
 clear Hq_9 hn9 hb9 HBwu
 have hz_0 := HZ.out.cell (i := 0) (v := .int .i64 0) rfl
 have hz_1 := HZ.out.cell (i := 1) (v := .slice none 0 0) rfl
 have hz_2 := HZ.out.cell (i := 2) (v := .slice none 0 0) rfl
 have hzf_0 := HZ.out.frozen 0
 have hzf_1 := HZ.out.frozen 1
 have hzf_2 := HZ.out.frozen 2
 have HZ5 := Lib.hid (((HZ.out.set 0 (.int .i64 8)).set 1 (.slice aq (dl (268437635 * 2 ^ 31 + 1)) cq)).set 2 (.slice ap (dl (268437635 * 2 ^ 31 + 1 + (268437635 * 2 ^ 31 + 1) + 1)) cp))
 have HB5 := Lib.hid (((HBwp.out.setCell (p := ⟨w.heap.size, 0, none⟩) (Nat.le_refl _) (.int .i64 8)).setCell (p := ⟨w.heap.size, 1, none⟩) (Nat.le_refl _) (.slice aq (dl (268437635 * 2 ^ 31 + 1)) cq)).setCell (p := ⟨w.heap.size, 2, none⟩) (Nat.le_refl _) (.slice ap (dl (268437635 * 2 ^ 31 + 1 + (268437635 * 2 ^ 31 + 1) + 1)) cp))
 have HQ5 := Lib.hid (((Hq.out.store (b := w.heap.size) (fun q o h => by have := HNQ.out q o h; omega) 0 (.int .i64 8)).store (b := w.heap.size) (fun q o h => by have := HNQ.out q o h; omega) 1 (.slice aq (dl (268437635 * 2 ^ 31 + 1)) cq)).store (b := w.heap.size) (fun q o h => by have := HNQ.out q o h; omega) 2 (.slice ap (dl (268437635 * 2 ^ 31 + 1 + (268437635 * 2 ^ 31 + 1) + 1)) cp))
 have HP5 := Lib.hid (((Hp.out.store (b := w.heap.size) (fun q o h => by have := HNP.out q o h; omega) 0 (.int .i64 8)).store (b := w.heap.size) (fun q o h => by have := HNP.out q o h; omega) 1 (.slice aq (dl (268437635 * 2 ^ 31 + 1)) cq)).store (b := w.heap.size) (fun q o h => by have := HNP.out q o h; omega) 2 (.slice ap (dl (268437635 * 2 ^ 31 + 1 + (268437635 * 2 ^ 31 + 1) + 1)) cp))
 obtain ⟨w5, hw5⟩ : ∃ W9 : World, ((wp.setCell ⟨w.heap.size, 0, none⟩ (.int .i64 8)).setCell ⟨w.heap.size, 1, none⟩ (.slice aq (dl (268437635 * 2 ^ 31 + 1)) cq)).setCell ⟨w.heap.size, 2, none⟩ (.slice ap (dl (268437635 * 2 ^ 31 + 1 + (268437635 * 2 ^ 31 + 1) + 1)) cp) = W9 := ⟨_, rfl⟩
 go_wp2_with fail
 rw [hw5] at HZ5 HB5 HQ5 HP5
 have hg_0 := HZ5.out.cell (i := 0) (v := .int .i64 8) rfl
 have hg_1 := HZ5.out.cell (i := 1) (v := .slice aq (dl (268437635 * 2 ^ 31 + 1)) cq) rfl
 have hg_2 := HZ5.out.cell (i := 2) (v := .slice ap (dl (268437635 * 2 ^ 31 + 1 + (268437635 * 2 ^ 31 + 1) + 1)) cp) rfl
 have eq_ : (grp 2).q.m = 268437635 * 2 ^ 31 + 1 := by decide
 have ep_ : (grp 2).p.m = 268437635 * 2 ^ 31 + 1 + (268437635 * 2 ^ 31 + 1) + 1 := by decide
 refine bodyPost_ret (v := .agg #[.int .i64 8, .slice aq (dl (268437635 * 2 ^ 31 + 1)) cq, .slice ap (dl (268437635 * 2 ^ 31 + 1 + (268437635 * 2 ^ 31 + 1) + 1)) cp]) (by simp [results, Tryz.results47, go_sem, hg_0, hg_1, hg_2]) rfl ?_
 refine ⟨aq, cq, ap, cp, ?_, ?_, ?_, HB5.out⟩
 ·rw [eq_, ep_]; rfl
 ·rw [eq_]; exact HQ5.out
 ·rw [ep_]; exact HP5.out
theorem refKind_three (w : World) : Calls Tryz.prog 47 #[.int .i64 3] w fun e w' => KindR w e w' (grp 3) := by
 go_enter Tryz.func47, Tryz.ntmps47
 go_wp2_with fail
 have hb0 : Below w.heap.size w (w.alloc (.cells #[.int .i64 0, .slice none 0 0, .slice none 0 0] 97)) := (Below.refl _ _).alloc (Nat.le_refl _) _
 have hz0 : Bx (w.alloc (.cells #[.int .i64 0, .slice none 0 0, .slice none 0 0] 97)) w.heap.size 97 [.int .i64 0, .slice none 0 0, .slice none 0 0] := Bx.new w _ _ _ rfl
 obtain ⟨W0, hW0⟩ : ∃ W9 : World, (w.alloc (.cells #[.int .i64 0, .slice none 0 0, .slice none 0 0] 97)) = W9 := ⟨_, rfl⟩
 rw [hW0] at hb0 hz0 ⊢
 have HB0 := Lib.hid hb0
 have HZ0 := Lib.hid hz0
 clear hW0 hb0 hz0
 refine (refOf_any 5 (by omega) W0).mono ?_
 rintro e w1 ⟨ah, ch, rfl, hh, hb1⟩
 have HB1 := Lib.hid (below_up HB0.out hb1)
 have HZ1 := Lib.hid (HZ0.out.up hb1)
 clear hh hb1 HB0 HZ0
 go_wp2_with fail
 refine (refTwo_any 125 (by omega) w1).mono ?_
 rintro e w2 ⟨a2, c2, rfl, h2, hb2⟩
 have H2 := Lib.hid h2
 have HB2 := Lib.hid (below_up HB1.out hb2)
 have HZ2 := Lib.hid (HZ1.out.up hb2)
 clear h2 hb2 HB1 HZ1
 go_wp2_with fail
 refine (refOf_any 9087 (by omega) w2).mono ?_
 rintro e w3 ⟨a3, c3, rfl, h3, hb3⟩
 have H3 := Lib.hid h3
 have H2' := Lib.hid (H2.out.up hb3)
 have HB3 := Lib.hid (below_up HB2.out hb3)
 have HZ3 := Lib.hid (HZ2.out.up hb3)
 clear h3 hb3 HB2 HZ2 H2
 go_wp2_with fail
 refine (refPlus_any (2 ^ 125) 9087 a2 a3 c2 c3 (small_dl _ (by decide)) (small_dl _ (by decide)) w3 H2'.out H3.out).mono ?_
 rintro e w1' ⟨ah, ch, rfl, hh, hb1⟩
 have Hh := Lib.hid hh
 have HBw1 := Lib.hid (below_up HB3.out hb1)
 have HZ := Lib.hid (HZ3.out.up hb1)
 clear hh hb1 HB3 HZ3 H2' H3
 obtain ⟨w1, rfl⟩ : ∃ w1 : World, w1 = w1' := ⟨_, rfl⟩
 go_wp2_with fail
 refine (refTwo_any 127 (by omega) w1).mono ?_
 rintro e wt ⟨at', ct', rfl, hn9, hb9⟩
 have Ht := Lib.hid hn9
 have HBwt := Lib.hid (below_up HBw1.out hb9)
 have HZ_9 := Lib.hid (HZ.out.up hb9)
 clear HZ
 have HZ := HZ_9
 clear HZ_9
 have Hh_9 := Lib.hid (Hh.out.up hb9)
 clear Hh
 have Hh := Hh_9
 clear Hh_9 hn9 hb9 HBw1
 go_wp2_with fail
 refine (refTimes_any (2 ^ 125 + 9087) (2 ^ 127) ah at' ch ct' (small_dl _ (by decide)) (small_dl _ (by decide)) wt Hh.out Ht.out).mono ?_
 rintro e wm ⟨am, cm, rfl, hn9, hb9⟩
 have Hm := Lib.hid hn9
 have HBwm := Lib.hid (below_up HBwt.out hb9)
 have HZ_9 := Lib.hid (HZ.out.up hb9)
 clear HZ
 have HZ := HZ_9
 clear HZ_9 hn9 hb9 HBwt
 go_wp2_with fail
 refine (refOf_any 1 (by omega) wm).mono ?_
 rintro e wo ⟨ao, co, rfl, hn9, hb9⟩
 have Ho := Lib.hid hn9
 have HBwo := Lib.hid (below_up HBwm.out hb9)
 have HZ_9 := Lib.hid (HZ.out.up hb9)
 clear HZ
 have HZ := HZ_9
 clear HZ_9
 have Hm_9 := Lib.hid (Hm.out.up hb9)
 clear Hm
 have Hm := Hm_9
 clear Hm_9 hn9 hb9 HBwm
 go_wp2_with fail
 refine (refPlus_new ((2 ^ 125 + 9087) * 2 ^ 127) 1 am ao cm co (small_dl _ (by decide)) (small_dl _ (by decide)) wo Hm.out Ho.out).mono ?_
 rintro e wq ⟨aq, cq, rfl, hn9, hnew, hb9⟩
 have HNQ := Lib.hid hnew
 have hzo := HBwo.out.size
 have hzb := HZ.out.lt
 clear hnew
 have Hq := Lib.hid hn9
 have HBwq := Lib.hid (below_up HBwo.out hb9)
 have HZ_9 := Lib.hid (HZ.out.up hb9)
 clear HZ
 have HZ := HZ_9
 clear HZ_9 hn9 hb9 HBwo
 go_wp2_with fail
 refine (refPlus_any ((2 ^ 125 + 9087) * 2 ^ 127 + 1) ((2 ^ 125 + 9087) * 2 ^ 127 + 1) aq aq cq cq (small_dl _ (by decide)) (small_dl _ (by decide)) wq Hq.out Hq.out).mono ?_
 rintro e wd ⟨ad, cd, rfl, hn9, hb9⟩
 have Hd := Lib.hid hn9
 have HBwd := Lib.hid (below_up HBwq.out hb9)
 have HZ_9 := Lib.hid (HZ.out.up hb9)
 clear HZ
 have HZ := HZ_9
 clear HZ_9
 have Hq_9 := Lib.hid (Hq.out.up hb9)
 clear Hq
 have Hq := Hq_9
 clear Hq_9 hn9 hb9 HBwq
 go_wp2_with fail
 refine (refOf_any 1 (by omega) wd).mono ?_
 rintro e wu ⟨au, cu, rfl, hn9, hb9⟩
 have Hu := Lib.hid hn9
 have HBwu := Lib.hid (below_up HBwd.out hb9)
 have HZ_9 := Lib.hid (HZ.out.up hb9)
 clear HZ
 have HZ := HZ_9
 clear HZ_9
 have Hq_9 := Lib.hid (Hq.out.up hb9)
 clear Hq
 have Hq := Hq_9
 clear Hq_9
 have Hd_9 := Lib.hid (Hd.out.up hb9)
 clear Hd
 have Hd := Hd_9
 clear Hd_9 hn9 hb9 HBwd
 go_wp2_with fail
 refine (refPlus_new ((2 ^ 125 + 9087) * 2 ^ 127 + 1 + ((2 ^ 125 + 9087) * 2 ^ 127 + 1)) 1 ad au cd cu (small_dl _ (by decide)) (small_dl _ (by decide)) wu Hd.out Hu.out).mono ?_
 rintro e wp ⟨ap, cp, rfl, hn9, hnew, hb9⟩
 have HNP := Lib.hid hnew
 have hzu := HBwu.out.size
 have hzb2 := HZ.out.lt
 clear hnew
 have Hp := Lib.hid hn9
 have HBwp := Lib.hid (below_up HBwu.out hb9)
 have HZ_9 := Lib.hid (HZ.out.up hb9)
 clear HZ
 have HZ := HZ_9
 clear HZ_9
 have Hq_9 := Lib.hid (Hq.out.up hb9)
 clear Hq
 have Hq := Hq_9
 clear Hq_9 hn9 hb9 HBwu
 have hz_0 := HZ.out.cell (i := 0) (v := .int .i64 0) rfl
 have hz_1 := HZ.out.cell (i := 1) (v := .slice none 0 0) rfl
 have hz_2 := HZ.out.cell (i := 2) (v := .slice none 0 0) rfl
 have hzf_0 := HZ.out.frozen 0
 have hzf_1 := HZ.out.frozen 1
 have hzf_2 := HZ.out.frozen 2
 have HZ5 := Lib.hid (((HZ.out.set 0 (.int .i64 32)).set 1 (.slice aq (dl ((2 ^ 125 + 9087) * 2 ^ 127 + 1)) cq)).set 2 (.slice ap (dl ((2 ^ 125 + 9087) * 2 ^ 127 + 1 + ((2 ^ 125 + 9087) * 2 ^ 127 + 1) + 1)) cp))
 have HB5 := Lib.hid (((HBwp.out.setCell (p := ⟨w.heap.size, 0, none⟩) (Nat.le_refl _) (.int .i64 32)).setCell (p := ⟨w.heap.size, 1, none⟩) (Nat.le_refl _) (.slice aq (dl ((2 ^ 125 + 9087) * 2 ^ 127 + 1)) cq)).setCell (p := ⟨w.heap.size, 2, none⟩) (Nat.le_refl _) (.slice ap (dl ((2 ^ 125 + 9087) * 2 ^ 127 + 1 + ((2 ^ 125 + 9087) * 2 ^ 127 + 1) + 1)) cp))
 have HQ5 := Lib.hid (((Hq.out.store (b := w.heap.size) (fun q o h => by have := HNQ.out q o h; omega) 0 (.int .i64 32)).store (b := w.heap.size) (fun q o h => by have := HNQ.out q o h; omega) 1 (.slice aq (dl ((2 ^ 125 + 9087) * 2 ^ 127 + 1)) cq)).store (b := w.heap.size) (fun q o h => by have := HNQ.out q o h; omega) 2 (.slice ap (dl ((2 ^ 125 + 9087) * 2 ^ 127 + 1 + ((2 ^ 125 + 9087) * 2 ^ 127 + 1) + 1)) cp))
 have HP5 := Lib.hid (((Hp.out.store (b := w.heap.size) (fun q o h => by have := HNP.out q o h; omega) 0 (.int .i64 32)).store (b := w.heap.size) (fun q o h => by have := HNP.out q o h; omega) 1 (.slice aq (dl ((2 ^ 125 + 9087) * 2 ^ 127 + 1)) cq)).store (b := w.heap.size) (fun q o h => by have := HNP.out q o h; omega) 2 (.slice ap (dl ((2 ^ 125 + 9087) * 2 ^ 127 + 1 + ((2 ^ 125 + 9087) * 2 ^ 127 + 1) + 1)) cp))
 obtain ⟨w5, hw5⟩ : ∃ W9 : World, ((wp.setCell ⟨w.heap.size, 0, none⟩ (.int .i64 32)).setCell ⟨w.heap.size, 1, none⟩ (.slice aq (dl ((2 ^ 125 + 9087) * 2 ^ 127 + 1)) cq)).setCell ⟨w.heap.size, 2, none⟩ (.slice ap (dl ((2 ^ 125 + 9087) * 2 ^ 127 + 1 + ((2 ^ 125 + 9087) * 2 ^ 127 + 1) + 1)) cp) = W9 := ⟨_, rfl⟩
 go_wp2_with fail
 rw [hw5] at HZ5 HB5 HQ5 HP5
 have hg_0 := HZ5.out.cell (i := 0) (v := .int .i64 32) rfl
 have hg_1 := HZ5.out.cell (i := 1) (v := .slice aq (dl ((2 ^ 125 + 9087) * 2 ^ 127 + 1)) cq) rfl
 have hg_2 := HZ5.out.cell (i := 2) (v := .slice ap (dl ((2 ^ 125 + 9087) * 2 ^ 127 + 1 + ((2 ^ 125 + 9087) * 2 ^ 127 + 1) + 1)) cp) rfl
 have eq_ : (grp 3).q.m = (2 ^ 125 + 9087) * 2 ^ 127 + 1 := by decide
 have ep_ : (grp 3).p.m = (2 ^ 125 + 9087) * 2 ^ 127 + 1 + ((2 ^ 125 + 9087) * 2 ^ 127 + 1) + 1 := by decide
 refine bodyPost_ret (v := .agg #[.int .i64 32, .slice aq (dl ((2 ^ 125 + 9087) * 2 ^ 127 + 1)) cq, .slice ap (dl ((2 ^ 125 + 9087) * 2 ^ 127 + 1 + ((2 ^ 125 + 9087) * 2 ^ 127 + 1) + 1)) cp]) (by simp [results, Tryz.results47, go_sem, hg_0, hg_1, hg_2]) rfl ?_
 refine ⟨aq, cq, ap, cp, ?_, ?_, ?_, HB5.out⟩
 ·rw [eq_, ep_]; rfl
 ·rw [eq_]; exact HQ5.out
 ·rw [ep_]; exact HP5.out
theorem refKind_none (k : Int) (hk : ¬ (1 ≤ k ∧ k ≤ 3)) (w : World) : Calls Tryz.prog 47 #[.int .i64 k] w fun e w' => e = .returned (.agg #[.int .i64 0, .slice none 0 0, .slice none 0 0]) ∧ Below w.heap.size w w' := by
 have h1 : (k == 2) = false := by simp; omega
 have h2 : (k == 3) = false := by simp; omega
 have h3 : (k != 1) = true := by simp; omega
 go_enter Tryz.func47, Tryz.ntmps47
 go_wp2_with fail
 have hb0 : Below w.heap.size w (w.alloc (.cells #[.int .i64 0, .slice none 0 0, .slice none 0 0] 97)) := (Below.refl _ _).alloc (Nat.le_refl _) _
 have hz0 : Bx (w.alloc (.cells #[.int .i64 0, .slice none 0 0, .slice none 0 0] 97)) w.heap.size 97 [.int .i64 0, .slice none 0 0, .slice none 0 0] := Bx.new w _ _ _ rfl
 obtain ⟨W0, hW0⟩ : ∃ W9 : World, (w.alloc (.cells #[.int .i64 0, .slice none 0 0, .slice none 0 0] 97)) = W9 := ⟨_, rfl⟩
 rw [hW0] at hb0 hz0 ⊢
 have HB0 := Lib.hid hb0
 have HZ0 := Lib.hid hz0
 clear hW0 hb0 hz0
 refine (refOf_any 5 (by omega) W0).mono ?_
 rintro e w1 ⟨ah, ch, rfl, hh, hb1⟩
 have HB1 := Lib.hid (below_up HB0.out hb1)
 have HZ1 := Lib.hid (HZ0.out.up hb1)
 clear hh hb1 HB0 HZ0
 have hz_0 := HZ1.out.cell (i := 0) (v := .int .i64 0) rfl
 have hz_1 := HZ1.out.cell (i := 1) (v := .slice none 0 0) rfl
 have hz_2 := HZ1.out.cell (i := 2) (v := .slice none 0 0) rfl
 have hzf_0 := HZ1.out.frozen 0
 have hzf_1 := HZ1.out.frozen 1
 have hzf_2 := HZ1.out.frozen 2
 have HZ5 := Lib.hid (((HZ1.out.set 0 (.int .i64 0)).set 1 (.slice none 0 0)).set 2 (.slice none 0 0))
 have HB5 := Lib.hid (((HB1.out.setCell (p := ⟨w.heap.size, 0, none⟩) (Nat.le_refl _) (.int .i64 0)).setCell (p := ⟨w.heap.size, 1, none⟩) (Nat.le_refl _) (.slice none 0 0)).setCell (p := ⟨w.heap.size, 2, none⟩) (Nat.le_refl _) (.slice none 0 0))
 obtain ⟨w5, hw5⟩ : ∃ W9 : World, ((w1.setCell ⟨w.heap.size, 0, none⟩ (.int .i64 0)).setCell ⟨w.heap.size, 1, none⟩ (.slice none 0 0)).setCell ⟨w.heap.size, 2, none⟩ (.slice none 0 0) = W9 := ⟨_, rfl⟩
 go_wp2_with fail
 rw [hw5] at HZ5 HB5
 have hg_0 := HZ5.out.cell (i := 0) (v := .int .i64 0) rfl
 have hg_1 := HZ5.out.cell (i := 1) (v := .slice none 0 0) rfl
 have hg_2 := HZ5.out.cell (i := 2) (v := .slice none 0 0) rfl
 refine bodyPost_ret (v := .agg #[.int .i64 0, .slice none 0 0, .slice none 0 0]) (by simp [results, Tryz.results47, go_sem, hg_0, hg_1, hg_2]) rfl ?_
 exact ⟨rfl, HB5.out⟩
theorem refKind_some (k : Nat) (h1 : 1 ≤ k) (h3 : k ≤ 3) (w : World) : Calls Tryz.prog 47 #[.int .i64 (k : Int)] w fun e w' => KindR w e w' (grp k) := by
 obtain rfl | rfl | rfl : k = 1 ∨ k = 2 ∨ k = 3 := by omega
 ·exact refKind_one w
 ·exact refKind_two w
 ·exact refKind_three w
end Go.Proofs.YtjmeakfjfpnciaaGreat
namespace Go.Proofs.YtjmeakfjfpnciaaGreat
open Go.RowKit
def RowO (N : Nat) (w : World) (e : TypeId) (size : Nat) (v : Value) (n : Nat) (xs : List Value) : Prop := w.ownsRow N e size v n xs
section
variable {w w1 : World} {e : TypeId} {N size n m g c : Nat} {v : Value} {xs ys : List Value} {r : Option Nat}
theorem RowO.nil : RowO N w e size (.slice none 0 0) 0 [] := World.ownsRow_nil _ _ _ _
theorem RowO.grown (h : RowO N w e size v n xs) (hg : w.grownBy w1 r) (hne : ∀ q, v.ownBlock = some q → r ≠ some q) : RowO N w1 e size v n xs :=
 World.ownsRow.kept h hg (by cases h9 : v.ownBlock with
  | none => exact Or.inl rfl
  | some q => exact Or.inr (fun e => hne q h9 e.symm))
theorem RowO.up (h : RowO N w e size v n xs) (hb : Below w.heap.size w w1) : RowO N w1 e size v n xs := h.grown (below_grown hb) (fun q _ => by simp)
theorem RowO.lt (h : RowO N w e size v n xs) (q : Nat) (hq : v.ownBlock = some q) : N ≤ q ∧ q < w.heap.size := World.ownsRow.lt h q hq
theorem RowO.eq (h : RowO N w e size v n xs) (hx : xs = ys) (hn : n = m) : RowO N w e size v m ys := by subst hx; subst hn; exact h
theorem RowO.sl {a : Option Addr} {k : Nat} (h : RowO N w e size (.slice a k c) n xs) : Sl w w.heap.size a xs := by
 rcases h.2 with ⟨hv, h0⟩ | ⟨g, cap, cur, hv, hb, hg, hr⟩
 ·have := h.1; subst h0; left; exact List.length_eq_zero_iff.1 (by simpa using this)
 ·simp only [Value.slice.injEq] at hv
  obtain ⟨rfl, rfl, rfl⟩ := hv
  refine Or.inr ⟨g, 0, rfl, (Array.getElem?_eq_some_iff.1 hg).1, fun i u hu => ?_⟩
  have hi : i < k * size := by have := (List.getElem?_eq_some_iff.1 hu).1; rw [h.1] at this; exact this
  rw [Nat.zero_add, World.ownsRow.cellAt h i hi]; exact hu
theorem Bx.grown {t : TypeId} {b : Nat} {cs : List Value} (h : Bx w b t cs) (hg : w.grownBy w1 r) (hne : r ≠ some b) : Bx w1 b t cs := (hg.block b h.lt (fun e => hne e.symm)).trans h
theorem cell_of_block {b : Nat} (h : w1.heap[b]? = w.heap[b]?) (o : Nat) : w1.cell? ⟨b, o, none⟩ = w.cell? ⟨b, o, none⟩ := by
 simp only [World.cell?, h]
theorem GroupAt.grown {gb : Nat} {G : GP} (h : GroupAt w gb G) (hg : w.grownBy w1 r) (hne : r ≠ some gb) : GroupAt w1 gb G := by
 have hc := cell_of_block (hg.block gb h.lt (fun e => hne e.symm))
 have hl := hg.size
 exact ⟨Nat.lt_of_lt_of_le h.lt hl, by rw [hc]; exact h.kind, by rw [hc]; exact h.size, ⟨Nat.lt_of_lt_of_le h.p.lt hl, fun i x hx => by rw [hc]; exact h.p.cell i x hx⟩, ⟨Nat.lt_of_lt_of_le h.q.lt hl, fun i x hx => by rw [hc]; exact h.q.cell i x hx⟩⟩
theorem grown_set (w : World) (b i : Nat) (u : Value) : w.grownBy (w.setCell ⟨b, i, none⟩ u) (some b) :=
 ⟨rfl, rfl, rfl, by simp [World.setCell], fun k _ hk => Below.heap_setCell w ⟨b, i, none⟩ u k (by intro e; exact hk (by rw [e]))⟩
end
theorem wpList_pushR {P : Program} (N : Nat) (w0 : World) (hN : N ≤ w0.heap.size) {ops : Array Oper} {rest : List Oper} {o : Oper} {a : Act} {Q : Exit → Act → World → Prop} (hgd : o.guard = none) (s x : Operand) (t : TypeId)
  (ho : o.op = .call { callee := .builtin .append, args := #[s, x], argTypes := #[t, t] })
  (e : TypeId) (i : TypeInfo) (z : Value) (size bytes : Nat) (ht : P.underlying t = some (.slice e)) (hi : P.info? e = some i) (hz : i.zero = some z)
  (hsize : i.size = size) (hby : i.bytes = bytes) (hzs : z.cells.size = size) (hsz : 0 < size)
  (v : Value) (n : Nat) (xs : List Value) (hs : a.eval s = v) (hown : RowO N w0 e size v n xs)
  (news : Array Value) (e2 : TypeId) (b : Nat) (hb : w0.heap.size = b) (hx : a.eval x = .slice (some ⟨b, 0, none⟩) 1 1) (hl : news.size = size) (h1 : ∀ u ∈ news.toList, u.oneCell' = true)
  (h63 : (n + 1) * bytes ≤ 140737488355328) (hn : n + 1 ≤ maxLen)
  (h : ∀ g cap w', RowO N w' e size (.slice (some ⟨g, 0, none⟩) (n + 1) cap) (n + 1) (xs ++ news.toList) → w0.grownBy w' v.ownBlock → wpList P ops Q rest (a.put o.dst (.slice (some ⟨g, 0, none⟩) (n + 1) cap)) w') :
  wpList P ops Q (o :: rest) a (w0.alloc (.cells news e2)) := by
 subst hb
 refine wpList_append_lies _ hgd s x t ho N e i z size bytes ht hi hz hsize hby hzs hsz v n xs hs (World.ownsRow.alloc hown _) ⟨w0.heap.size, 0, none⟩ 1 1 news.toList hx (by simpa using hl)
  (World.news_of_block (heap_alloc_new w0 _)) h1 (by omega) hn h63 (by simp; omega) _ rfl ?_
 intro g cap w' hown' hg _ _
 refine h g cap w' hown' ⟨hg.os, hg.tape, hg.output, ?_, ?_⟩
 ·have := hg.size; simp at this; omega
 ·intro k hk hne
  rw [hg.block k (by simp; omega) hne]
  exact Below.heap_alloc _ _ _ hk
theorem flat_at {α : Type} (f : α → List Value) (k : Nat) (hk : ∀ x, (f x).length = k) : ∀ (l : List α) (i j : Nat) (hi : i < l.length) (_ : j < k), (l.flatMap f)[i * k + j]? = (f l[i])[j]?
 | [], i, _, hi, _ => absurd hi (by simp)
 | x :: l, 0, j, _, hj => by
  rw [List.flatMap_cons, Nat.zero_mul, Nat.zero_add, List.getElem?_append_left (by rw [hk]; exact hj)]
  rfl
 | x :: l, i + 1, j, hi, hj => by
  rw [List.flatMap_cons, List.getElem?_append_right (by rw [hk, Nat.add_mul]; omega), hk, show (i + 1) * k + j - k = i * k + j by rw [Nat.add_mul]; omega]
  exact flat_at f k hk l i j (by simpa using hi) hj
theorem flat_len {α : Type} (f : α → List Value) (k : Nat) (hk : ∀ x, (f x).length = k) (l : List α) : (l.flatMap f).length = l.length * k := by
 induction l with
 | nil => simp
 | cons x l ih => rw [List.flatMap_cons, List.length_append, hk, ih, List.length_cons, Nat.add_mul]; omega
theorem flat_snoc {α : Type} (f : α → List Value) (l : List α) (i : Nat) (hi : i < l.length) : (l.take (i + 1)).flatMap f = (l.take i).flatMap f ++ f l[i] := by
 rw [List.take_succ_eq_append_getElem hi, List.flatMap_append]
 simp
theorem Sl.elem {w : World} {B : Nat} {a : Option Addr} {α : Type} {f : α → List Value} {k : Nat} {l : List α} (h : Sl w B a (l.flatMap f)) (hk : ∀ x, (f x).length = k) (h0 : 0 < k) (i : Nat) (hi : i < l.length) :
  ∃ b off, a = some ⟨b, off, none⟩ ∧ b < B ∧ ∀ j v, (f l[i])[j]? = some v → w.cell? ⟨b, off + i * k + j, none⟩ = some v := by
 rcases h with h | ⟨b, off, rfl, hb, hc⟩
 ·have := flat_len f k hk l
  rw [h, List.length_nil] at this
  have : 0 < l.length * k := Nat.mul_pos (by omega) h0
  omega
 ·exact ⟨b, off, rfl, hb, fun j v hv => by rw [Nat.add_assoc]; exact hc _ _ (by rw [flat_at f k hk l i j hi (by have := (List.getElem?_eq_some_iff.1 hv).1; rw [hk] at this; exact this)]; exact hv)⟩
end Go.Proofs.YtjmeakfjfpnciaaGreat
namespace Go.Proofs.YtjmeakfjfpnciaaGreat
open Go.RowKit
section
variable {W w0 : World} {b n : Nat} {t : TypeId} {cs cs' : List Value} {a0 a1 a2 a3 a4 a5 a6 a7 : Value}
theorem Bx.c2 (h : Bx W b t [a0, a1]) : W.cell? ⟨b, 0, none⟩ = some a0 ∧ W.cell? ⟨b, 1, none⟩ = some a1 := ⟨h.cell (i := 0) rfl, h.cell (i := 1) rfl⟩
theorem Bx.c3 (h : Bx W b t [a0, a1, a2]) : W.cell? ⟨b, 0, none⟩ = some a0 ∧ W.cell? ⟨b, 1, none⟩ = some a1 ∧ W.cell? ⟨b, 2, none⟩ = some a2 := ⟨h.cell (i := 0) rfl, h.cell (i := 1) rfl, h.cell (i := 2) rfl⟩
theorem Bx.c4 (h : Bx W b t [a0, a1, a2, a3]) : W.cell? ⟨b, 0, none⟩ = some a0 ∧ W.cell? ⟨b, 1, none⟩ = some a1 ∧ W.cell? ⟨b, 2, none⟩ = some a2 ∧ W.cell? ⟨b, 3, none⟩ = some a3 := ⟨h.cell (i := 0) rfl, h.cell (i := 1) rfl, h.cell (i := 2) rfl, h.cell (i := 3) rfl⟩
theorem Bx.c8 (h : Bx W b t [a0, a1, a2, a3, a4, a5, a6, a7]) : W.cell? ⟨b, 0, none⟩ = some a0 ∧ W.cell? ⟨b, 1, none⟩ = some a1 ∧ W.cell? ⟨b, 2, none⟩ = some a2 ∧ W.cell? ⟨b, 3, none⟩ = some a3 ∧ W.cell? ⟨b, 4, none⟩ = some a4 ∧ W.cell? ⟨b, 5, none⟩ = some a5 ∧ W.cell? ⟨b, 6, none⟩ = some a6 ∧ W.cell? ⟨b, 7, none⟩ = some a7 := ⟨h.cell (i := 0) rfl, h.cell (i := 1) rfl, h.cell (i := 2) rfl, h.cell (i := 3) rfl, h.cell (i := 4) rfl, h.cell (i := 5) rfl, h.cell (i := 6) rfl, h.cell (i := 7) rfl⟩
theorem sz {p q : Prop} (a : Hid p) (b : q) : Hid (p ∧ q) := Lib.hid ⟨a.out, b⟩
theorem sne {a b : Nat} (h : b ≠ a) : some a ≠ some b := fun e => h (Option.some.inj e).symm
theorem hbu {W w w1 : World} (h : Hid (Below W.heap.size W w)) (g : Below w.heap.size w w1) : Hid (Below W.heap.size W w1) := Lib.hid (below_up h.out g)
theorem hbg {W w w1 : World} {b : Nat} (h : Hid (Below W.heap.size W w)) (g : Hid (w.grownBy w1 (some b))) (hb : W.heap.size ≤ b) : Hid (Below W.heap.size W w1) := Lib.hid (Below.grown h.out g.out h.out.size (fun _ e => (Option.some.inj e) ▸ hb))
theorem new1 (w : World) (t0 : TypeId) (c0 : List Value) : ∃ W, w.alloc (Obj.cells c0.toArray t0) = W ∧ Below w.heap.size w W ∧ Hid (W.heap.size = w.heap.size + 1) ∧ Hid (Bx W w.heap.size t0 c0) := by
 refine ⟨_, rfl, ((Below.refl _ _).alloc (Nat.le_refl _) _), Lib.hid (by simp), ?_⟩
 ·have h := (Bx.new w t0 c0 _ rfl)
  exact Lib.hid h
theorem new2 (w : World) (t0 : TypeId) (c0 : List Value) (t1 : TypeId) (c1 : List Value) : ∃ W, (w.alloc (Obj.cells c0.toArray t0)).alloc (Obj.cells c1.toArray t1) = W ∧ Below w.heap.size w W ∧ Hid (W.heap.size = w.heap.size + 2) ∧ Hid (Bx W w.heap.size t0 c0) ∧ Hid (Bx W (w.heap.size + 1) t1 c1) := by
 refine ⟨_, rfl, (((Below.refl _ _).alloc (Nat.le_refl _) _).alloc (by simp) _), Lib.hid (by simp), ?_, ?_⟩
 ·have h := ((Bx.new w t0 c0 _ rfl).alloc (Obj.cells c1.toArray t1))
  exact Lib.hid h
 ·have h := (Bx.new (w.alloc (Obj.cells c0.toArray t0)) t1 c1 _ rfl)
  rw [World.size_alloc] at h
  exact Lib.hid h
theorem new3 (w : World) (t0 : TypeId) (c0 : List Value) (t1 : TypeId) (c1 : List Value) (t2 : TypeId) (c2 : List Value) : ∃ W, ((w.alloc (Obj.cells c0.toArray t0)).alloc (Obj.cells c1.toArray t1)).alloc (Obj.cells c2.toArray t2) = W ∧ Below w.heap.size w W ∧ Hid (W.heap.size = w.heap.size + 3) ∧ Hid (Bx W w.heap.size t0 c0) ∧ Hid (Bx W (w.heap.size + 1) t1 c1) ∧ Hid (Bx W (w.heap.size + 2) t2 c2) := by
 refine ⟨_, rfl, ((((Below.refl _ _).alloc (Nat.le_refl _) _).alloc (by simp) _).alloc (by simp; omega) _), Lib.hid (by simp), ?_, ?_, ?_⟩
 ·have h := (((Bx.new w t0 c0 _ rfl).alloc (Obj.cells c1.toArray t1)).alloc (Obj.cells c2.toArray t2))
  exact Lib.hid h
 ·have h := ((Bx.new (w.alloc (Obj.cells c0.toArray t0)) t1 c1 _ rfl).alloc (Obj.cells c2.toArray t2))
  rw [World.size_alloc] at h
  exact Lib.hid h
 ·have h := (Bx.new ((w.alloc (Obj.cells c0.toArray t0)).alloc (Obj.cells c1.toArray t1)) t2 c2 _ rfl)
  rw [World.size_alloc, World.size_alloc] at h
  exact Lib.hid h
theorem new4 (w : World) (t0 : TypeId) (c0 : List Value) (t1 : TypeId) (c1 : List Value) (t2 : TypeId) (c2 : List Value) (t3 : TypeId) (c3 : List Value) : ∃ W, (((w.alloc (Obj.cells c0.toArray t0)).alloc (Obj.cells c1.toArray t1)).alloc (Obj.cells c2.toArray t2)).alloc (Obj.cells c3.toArray t3) = W ∧ Below w.heap.size w W ∧ Hid (W.heap.size = w.heap.size + 4) ∧ Hid (Bx W w.heap.size t0 c0) ∧ Hid (Bx W (w.heap.size + 1) t1 c1) ∧ Hid (Bx W (w.heap.size + 2) t2 c2) ∧ Hid (Bx W (w.heap.size + 3) t3 c3) := by
 refine ⟨_, rfl, (((((Below.refl _ _).alloc (Nat.le_refl _) _).alloc (by simp) _).alloc (by simp; omega) _).alloc (by simp; omega) _), Lib.hid (by simp), ?_, ?_, ?_, ?_⟩
 ·have h := ((((Bx.new w t0 c0 _ rfl).alloc (Obj.cells c1.toArray t1)).alloc (Obj.cells c2.toArray t2)).alloc (Obj.cells c3.toArray t3))
  exact Lib.hid h
 ·have h := (((Bx.new (w.alloc (Obj.cells c0.toArray t0)) t1 c1 _ rfl).alloc (Obj.cells c2.toArray t2)).alloc (Obj.cells c3.toArray t3))
  rw [World.size_alloc] at h
  exact Lib.hid h
 ·have h := ((Bx.new ((w.alloc (Obj.cells c0.toArray t0)).alloc (Obj.cells c1.toArray t1)) t2 c2 _ rfl).alloc (Obj.cells c3.toArray t3))
  rw [World.size_alloc, World.size_alloc] at h
  exact Lib.hid h
 ·have h := (Bx.new (((w.alloc (Obj.cells c0.toArray t0)).alloc (Obj.cells c1.toArray t1)).alloc (Obj.cells c2.toArray t2)) t3 c3 _ rfl)
  rw [World.size_alloc, World.size_alloc, World.size_alloc] at h
  exact Lib.hid h
theorem put1 (h : Hid (Bx W b t cs)) (o0 : Nat) (v0 : Value) (cs' : List Value) (hc : (cs.set o0 v0) = cs') : ∃ W', (W.setCell ⟨b, o0, none⟩ v0) = W' ∧ Hid (W.grownBy W' (some b)) ∧ Hid (W'.heap.size = W.heap.size) ∧ Hid (Bx W' b t cs') :=
 ⟨_, rfl, Lib.hid (grown_set W b o0 v0), Lib.hid (by simp [World.setCell]), Lib.hid (hc ▸ (h.out.set o0 v0))⟩
theorem put2 (h : Hid (Bx W b t cs)) (o0 : Nat) (v0 : Value) (o1 : Nat) (v1 : Value) (cs' : List Value) (hc : ((cs.set o0 v0).set o1 v1) = cs') : ∃ W', ((W.setCell ⟨b, o0, none⟩ v0).setCell ⟨b, o1, none⟩ v1) = W' ∧ Hid (W.grownBy W' (some b)) ∧ Hid (W'.heap.size = W.heap.size) ∧ Hid (Bx W' b t cs') :=
 ⟨_, rfl, Lib.hid ((grown_set W b o0 v0).trans (grown_set (W.setCell ⟨b, o0, none⟩ v0) b o1 v1)), Lib.hid (by simp [World.setCell]), Lib.hid (hc ▸ ((h.out.set o0 v0).set o1 v1))⟩
theorem put3 (h : Hid (Bx W b t cs)) (o0 : Nat) (v0 : Value) (o1 : Nat) (v1 : Value) (o2 : Nat) (v2 : Value) (cs' : List Value) (hc : (((cs.set o0 v0).set o1 v1).set o2 v2) = cs') : ∃ W', (((W.setCell ⟨b, o0, none⟩ v0).setCell ⟨b, o1, none⟩ v1).setCell ⟨b, o2, none⟩ v2) = W' ∧ Hid (W.grownBy W' (some b)) ∧ Hid (W'.heap.size = W.heap.size) ∧ Hid (Bx W' b t cs') :=
 ⟨_, rfl, Lib.hid (((grown_set W b o0 v0).trans (grown_set (W.setCell ⟨b, o0, none⟩ v0) b o1 v1)).trans (grown_set ((W.setCell ⟨b, o0, none⟩ v0).setCell ⟨b, o1, none⟩ v1) b o2 v2)), Lib.hid (by simp [World.setCell]), Lib.hid (hc ▸ (((h.out.set o0 v0).set o1 v1).set o2 v2))⟩
theorem put4 (h : Hid (Bx W b t cs)) (o0 : Nat) (v0 : Value) (o1 : Nat) (v1 : Value) (o2 : Nat) (v2 : Value) (o3 : Nat) (v3 : Value) (cs' : List Value) (hc : ((((cs.set o0 v0).set o1 v1).set o2 v2).set o3 v3) = cs') : ∃ W', ((((W.setCell ⟨b, o0, none⟩ v0).setCell ⟨b, o1, none⟩ v1).setCell ⟨b, o2, none⟩ v2).setCell ⟨b, o3, none⟩ v3) = W' ∧ Hid (W.grownBy W' (some b)) ∧ Hid (W'.heap.size = W.heap.size) ∧ Hid (Bx W' b t cs') :=
 ⟨_, rfl, Lib.hid ((((grown_set W b o0 v0).trans (grown_set (W.setCell ⟨b, o0, none⟩ v0) b o1 v1)).trans (grown_set ((W.setCell ⟨b, o0, none⟩ v0).setCell ⟨b, o1, none⟩ v1) b o2 v2)).trans (grown_set (((W.setCell ⟨b, o0, none⟩ v0).setCell ⟨b, o1, none⟩ v1).setCell ⟨b, o2, none⟩ v2) b o3 v3)), Lib.hid (by simp [World.setCell]), Lib.hid (hc ▸ ((((h.out.set o0 v0).set o1 v1).set o2 v2).set o3 v3))⟩
end
end Go.Proofs.YtjmeakfjfpnciaaGreat
namespace Go.Proofs.YtjmeakfjfpnciaaGreat
open Go.RowKit
theorem step_pushR {P : Program} (N : Nat) (w0 : World) (hN : N ≤ w0.heap.size) {ops : Array Oper} {o : Oper} {a : Act} {K : Act → World → Prop} {Q : Exit → Act → World → Prop} {E : Prop} (hgd : o.guard = none) (s x : Operand) (t : TypeId)
  (ho : o.op = .call { callee := .builtin .append, args := #[s, x], argTypes := #[t, t] })
  (e : TypeId) (i : TypeInfo) (z : Value) (size bytes : Nat) (ht : P.underlying t = some (.slice e)) (hi : P.info? e = some i) (hz : i.zero = some z)
  (hsize : i.size = size) (hby : i.bytes = bytes) (hzs : z.cells.size = size) (hsz : 0 < size)
  (v : Value) (n : Nat) (xs : List Value) (hs : a.eval s = v) (hown : RowO N w0 e size v n xs)
  (news : Array Value) (e2 : TypeId) (b : Nat) (hb : w0.heap.size = b) (hx : a.eval x = .slice (some ⟨b, 0, none⟩) 1 1) (hl : news.size = size) (h1 : ∀ u ∈ news.toList, u.oneCell' = true)
  (h63 : (n + 1) * bytes ≤ 140737488355328) (hn : n + 1 ≤ maxLen)
  (h : ∀ g cap w', RowO N w' e size (.slice (some ⟨g, 0, none⟩) (n + 1) cap) (n + 1) (xs ++ news.toList) → w0.grownBy w' v.ownBlock → K (a.put o.dst (.slice (some ⟨g, 0, none⟩) (n + 1) cap)) w') :
  if Region.wanted o (yielded ops a.tmps) = true then Oper.wp P o a (w0.alloc (.cells news e2)) K Q else E := by
 subst hb
 refine step_append_lies _ hgd s x t ho N e i z size bytes ht hi hz hsize hby hzs hsz v n xs hs (World.ownsRow.alloc hown _) ⟨w0.heap.size, 0, none⟩ 1 1 news.toList hx (by simpa using hl)
  (World.news_of_block (heap_alloc_new w0 _)) h1 (by omega) hn h63 (by simp; omega) _ rfl ?_
 intro g cap w' hown' hg _ _
 refine h g cap w' hown' ⟨hg.os, hg.tape, hg.output, ?_, ?_⟩
 ·have := hg.size; simp at this; omega
 ·intro k hk hne
  rw [hg.block k (by simp; omega) hne]
  exact Below.heap_alloc _ _ _ hk
end Go.Proofs.YtjmeakfjfpnciaaGreat
namespace Go.Proofs.YtjmeakfjfpnciaaGreat
open Go.RowKit
structure Kept (P : Nat → Prop) (w0 w : World) : Prop where
 os : w.os = w0.os
 tape : w.tape = w0.tape
 output : w.output = w0.output
 size : w0.heap.size ≤ w.heap.size
 block : ∀ q, q < w0.heap.size → ¬ P q → w.heap[q]? = w0.heap[q]?
section
variable {P : Nat → Prop} {b c n gb : Nat} {w0 w w1 : World} {r : Option Nat} {t : TypeId} {cs : List Value} {G : GP}
theorem Kept.refl (P : Nat → Prop) (w : World) : Kept P w w := ⟨rfl, rfl, rfl, Nat.le_refl _, fun _ _ _ => rfl⟩
theorem Kept.grown (h : Kept P w0 w) (hg : w.grownBy w1 r) (hr : ∀ q, r = some q → w0.heap.size ≤ q ∨ P q) : Kept P w0 w1 :=
 ⟨hg.os.trans h.os, hg.tape.trans h.tape, hg.output.trans h.output, Nat.le_trans h.size hg.size, fun q hq hne => (hg.block q (Nat.lt_of_lt_of_le hq h.size) (fun e => by
  rcases hr q e.symm with h1 | h1
  ·omega
  ·exact hne h1)).trans (h.block q hq hne)⟩
theorem Kept.up (h : Kept P w0 w) (hb : Below w.heap.size w w1) : Kept P w0 w1 := h.grown (below_grown hb) (fun q e => by cases e)
theorem Kept.trans {w2 : World} (h : Kept P w0 w) (h1 : Kept P w w2) : Kept P w0 w2 :=
 ⟨h1.os.trans h.os, h1.tape.trans h.tape, h1.output.trans h.output, Nat.le_trans h.size h1.size, fun q hq hne => (h1.block q (Nat.lt_of_lt_of_le hq h.size) hne).trans (h.block q hq hne)⟩
theorem Sl.kept {a : Option Addr} (h : Sl w0 w0.heap.size a cs) (hk : Kept P w0 w) (hne : ∀ x, a = some x → ¬ P x.block) : Sl w w.heap.size a cs := by
 rcases h with h | ⟨q, off, rfl, hq, hc⟩
 ·exact Or.inl h
 ·refine Or.inr ⟨q, off, rfl, Nat.lt_of_lt_of_le hq hk.size, fun i v hv => ?_⟩
  rw [cell_of_block (hk.block q hq (hne _ rfl))]
  exact hc i v hv
theorem Bx.keptP (h : Bx w0 b t cs) (hk : Kept P w0 w) (hne : ¬ P b) : Bx w b t cs := (hk.block b h.lt hne).trans h
theorem GroupAt.keptP (h : GroupAt w0 gb G) (hk : Kept P w0 w) (hne : ¬ P gb) : GroupAt w gb G := by
 have hc := cell_of_block (hk.block gb h.lt hne)
 have hl := hk.size
 exact ⟨Nat.lt_of_lt_of_le h.lt hl, by rw [hc]; exact h.kind, by rw [hc]; exact h.size, ⟨Nat.lt_of_lt_of_le h.p.lt hl, fun i x hx => by rw [hc]; exact h.p.cell i x hx⟩, ⟨Nat.lt_of_lt_of_le h.q.lt hl, fun i x hx => by rw [hc]; exact h.q.cell i x hx⟩⟩
theorem Below.keptP {W : World} (h : Below n W w0) (hk : Kept P w0 w) (hn : n ≤ w0.heap.size) (hp : ∀ q, P q → n ≤ q) : Below n W w := by
 refine ⟨hk.os.trans h.os, hk.tape.trans h.tape, hk.output.trans h.output, Nat.le_trans h.size hk.size, fun q hq => ?_⟩
 rw [hk.block q (by omega) (fun e => by have := hp q e; omega)]
 exact h.block q hq
theorem Sl.lt {a : Option Addr} {B : Nat} (h : Sl w B a cs) (h0 : cs ≠ []) (x : Addr) (hx : a = some x) : x.block < B := by
 rcases h with h | ⟨q, off, rfl, hq, _⟩
 ·exact absurd h h0
 ·cases hx; exact hq
end
end Go.Proofs.YtjmeakfjfpnciaaGreat
