/- Texts of this seat, one behind the other: what TrustShares leans on. No condition beyond those that each names. -/
import Derived.Test.YtjmeakfjfpnciaaZTrustShares1
import Derived.Laws.StructEq
import Derived.ChangeKeysEq
import Derived.Deep.Cut
import Derived.Deep.CutRange
import Derived.IntWalk
import Derived.Shelf.Strings.Builder1
import Derived.WalkKit
import Derived.Test.YtjmeakfjfpnciaaProg
import Derived.Deep.QuietTactic
import Derived.RegionTactic
import Derived.Outline

set_option maxRecDepth 100000
set_option maxHeartbeats 4000000
set_option linter.unusedVariables false
set_option linter.unusedSimpArgs false
namespace Go.Proofs.Ytjmeakfjfpnciaa
open Go.RowKit
theorem addM (R : RingP) (ok : R.Ok) (rb off x y : Nat) (w : World) (hR : RingAt w rb off R) :
  Calls Try.prog 114 #[.pointer (some ⟨rb, off, none⟩), limbV (mont R.m x), limbV (mont R.m y)] w fun e w' => e = .returned (limbV (mont R.m (x + y))) ∧ Below w.heap.size w w' :=
 ringAdd_any R rb off _ _ _ (by
  have h1 := mont_lt ok.pos x
  have h2 := mont_lt ok.pos y
  have h3 := ok.top
  simp only [BB] at h3
  show _ < 18446744073709551616 ^ 4
  omega) ok.lt4 (mont_add R.m x y ok.pos).symm w hR
theorem subM (R : RingP) (ok : R.Ok) (rb off x y : Nat) (hy : y ≤ R.m) (w : World) (hR : RingAt w rb off R) :
  Calls Try.prog 198 #[.pointer (some ⟨rb, off, none⟩), limbV (mont R.m x), limbV (mont R.m y)] w fun e w' => e = .returned (limbV (mont R.m (x + (R.m - y)))) ∧ Below w.heap.size w w' :=
 ringSub_any R rb off _ _ _ (mont_lt ok.pos x) (mont_lt ok.pos y) ok.lt4 (mont_sub R.m x y hy ok.pos).symm w hR
theorem outM (R : RingP) (ok : R.Ok) (rb off x : Nat) (w : World) (hR : RingAt w rb off R) :
  Calls Try.prog 116 #[.pointer (some ⟨rb, off, none⟩), limbV (mont R.m x)] w fun e w' => e = .returned (limbV (x % R.m)) ∧ Below w.heap.size w w' := by
 rw [← mont_mod]
 exact out_any R ok rb off _ (Nat.mod_lt _ ok.pos) w hR
structure GP where
 kind : Nat
 size : Nat
 p : RingP
 q : RingP
structure GroupAt (W : World) (gb : Nat) (G : GP) : Prop where
 lt : gb < W.heap.size
 kind : W.cell? ⟨gb, 0, none⟩ = some (.int .i64 G.kind)
 size : W.cell? ⟨gb, 1, none⟩ = some (.int .i64 G.size)
 p : RingAt W gb 2 G.p
 q : RingAt W gb 15 G.q
theorem GroupAt.below {W W' : World} {gb n : Nat} {G : GP} (h : GroupAt W gb G) (hb : Below n W W') (hn : gb < n) : GroupAt W' gb G :=
 ⟨Nat.lt_of_lt_of_le h.lt hb.size, by rw [hb.cell (p := ⟨gb, 0, none⟩) hn]; exact h.kind, by rw [hb.cell (p := ⟨gb, 1, none⟩) hn]; exact h.size, h.p.below hb hn, h.q.below hb hn⟩
theorem GroupAt.up {W W' : World} {gb : Nat} {G : GP} (h : GroupAt W gb G) (hb : Below W.heap.size W W') : GroupAt W' gb G := h.below hb h.lt
structure GP.Ok (G : GP) : Prop where
 p : G.p.Ok
 q : G.q.Ok
 twice : G.p.m = 2 * G.q.m + 1
 size_le : G.size ≤ 32
 fits : G.q.m ≤ 256 ^ G.size
 odd : 256 < G.q.m
theorem GroupAt.ms {W : World} {gb : Nat} {G : GP} (h : GroupAt W gb G) : W.cell? ⟨gb, 0, none⟩ = some (.int .i64 G.kind) ∧ W.cell? ⟨gb, 1, none⟩ = some (.int .i64 G.size) ∧ W.cell? ⟨gb, 2, none⟩ = some (.int .u64 (dig G.p.m 0 : Int)) ∧ W.cell? ⟨gb, 3, none⟩ = some (.int .u64 (dig G.p.m 1 : Int)) ∧ W.cell? ⟨gb, 4, none⟩ = some (.int .u64 (dig G.p.m 2 : Int)) ∧ W.cell? ⟨gb, 5, none⟩ = some (.int .u64 (dig G.p.m 3 : Int)) ∧ W.cell? ⟨gb, 15, none⟩ = some (.int .u64 (dig G.q.m 0 : Int)) ∧ W.cell? ⟨gb, 16, none⟩ = some (.int .u64 (dig G.q.m 1 : Int)) ∧ W.cell? ⟨gb, 17, none⟩ = some (.int .u64 (dig G.q.m 2 : Int)) ∧ W.cell? ⟨gb, 18, none⟩ = some (.int .u64 (dig G.q.m 3 : Int)) :=
 ⟨h.kind, h.size, h.p.cell 0 _ rfl, h.p.cell 1 _ rfl, h.p.cell 2 _ rfl, h.p.cell 3 _ rfl, h.q.cell 0 _ rfl, h.q.cell 1 _ rfl, h.q.cell 2 _ rfl, h.q.cell 3 _ rfl⟩
theorem GroupAt.all {W : World} {gb : Nat} {G : GP} (h : GroupAt W gb G) (ok : G.Ok) : (W.cell? ⟨gb, 0, none⟩ = some (.int .i64 G.kind) ∧ W.cell? ⟨gb, 1, none⟩ = some (.int .i64 G.size) ∧ W.cell? ⟨gb, 2, none⟩ = some (.int .u64 (dig G.p.m 0 : Int)) ∧ W.cell? ⟨gb, 3, none⟩ = some (.int .u64 (dig G.p.m 1 : Int)) ∧ W.cell? ⟨gb, 4, none⟩ = some (.int .u64 (dig G.p.m 2 : Int)) ∧ W.cell? ⟨gb, 5, none⟩ = some (.int .u64 (dig G.p.m 3 : Int)) ∧ W.cell? ⟨gb, 15, none⟩ = some (.int .u64 (dig G.q.m 0 : Int)) ∧ W.cell? ⟨gb, 16, none⟩ = some (.int .u64 (dig G.q.m 1 : Int)) ∧ W.cell? ⟨gb, 17, none⟩ = some (.int .u64 (dig G.q.m 2 : Int)) ∧ W.cell? ⟨gb, 18, none⟩ = some (.int .u64 (dig G.q.m 3 : Int))) ∧ W.cell? ⟨gb, 6, none⟩ = some (.int .u64 (dig (mont G.p.m 1) 0 : Int)) ∧ W.cell? ⟨gb, 7, none⟩ = some (.int .u64 (dig (mont G.p.m 1) 1 : Int)) ∧ W.cell? ⟨gb, 8, none⟩ = some (.int .u64 (dig (mont G.p.m 1) 2 : Int)) ∧ W.cell? ⟨gb, 9, none⟩ = some (.int .u64 (dig (mont G.p.m 1) 3 : Int)) ∧ W.cell? ⟨gb, 19, none⟩ = some (.int .u64 (dig (mont G.q.m 1) 0 : Int)) ∧ W.cell? ⟨gb, 20, none⟩ = some (.int .u64 (dig (mont G.q.m 1) 1 : Int)) ∧ W.cell? ⟨gb, 21, none⟩ = some (.int .u64 (dig (mont G.q.m 1) 2 : Int)) ∧ W.cell? ⟨gb, 22, none⟩ = some (.int .u64 (dig (mont G.q.m 1) 3 : Int)) :=
 ⟨h.ms, by rw [← ok.p.one']; exact h.p.cell 4 _ rfl, by rw [← ok.p.one']; exact h.p.cell 5 _ rfl, by rw [← ok.p.one']; exact h.p.cell 6 _ rfl, by rw [← ok.p.one']; exact h.p.cell 7 _ rfl, by rw [← ok.q.one']; exact h.q.cell 4 _ rfl, by rw [← ok.q.one']; exact h.q.cell 5 _ rfl, by rw [← ok.q.one']; exact h.q.cell 6 _ rfl, by rw [← ok.q.one']; exact h.q.cell 7 _ rfl⟩
def scV (G : GP) (x : Nat) : Value := limbV (mont G.q.m x)
def elV (G : GP) (y : Nat) : Value := limbV (mont G.p.m y)
theorem limbV_small (c : Nat) (hc : c < BB) : limbV c = .agg #[.int .u64 (c : Int), .int .u64 0, .int .u64 0, .int .u64 0] := by
 have h0 : dig c 0 = c := by simp only [dig, Nat.pow_zero, Nat.div_one]; exact Nat.mod_eq_of_lt hc
 have h : ∀ i, 0 < i → dig c i = 0 := fun i hi => by
  unfold dig
  have : BB ≤ BB ^ i := by
   have := Nat.pow_le_pow_right (n := BB) (by decide) (show 1 ≤ i from hi)
   rwa [Nat.pow_one] at this
  rw [Nat.div_eq_of_lt (Nat.lt_of_lt_of_le hc this)]
  rfl
 simp only [limbV, h0, h 1 (by omega), h 2 (by omega), h 3 (by omega)]
 rfl
theorem subZ (R : RingP) (ok : R.Ok) (rb off y : Nat) (hy : y ≤ R.m) (w : World) (hR : RingAt w rb off R) :
  Calls Try.prog 198 #[.pointer (some ⟨rb, off, none⟩), .agg #[.int .u64 0, .int .u64 0, .int .u64 0, .int .u64 0], limbV (mont R.m y)] w fun e w' => e = .returned (limbV (mont R.m (R.m - y))) ∧ Below w.heap.size w w' := by
 have h := subM R ok rb off 0 y hy w hR
 rw [mont_zero, limbV_small 0 (by decide), Nat.zero_add] at h
 exact h
theorem inSmall (R : RingP) (ok : R.Ok) (rb off c : Nat) (hc : c < BB) (w : World) (hR : RingAt w rb off R) :
  Calls Try.prog 111 #[.pointer (some ⟨rb, off, none⟩), .agg #[.int .u64 (c : Int), .int .u64 0, .int .u64 0, .int .u64 0]] w fun e w' => e = .returned (limbV (mont R.m c)) ∧ Below w.heap.size w w' := by
 have h := in_any R ok rb off c (Nat.lt_trans hc (by decide)) w hR
 rwa [limbV_small c hc] at h
theorem onceSmall (R : RingP) (ok : R.Ok) (rb off c : Nat) (hc : c < 256) (h256 : 256 < R.m) (w : World) (hR : RingAt w rb off R) :
  Calls Try.prog 165 #[.pointer (some ⟨rb, off, none⟩), .agg #[.int .u64 (c : Int), .int .u64 0, .int .u64 0, .int .u64 0]] w fun e w' => e = .returned (.agg #[.int .u64 (c : Int), .int .u64 0, .int .u64 0, .int .u64 0]) ∧ Below w.heap.size w w' := by
 have hb : c < BB := Nat.lt_trans hc (by decide)
 have h := once_any R rb off c c (Nat.lt_trans hb (by decide)) ok.lt4 (by rw [if_neg (by omega)]) w hR
 rwa [limbV_small c hb] at h
theorem gAdd_any (G : GP) (ok : G.Ok) (gb : Nat) (x y : Nat)  (w : World) (hG : GroupAt w gb G) :
  Calls Try.prog 54 #[.pointer (some ⟨gb, 0, none⟩), scV G x, scV G y] w fun e w' => e = .returned (scV G (x + y)) ∧ Below w.heap.size w w' := by
 have OK := Lib.hid ok
 clear ok
 unfold scV limbV
 go_enter Try.func54, Try.ntmps54
 go_wp2_with fail
 obtain ⟨W0, hW0, hBW, hX0, hX1, hC⟩ := boxLLZ w 98 (mont G.q.m (x)) 98 (mont G.q.m (y)) 98
 rw [hW0]
 clear hW0
 have hG0 := hG.up hBW
 have hgl := hG0.lt
 have hga := hG0.all OK.out
 have hx0_ := Blk.l4 (mont G.q.m (x)) hX0
 have hl0 := hX0.lt
 have hx1_ := Blk.l4 (mont G.q.m (y)) hX1
 have hl1 := hX1.lt
 have HC := Lib.hid hC
 have HBW := Lib.hid hBW
 clear hC hBW hG hX0 hX1
 refine wp_region_otail 9 (by kernel_rfl) (by kernel_rfl) ?_
 simp only [List.take_succ_cons, List.take_zero, List.drop_succ_cons, List.drop_zero]
 have hovg := fun (E : Over W0) o => E.cell (b := gb) o hgl
 have hov0 := fun (E : Over W0) o => E.cell (b := w.heap.size) o hl0
 have hov1 := fun (E : Over W0) o => E.cell (b := w.heap.size + 1) o hl1
 repeat (go_big_quiet_step (first | (go_at_call 114; exact calls_over (addM G.q OK.out.q gb 15 x y _ (hG0.up (Over.h _)).q))))
 all_goals (try unfold limbV)
 repeat (go_big_quiet_step (first | (go_at_call 114; exact calls_over (addM G.q OK.out.q gb 15 x y _ (hG0.up (Over.h _)).q))))
 all_goals (try unfold limbV)
 repeat (go_big_quiet_step (first | (go_at_call 114; exact calls_over (addM G.q OK.out.q gb 15 x y _ (hG0.up (Over.h _)).q))))
 refine wpQuiet_nil ?_
 rintro _ ⟨E, rfl⟩
 have HZ := Lib.hid (HC.out.below E.h HC.out.lt)
 have HBB := Lib.hid (below_up HBW.out E.h)
 clear hovg hov0 hov1
 generalize E.w = w3 at *
 obtain ⟨w5, hq5, HB5, HS5⟩ := fillE HBB HZ (by omega) (mont G.q.m (x + y))
 have hz_ := Blk.z4 HZ.out
 have hzf_ := HZ.out.frozen
 go_wp2_with fail
 clear hz_
 have hg_ := Blk.l4 (mont G.q.m (x + y)) HS5.out
 simp [bodyPost, results, Try.results54, go_sem, hg_]
 exact HB5.out
theorem gMul_any (G : GP) (ok : G.Ok) (gb : Nat) (x y : Nat)  (w : World) (hG : GroupAt w gb G) :
  Calls Try.prog 55 #[.pointer (some ⟨gb, 0, none⟩), scV G x, scV G y] w fun e w' => e = .returned (scV G (x * y)) ∧ Below w.heap.size w w' := by
 have OK := Lib.hid ok
 clear ok
 unfold scV limbV
 go_enter Try.func55, Try.ntmps55
 go_wp2_with fail
 obtain ⟨W0, hW0, hBW, hX0, hX1, hC⟩ := boxLLZ w 98 (mont G.q.m (x)) 98 (mont G.q.m (y)) 98
 rw [hW0]
 clear hW0
 have hG0 := hG.up hBW
 have hgl := hG0.lt
 have hga := hG0.all OK.out
 have hx0_ := Blk.l4 (mont G.q.m (x)) hX0
 have hl0 := hX0.lt
 have hx1_ := Blk.l4 (mont G.q.m (y)) hX1
 have hl1 := hX1.lt
 have HC := Lib.hid hC
 have HBW := Lib.hid hBW
 clear hC hBW hG hX0 hX1
 refine wp_region_otail 9 (by kernel_rfl) (by kernel_rfl) ?_
 simp only [List.take_succ_cons, List.take_zero, List.drop_succ_cons, List.drop_zero]
 have hovg := fun (E : Over W0) o => E.cell (b := gb) o hgl
 have hov0 := fun (E : Over W0) o => E.cell (b := w.heap.size) o hl0
 have hov1 := fun (E : Over W0) o => E.cell (b := w.heap.size + 1) o hl1
 repeat (go_big_quiet_step (first | (go_at_call 115; exact calls_over (mulM G.q OK.out.q gb 15 x y _ (hG0.up (Over.h _)).q))))
 all_goals (try unfold limbV)
 repeat (go_big_quiet_step (first | (go_at_call 115; exact calls_over (mulM G.q OK.out.q gb 15 x y _ (hG0.up (Over.h _)).q))))
 all_goals (try unfold limbV)
 repeat (go_big_quiet_step (first | (go_at_call 115; exact calls_over (mulM G.q OK.out.q gb 15 x y _ (hG0.up (Over.h _)).q))))
 refine wpQuiet_nil ?_
 rintro _ ⟨E, rfl⟩
 have HZ := Lib.hid (HC.out.below E.h HC.out.lt)
 have HBB := Lib.hid (below_up HBW.out E.h)
 clear hovg hov0 hov1
 generalize E.w = w3 at *
 obtain ⟨w5, hq5, HB5, HS5⟩ := fillE HBB HZ (by omega) (mont G.q.m (x * y))
 have hz_ := Blk.z4 HZ.out
 have hzf_ := HZ.out.frozen
 go_wp2_with fail
 clear hz_
 have hg_ := Blk.l4 (mont G.q.m (x * y)) HS5.out
 simp [bodyPost, results, Try.results55, go_sem, hg_]
 exact HB5.out
theorem gNeg_any (G : GP) (ok : G.Ok) (gb : Nat) (y : Nat) (hy : y ≤ G.q.m) (w : World) (hG : GroupAt w gb G) :
  Calls Try.prog 162 #[.pointer (some ⟨gb, 0, none⟩), scV G y] w fun e w' => e = .returned (scV G (G.q.m - y)) ∧ Below w.heap.size w w' := by
 have OK := Lib.hid ok
 clear ok
 unfold scV limbV
 go_enter Try.func162, Try.ntmps162
 go_wp2_with fail
 obtain ⟨W0, hW0, hBW, hX0, hC⟩ := boxLZ w 98 (mont G.q.m (y)) 98
 rw [hW0]
 clear hW0
 have hG0 := hG.up hBW
 have hgl := hG0.lt
 have hga := hG0.all OK.out
 have hx0_ := Blk.l4 (mont G.q.m (y)) hX0
 have hl0 := hX0.lt
 have HC := Lib.hid hC
 have HBW := Lib.hid hBW
 clear hC hBW hG hX0
 refine wp_region_otail 8 (by kernel_rfl) (by kernel_rfl) ?_
 simp only [List.take_succ_cons, List.take_zero, List.drop_succ_cons, List.drop_zero]
 have hovg := fun (E : Over W0) o => E.cell (b := gb) o hgl
 have hov0 := fun (E : Over W0) o => E.cell (b := w.heap.size) o hl0
 repeat (go_big_quiet_step (first | (go_at_call 198; exact calls_over (subZ G.q OK.out.q gb 15 y hy _ (hG0.up (Over.h _)).q))))
 all_goals (try unfold limbV)
 repeat (go_big_quiet_step (first | (go_at_call 198; exact calls_over (subZ G.q OK.out.q gb 15 y hy _ (hG0.up (Over.h _)).q))))
 all_goals (try unfold limbV)
 repeat (go_big_quiet_step (first | (go_at_call 198; exact calls_over (subZ G.q OK.out.q gb 15 y hy _ (hG0.up (Over.h _)).q))))
 refine wpQuiet_nil ?_
 rintro _ ⟨E, rfl⟩
 have HZ := Lib.hid (HC.out.below E.h HC.out.lt)
 have HBB := Lib.hid (below_up HBW.out E.h)
 clear hovg hov0
 generalize E.w = w3 at *
 obtain ⟨w5, hq5, HB5, HS5⟩ := fillE HBB HZ (by omega) (mont G.q.m (G.q.m - y))
 have hz_ := Blk.z4 HZ.out
 have hzf_ := HZ.out.frozen
 go_wp2_with fail
 clear hz_
 have hg_ := Blk.l4 (mont G.q.m (G.q.m - y)) HS5.out
 simp [bodyPost, results, Try.results162, go_sem, hg_]
 exact HB5.out
theorem gPlusOne_any (G : GP) (ok : G.Ok) (gb : Nat) (x : Nat)  (w : World) (hG : GroupAt w gb G) :
  Calls Try.prog 163 #[scV G x, .pointer (some ⟨gb, 0, none⟩)] w fun e w' => e = .returned (scV G (x + 1)) ∧ Below w.heap.size w w' := by
 have OK := Lib.hid ok
 clear ok
 unfold scV limbV
 go_enter Try.func163, Try.ntmps163
 go_wp2_with fail
 obtain ⟨W0, hW0, hBW, hX0, hC⟩ := boxLZ w 98 (mont G.q.m (x)) 98
 rw [hW0]
 clear hW0
 have hG0 := hG.up hBW
 have hgl := hG0.lt
 have hga := hG0.all OK.out
 have hx0_ := Blk.l4 (mont G.q.m (x)) hX0
 have hl0 := hX0.lt
 have HC := Lib.hid hC
 have HBW := Lib.hid hBW
 clear hC hBW hG hX0
 refine wp_region_otail 12 (by kernel_rfl) (by kernel_rfl) ?_
 simp only [List.take_succ_cons, List.take_zero, List.drop_succ_cons, List.drop_zero]
 have hovg := fun (E : Over W0) o => E.cell (b := gb) o hgl
 have hov0 := fun (E : Over W0) o => E.cell (b := w.heap.size) o hl0
 repeat (go_big_quiet_step (first | (go_at_call 114; exact calls_over (addM G.q OK.out.q gb 15 x 1 _ (hG0.up (Over.h _)).q))))
 all_goals (try unfold limbV)
 repeat (go_big_quiet_step (first | (go_at_call 114; exact calls_over (addM G.q OK.out.q gb 15 x 1 _ (hG0.up (Over.h _)).q))))
 all_goals (try unfold limbV)
 repeat (go_big_quiet_step (first | (go_at_call 114; exact calls_over (addM G.q OK.out.q gb 15 x 1 _ (hG0.up (Over.h _)).q))))
 refine wpQuiet_nil ?_
 rintro _ ⟨E, rfl⟩
 have HZ := Lib.hid (HC.out.below E.h HC.out.lt)
 have HBB := Lib.hid (below_up HBW.out E.h)
 clear hovg hov0
 generalize E.w = w3 at *
 obtain ⟨w5, hq5, HB5, HS5⟩ := fillE HBB HZ (by omega) (mont G.q.m (x + 1))
 have hz_ := Blk.z4 HZ.out
 have hzf_ := HZ.out.frozen
 go_wp2_with fail
 clear hz_
 have hg_ := Blk.l4 (mont G.q.m (x + 1)) HS5.out
 simp [bodyPost, results, Try.results163, go_sem, hg_]
 exact HB5.out
theorem gTimes_any (G : GP) (ok : G.Ok) (gb : Nat) (x y : Nat)  (w : World) (hG : GroupAt w gb G) :
  Calls Try.prog 68 #[.pointer (some ⟨gb, 0, none⟩), elV G x, elV G y] w fun e w' => e = .returned (elV G (x * y)) ∧ Below w.heap.size w w' := by
 have OK := Lib.hid ok
 clear ok
 unfold elV limbV
 go_enter Try.func68, Try.ntmps68
 go_wp2_with fail
 obtain ⟨W0, hW0, hBW, hX0, hX1, hC⟩ := boxLLZ w 117 (mont G.p.m (x)) 117 (mont G.p.m (y)) 117
 rw [hW0]
 clear hW0
 have hG0 := hG.up hBW
 have hgl := hG0.lt
 have hga := hG0.all OK.out
 have hx0_ := Blk.l4 (mont G.p.m (x)) hX0
 have hl0 := hX0.lt
 have hx1_ := Blk.l4 (mont G.p.m (y)) hX1
 have hl1 := hX1.lt
 have HC := Lib.hid hC
 have HBW := Lib.hid hBW
 clear hC hBW hG hX0 hX1
 refine wp_region_otail 9 (by kernel_rfl) (by kernel_rfl) ?_
 simp only [List.take_succ_cons, List.take_zero, List.drop_succ_cons, List.drop_zero]
 have hovg := fun (E : Over W0) o => E.cell (b := gb) o hgl
 have hov0 := fun (E : Over W0) o => E.cell (b := w.heap.size) o hl0
 have hov1 := fun (E : Over W0) o => E.cell (b := w.heap.size + 1) o hl1
 repeat (go_big_quiet_step (first | (go_at_call 115; exact calls_over (mulM G.p OK.out.p gb 2 x y _ (hG0.up (Over.h _)).p))))
 all_goals (try unfold limbV)
 repeat (go_big_quiet_step (first | (go_at_call 115; exact calls_over (mulM G.p OK.out.p gb 2 x y _ (hG0.up (Over.h _)).p))))
 all_goals (try unfold limbV)
 repeat (go_big_quiet_step (first | (go_at_call 115; exact calls_over (mulM G.p OK.out.p gb 2 x y _ (hG0.up (Over.h _)).p))))
 refine wpQuiet_nil ?_
 rintro _ ⟨E, rfl⟩
 have HZ := Lib.hid (HC.out.below E.h HC.out.lt)
 have HBB := Lib.hid (below_up HBW.out E.h)
 clear hovg hov0 hov1
 generalize E.w = w3 at *
 obtain ⟨w5, hq5, HB5, HS5⟩ := fillE HBB HZ (by omega) (mont G.p.m (x * y))
 have hz_ := Blk.z4 HZ.out
 have hzf_ := HZ.out.frozen
 go_wp2_with fail
 clear hz_
 have hg_ := Blk.l4 (mont G.p.m (x * y)) HS5.out
 simp [bodyPost, results, Try.results68, go_sem, hg_]
 exact HB5.out
theorem gPower_any (G : GP) (ok : G.Ok) (gb : Nat) (x n : Nat)  (w : World) (hG : GroupAt w gb G) :
  Calls Try.prog 69 #[.pointer (some ⟨gb, 0, none⟩), elV G x, scV G n] w fun e w' => e = .returned (elV G (x ^ (n % G.q.m))) ∧ Below w.heap.size w w' := by
 have OK := Lib.hid ok
 clear ok
 unfold elV scV limbV
 go_enter Try.func69, Try.ntmps69
 go_wp2_with fail
 obtain ⟨W0, hW0, hBW, hX0, hX1, hC⟩ := boxLLZ w 117 (mont G.p.m (x)) 98 (mont G.q.m (n)) 117
 rw [hW0]
 clear hW0
 have hG0 := hG.up hBW
 have hgl := hG0.lt
 have hga := hG0.all OK.out
 have hx0_ := Blk.l4 (mont G.p.m (x)) hX0
 have hl0 := hX0.lt
 have hx1_ := Blk.l4 (mont G.q.m (n)) hX1
 have hl1 := hX1.lt
 have HC := Lib.hid hC
 have HBW := Lib.hid hBW
 clear hC hBW hG hX0 hX1
 refine wp_region_otail 13 (by kernel_rfl) (by kernel_rfl) ?_
 simp only [List.take_succ_cons, List.take_zero, List.drop_succ_cons, List.drop_zero]
 have hovg := fun (E : Over W0) o => E.cell (b := gb) o hgl
 have hov0 := fun (E : Over W0) o => E.cell (b := w.heap.size) o hl0
 have hov1 := fun (E : Over W0) o => E.cell (b := w.heap.size + 1) o hl1
 repeat (go_big_quiet_step (first | (go_at_call 116; exact calls_over (outM G.q OK.out.q gb 15 n _ (hG0.up (Over.h _)).q)) | (go_at_call 126; exact calls_over (pow_any G.p OK.out.p gb 2 x (n % G.q.m) (Nat.lt_trans (Nat.mod_lt _ OK.out.q.pos) OK.out.q.lt4) _ (hG0.up (Over.h _)).p))))
 all_goals (try unfold limbV)
 repeat (go_big_quiet_step (first | (go_at_call 116; exact calls_over (outM G.q OK.out.q gb 15 n _ (hG0.up (Over.h _)).q)) | (go_at_call 126; exact calls_over (pow_any G.p OK.out.p gb 2 x (n % G.q.m) (Nat.lt_trans (Nat.mod_lt _ OK.out.q.pos) OK.out.q.lt4) _ (hG0.up (Over.h _)).p))))
 all_goals (try unfold limbV)
 repeat (go_big_quiet_step (first | (go_at_call 116; exact calls_over (outM G.q OK.out.q gb 15 n _ (hG0.up (Over.h _)).q)) | (go_at_call 126; exact calls_over (pow_any G.p OK.out.p gb 2 x (n % G.q.m) (Nat.lt_trans (Nat.mod_lt _ OK.out.q.pos) OK.out.q.lt4) _ (hG0.up (Over.h _)).p))))
 refine wpQuiet_nil ?_
 rintro _ ⟨E, rfl⟩
 have HZ := Lib.hid (HC.out.below E.h HC.out.lt)
 have HBB := Lib.hid (below_up HBW.out E.h)
 clear hovg hov0 hov1
 generalize E.w = w3 at *
 obtain ⟨w5, hq5, HB5, HS5⟩ := fillE HBB HZ (by omega) (mont G.p.m (x ^ (n % G.q.m)))
 have hz_ := Blk.z4 HZ.out
 have hzf_ := HZ.out.frozen
 go_wp2_with fail
 clear hz_
 have hg_ := Blk.l4 (mont G.p.m (x ^ (n % G.q.m))) HS5.out
 simp [bodyPost, results, Try.results69, go_sem, hg_]
 exact HB5.out
theorem gBase_any (G : GP) (ok : G.Ok) (gb : Nat)  (w : World) (hG : GroupAt w gb G) :
  Calls Try.prog 146 #[.pointer (some ⟨gb, 0, none⟩)] w fun e w' => e = .returned (elV G (2)) ∧ Below w.heap.size w w' := by
 have OK := Lib.hid ok
 clear ok
 unfold elV limbV
 go_enter Try.func146, Try.ntmps146
 go_wp2_with fail
 obtain ⟨W0, hW0, hBW, hC⟩ := boxZ w 117
 rw [hW0]
 clear hW0
 have hG0 := hG.up hBW
 have hgl := hG0.lt
 have hga := hG0.all OK.out
 have HC := Lib.hid hC
 have HBW := Lib.hid hBW
 clear hC hBW hG
 refine wp_region_otail 15 (by kernel_rfl) (by kernel_rfl) ?_
 simp only [List.take_succ_cons, List.take_zero, List.drop_succ_cons, List.drop_zero]
 have hovg := fun (E : Over W0) o => E.cell (b := gb) o hgl
 repeat (go_big_quiet_step (first | (go_at_call 114; exact calls_over (addM G.p OK.out.p gb 2 1 1 _ (hG0.up (Over.h _)).p))))
 all_goals (try unfold limbV)
 repeat (go_big_quiet_step (first | (go_at_call 114; exact calls_over (addM G.p OK.out.p gb 2 1 1 _ (hG0.up (Over.h _)).p))))
 all_goals (try unfold limbV)
 repeat (go_big_quiet_step (first | (go_at_call 114; exact calls_over (addM G.p OK.out.p gb 2 1 1 _ (hG0.up (Over.h _)).p))))
 refine wpQuiet_nil ?_
 rintro _ ⟨E, rfl⟩
 have HZ := Lib.hid (HC.out.below E.h HC.out.lt)
 have HBB := Lib.hid (below_up HBW.out E.h)
 clear hovg
 generalize E.w = w3 at *
 obtain ⟨w5, hq5, HB5, HS5⟩ := fillE HBB HZ (by omega) (mont G.p.m (2))
 have hz_ := Blk.z4 HZ.out
 have hzf_ := HZ.out.frozen
 go_wp2_with fail
 clear hz_
 have hg_ := Blk.l4 (mont G.p.m (2)) HS5.out
 simp [bodyPost, results, Try.results146, go_sem, hg_]
 exact HB5.out
theorem gOne_any (G : GP) (ok : G.Ok) (gb : Nat) (w : World) (hG : GroupAt w gb G) :
  Calls Try.prog 67 #[.pointer (some ⟨gb, 0, none⟩)] w fun e w' => e = .returned (elV G 1) ∧ Below w.heap.size w w' := by
 have OK := Lib.hid ok
 clear ok
 unfold elV limbV
 have hG0 := hG
 have hgl := hG0.lt
 have hga := hG0.all OK.out
 go_enter Try.func67, Try.ntmps67
 go_wp2_with fail
 simp [bodyPost, results, Try.results67, go_sem]
 exact (Below.refl _ _).alloc (Nat.le_refl _) _
end Go.Proofs.Ytjmeakfjfpnciaa
namespace Go.Proofs.Ytjmeakfjfpnciaa
open Go.RowKit
theorem run_equalIn_four {P : Program} (w : World) (d : Nat) (t e : TypeId) (ht : P.underlying t = some (.array 4 e)) (he : P.underlying e = some (.int .u64)) (i : TypeInfo) (hi : P.info? e = some i) (hc : P.cellsOf e = 1) (hp : P.plainKey e = true) (x0 x1 x2 x3 y0 y1 y2 y3 : Int) :
  (Op.equalIn (d + 2) t (.agg #[.int .u64 x0, .int .u64 x1, .int .u64 x2, .int .u64 x3]) (.agg #[.int .u64 y0, .int .u64 y1, .int .u64 y2, .int .u64 y3])).run P w = .ok (x0 == y0 && (x1 == y1 && (x2 == y2 && x3 == y3))) w := by
 rw [Op.equalIn]
 simp only [Sem.run_bind, run_underlying ht, Result.andThen_ok, run_sizeOf w hi, hc]
 have hx : ∀ (xs : Array Value) (k : Nat) (v : Value), xs[k]? = some v → (part e xs (k * 1)).run P w = .ok v w := fun xs k v h => run_part_plain w hp (by simpa using h)
 have eqi : ∀ a b : Int, (Op.equalIn (d + 1) e (.int .u64 a) (.int .u64 b)).run P w = .ok (a == b) w := fun a b => run_equalIn_int w d e .u64 .u64 a b he
 have h0 := hx #[.int .u64 x0, .int .u64 x1, .int .u64 x2, .int .u64 x3] 0 _ rfl
 have h1 := hx #[.int .u64 x0, .int .u64 x1, .int .u64 x2, .int .u64 x3] 1 _ rfl
 have h2 := hx #[.int .u64 x0, .int .u64 x1, .int .u64 x2, .int .u64 x3] 2 _ rfl
 have h3 := hx #[.int .u64 x0, .int .u64 x1, .int .u64 x2, .int .u64 x3] 3 _ rfl
 have g0 := hx #[.int .u64 y0, .int .u64 y1, .int .u64 y2, .int .u64 y3] 0 _ rfl
 have g1 := hx #[.int .u64 y0, .int .u64 y1, .int .u64 y2, .int .u64 y3] 1 _ rfl
 have g2 := hx #[.int .u64 y0, .int .u64 y1, .int .u64 y2, .int .u64 y3] 2 _ rfl
 have g3 := hx #[.int .u64 y0, .int .u64 y1, .int .u64 y2, .int .u64 y3] 3 _ rfl
 clear hx
 simp only [Std.Legacy.Range.forIn_eq_forIn_range', Std.Legacy.Range.size]
 have r4 : List.range' 0 ((4 - 0 + 1 - 1) / 1) 1 = [0, 1, 2, 3] := rfl
 rw [r4]
 simp only [List.forIn_cons, List.forIn_nil, Sem.run_bind, Sem.run_ite, Sem.run_pure, Result.andThen_ok, h0, g0]
 cases h0' : (x0 == y0) <;> cases h1' : (x1 == y1) <;> cases h2' : (x2 == y2) <;> cases h3' : (x3 == y3) <;> first | (simp [Sem.run_bind, h1, h2, h3, g1, g2, g3, eqi, h1', h2', h3']; done) | (simp [Sem.run_bind, h1, h2, h3, g1, g2, g3, eqi, h1', h2', h3']; simpa using h0')
theorem wpQuiet_bin {P : Program} {ops : Array Oper} {C : World → Prop} {Q : Act → Prop} {a : Act} {o : Oper} {rest : List Oper} (hw : Region.wanted o (yielded ops a.tmps) = true) (op : BinOp) (x y : Operand) (t t2 : TypeId) (ho : o.op = .binOp op t x y t2)
  (u v r : Value) (hx : a.eval x = u) (hy : a.eval y = v) (hg : ∀ w, (eqGuard op t x y u v).run P w = .ok () w) (hb : ∀ w, (binOp op t u v).run P w = .ok r w)
  (h : wpQuiet P ops C Q rest (a.put o.dst r)) : wpQuiet P ops C Q (o :: rest) a := by
 refine wpQuiet_step fun K hK => ?_
 rw [if_pos hw]
 refine ⟨r, fun w _ => ?_, hK _ h⟩
 unfold Oper.quietAt execOp
 simp only [ho, hx, hy, Sem.run_bind, hg, hb, Result.andThen_ok, Sem.run_pure]
 exact ⟨rfl, rfl⟩
theorem oper_value {P : Program} {o : Oper} {a : Act} {w w' : World} {v : Value} {K : Act → World → Prop} {Q : Exit → Act → World → Prop} (h : (execOp a.eval o).run P w = .ok (.value v) w') (hk : K (a.put o.dst v) w') : Oper.wp P o a w K Q := by
 unfold Oper.wp
 rw [h]
 exact hk
theorem if_wanted {o : Oper} {ys : Nat → Option Bool} {A B : Prop} (h : o.guard = none) (hk : A) : if Region.wanted o ys = true then A else B := by
 have hw : Region.wanted o ys = true := by unfold Region.wanted; rw [h]
 rw [if_pos hw]; exact hk
end Go.Proofs.Ytjmeakfjfpnciaa
namespace Go.Proofs.Ytjmeakfjfpnciaa
open Go.RowKit
theorem minus2 (m : Nat) (h2 : 2 ≤ m) (hm : m < BB ^ 4) (w : World) : Calls Try.prog 127 #[limbV m, .agg #[.int .u64 2, .int .u64 0, .int .u64 0, .int .u64 0]] w fun e w' => e = .returned (.tuple #[limbV (m - 2), .int .u64 0]) ∧ Below w.heap.size w w' := by
 have h := minus_any m 2 (by decide) w
 rw [limbV_small 2 (by decide), sub256_ok m 2 hm h2, under_four m 2 hm (by decide), if_neg (by omega)] at h
 exact h
theorem gInv_any (G : GP) (ok : G.Ok) (gb x : Nat) (w : World) (hG : GroupAt w gb G) :
  Calls Try.prog 113 #[.pointer (some ⟨gb, 0, none⟩), scV G x] w fun e w' => e = .returned (scV G (x ^ (G.q.m - 2))) ∧ Below w.heap.size w w' := by
 have OK := Lib.hid ok
 clear ok
 unfold scV limbV
 have hG0 := hG
 have hgl := hG0.lt
 have hga := hG0.all OK.out
 have hgl1 : gb < w.heap.size + 1 := by omega
 clear hG0
 go_enter Try.func113, Try.ntmps113
 go_wp2_with fail
 clear hgl1 hga
 obtain ⟨W0, hW0, hBW, hX, hC⟩ := boxLZ w 98 (mont G.q.m x) 98
 rw [hW0]
 clear hW0
 have HG0 := Lib.hid (hG.up hBW)
 have HX := Lib.hid hX
 have HC := Lib.hid hC
 have HBW := Lib.hid hBW
 have hcl := hC.lt
 clear hG hX hC hBW
 refine (minus2 G.q.m (by have := OK.out.q.big; omega) OK.out.q.lt4 W0).mono ?_
 rintro e w2 ⟨rfl, hb2⟩
 have hz2 := hb2.size
 have HN : Hid (Blk (w2.alloc (Obj.cells #[.int .u64 (dig (G.q.m - 2) 0 : Int), .int .u64 (dig (G.q.m - 2) 1 : Int), .int .u64 (dig (G.q.m - 2) 2 : Int), .int .u64 (dig (G.q.m - 2) 3 : Int)] 96)) w2.heap.size 96 (lim (G.q.m - 2))) := Blk.new w2 _ _ _ rfl
 have HB3 := Lib.hid (hb2.alloc hz2 (Obj.cells #[.int .u64 (dig (G.q.m - 2) 0 : Int), .int .u64 (dig (G.q.m - 2) 1 : Int), .int .u64 (dig (G.q.m - 2) 2 : Int), .int .u64 (dig (G.q.m - 2) 3 : Int)] 96))
 clear hb2
 unfold limbV
 go_wp2_with fail
 generalize w2.alloc (Obj.cells #[.int .u64 (dig (G.q.m - 2) 0 : Int), .int .u64 (dig (G.q.m - 2) 1 : Int), .int .u64 (dig (G.q.m - 2) 2 : Int), .int .u64 (dig (G.q.m - 2) 3 : Int)] 96) = W3 at *
 have hX3 := HX.out.below HB3.out HX.out.lt
 have hG3 := HG0.out.up HB3.out
 have hx_ := Blk.l4 (mont G.q.m x) hX3
 have hn_ := Blk.l4 (G.q.m - 2) HN.out
 have hlx := hX3.lt
 have hln := HN.out.lt
 clear hX3
 refine wp_region_otail 8 (by kernel_rfl) (by kernel_rfl) ?_
 simp only [List.take_succ_cons, List.take_zero, List.drop_succ_cons, List.drop_zero]
 have hov0 := fun (E : Over W3) o => E.cell (b := w.heap.size) o hlx
 have hov1 := fun (E : Over W3) o => E.cell (b := w2.heap.size) o hln
 repeat (go_big_quiet_step (first | (go_at_call 126; exact calls_over (pow_any G.q OK.out.q gb 15 x (G.q.m - 2) (Nat.lt_of_le_of_lt (Nat.sub_le _ _) OK.out.q.lt4) _ (hG3.up (Over.h _)).q))))
 all_goals (try unfold limbV)
 repeat (go_big_quiet_step (first | (go_at_call 126; exact calls_over (pow_any G.q OK.out.q gb 15 x (G.q.m - 2) (Nat.lt_of_le_of_lt (Nat.sub_le _ _) OK.out.q.lt4) _ (hG3.up (Over.h _)).q))))
 all_goals (try unfold limbV)
 repeat (go_big_quiet_step (first | (go_at_call 126; exact calls_over (pow_any G.q OK.out.q gb 15 x (G.q.m - 2) (Nat.lt_of_le_of_lt (Nat.sub_le _ _) OK.out.q.lt4) _ (hG3.up (Over.h _)).q))))
 refine wpQuiet_nil ?_
 rintro _ ⟨E, rfl⟩
 have HZ := Lib.hid ((HC.out.below HB3.out HC.out.lt).below E.h (by have := HB3.out.size; omega))
 have HBB := Lib.hid (below_up (below_up HBW.out HB3.out) E.h)
 clear hov0 hov1
 generalize E.w = w3 at *
 obtain ⟨w5, hq5, HB5, HS5⟩ := fillE HBB HZ (by omega) (mont G.q.m (x ^ (G.q.m - 2)))
 have hz_ := Blk.z4 HZ.out
 have hzf_ := HZ.out.frozen
 go_wp2_with fail
 clear hz_
 have hg_ := Blk.l4 (mont G.q.m (x ^ (G.q.m - 2))) HS5.out
 simp [bodyPost, results, Try.results113, go_sem, hg_]
 exact HB5.out
theorem lim_eq (x y : Nat) (hx : x < BB ^ 4) (hy : y < BB ^ 4) (h0 : dig x 0 = dig y 0) (h1 : dig x 1 = dig y 1) (h2 : dig x 2 = dig y 2) (h3 : dig x 3 = dig y 3) : x = y := by
 have e : ∀ z, z < BB ^ 4 → z = dig z 0 + BB * dig z 1 + BB ^ 2 * dig z 2 + BB ^ 3 * dig z 3 := fun z hz => by
  have a3 := mod_succ z 3
  have a2 := mod_succ z 2
  have a1 := mod_succ z 1
  have a0 := mod_succ z 0
  rw [Nat.mod_eq_of_lt hz] at a3
  simp only [Nat.pow_zero, Nat.mod_one, Nat.zero_add, Nat.pow_one, Nat.one_mul] at a0 a1
  simp only [Nat.reduceAdd] at a1 a2
  omega
 have ex := e x hx
 have ey := e y hy
 rw [h0, h1, h2, h3] at ex
 generalize hs : dig y 0 + BB * dig y 1 + BB ^ 2 * dig y 2 + BB ^ 3 * dig y 3 = s at *
 omega
theorem infoU64 : (Try.prog.info? 94).isSome = true := by kernel_rfl
theorem cellsU64 : Try.prog.cellsOf 94 = 1 := by kernel_rfl
theorem plainU64 : Try.prog.plainKey 94 = true := by kernel_rfl
theorem eqLimbs (x y : Nat) (hx : x < BB ^ 4) (hy : y < BB ^ 4) (w : World) (b : Bool) (hb : b = decide (x = y)) :
  (Op.equalIn 10000 96 (.agg #[.int .u64 (dig x 0 : Int), .int .u64 (dig x 1 : Int), .int .u64 (dig x 2 : Int), .int .u64 (dig x 3 : Int)]) (.agg #[.int .u64 (dig y 0 : Int), .int .u64 (dig y 1 : Int), .int .u64 (dig y 2 : Int), .int .u64 (dig y 3 : Int)])).run Try.prog w = .ok b w := by
 obtain ⟨i, hi⟩ := Option.isSome_iff_exists.1 infoU64
 rw [run_equalIn_four w 9998 _ _ Try.underlying96 Try.underlying94 i hi cellsU64 plainU64, hb]
 refine congrArg (fun b => Result.ok b w) ?_
 rw [Bool.eq_iff_iff]
 simp only [Bool.and_eq_true, beq_iff_eq, Int.natCast_inj, decide_eq_true_eq]
 exact ⟨fun ⟨h0, h1, h2, h3⟩ => lim_eq x y hx hy h0 h1 h2 h3, fun e => by rw [e]; exact ⟨rfl, rfl, rfl, rfl⟩⟩
theorem guardLimbs (op : BinOp) (x y : Operand) (xs ys : Array Value) (w : World) : (eqGuard op 96 x y (.agg xs) (.agg ys)).run Try.prog w = .ok () w := run_eqGuard_agg w op _ x y xs ys (by kernel_rfl)
theorem binLimbs {xs ys : Array Value} {b : Bool} {w : World} (h : (Op.equalIn 10000 96 (.agg xs) (.agg ys)).run Try.prog w = .ok b w) : (binOp .eql 96 (.agg xs) (.agg ys)).run Try.prog w = .ok (.bool b) w := by
 rw [run_eql_struct, h]
 rfl
theorem eqZero (x : Nat) (hx : x < BB ^ 4) (w : World) (b : Bool) (hb : b = decide (x = 0)) :
  (Op.equalIn 10000 96 (.agg #[.int .u64 (dig x 0 : Int), .int .u64 (dig x 1 : Int), .int .u64 (dig x 2 : Int), .int .u64 (dig x 3 : Int)]) (.agg #[.int .u64 0, .int .u64 0, .int .u64 0, .int .u64 0])).run Try.prog w = .ok b w := by
 have h := eqLimbs x 0 hx (by decide) w b hb
 simpa [dig] using h
theorem gPut_any (G : GP) (ok : G.Ok) (gb x : Nat) (w : World) (hG : GroupAt w gb G) :
  Calls Try.prog 56 #[.pointer (some ⟨gb, 0, none⟩), scV G x] w fun e w' => e = .returned (.string (textS (x % G.q.m) G.size)) ∧ Below w.heap.size w w' := by
 have OK := Lib.hid ok
 clear ok
 unfold scV limbV
 go_enter Try.func56, Try.ntmps56
 go_wp2_with fail
 obtain ⟨W0, hW0, hBW, hX⟩ := boxL w 98 (mont G.q.m x)
 rw [hW0]
 clear hW0
 have hG0 := hG.up hBW
 have hgl := hG0.lt
 have hga := hG0.all OK.out
 have hx_ := Blk.l4 (mont G.q.m x) hX
 have hlx := hX.lt
 have HBW := Lib.hid hBW
 clear hX hBW hG
 refine wp_region_over (by kernel_rfl) (by kernel_rfl) ?_
 have hovg := fun (E : Over W0) o => E.cell (b := gb) o hgl
 have hov0 := fun (E : Over W0) o => E.cell (b := w.heap.size) o hlx
 repeat (go_big_quiet_step (first | (go_at_call 116; exact calls_over (outM G.q OK.out.q gb 15 x _ (hG0.up (Over.h _)).q)) | (go_at_call 117; exact calls_over (text_any (x % G.q.m) G.size OK.out.size_le _))))
 refine wpQuiet_nil ?_
 rintro _ ⟨E, rfl⟩
 have HBB := Lib.hid (below_up HBW.out E.h)
 clear hovg hov0
 generalize E.w = w3 at *
 go_wp2_with fail
 go_ret
 exact ⟨rfl, HBB.out⟩
end Go.Proofs.Ytjmeakfjfpnciaa
namespace Go.Proofs.Ytjmeakfjfpnciaa
open Go.RowKit
theorem numOf_lt (s : ByteArray) (hs : s.size ≤ 32) : numOf s < BB ^ 4 := by
 have h := numL_lt s.data.toList
 have e : s.data.toList.length = s.size := rfl
 rw [e] at h
 exact Nat.lt_of_lt_of_le h (by
  have := Nat.pow_le_pow_right (n := 256) (by decide) hs
  exact Nat.le_trans this (by decide))
theorem cmp_is (a b : Nat) (c : Int) (ha : a < BB ^ 4) (hb : b < BB ^ 4) (hc : cmpI a b = c) (w : World) : Calls Try.prog 110 #[limbV a, limbV b] w fun e w' => e = .returned (.int .i64 c) ∧ Below w.heap.size w w' := by
 subst hc; exact cmp_any a b ha hb w
theorem gScalar_long (G : GP) (ok : G.Ok) (gb : Nat) (s : ByteArray) (hs : 32 < s.size) (w : World) (hG : GroupAt w gb G) :
  Calls Try.prog 52 #[.pointer (some ⟨gb, 0, none⟩), .string s] w fun e w' => e = .returned (.tuple #[limbV 0, .bool false]) ∧ Below w.heap.size w w' := by
 have e0 : limbV 0 = .agg #[.int .u64 0, .int .u64 0, .int .u64 0, .int .u64 0] := limbV_small 0 (by decide)
 rw [e0]
 clear e0
 have OK := Lib.hid ok
 clear ok
 go_enter Try.func52, Try.ntmps52
 go_wp2_with fail
 obtain ⟨W0, hW0, hBW, hC⟩ := boxZ w 98
 rw [hW0]
 clear hW0
 have HG0 := Lib.hid (hG.up hBW)
 have HC := Lib.hid hC
 have HBW := Lib.hid hBW
 have hcl := hC.lt
 clear hG hC hBW
 refine (read_long s hs W0).mono ?_
 rintro e w2 ⟨rfl, hb2⟩
 have hz2 := hb2.size
 have HN : Hid (Blk (w2.alloc (Obj.cells #[.int .u64 (dig (0) 0 : Int), .int .u64 (dig (0) 1 : Int), .int .u64 (dig (0) 2 : Int), .int .u64 (dig (0) 3 : Int)] 96)) w2.heap.size 96 (lim (0))) := Blk.new w2 _ _ _ rfl
 have HB3 := Lib.hid (hb2.alloc hz2 (Obj.cells #[.int .u64 (dig (0) 0 : Int), .int .u64 (dig (0) 1 : Int), .int .u64 (dig (0) 2 : Int), .int .u64 (dig (0) 3 : Int)] 96))
 clear hb2
 unfold limbV
 go_wp2_with fail
 generalize w2.alloc (Obj.cells #[.int .u64 (dig (0) 0 : Int), .int .u64 (dig (0) 1 : Int), .int .u64 (dig (0) 2 : Int), .int .u64 (dig (0) 3 : Int)] 96) = W3 at *
 have hG0 := HG0.out.up HB3.out
 have hgl := hG0.lt
 have hga := hG0.all OK.out
 have hn_ := Blk.l4 (0) HN.out
 have hln := HN.out.lt
 refine wp_region_over (by kernel_rfl) (by kernel_rfl) ?_
 repeat (go_big_quiet_step (fail))
 refine wpQuiet_nil ?_
 rintro _ ⟨E, rfl⟩
 have HZ := Lib.hid ((HC.out.below HB3.out HC.out.lt).below E.h (by have := HB3.out.size; omega))
 have HBB := Lib.hid (below_up (below_up HBW.out HB3.out) E.h)
 generalize E.w = w3 at *
 have HS5 : Hid (Blk (((((w3).setCell ⟨w.heap.size, 0, none⟩ (.int .u64 0)).setCell ⟨w.heap.size, 1, none⟩ (.int .u64 0)).setCell ⟨w.heap.size, 2, none⟩ (.int .u64 0)).setCell ⟨w.heap.size, 3, none⟩ (.int .u64 0)) (w.heap.size) 98 [0, 0, 0, 0]) := (((HZ.out.set 0 0).set 1 0).set 2 0).set 3 0
 have HB5 : Hid (Below w.heap.size w (((((w3).setCell ⟨w.heap.size, 0, none⟩ (.int .u64 0)).setCell ⟨w.heap.size, 1, none⟩ (.int .u64 0)).setCell ⟨w.heap.size, 2, none⟩ (.int .u64 0)).setCell ⟨w.heap.size, 3, none⟩ (.int .u64 0))) := below_four HBB.out (by omega) _ _ _ _
 have hz_ := Blk.z4 HZ.out
 have hzf_ := HZ.out.frozen
 go_wp2_with fail
 generalize (((((w3).setCell ⟨w.heap.size, 0, none⟩ (.int .u64 0)).setCell ⟨w.heap.size, 1, none⟩ (.int .u64 0)).setCell ⟨w.heap.size, 2, none⟩ (.int .u64 0)).setCell ⟨w.heap.size, 3, none⟩ (.int .u64 0)) = w5 at *
 clear hz_
 have hg_ := Blk.z4 HS5.out
 simp [bodyPost, results, Try.results52, go_sem, hg_]
 exact HB5.out
theorem gScalar_len (G : GP) (ok : G.Ok) (gb : Nat) (s : ByteArray) (hs : s.size ≤ 32) (hl : s.size ≠ G.size) (w : World) (hG : GroupAt w gb G) :
  Calls Try.prog 52 #[.pointer (some ⟨gb, 0, none⟩), .string s] w fun e w' => e = .returned (.tuple #[limbV 0, .bool false]) ∧ Below w.heap.size w w' := by
 have e0 : limbV 0 = .agg #[.int .u64 0, .int .u64 0, .int .u64 0, .int .u64 0] := limbV_small 0 (by decide)
 rw [e0]
 clear e0
 have OK := Lib.hid ok
 clear ok
 go_enter Try.func52, Try.ntmps52
 go_wp2_with fail
 obtain ⟨W0, hW0, hBW, hC⟩ := boxZ w 98
 rw [hW0]
 clear hW0
 have HG0 := Lib.hid (hG.up hBW)
 have HC := Lib.hid hC
 have HBW := Lib.hid hBW
 have hcl := hC.lt
 clear hG hC hBW
 refine (read_any s hs W0).mono ?_
 rintro e w2 ⟨rfl, hb2⟩
 have hz2 := hb2.size
 have HN : Hid (Blk (w2.alloc (Obj.cells #[.int .u64 (dig (numOf s) 0 : Int), .int .u64 (dig (numOf s) 1 : Int), .int .u64 (dig (numOf s) 2 : Int), .int .u64 (dig (numOf s) 3 : Int)] 96)) w2.heap.size 96 (lim (numOf s))) := Blk.new w2 _ _ _ rfl
 have HB3 := Lib.hid (hb2.alloc hz2 (Obj.cells #[.int .u64 (dig (numOf s) 0 : Int), .int .u64 (dig (numOf s) 1 : Int), .int .u64 (dig (numOf s) 2 : Int), .int .u64 (dig (numOf s) 3 : Int)] 96))
 clear hb2
 unfold limbV
 go_wp2_with fail
 generalize w2.alloc (Obj.cells #[.int .u64 (dig (numOf s) 0 : Int), .int .u64 (dig (numOf s) 1 : Int), .int .u64 (dig (numOf s) 2 : Int), .int .u64 (dig (numOf s) 3 : Int)] 96) = W3 at *
 have hG0 := HG0.out.up HB3.out
 have hgl := hG0.lt
 have hga := hG0.all OK.out
 have hn_ := Blk.l4 (numOf s) HN.out
 have hln := HN.out.lt
 have hne : ((s.size : Int) != (G.size : Int)) = true := by simp; omega
 have hovg := fun (E : Over W3) o => E.cell (b := gb) o hgl
 refine wp_region_over (by kernel_rfl) (by kernel_rfl) ?_
 repeat (go_big_quiet_step (fail))
 refine wpQuiet_nil ?_
 rintro _ ⟨E, rfl⟩
 have HZ := Lib.hid ((HC.out.below HB3.out HC.out.lt).below E.h (by have := HB3.out.size; omega))
 have HBB := Lib.hid (below_up (below_up HBW.out HB3.out) E.h)
 clear hovg
 generalize E.w = w3 at *
 have HS5 : Hid (Blk (((((w3).setCell ⟨w.heap.size, 0, none⟩ (.int .u64 0)).setCell ⟨w.heap.size, 1, none⟩ (.int .u64 0)).setCell ⟨w.heap.size, 2, none⟩ (.int .u64 0)).setCell ⟨w.heap.size, 3, none⟩ (.int .u64 0)) (w.heap.size) 98 [0, 0, 0, 0]) := (((HZ.out.set 0 0).set 1 0).set 2 0).set 3 0
 have HB5 : Hid (Below w.heap.size w (((((w3).setCell ⟨w.heap.size, 0, none⟩ (.int .u64 0)).setCell ⟨w.heap.size, 1, none⟩ (.int .u64 0)).setCell ⟨w.heap.size, 2, none⟩ (.int .u64 0)).setCell ⟨w.heap.size, 3, none⟩ (.int .u64 0))) := below_four HBB.out (by omega) _ _ _ _
 have hz_ := Blk.z4 HZ.out
 have hzf_ := HZ.out.frozen
 go_wp2_with fail
 generalize (((((w3).setCell ⟨w.heap.size, 0, none⟩ (.int .u64 0)).setCell ⟨w.heap.size, 1, none⟩ (.int .u64 0)).setCell ⟨w.heap.size, 2, none⟩ (.int .u64 0)).setCell ⟨w.heap.size, 3, none⟩ (.int .u64 0)) = w5 at *
 clear hz_
 have hg_ := Blk.z4 HS5.out
 simp [bodyPost, results, Try.results52, go_sem, hg_]
 exact HB5.out
theorem gElem_long (G : GP) (ok : G.Ok) (gb : Nat) (s : ByteArray) (hs : 32 < s.size) (w : World) (hG : GroupAt w gb G) :
  Calls Try.prog 66 #[.pointer (some ⟨gb, 0, none⟩), .string s] w fun e w' => e = .returned (.tuple #[limbV 0, .bool false]) ∧ Below w.heap.size w w' := by
 have e0 : limbV 0 = .agg #[.int .u64 0, .int .u64 0, .int .u64 0, .int .u64 0] := limbV_small 0 (by decide)
 rw [e0]
 clear e0
 have OK := Lib.hid ok
 clear ok
 go_enter Try.func66, Try.ntmps66
 go_wp2_with fail
 obtain ⟨W0, hW0, hBW, hC⟩ := boxZ w 117
 rw [hW0]
 clear hW0
 have HG0 := Lib.hid (hG.up hBW)
 have HC := Lib.hid hC
 have HBW := Lib.hid hBW
 have hcl := hC.lt
 clear hG hC hBW
 refine (read_long s hs W0).mono ?_
 rintro e w2 ⟨rfl, hb2⟩
 have hz2 := hb2.size
 have HN : Hid (Blk (w2.alloc (Obj.cells #[.int .u64 (dig (0) 0 : Int), .int .u64 (dig (0) 1 : Int), .int .u64 (dig (0) 2 : Int), .int .u64 (dig (0) 3 : Int)] 96)) w2.heap.size 96 (lim (0))) := Blk.new w2 _ _ _ rfl
 have HB3 := Lib.hid (hb2.alloc hz2 (Obj.cells #[.int .u64 (dig (0) 0 : Int), .int .u64 (dig (0) 1 : Int), .int .u64 (dig (0) 2 : Int), .int .u64 (dig (0) 3 : Int)] 96))
 clear hb2
 unfold limbV
 go_wp2_with fail
 generalize w2.alloc (Obj.cells #[.int .u64 (dig (0) 0 : Int), .int .u64 (dig (0) 1 : Int), .int .u64 (dig (0) 2 : Int), .int .u64 (dig (0) 3 : Int)] 96) = W3 at *
 have hG0 := HG0.out.up HB3.out
 have hgl := hG0.lt
 have hga := hG0.all OK.out
 have hn_ := Blk.l4 (0) HN.out
 have hln := HN.out.lt
 refine wp_region_over (by kernel_rfl) (by kernel_rfl) ?_
 repeat (go_big_quiet_step (fail))
 refine wpQuiet_nil ?_
 rintro _ ⟨E, rfl⟩
 have HZ := Lib.hid ((HC.out.below HB3.out HC.out.lt).below E.h (by have := HB3.out.size; omega))
 have HBB := Lib.hid (below_up (below_up HBW.out HB3.out) E.h)
 generalize E.w = w3 at *
 have HS5 : Hid (Blk (((((w3).setCell ⟨w.heap.size, 0, none⟩ (.int .u64 0)).setCell ⟨w.heap.size, 1, none⟩ (.int .u64 0)).setCell ⟨w.heap.size, 2, none⟩ (.int .u64 0)).setCell ⟨w.heap.size, 3, none⟩ (.int .u64 0)) (w.heap.size) 117 [0, 0, 0, 0]) := (((HZ.out.set 0 0).set 1 0).set 2 0).set 3 0
 have HB5 : Hid (Below w.heap.size w (((((w3).setCell ⟨w.heap.size, 0, none⟩ (.int .u64 0)).setCell ⟨w.heap.size, 1, none⟩ (.int .u64 0)).setCell ⟨w.heap.size, 2, none⟩ (.int .u64 0)).setCell ⟨w.heap.size, 3, none⟩ (.int .u64 0))) := below_four HBB.out (by omega) _ _ _ _
 have hz_ := Blk.z4 HZ.out
 have hzf_ := HZ.out.frozen
 go_wp2_with fail
 generalize (((((w3).setCell ⟨w.heap.size, 0, none⟩ (.int .u64 0)).setCell ⟨w.heap.size, 1, none⟩ (.int .u64 0)).setCell ⟨w.heap.size, 2, none⟩ (.int .u64 0)).setCell ⟨w.heap.size, 3, none⟩ (.int .u64 0)) = w5 at *
 clear hz_
 have hg_ := Blk.z4 HS5.out
 simp [bodyPost, results, Try.results66, go_sem, hg_]
 exact HB5.out
theorem gElem_len (G : GP) (ok : G.Ok) (gb : Nat) (s : ByteArray) (hs : s.size ≤ 32) (hl : s.size ≠ G.size) (w : World) (hG : GroupAt w gb G) :
  Calls Try.prog 66 #[.pointer (some ⟨gb, 0, none⟩), .string s] w fun e w' => e = .returned (.tuple #[limbV 0, .bool false]) ∧ Below w.heap.size w w' := by
 have e0 : limbV 0 = .agg #[.int .u64 0, .int .u64 0, .int .u64 0, .int .u64 0] := limbV_small 0 (by decide)
 rw [e0]
 clear e0
 have OK := Lib.hid ok
 clear ok
 go_enter Try.func66, Try.ntmps66
 go_wp2_with fail
 obtain ⟨W0, hW0, hBW, hC⟩ := boxZ w 117
 rw [hW0]
 clear hW0
 have HG0 := Lib.hid (hG.up hBW)
 have HC := Lib.hid hC
 have HBW := Lib.hid hBW
 have hcl := hC.lt
 clear hG hC hBW
 refine (read_any s hs W0).mono ?_
 rintro e w2 ⟨rfl, hb2⟩
 have hz2 := hb2.size
 have HN : Hid (Blk (w2.alloc (Obj.cells #[.int .u64 (dig (numOf s) 0 : Int), .int .u64 (dig (numOf s) 1 : Int), .int .u64 (dig (numOf s) 2 : Int), .int .u64 (dig (numOf s) 3 : Int)] 96)) w2.heap.size 96 (lim (numOf s))) := Blk.new w2 _ _ _ rfl
 have HB3 := Lib.hid (hb2.alloc hz2 (Obj.cells #[.int .u64 (dig (numOf s) 0 : Int), .int .u64 (dig (numOf s) 1 : Int), .int .u64 (dig (numOf s) 2 : Int), .int .u64 (dig (numOf s) 3 : Int)] 96))
 clear hb2
 unfold limbV
 go_wp2_with fail
 generalize w2.alloc (Obj.cells #[.int .u64 (dig (numOf s) 0 : Int), .int .u64 (dig (numOf s) 1 : Int), .int .u64 (dig (numOf s) 2 : Int), .int .u64 (dig (numOf s) 3 : Int)] 96) = W3 at *
 have hG0 := HG0.out.up HB3.out
 have hgl := hG0.lt
 have hga := hG0.all OK.out
 have hn_ := Blk.l4 (numOf s) HN.out
 have hln := HN.out.lt
 have hne : ((s.size : Int) != (G.size : Int)) = true := by simp; omega
 have hovg := fun (E : Over W3) o => E.cell (b := gb) o hgl
 refine wp_region_over (by kernel_rfl) (by kernel_rfl) ?_
 repeat (go_big_quiet_step (fail))
 refine wpQuiet_nil ?_
 rintro _ ⟨E, rfl⟩
 have HZ := Lib.hid ((HC.out.below HB3.out HC.out.lt).below E.h (by have := HB3.out.size; omega))
 have HBB := Lib.hid (below_up (below_up HBW.out HB3.out) E.h)
 clear hovg
 generalize E.w = w3 at *
 have HS5 : Hid (Blk (((((w3).setCell ⟨w.heap.size, 0, none⟩ (.int .u64 0)).setCell ⟨w.heap.size, 1, none⟩ (.int .u64 0)).setCell ⟨w.heap.size, 2, none⟩ (.int .u64 0)).setCell ⟨w.heap.size, 3, none⟩ (.int .u64 0)) (w.heap.size) 117 [0, 0, 0, 0]) := (((HZ.out.set 0 0).set 1 0).set 2 0).set 3 0
 have HB5 : Hid (Below w.heap.size w (((((w3).setCell ⟨w.heap.size, 0, none⟩ (.int .u64 0)).setCell ⟨w.heap.size, 1, none⟩ (.int .u64 0)).setCell ⟨w.heap.size, 2, none⟩ (.int .u64 0)).setCell ⟨w.heap.size, 3, none⟩ (.int .u64 0))) := below_four HBB.out (by omega) _ _ _ _
 have hz_ := Blk.z4 HZ.out
 have hzf_ := HZ.out.frozen
 go_wp2_with fail
 generalize (((((w3).setCell ⟨w.heap.size, 0, none⟩ (.int .u64 0)).setCell ⟨w.heap.size, 1, none⟩ (.int .u64 0)).setCell ⟨w.heap.size, 2, none⟩ (.int .u64 0)).setCell ⟨w.heap.size, 3, none⟩ (.int .u64 0)) = w5 at *
 clear hz_
 have hg_ := Blk.z4 HS5.out
 simp [bodyPost, results, Try.results66, go_sem, hg_]
 exact HB5.out
theorem gScalar_eq (G : GP) (ok : G.Ok) (gb : Nat) (s : ByteArray) (hl : s.size = G.size) (hc : numOf s = G.q.m) (w : World) (hG : GroupAt w gb G) :
  Calls Try.prog 52 #[.pointer (some ⟨gb, 0, none⟩), .string s] w fun e w' => e = .returned (.tuple #[limbV 0, .bool false]) ∧ Below w.heap.size w w' := by
 have e0 : limbV 0 = .agg #[.int .u64 0, .int .u64 0, .int .u64 0, .int .u64 0] := limbV_small 0 (by decide)
 rw [e0]
 clear e0
 have hs : s.size ≤ 32 := by have := ok.size_le; omega
 have HLT := Lib.hid (numOf_lt s hs)
 have HCI : Hid (cmpI (numOf s) G.q.m = 0) := by show _ = _; unfold cmpI; rw [if_neg (by omega), if_neg (by omega)]
 have HL := Lib.hid hl
 clear hl hc
 have OK := Lib.hid ok
 clear ok
 go_enter Try.func52, Try.ntmps52
 go_wp2_with fail
 obtain ⟨W0, hW0, hBW, hC⟩ := boxZ w 98
 rw [hW0]
 clear hW0
 have HG0 := Lib.hid (hG.up hBW)
 have HC := Lib.hid hC
 have HBW := Lib.hid hBW
 have hcl := hC.lt
 clear hG hC hBW
 refine (read_any s hs W0).mono ?_
 rintro e w2 ⟨rfl, hb2⟩
 have hz2 := hb2.size
 have HN : Hid (Blk (w2.alloc (Obj.cells #[.int .u64 (dig (numOf s) 0 : Int), .int .u64 (dig (numOf s) 1 : Int), .int .u64 (dig (numOf s) 2 : Int), .int .u64 (dig (numOf s) 3 : Int)] 96)) w2.heap.size 96 (lim (numOf s))) := Blk.new w2 _ _ _ rfl
 have HB3 := Lib.hid (hb2.alloc hz2 (Obj.cells #[.int .u64 (dig (numOf s) 0 : Int), .int .u64 (dig (numOf s) 1 : Int), .int .u64 (dig (numOf s) 2 : Int), .int .u64 (dig (numOf s) 3 : Int)] 96))
 clear hb2
 unfold limbV
 go_wp2_with fail
 generalize w2.alloc (Obj.cells #[.int .u64 (dig (numOf s) 0 : Int), .int .u64 (dig (numOf s) 1 : Int), .int .u64 (dig (numOf s) 2 : Int), .int .u64 (dig (numOf s) 3 : Int)] 96) = W3 at *
 have hG0 := HG0.out.up HB3.out
 have hgl := hG0.lt
 have hga := hG0.all OK.out
 have hn_ := Blk.l4 (numOf s) HN.out
 have hln := HN.out.lt
 have hne : ((s.size : Int) != (G.size : Int)) = false := by simp [HL.out]
 have hovg := fun (E : Over W3) o => E.cell (b := gb) o hgl
 have hovn := fun (E : Over W3) o => E.cell (b := w2.heap.size) o hln
 refine wp_region_over (by kernel_rfl) (by kernel_rfl) ?_
 repeat (go_big_quiet_step (first | (go_at_call 110; exact calls_over (cmp_is (numOf s) G.q.m 0 HLT.out OK.out.q.lt4 HCI.out _))))
 refine wpQuiet_nil ?_
 rintro _ ⟨E, rfl⟩
 have HZ := Lib.hid ((HC.out.below HB3.out HC.out.lt).below E.h (by have := HB3.out.size; omega))
 have HBB := Lib.hid (below_up (below_up HBW.out HB3.out) E.h)
 clear hovg hovn
 generalize E.w = w3 at *
 have HS5 : Hid (Blk (((((w3).setCell ⟨w.heap.size, 0, none⟩ (.int .u64 0)).setCell ⟨w.heap.size, 1, none⟩ (.int .u64 0)).setCell ⟨w.heap.size, 2, none⟩ (.int .u64 0)).setCell ⟨w.heap.size, 3, none⟩ (.int .u64 0)) (w.heap.size) 98 [0, 0, 0, 0]) := (((HZ.out.set 0 0).set 1 0).set 2 0).set 3 0
 have HB5 : Hid (Below w.heap.size w (((((w3).setCell ⟨w.heap.size, 0, none⟩ (.int .u64 0)).setCell ⟨w.heap.size, 1, none⟩ (.int .u64 0)).setCell ⟨w.heap.size, 2, none⟩ (.int .u64 0)).setCell ⟨w.heap.size, 3, none⟩ (.int .u64 0))) := below_four HBB.out (by omega) _ _ _ _
 have hz_ := Blk.z4 HZ.out
 have hzf_ := HZ.out.frozen
 go_wp2_with fail
 generalize (((((w3).setCell ⟨w.heap.size, 0, none⟩ (.int .u64 0)).setCell ⟨w.heap.size, 1, none⟩ (.int .u64 0)).setCell ⟨w.heap.size, 2, none⟩ (.int .u64 0)).setCell ⟨w.heap.size, 3, none⟩ (.int .u64 0)) = w5 at *
 clear hz_
 have hg_ := Blk.z4 HS5.out
 simp [bodyPost, results, Try.results52, go_sem, hg_]
 exact HB5.out
theorem gScalar_gt (G : GP) (ok : G.Ok) (gb : Nat) (s : ByteArray) (hl : s.size = G.size) (hc : G.q.m < numOf s) (w : World) (hG : GroupAt w gb G) :
  Calls Try.prog 52 #[.pointer (some ⟨gb, 0, none⟩), .string s] w fun e w' => e = .returned (.tuple #[limbV 0, .bool false]) ∧ Below w.heap.size w w' := by
 have e0 : limbV 0 = .agg #[.int .u64 0, .int .u64 0, .int .u64 0, .int .u64 0] := limbV_small 0 (by decide)
 rw [e0]
 clear e0
 have hs : s.size ≤ 32 := by have := ok.size_le; omega
 have HLT := Lib.hid (numOf_lt s hs)
 have HCI : Hid (cmpI (numOf s) G.q.m = 1) := by show _ = _; unfold cmpI; rw [if_neg (by omega), if_pos (by omega)]
 have HL := Lib.hid hl
 clear hl hc
 have OK := Lib.hid ok
 clear ok
 go_enter Try.func52, Try.ntmps52
 go_wp2_with fail
 obtain ⟨W0, hW0, hBW, hC⟩ := boxZ w 98
 rw [hW0]
 clear hW0
 have HG0 := Lib.hid (hG.up hBW)
 have HC := Lib.hid hC
 have HBW := Lib.hid hBW
 have hcl := hC.lt
 clear hG hC hBW
 refine (read_any s hs W0).mono ?_
 rintro e w2 ⟨rfl, hb2⟩
 have hz2 := hb2.size
 have HN : Hid (Blk (w2.alloc (Obj.cells #[.int .u64 (dig (numOf s) 0 : Int), .int .u64 (dig (numOf s) 1 : Int), .int .u64 (dig (numOf s) 2 : Int), .int .u64 (dig (numOf s) 3 : Int)] 96)) w2.heap.size 96 (lim (numOf s))) := Blk.new w2 _ _ _ rfl
 have HB3 := Lib.hid (hb2.alloc hz2 (Obj.cells #[.int .u64 (dig (numOf s) 0 : Int), .int .u64 (dig (numOf s) 1 : Int), .int .u64 (dig (numOf s) 2 : Int), .int .u64 (dig (numOf s) 3 : Int)] 96))
 clear hb2
 unfold limbV
 go_wp2_with fail
 generalize w2.alloc (Obj.cells #[.int .u64 (dig (numOf s) 0 : Int), .int .u64 (dig (numOf s) 1 : Int), .int .u64 (dig (numOf s) 2 : Int), .int .u64 (dig (numOf s) 3 : Int)] 96) = W3 at *
 have hG0 := HG0.out.up HB3.out
 have hgl := hG0.lt
 have hga := hG0.all OK.out
 have hn_ := Blk.l4 (numOf s) HN.out
 have hln := HN.out.lt
 have hne : ((s.size : Int) != (G.size : Int)) = false := by simp [HL.out]
 have hovg := fun (E : Over W3) o => E.cell (b := gb) o hgl
 have hovn := fun (E : Over W3) o => E.cell (b := w2.heap.size) o hln
 refine wp_region_over (by kernel_rfl) (by kernel_rfl) ?_
 repeat (go_big_quiet_step (first | (go_at_call 110; exact calls_over (cmp_is (numOf s) G.q.m 1 HLT.out OK.out.q.lt4 HCI.out _))))
 refine wpQuiet_nil ?_
 rintro _ ⟨E, rfl⟩
 have HZ := Lib.hid ((HC.out.below HB3.out HC.out.lt).below E.h (by have := HB3.out.size; omega))
 have HBB := Lib.hid (below_up (below_up HBW.out HB3.out) E.h)
 clear hovg hovn
 generalize E.w = w3 at *
 have HS5 : Hid (Blk (((((w3).setCell ⟨w.heap.size, 0, none⟩ (.int .u64 0)).setCell ⟨w.heap.size, 1, none⟩ (.int .u64 0)).setCell ⟨w.heap.size, 2, none⟩ (.int .u64 0)).setCell ⟨w.heap.size, 3, none⟩ (.int .u64 0)) (w.heap.size) 98 [0, 0, 0, 0]) := (((HZ.out.set 0 0).set 1 0).set 2 0).set 3 0
 have HB5 : Hid (Below w.heap.size w (((((w3).setCell ⟨w.heap.size, 0, none⟩ (.int .u64 0)).setCell ⟨w.heap.size, 1, none⟩ (.int .u64 0)).setCell ⟨w.heap.size, 2, none⟩ (.int .u64 0)).setCell ⟨w.heap.size, 3, none⟩ (.int .u64 0))) := below_four HBB.out (by omega) _ _ _ _
 have hz_ := Blk.z4 HZ.out
 have hzf_ := HZ.out.frozen
 go_wp2_with fail
 generalize (((((w3).setCell ⟨w.heap.size, 0, none⟩ (.int .u64 0)).setCell ⟨w.heap.size, 1, none⟩ (.int .u64 0)).setCell ⟨w.heap.size, 2, none⟩ (.int .u64 0)).setCell ⟨w.heap.size, 3, none⟩ (.int .u64 0)) = w5 at *
 clear hz_
 have hg_ := Blk.z4 HS5.out
 simp [bodyPost, results, Try.results52, go_sem, hg_]
 exact HB5.out
theorem gScalar_yes (G : GP) (ok : G.Ok) (gb : Nat) (s : ByteArray) (hl : s.size = G.size) (hc : numOf s < G.q.m) (w : World) (hG : GroupAt w gb G) :
  Calls Try.prog 52 #[.pointer (some ⟨gb, 0, none⟩), .string s] w fun e w' => e = .returned (.tuple #[scV G (numOf s), .bool true]) ∧ Below w.heap.size w w' := by
 have hs : s.size ≤ 32 := by have := ok.size_le; omega
 have HLT := Lib.hid (numOf_lt s hs)
 have HCI : Hid (cmpI (numOf s) G.q.m = -1) := by show _ = _; unfold cmpI; rw [if_pos hc]
 have HL := Lib.hid hl
 clear hl hc
 unfold scV limbV
 have OK := Lib.hid ok
 clear ok
 go_enter Try.func52, Try.ntmps52
 go_wp2_with fail
 obtain ⟨W0, hW0, hBW, hC⟩ := boxZ w 98
 rw [hW0]
 clear hW0
 have HG0 := Lib.hid (hG.up hBW)
 have HC := Lib.hid hC
 have HBW := Lib.hid hBW
 have hcl := hC.lt
 clear hG hC hBW
 refine (read_any s hs W0).mono ?_
 rintro e w2 ⟨rfl, hb2⟩
 have hz2 := hb2.size
 have HN : Hid (Blk (w2.alloc (Obj.cells #[.int .u64 (dig (numOf s) 0 : Int), .int .u64 (dig (numOf s) 1 : Int), .int .u64 (dig (numOf s) 2 : Int), .int .u64 (dig (numOf s) 3 : Int)] 96)) w2.heap.size 96 (lim (numOf s))) := Blk.new w2 _ _ _ rfl
 have HB3 := Lib.hid (hb2.alloc hz2 (Obj.cells #[.int .u64 (dig (numOf s) 0 : Int), .int .u64 (dig (numOf s) 1 : Int), .int .u64 (dig (numOf s) 2 : Int), .int .u64 (dig (numOf s) 3 : Int)] 96))
 clear hb2
 unfold limbV
 go_wp2_with fail
 generalize w2.alloc (Obj.cells #[.int .u64 (dig (numOf s) 0 : Int), .int .u64 (dig (numOf s) 1 : Int), .int .u64 (dig (numOf s) 2 : Int), .int .u64 (dig (numOf s) 3 : Int)] 96) = W3 at *
 have hG0 := HG0.out.up HB3.out
 have hgl := hG0.lt
 have hga := hG0.all OK.out
 have hn_ := Blk.l4 (numOf s) HN.out
 have hln := HN.out.lt
 have hne : ((s.size : Int) != (G.size : Int)) = false := by simp [HL.out]
 have hovg := fun (E : Over W3) o => E.cell (b := gb) o hgl
 have hovn := fun (E : Over W3) o => E.cell (b := w2.heap.size) o hln
 refine wp_region_over (by kernel_rfl) (by kernel_rfl) ?_
 repeat (go_big_quiet_step (first | (go_at_call 110; exact calls_over (cmp_is (numOf s) G.q.m (-1) HLT.out OK.out.q.lt4 HCI.out _))))
 refine wpQuiet_nil ?_
 rintro _ ⟨E, rfl⟩
 have HC3 := Lib.hid ((HC.out.below HB3.out HC.out.lt).below E.h (by have := HB3.out.size; omega))
 have HB33 := Lib.hid (below_up (below_up HBW.out HB3.out) E.h)
 have HN3 := Lib.hid (HN.out.below E.h HN.out.lt)
 have hG3 := hG0.up E.h
 clear hovg hovn hG0 hn_ hln HC HBW HB3 HN
 generalize E.w = w3 at *
 have hn_ := Blk.l4 (numOf s) HN3.out
 have hln := HN3.out.lt
 go_wp2_with fail
 refine wp_region_otail 6 (by kernel_rfl) (by kernel_rfl) ?_
 simp only [List.take_succ_cons, List.take_zero, List.drop_succ_cons, List.drop_zero]
 have hovn := fun (E : Over w3) o => E.cell (b := w2.heap.size) o hln
 repeat (go_big_quiet_step (first | (go_at_call 111; exact calls_over (in_any G.q OK.out.q gb 15 (numOf s) HLT.out _ (hG3.up (Over.h _)).q))))
 all_goals (try unfold limbV)
 repeat (go_big_quiet_step (first | (go_at_call 111; exact calls_over (in_any G.q OK.out.q gb 15 (numOf s) HLT.out _ (hG3.up (Over.h _)).q))))
 all_goals (try unfold limbV)
 repeat (go_big_quiet_step (first | (go_at_call 111; exact calls_over (in_any G.q OK.out.q gb 15 (numOf s) HLT.out _ (hG3.up (Over.h _)).q))))
 refine wpQuiet_nil ?_
 rintro _ ⟨E, rfl⟩
 have HZ := Lib.hid (HC3.out.below E.h HC3.out.lt)
 have HBB := Lib.hid (below_up HB33.out E.h)
 clear hovn
 generalize E.w = w4 at *
 obtain ⟨w5, hq5, HB5, HS5⟩ := fillE HBB HZ (by omega) (mont G.q.m (numOf s))
 have hz_ := Blk.z4 HZ.out
 have hzf_ := HZ.out.frozen
 go_wp2_with fail
 clear hz_
 have hg_ := Blk.l4 (mont G.q.m (numOf s)) HS5.out
 simp [bodyPost, results, Try.results52, go_sem, hg_]
 exact HB5.out
theorem gElem_zero (G : GP) (ok : G.Ok) (gb : Nat) (s : ByteArray) (hl : s.size = G.size) (hc : numOf s = 0) (w : World) (hG : GroupAt w gb G) :
  Calls Try.prog 66 #[.pointer (some ⟨gb, 0, none⟩), .string s] w fun e w' => e = .returned (.tuple #[limbV 0, .bool false]) ∧ Below w.heap.size w w' := by
 have e0 : limbV 0 = .agg #[.int .u64 0, .int .u64 0, .int .u64 0, .int .u64 0] := limbV_small 0 (by decide)
 rw [e0]
 clear e0
 have hs : s.size ≤ 32 := by have := ok.size_le; omega
 have hq := ok.odd
 have HLT := Lib.hid (numOf_lt s hs)
 have HCI : Hid (cmpI (numOf s) G.q.m = -1) := by show _ = _; unfold cmpI; rw [if_pos (by omega)]
 have HEQ : Hid (∀ W, (Op.equalIn 10000 96 (.agg #[.int .u64 (dig (numOf s) 0 : Int), .int .u64 (dig (numOf s) 1 : Int), .int .u64 (dig (numOf s) 2 : Int), .int .u64 (dig (numOf s) 3 : Int)]) (.agg #[.int .u64 0, .int .u64 0, .int .u64 0, .int .u64 0])).run Try.prog W = .ok true W) :=
 fun W => eqZero (numOf s) (numOf_lt s hs) W true (by simp; omega)
 have HL := Lib.hid hl
 clear hl hc hq
 have OK := Lib.hid ok
 clear ok
 go_enter Try.func66, Try.ntmps66
 go_wp2_with fail
 obtain ⟨W0, hW0, hBW, hC⟩ := boxZ w 117
 rw [hW0]
 clear hW0
 have HG0 := Lib.hid (hG.up hBW)
 have HC := Lib.hid hC
 have HBW := Lib.hid hBW
 have hcl := hC.lt
 clear hG hC hBW
 refine (read_any s hs W0).mono ?_
 rintro e w2 ⟨rfl, hb2⟩
 have hz2 := hb2.size
 have HN : Hid (Blk (w2.alloc (Obj.cells #[.int .u64 (dig (numOf s) 0 : Int), .int .u64 (dig (numOf s) 1 : Int), .int .u64 (dig (numOf s) 2 : Int), .int .u64 (dig (numOf s) 3 : Int)] 96)) w2.heap.size 96 (lim (numOf s))) := Blk.new w2 _ _ _ rfl
 have HB3 := Lib.hid (hb2.alloc hz2 (Obj.cells #[.int .u64 (dig (numOf s) 0 : Int), .int .u64 (dig (numOf s) 1 : Int), .int .u64 (dig (numOf s) 2 : Int), .int .u64 (dig (numOf s) 3 : Int)] 96))
 clear hb2
 unfold limbV
 go_wp2_with fail
 generalize w2.alloc (Obj.cells #[.int .u64 (dig (numOf s) 0 : Int), .int .u64 (dig (numOf s) 1 : Int), .int .u64 (dig (numOf s) 2 : Int), .int .u64 (dig (numOf s) 3 : Int)] 96) = W3 at *
 have hG0 := HG0.out.up HB3.out
 have hgl := hG0.lt
 have hga := hG0.all OK.out
 have hn_ := Blk.l4 (numOf s) HN.out
 have hln := HN.out.lt
 have hne : ((s.size : Int) != (G.size : Int)) = false := by simp [HL.out]
 have hovg := fun (E : Over W3) o => E.cell (b := gb) o hgl
 have hovn := fun (E : Over W3) o => E.cell (b := w2.heap.size) o hln
 refine wp_region_over (by kernel_rfl) (by kernel_rfl) ?_
 iterate 14 (go_big_quiet_step (fail))
 refine wpQuiet_bin rfl .eql _ _ 96 _ rfl _ _ (.bool true) rfl rfl (fun _ => guardLimbs _ _ _ _ _ _) (fun _ => binLimbs (HEQ.out _)) ?_
 simp only [Act.put, List.setIfInBounds_toArray, List.set_cons_succ, List.set_cons_zero]
 repeat (go_big_quiet_step (first | (go_at_call 110; exact calls_over (cmp_is (numOf s) G.q.m (-1) HLT.out OK.out.q.lt4 HCI.out _))))
 refine wpQuiet_nil ?_
 rintro _ ⟨E, rfl⟩
 have HZ := Lib.hid ((HC.out.below HB3.out HC.out.lt).below E.h (by have := HB3.out.size; omega))
 have HBB := Lib.hid (below_up (below_up HBW.out HB3.out) E.h)
 clear hovg hovn
 generalize E.w = w3 at *
 have HS5 : Hid (Blk (((((w3).setCell ⟨w.heap.size, 0, none⟩ (.int .u64 0)).setCell ⟨w.heap.size, 1, none⟩ (.int .u64 0)).setCell ⟨w.heap.size, 2, none⟩ (.int .u64 0)).setCell ⟨w.heap.size, 3, none⟩ (.int .u64 0)) (w.heap.size) 117 [0, 0, 0, 0]) := (((HZ.out.set 0 0).set 1 0).set 2 0).set 3 0
 have HB5 : Hid (Below w.heap.size w (((((w3).setCell ⟨w.heap.size, 0, none⟩ (.int .u64 0)).setCell ⟨w.heap.size, 1, none⟩ (.int .u64 0)).setCell ⟨w.heap.size, 2, none⟩ (.int .u64 0)).setCell ⟨w.heap.size, 3, none⟩ (.int .u64 0))) := below_four HBB.out (by omega) _ _ _ _
 have hz_ := Blk.z4 HZ.out
 have hzf_ := HZ.out.frozen
 go_wp2_with fail
 generalize (((((w3).setCell ⟨w.heap.size, 0, none⟩ (.int .u64 0)).setCell ⟨w.heap.size, 1, none⟩ (.int .u64 0)).setCell ⟨w.heap.size, 2, none⟩ (.int .u64 0)).setCell ⟨w.heap.size, 3, none⟩ (.int .u64 0)) = w5 at *
 clear hz_
 have hg_ := Blk.z4 HS5.out
 simp [bodyPost, results, Try.results66, go_sem, hg_]
 exact HB5.out
theorem gElem_gt (G : GP) (ok : G.Ok) (gb : Nat) (s : ByteArray) (hl : s.size = G.size) (hc : G.q.m < numOf s) (w : World) (hG : GroupAt w gb G) :
  Calls Try.prog 66 #[.pointer (some ⟨gb, 0, none⟩), .string s] w fun e w' => e = .returned (.tuple #[limbV 0, .bool false]) ∧ Below w.heap.size w w' := by
 have e0 : limbV 0 = .agg #[.int .u64 0, .int .u64 0, .int .u64 0, .int .u64 0] := limbV_small 0 (by decide)
 rw [e0]
 clear e0
 have hs : s.size ≤ 32 := by have := ok.size_le; omega
 have hq := ok.odd
 have HLT := Lib.hid (numOf_lt s hs)
 have HCI : Hid (cmpI (numOf s) G.q.m = 1) := by show _ = _; unfold cmpI; rw [if_neg (by omega), if_pos (by omega)]
 have HEQ : Hid (∀ W, (Op.equalIn 10000 96 (.agg #[.int .u64 (dig (numOf s) 0 : Int), .int .u64 (dig (numOf s) 1 : Int), .int .u64 (dig (numOf s) 2 : Int), .int .u64 (dig (numOf s) 3 : Int)]) (.agg #[.int .u64 0, .int .u64 0, .int .u64 0, .int .u64 0])).run Try.prog W = .ok false W) :=
 fun W => eqZero (numOf s) (numOf_lt s hs) W false (by simp; omega)
 have HL := Lib.hid hl
 clear hl hc hq
 have OK := Lib.hid ok
 clear ok
 go_enter Try.func66, Try.ntmps66
 go_wp2_with fail
 obtain ⟨W0, hW0, hBW, hC⟩ := boxZ w 117
 rw [hW0]
 clear hW0
 have HG0 := Lib.hid (hG.up hBW)
 have HC := Lib.hid hC
 have HBW := Lib.hid hBW
 have hcl := hC.lt
 clear hG hC hBW
 refine (read_any s hs W0).mono ?_
 rintro e w2 ⟨rfl, hb2⟩
 have hz2 := hb2.size
 have HN : Hid (Blk (w2.alloc (Obj.cells #[.int .u64 (dig (numOf s) 0 : Int), .int .u64 (dig (numOf s) 1 : Int), .int .u64 (dig (numOf s) 2 : Int), .int .u64 (dig (numOf s) 3 : Int)] 96)) w2.heap.size 96 (lim (numOf s))) := Blk.new w2 _ _ _ rfl
 have HB3 := Lib.hid (hb2.alloc hz2 (Obj.cells #[.int .u64 (dig (numOf s) 0 : Int), .int .u64 (dig (numOf s) 1 : Int), .int .u64 (dig (numOf s) 2 : Int), .int .u64 (dig (numOf s) 3 : Int)] 96))
 clear hb2
 unfold limbV
 go_wp2_with fail
 generalize w2.alloc (Obj.cells #[.int .u64 (dig (numOf s) 0 : Int), .int .u64 (dig (numOf s) 1 : Int), .int .u64 (dig (numOf s) 2 : Int), .int .u64 (dig (numOf s) 3 : Int)] 96) = W3 at *
 have hG0 := HG0.out.up HB3.out
 have hgl := hG0.lt
 have hga := hG0.all OK.out
 have hn_ := Blk.l4 (numOf s) HN.out
 have hln := HN.out.lt
 have hne : ((s.size : Int) != (G.size : Int)) = false := by simp [HL.out]
 have hovg := fun (E : Over W3) o => E.cell (b := gb) o hgl
 have hovn := fun (E : Over W3) o => E.cell (b := w2.heap.size) o hln
 refine wp_region_over (by kernel_rfl) (by kernel_rfl) ?_
 iterate 14 (go_big_quiet_step (fail))
 refine wpQuiet_bin rfl .eql _ _ 96 _ rfl _ _ (.bool false) rfl rfl (fun _ => guardLimbs _ _ _ _ _ _) (fun _ => binLimbs (HEQ.out _)) ?_
 simp only [Act.put, List.setIfInBounds_toArray, List.set_cons_succ, List.set_cons_zero]
 repeat (go_big_quiet_step (first | (go_at_call 110; exact calls_over (cmp_is (numOf s) G.q.m (1) HLT.out OK.out.q.lt4 HCI.out _))))
 refine wpQuiet_nil ?_
 rintro _ ⟨E, rfl⟩
 have HZ := Lib.hid ((HC.out.below HB3.out HC.out.lt).below E.h (by have := HB3.out.size; omega))
 have HBB := Lib.hid (below_up (below_up HBW.out HB3.out) E.h)
 clear hovg hovn
 generalize E.w = w3 at *
 have HS5 : Hid (Blk (((((w3).setCell ⟨w.heap.size, 0, none⟩ (.int .u64 0)).setCell ⟨w.heap.size, 1, none⟩ (.int .u64 0)).setCell ⟨w.heap.size, 2, none⟩ (.int .u64 0)).setCell ⟨w.heap.size, 3, none⟩ (.int .u64 0)) (w.heap.size) 117 [0, 0, 0, 0]) := (((HZ.out.set 0 0).set 1 0).set 2 0).set 3 0
 have HB5 : Hid (Below w.heap.size w (((((w3).setCell ⟨w.heap.size, 0, none⟩ (.int .u64 0)).setCell ⟨w.heap.size, 1, none⟩ (.int .u64 0)).setCell ⟨w.heap.size, 2, none⟩ (.int .u64 0)).setCell ⟨w.heap.size, 3, none⟩ (.int .u64 0))) := below_four HBB.out (by omega) _ _ _ _
 have hz_ := Blk.z4 HZ.out
 have hzf_ := HZ.out.frozen
 go_wp2_with fail
 generalize (((((w3).setCell ⟨w.heap.size, 0, none⟩ (.int .u64 0)).setCell ⟨w.heap.size, 1, none⟩ (.int .u64 0)).setCell ⟨w.heap.size, 2, none⟩ (.int .u64 0)).setCell ⟨w.heap.size, 3, none⟩ (.int .u64 0)) = w5 at *
 clear hz_
 have hg_ := Blk.z4 HS5.out
 simp [bodyPost, results, Try.results66, go_sem, hg_]
 exact HB5.out
theorem gElem_lt (G : GP) (ok : G.Ok) (gb : Nat) (s : ByteArray) (hl : s.size = G.size) (h0 : 0 < numOf s) (hc : numOf s < G.q.m) (w : World) (hG : GroupAt w gb G) :
  Calls Try.prog 66 #[.pointer (some ⟨gb, 0, none⟩), .string s] w fun e w' => e = .returned (.tuple #[elV G (numOf s), .bool true]) ∧ Below w.heap.size w w' := by
 have hs : s.size ≤ 32 := by have := ok.size_le; omega
 have HLT := Lib.hid (numOf_lt s hs)
 have HCI : Hid (cmpI (numOf s) G.q.m = -1) := by show _ = _; unfold cmpI; rw [if_pos (by omega)]
 have HEQ : Hid (∀ W, (Op.equalIn 10000 96 (.agg #[.int .u64 (dig (numOf s) 0 : Int), .int .u64 (dig (numOf s) 1 : Int), .int .u64 (dig (numOf s) 2 : Int), .int .u64 (dig (numOf s) 3 : Int)]) (.agg #[.int .u64 0, .int .u64 0, .int .u64 0, .int .u64 0])).run Try.prog W = .ok false W) :=
 fun W => eqZero (numOf s) (numOf_lt s hs) W false (by simp; omega)
 have HL := Lib.hid hl
 clear hl hc h0
 unfold elV limbV
 have OK := Lib.hid ok
 clear ok
 go_enter Try.func66, Try.ntmps66
 go_wp2_with fail
 obtain ⟨W0, hW0, hBW, hC⟩ := boxZ w 117
 rw [hW0]
 clear hW0
 have HG0 := Lib.hid (hG.up hBW)
 have HC := Lib.hid hC
 have HBW := Lib.hid hBW
 have hcl := hC.lt
 clear hG hC hBW
 refine (read_any s hs W0).mono ?_
 rintro e w2 ⟨rfl, hb2⟩
 have hz2 := hb2.size
 have HN : Hid (Blk (w2.alloc (Obj.cells #[.int .u64 (dig (numOf s) 0 : Int), .int .u64 (dig (numOf s) 1 : Int), .int .u64 (dig (numOf s) 2 : Int), .int .u64 (dig (numOf s) 3 : Int)] 96)) w2.heap.size 96 (lim (numOf s))) := Blk.new w2 _ _ _ rfl
 have HB3 := Lib.hid (hb2.alloc hz2 (Obj.cells #[.int .u64 (dig (numOf s) 0 : Int), .int .u64 (dig (numOf s) 1 : Int), .int .u64 (dig (numOf s) 2 : Int), .int .u64 (dig (numOf s) 3 : Int)] 96))
 clear hb2
 unfold limbV
 go_wp2_with fail
 generalize w2.alloc (Obj.cells #[.int .u64 (dig (numOf s) 0 : Int), .int .u64 (dig (numOf s) 1 : Int), .int .u64 (dig (numOf s) 2 : Int), .int .u64 (dig (numOf s) 3 : Int)] 96) = W3 at *
 have hG0 := HG0.out.up HB3.out
 have hgl := hG0.lt
 have hga := hG0.all OK.out
 have hn_ := Blk.l4 (numOf s) HN.out
 have hln := HN.out.lt
 have hne : ((s.size : Int) != (G.size : Int)) = false := by simp [HL.out]
 have hovg := fun (E : Over W3) o => E.cell (b := gb) o hgl
 have hovn := fun (E : Over W3) o => E.cell (b := w2.heap.size) o hln
 refine wp_region_over (by kernel_rfl) (by kernel_rfl) ?_
 iterate 14 (go_big_quiet_step (fail))
 refine wpQuiet_bin rfl .eql _ _ 96 _ rfl _ _ (.bool false) rfl rfl (fun _ => guardLimbs _ _ _ _ _ _) (fun _ => binLimbs (HEQ.out _)) ?_
 simp only [Act.put, List.setIfInBounds_toArray, List.set_cons_succ, List.set_cons_zero]
 repeat (go_big_quiet_step (first | (go_at_call 110; exact calls_over (cmp_is (numOf s) G.q.m (-1) HLT.out OK.out.q.lt4 HCI.out _))))
 refine wpQuiet_nil ?_
 rintro _ ⟨E, rfl⟩
 have HC3 := Lib.hid ((HC.out.below HB3.out HC.out.lt).below E.h (by have := HB3.out.size; omega))
 have HB33 := Lib.hid (below_up (below_up HBW.out HB3.out) E.h)
 have HN3 := Lib.hid (HN.out.below E.h HN.out.lt)
 have hG3 := hG0.up E.h
 clear hovg hovn hG0 hn_ hln HC HBW HB3 HN
 generalize E.w = w3 at *
 have hn_ := Blk.l4 (numOf s) HN3.out
 have hln := HN3.out.lt
 go_wp2_with fail
 refine wp_region_otail 6 (by kernel_rfl) (by kernel_rfl) ?_
 simp only [List.take_succ_cons, List.take_zero, List.drop_succ_cons, List.drop_zero]
 have hovn := fun (E : Over w3) o => E.cell (b := w2.heap.size) o hln
 repeat (go_big_quiet_step (first | (go_at_call 111; exact calls_over (in_any G.p OK.out.p gb 2 (numOf s) HLT.out _ (hG3.up (Over.h _)).p))))
 all_goals (try unfold limbV)
 repeat (go_big_quiet_step (first | (go_at_call 111; exact calls_over (in_any G.p OK.out.p gb 2 (numOf s) HLT.out _ (hG3.up (Over.h _)).p))))
 all_goals (try unfold limbV)
 repeat (go_big_quiet_step (first | (go_at_call 111; exact calls_over (in_any G.p OK.out.p gb 2 (numOf s) HLT.out _ (hG3.up (Over.h _)).p))))
 refine wpQuiet_nil ?_
 rintro _ ⟨E, rfl⟩
 have HZ := Lib.hid (HC3.out.below E.h HC3.out.lt)
 have HBB := Lib.hid (below_up HB33.out E.h)
 clear hovn
 generalize E.w = w4 at *
 obtain ⟨w5, hq5, HB5, HS5⟩ := fillE HBB HZ (by omega) (mont G.p.m (numOf s))
 have hz_ := Blk.z4 HZ.out
 have hzf_ := HZ.out.frozen
 go_wp2_with fail
 clear hz_
 have hg_ := Blk.l4 (mont G.p.m (numOf s)) HS5.out
 simp [bodyPost, results, Try.results66, go_sem, hg_]
 exact HB5.out
theorem gElem_eq (G : GP) (ok : G.Ok) (gb : Nat) (s : ByteArray) (hl : s.size = G.size) (h0 : 0 < numOf s) (hc : numOf s = G.q.m) (w : World) (hG : GroupAt w gb G) :
  Calls Try.prog 66 #[.pointer (some ⟨gb, 0, none⟩), .string s] w fun e w' => e = .returned (.tuple #[elV G (numOf s), .bool true]) ∧ Below w.heap.size w w' := by
 have hs : s.size ≤ 32 := by have := ok.size_le; omega
 have HLT := Lib.hid (numOf_lt s hs)
 have HCI : Hid (cmpI (numOf s) G.q.m = 0) := by show _ = _; unfold cmpI; rw [if_neg (by omega), if_neg (by omega)]
 have HEQ : Hid (∀ W, (Op.equalIn 10000 96 (.agg #[.int .u64 (dig (numOf s) 0 : Int), .int .u64 (dig (numOf s) 1 : Int), .int .u64 (dig (numOf s) 2 : Int), .int .u64 (dig (numOf s) 3 : Int)]) (.agg #[.int .u64 0, .int .u64 0, .int .u64 0, .int .u64 0])).run Try.prog W = .ok false W) :=
 fun W => eqZero (numOf s) (numOf_lt s hs) W false (by simp; omega)
 have HL := Lib.hid hl
 clear hl hc h0
 unfold elV limbV
 have OK := Lib.hid ok
 clear ok
 go_enter Try.func66, Try.ntmps66
 go_wp2_with fail
 obtain ⟨W0, hW0, hBW, hC⟩ := boxZ w 117
 rw [hW0]
 clear hW0
 have HG0 := Lib.hid (hG.up hBW)
 have HC := Lib.hid hC
 have HBW := Lib.hid hBW
 have hcl := hC.lt
 clear hG hC hBW
 refine (read_any s hs W0).mono ?_
 rintro e w2 ⟨rfl, hb2⟩
 have hz2 := hb2.size
 have HN : Hid (Blk (w2.alloc (Obj.cells #[.int .u64 (dig (numOf s) 0 : Int), .int .u64 (dig (numOf s) 1 : Int), .int .u64 (dig (numOf s) 2 : Int), .int .u64 (dig (numOf s) 3 : Int)] 96)) w2.heap.size 96 (lim (numOf s))) := Blk.new w2 _ _ _ rfl
 have HB3 := Lib.hid (hb2.alloc hz2 (Obj.cells #[.int .u64 (dig (numOf s) 0 : Int), .int .u64 (dig (numOf s) 1 : Int), .int .u64 (dig (numOf s) 2 : Int), .int .u64 (dig (numOf s) 3 : Int)] 96))
 clear hb2
 unfold limbV
 go_wp2_with fail
 generalize w2.alloc (Obj.cells #[.int .u64 (dig (numOf s) 0 : Int), .int .u64 (dig (numOf s) 1 : Int), .int .u64 (dig (numOf s) 2 : Int), .int .u64 (dig (numOf s) 3 : Int)] 96) = W3 at *
 have hG0 := HG0.out.up HB3.out
 have hgl := hG0.lt
 have hga := hG0.all OK.out
 have hn_ := Blk.l4 (numOf s) HN.out
 have hln := HN.out.lt
 have hne : ((s.size : Int) != (G.size : Int)) = false := by simp [HL.out]
 have hovg := fun (E : Over W3) o => E.cell (b := gb) o hgl
 have hovn := fun (E : Over W3) o => E.cell (b := w2.heap.size) o hln
 refine wp_region_over (by kernel_rfl) (by kernel_rfl) ?_
 iterate 14 (go_big_quiet_step (fail))
 refine wpQuiet_bin rfl .eql _ _ 96 _ rfl _ _ (.bool false) rfl rfl (fun _ => guardLimbs _ _ _ _ _ _) (fun _ => binLimbs (HEQ.out _)) ?_
 simp only [Act.put, List.setIfInBounds_toArray, List.set_cons_succ, List.set_cons_zero]
 repeat (go_big_quiet_step (first | (go_at_call 110; exact calls_over (cmp_is (numOf s) G.q.m (0) HLT.out OK.out.q.lt4 HCI.out _))))
 refine wpQuiet_nil ?_
 rintro _ ⟨E, rfl⟩
 have HC3 := Lib.hid ((HC.out.below HB3.out HC.out.lt).below E.h (by have := HB3.out.size; omega))
 have HB33 := Lib.hid (below_up (below_up HBW.out HB3.out) E.h)
 have HN3 := Lib.hid (HN.out.below E.h HN.out.lt)
 have hG3 := hG0.up E.h
 clear hovg hovn hG0 hn_ hln HC HBW HB3 HN
 generalize E.w = w3 at *
 have hn_ := Blk.l4 (numOf s) HN3.out
 have hln := HN3.out.lt
 go_wp2_with fail
 refine wp_region_otail 6 (by kernel_rfl) (by kernel_rfl) ?_
 simp only [List.take_succ_cons, List.take_zero, List.drop_succ_cons, List.drop_zero]
 have hovn := fun (E : Over w3) o => E.cell (b := w2.heap.size) o hln
 repeat (go_big_quiet_step (first | (go_at_call 111; exact calls_over (in_any G.p OK.out.p gb 2 (numOf s) HLT.out _ (hG3.up (Over.h _)).p))))
 all_goals (try unfold limbV)
 repeat (go_big_quiet_step (first | (go_at_call 111; exact calls_over (in_any G.p OK.out.p gb 2 (numOf s) HLT.out _ (hG3.up (Over.h _)).p))))
 all_goals (try unfold limbV)
 repeat (go_big_quiet_step (first | (go_at_call 111; exact calls_over (in_any G.p OK.out.p gb 2 (numOf s) HLT.out _ (hG3.up (Over.h _)).p))))
 refine wpQuiet_nil ?_
 rintro _ ⟨E, rfl⟩
 have HZ := Lib.hid (HC3.out.below E.h HC3.out.lt)
 have HBB := Lib.hid (below_up HB33.out E.h)
 clear hovn
 generalize E.w = w4 at *
 obtain ⟨w5, hq5, HB5, HS5⟩ := fillE HBB HZ (by omega) (mont G.p.m (numOf s))
 have hz_ := Blk.z4 HZ.out
 have hzf_ := HZ.out.frozen
 go_wp2_with fail
 clear hz_
 have hg_ := Blk.l4 (mont G.p.m (numOf s)) HS5.out
 simp [bodyPost, results, Try.results66, go_sem, hg_]
 exact HB5.out
end Go.Proofs.Ytjmeakfjfpnciaa
namespace Go.Proofs.Ytjmeakfjfpnciaa
open Go.RowKit
theorem numL_snoc (c : UInt8) : ∀ l : List UInt8, numL (l ++ [c]) = numL l * 256 + c.toNat
 | [] => by simp [numL]
 | d :: t => by
  rw [List.cons_append, numL, numL, numL_snoc c t, List.length_append, List.length_singleton, Nat.pow_succ, Nat.add_mul, Nat.mul_assoc, Nat.add_assoc]
def numHead (s : ByteArray) (k : Nat) : Nat := numL (s.data.toList.take k)
theorem numHead_zero (s : ByteArray) : numHead s 0 = 0 := by simp [numHead, numL]
theorem numHead_all (s : ByteArray) : numHead s s.size = numOf s := by
 have : s.data.toList.take s.size = s.data.toList := List.take_of_length_le (Nat.le_refl _)
 simp only [numHead, this, numOf]
theorem numHead_succ (s : ByteArray) (k : Nat) (hk : k < s.size) : numHead s (k + 1) = numHead s k * 256 + s[k].toNat := by
 have h : s.data.toList.take (k + 1) = s.data.toList.take k ++ [s[k]] := by
  rw [List.take_succ_eq_append_getElem (by simpa using hk)]; rfl
 rw [numHead, h, numL_snoc, numHead]
theorem numL_bytes (a : Nat) : ∀ size, numL ((textL a size size).map fun n => UInt8.ofNat n.toNat) = a % 256 ^ size
 | 0 => by simp [textL, numL, Nat.mod_one]
 | size + 1 => by
  have e : textL a (size + 1) (size + 1) = (byteAt a size : Int) :: textL a size size := by
   unfold textL
   rw [List.range_succ_eq_map, List.map_cons, List.map_map]
   congr 1
   ·simp
   ·refine List.map_congr_left fun p hp => ?_
    have hp' : p < size := by simpa using hp
    simp only [Function.comp_apply]
    rw [if_pos (by omega), if_pos (by omega), show size + 1 - 1 - (p + 1) = size - 1 - p by omega]
  rw [e, List.map_cons, numL, numL_bytes a size, List.length_map, textL_length]
  have hb : (UInt8.ofNat ((byteAt a size : Nat) : Int).toNat).toNat = a / 256 ^ size % 256 := by
   rw [Int.toNat_natCast, UInt8.toNat_ofNat']
   unfold byteAt
   omega
  rw [hb, Nat.pow_succ, Nat.mod_mul, Nat.add_comm, Nat.mul_comm]
theorem numOf_textS (a size : Nat) : numOf (textS a size) = a % 256 ^ size := numL_bytes a size
theorem textS_size (a size : Nat) : (textS a size).size = size := by rw [textS, strOfNums_size, textL_length]
theorem scV_mod (G : GP) (x : Nat) : scV G (x % G.q.m) = scV G x := by unfold scV; rw [mont_mod]
theorem scV_eq (G : GP) {x y : Nat} (h : x % G.q.m = y % G.q.m) : scV G x = scV G y := by rw [← scV_mod G x, ← scV_mod G y, h]
theorem gByte_any (G : GP) (ok : G.Ok) (gb c : Nat) (hc : c < 256) (w : World) (hG : GroupAt w gb G) :
  Calls Try.prog 199 #[.pointer (some ⟨gb, 0, none⟩), .int .u8 (c : Int)] w fun e w' => e = .returned (scV G c) ∧ Below w.heap.size w w' := by
 have OK := Lib.hid ok
 clear ok
 unfold scV limbV
 go_enter Try.func199, Try.ntmps199
 go_wp2_with fail
 obtain ⟨W0, hW0, hBW, hC⟩ := boxZ w 98
 rw [hW0]
 clear hW0
 have hG0 := hG.up hBW
 have HC := Lib.hid hC
 have HBW := Lib.hid hBW
 clear hC hBW hG
 refine wp_region_otail 12 (by kernel_rfl) (by kernel_rfl) ?_
 simp only [List.take_succ_cons, List.take_zero, List.drop_succ_cons, List.drop_zero]
 repeat (go_big_quiet_step (first | (go_at_call 165; exact calls_over (onceSmall G.q OK.out.q gb 15 c hc OK.out.odd _ (hG0.up (Over.h _)).q)) | (go_at_call 111; exact calls_over (inSmall G.q OK.out.q gb 15 c (by simp only [BB]; omega) _ (hG0.up (Over.h _)).q))))
 all_goals (try unfold limbV)
 repeat (go_big_quiet_step (first | (go_at_call 165; exact calls_over (onceSmall G.q OK.out.q gb 15 c hc OK.out.odd _ (hG0.up (Over.h _)).q)) | (go_at_call 111; exact calls_over (inSmall G.q OK.out.q gb 15 c (by simp only [BB]; omega) _ (hG0.up (Over.h _)).q))))
 all_goals (try unfold limbV)
 repeat (go_big_quiet_step (first | (go_at_call 165; exact calls_over (onceSmall G.q OK.out.q gb 15 c hc OK.out.odd _ (hG0.up (Over.h _)).q)) | (go_at_call 111; exact calls_over (inSmall G.q OK.out.q gb 15 c (by simp only [BB]; omega) _ (hG0.up (Over.h _)).q))))
 refine wpQuiet_nil ?_
 rintro _ ⟨E, rfl⟩
 have HZ := Lib.hid (HC.out.below E.h HC.out.lt)
 have HBB := Lib.hid (below_up HBW.out E.h)
 generalize E.w = w3 at *
 obtain ⟨w5, hq5, HB5, HS5⟩ := fillE HBB HZ (by omega) (mont G.q.m c)
 have hz_ := Blk.z4 HZ.out
 have hzf_ := HZ.out.frozen
 go_wp2_with fail
 clear hz_
 have hg_ := Blk.l4 (mont G.q.m c) HS5.out
 simp [bodyPost, results, Try.results199, go_sem, hg_]
 exact HB5.out
theorem boxZZZ (w : World) (t0 t1 t2 : TypeId) : ∃ W, ((w.alloc (Obj.cells #[.int .u64 0, .int .u64 0, .int .u64 0, .int .u64 0] t0)).alloc (Obj.cells #[.int .u64 0, .int .u64 0, .int .u64 0, .int .u64 0] t1)).alloc (Obj.cells #[.int .u64 0, .int .u64 0, .int .u64 0, .int .u64 0] t2) = W ∧ Below w.heap.size w W ∧ Blk W w.heap.size t0 [0, 0, 0, 0] ∧ Blk W (w.heap.size + 1) t1 [0, 0, 0, 0] ∧ Blk W (w.heap.size + 2) t2 [0, 0, 0, 0] := by
 refine ⟨_, rfl, (((Below.refl _ _).alloc (Nat.le_refl _) _).alloc (by simp) _).alloc (by simp; omega) _, ?_, ?_, ?_⟩
 ·have h := (((Blk.new w t0 [0, 0, 0, 0] _ rfl).alloc (Obj.cells #[.int .u64 0, .int .u64 0, .int .u64 0, .int .u64 0] t1)).alloc (Obj.cells #[.int .u64 0, .int .u64 0, .int .u64 0, .int .u64 0] t2))
  exact h
 ·have h := ((Blk.new (w.alloc (Obj.cells #[.int .u64 0, .int .u64 0, .int .u64 0, .int .u64 0] t0)) t1 [0, 0, 0, 0] _ rfl).alloc (Obj.cells #[.int .u64 0, .int .u64 0, .int .u64 0, .int .u64 0] t2))
  rw [World.size_alloc] at h
  exact h
 ·have h := (Blk.new ((w.alloc (Obj.cells #[.int .u64 0, .int .u64 0, .int .u64 0, .int .u64 0] t0)).alloc (Obj.cells #[.int .u64 0, .int .u64 0, .int .u64 0, .int .u64 0] t1)) t2 [0, 0, 0, 0] _ rfl)
  rw [World.size_alloc, World.size_alloc] at h
  exact h
theorem Blk.fillOther {W : World} {b c : Nat} {t : TypeId} {xs : List Int} (h : Blk W b t xs) (hne : b ≠ c) (n : Nat) : Blk (((((W).setCell ⟨c, 0, none⟩ (.int .u64 (dig (n) 0 : Int))).setCell ⟨c, 1, none⟩ (.int .u64 (dig (n) 1 : Int))).setCell ⟨c, 2, none⟩ (.int .u64 (dig (n) 2 : Int))).setCell ⟨c, 3, none⟩ (.int .u64 (dig (n) 3 : Int))) b t xs :=
 (((h.other hne _ _).other hne _ _).other hne _ _).other hne _ _
theorem gReduce_any (G : GP) (ok : G.Ok) (gb : Nat) (s : ByteArray) (hs : s.size ≤ maxLen) (w : World) (hG : GroupAt w gb G) :
  Calls Try.prog 164 #[.pointer (some ⟨gb, 0, none⟩), .string s] w fun e w' => e = .returned (scV G (numOf s)) ∧ Below w.heap.size w w' := by
 unfold maxLen at hs
 have OK := Lib.hid ok
 clear ok
 unfold scV limbV
 go_enter Try.func164, Try.ntmps164
 go_wp2_with fail
 obtain ⟨W0, hW0, hBW, hC, hO, hS⟩ := boxZZZ w 98 98 98
 rw [hW0]
 clear hW0
 have HG := Lib.hid hG
 have HC := Lib.hid hC
 have HO := Lib.hid hO
 have HS := Lib.hid hS
 have HBW := Lib.hid hBW
 clear hG hC hO hS hBW
 refine (inSmall G.q OK.out.q gb 15 256 (by decide) W0 (HG.out.below HBW.out HG.out.lt).q).mono ?_
 rintro e w2 ⟨rfl, hb2⟩
 have HS2 := Lib.hid (HS.out.below hb2 HS.out.lt)
 have HB2 := Lib.hid (below_up HBW.out hb2)
 have HO3 : Hid (Blk (((((w2).setCell ⟨w.heap.size + 2, 0, none⟩ (.int .u64 (dig (mont G.q.m 256) 0 : Int))).setCell ⟨w.heap.size + 2, 1, none⟩ (.int .u64 (dig (mont G.q.m 256) 1 : Int))).setCell ⟨w.heap.size + 2, 2, none⟩ (.int .u64 (dig (mont G.q.m 256) 2 : Int))).setCell ⟨w.heap.size + 2, 3, none⟩ (.int .u64 (dig (mont G.q.m 256) 3 : Int))) (w.heap.size + 1) 98 (lim (mont G.q.m (numHead s 0)))) := by
  rw [numHead_zero, mont_zero]
  exact (HO.out.below hb2 HO.out.lt).fillOther (by omega) _
 have HC3 : Hid (Blk (((((w2).setCell ⟨w.heap.size + 2, 0, none⟩ (.int .u64 (dig (mont G.q.m 256) 0 : Int))).setCell ⟨w.heap.size + 2, 1, none⟩ (.int .u64 (dig (mont G.q.m 256) 1 : Int))).setCell ⟨w.heap.size + 2, 2, none⟩ (.int .u64 (dig (mont G.q.m 256) 2 : Int))).setCell ⟨w.heap.size + 2, 3, none⟩ (.int .u64 (dig (mont G.q.m 256) 3 : Int))) w.heap.size 98 [0, 0, 0, 0]) := (HC.out.below hb2 HC.out.lt).fillOther (by omega) _
 clear hb2 HO HS HC HBW
 unfold limbV
 have HS3 := Lib.hid (HS2.out.fill rfl (mont G.q.m 256))
 have HB3 := Lib.hid (below_fill (n := mont G.q.m 256) (b := w.heap.size + 2) HB2.out (by omega))
 have hz_ := Blk.z4 HS2.out
 have hzf_ := HS2.out.frozen
 go_wp2_with fail
 generalize (((((w2).setCell ⟨w.heap.size + 1 + 1, 0, none⟩ (.int .u64 (dig (mont G.q.m 256) 0 : Int))).setCell ⟨w.heap.size + 1 + 1, 1, none⟩ (.int .u64 (dig (mont G.q.m 256) 1 : Int))).setCell ⟨w.heap.size + 1 + 1, 2, none⟩ (.int .u64 (dig (mont G.q.m 256) 2 : Int))).setCell ⟨w.heap.size + 1 + 1, 3, none⟩ (.int .u64 (dig (mont G.q.m 256) 3 : Int))) = W3 at *
 clear hz_ hzf_ HS2 HB2
 go_loopw [7, 16] (fun _ i wr => ∃ k : Nat, k ≤ s.size ∧ i = .int .i64 k ∧ Hid (Blk wr (w.heap.size + 1) 98 (lim (mont G.q.m (numHead s k)))) ∧ Hid (Blk wr (w.heap.size + 2) 98 (lim (mont G.q.m 256))) ∧ Hid (Blk wr w.heap.size 98 [0, 0, 0, 0]) ∧ Hid (Below w.heap.size w wr)) (fun _ i _ => s.size - (intOf i).toNat)
 case atStart => exact ⟨0, Nat.zero_le _, rfl, HO3.out, HS3.out, HC3.out, HB3.out⟩
 case round =>
  clear HO3 HS3 HC3 HB3
  obtain ⟨k, hk, rfl, HO, HS, HC, HB⟩ := hrel
  have ho_ := Blk.l4 (mont G.q.m (numHead s k)) HO.out
  have hlo := HO.out.lt
  by_cases hkl : k < s.size
  ·have hs_ := Blk.l4 (mont G.q.m 256) HS.out
   have hls := HS.out.lt
   have hG0 := HG.out.below HB.out HG.out.lt
   have hc256 := (s[k]'hkl).toNat_lt
   go_wp2_with fail
   refine wp_region_otail 11 (by kernel_rfl) (by kernel_rfl) ?_
   simp only [List.take_succ_cons, List.take_zero, List.drop_succ_cons, List.drop_zero]
   have hov0 := fun (E : Over wr) o => E.cell (b := w.heap.size + 1) o hlo
   have hov1 := fun (E : Over wr) o => E.cell (b := w.heap.size + 2) o hls
   repeat (go_big_quiet_step (first | (go_at_call 55; exact calls_over (gMul_any G OK.out gb (numHead s k) 256 _ (hG0.up (Over.h _)))) | (go_at_call 199; exact calls_over (gByte_any G OK.out gb (s[k]'hkl).toNat hc256 _ (hG0.up (Over.h _)))) | (go_at_call 54; exact calls_over (gAdd_any G OK.out gb (numHead s k * 256) (s[k]'hkl).toNat _ (hG0.up (Over.h _))))))
   all_goals (try unfold limbV)
   repeat (go_big_quiet_step (first | (go_at_call 55; exact calls_over (gMul_any G OK.out gb (numHead s k) 256 _ (hG0.up (Over.h _)))) | (go_at_call 199; exact calls_over (gByte_any G OK.out gb (s[k]'hkl).toNat hc256 _ (hG0.up (Over.h _)))) | (go_at_call 54; exact calls_over (gAdd_any G OK.out gb (numHead s k * 256) (s[k]'hkl).toNat _ (hG0.up (Over.h _))))))
   all_goals (try unfold limbV)
   repeat (go_big_quiet_step (first | (go_at_call 55; exact calls_over (gMul_any G OK.out gb (numHead s k) 256 _ (hG0.up (Over.h _)))) | (go_at_call 199; exact calls_over (gByte_any G OK.out gb (s[k]'hkl).toNat hc256 _ (hG0.up (Over.h _)))) | (go_at_call 54; exact calls_over (gAdd_any G OK.out gb (numHead s k * 256) (s[k]'hkl).toNat _ (hG0.up (Over.h _))))))
   refine wpQuiet_nil ?_
   rintro _ ⟨E, rfl⟩
   have HO2 := Lib.hid (HO.out.below E.h HO.out.lt)
   have HS2 := Lib.hid (HS.out.below E.h HS.out.lt)
   have HC2 := Lib.hid (HC.out.below E.h HC.out.lt)
   have HB2 := Lib.hid (HB.out.trans (E.h.mono HB.out.size))
   clear hov0 hov1 ho_ hs_ hG0
   generalize E.w = w3 at *
   rw [← numHead_succ s k hkl]
   unfold scV limbV
   have ho_ := Blk.l4 (mont G.q.m (numHead s k)) HO2.out
   have hof_ := HO2.out.frozen
   have HO4 := Lib.hid (HO2.out.fill rfl (mont G.q.m (numHead s (k + 1))))
   have HS4 := Lib.hid (HS2.out.fillOther (c := w.heap.size + 1) (by omega) (mont G.q.m (numHead s (k + 1))))
   have HC4 := Lib.hid (HC2.out.fillOther (c := w.heap.size + 1) (by omega) (mont G.q.m (numHead s (k + 1))))
   have HB4 := Lib.hid (below_fill (n := mont G.q.m (numHead s (k + 1))) (b := w.heap.size + 1) HB2.out (by omega))
   go_wp2_with fail
   go_roundw
   case rel => exact ⟨k + 1, by omega, by go_num, HO4.out, HS4.out, HC4.out, HB4.out⟩
   case measure => simp [intOf]; omega
  ·have hks : k = s.size := by omega
   subst hks
   rw [numHead_all] at ho_
   have HZ := HC
   have HBB := HB
   obtain ⟨w5, hq5, HB5, HS5⟩ := fillE HBB HZ (by omega) (mont G.q.m (numOf s))
   have hz_ := Blk.z4 HZ.out
   have hzf_ := HZ.out.frozen
   go_wp2_with fail
   clear hz_
   have hg_ := Blk.l4 (mont G.q.m (numOf s)) HS5.out
   simp [bodyPost, results, Try.results164, go_sem, hg_]
   exact HB5.out
end Go.Proofs.Ytjmeakfjfpnciaa
namespace Go.Proofs.Ytjmeakfjfpnciaa
open Go.RowKit
theorem text8 (n : Nat) (hn : n < BB) (w : World) : Calls Try.prog 117 #[.agg #[.int .u64 (n : Int), .int .u64 0, .int .u64 0, .int .u64 0], .int .i64 8] w fun e w' => e = .returned (.string (textS n 8)) ∧ Below w.heap.size w w' := by
 have h := text_any n 8 (by decide) w
 rwa [limbV_small n hn] at h
theorem gNumber_pos (G : GP) (ok : G.Ok) (gb n : Nat) (hn : n ≤ 9223372036854775807) (w : World) (hG : GroupAt w gb G) :
  Calls Try.prog 112 #[.pointer (some ⟨gb, 0, none⟩), .int .i64 (n : Int)] w fun e w' => e = .returned (scV G n) ∧ Below w.heap.size w w' := by
 have OK := Lib.hid ok
 clear ok
 have hn2 : (n : Int) < 18446744073709551616 := by omega
 have hneg : ¬ (n : Int) < 0 := by omega
 have HNUM : Hid (numOf (textS n 8) = n) := by
  show _ = _
  rw [numOf_textS]
  exact Nat.mod_eq_of_lt (by omega)
 have hw : IntKind.u64.wrap (n : Int) = (n : Int) := wraps_u64 _ (by omega) (by omega)
 unfold scV limbV
 go_enter Try.func112, Try.ntmps112
 go_wp2_with fail
 obtain ⟨W0, hW0, hBW, hC⟩ := boxZ w 98
 rw [hW0]
 clear hW0
 have HG := Lib.hid hG
 have HC := Lib.hid hC
 have HBW := Lib.hid hBW
 clear hG hC hBW
 refine (text8 n (by simp only [BB]; omega) W0).mono ?_
 rintro e w2 ⟨rfl, hb2⟩
 have HB2 := Lib.hid (below_up HBW.out hb2)
 have HC2 := Lib.hid (HC.out.below hb2 HC.out.lt)
 clear hb2 HC HBW
 go_wp2_with fail
 refine (gReduce_any G OK.out gb (textS n 8) (by rw [textS_size]; unfold maxLen; omega) w2 (HG.out.below HB2.out HG.out.lt)).mono ?_
 rintro e w3 ⟨rfl, hb3⟩
 have HBB := Lib.hid (HB2.out.trans (hb3.mono HB2.out.size))
 have HZ := Lib.hid (HC2.out.below hb3 HC2.out.lt)
 clear hb3 HC2 HB2
 rw [HNUM.out]
 unfold scV limbV
 obtain ⟨w5, hq5, HB5, HS5⟩ := fillE HBB HZ (by omega) (mont G.q.m n)
 have hz_ := Blk.z4 HZ.out
 have hzf_ := HZ.out.frozen
 go_wp2_with fail
 clear hz_
 have hg_ := Blk.l4 (mont G.q.m n) HS5.out
 simp [bodyPost, results, Try.results112, go_sem, hg_]
 exact HB5.out
def modI (q : Nat) (n : Int) : Nat := (n % (q : Int)).toNat
theorem modI_lt (q : Nat) (hq : 0 < q) (n : Int) : modI q n < q := by
 have h1 := Int.emod_nonneg n (show (q : Int) ≠ 0 by omega)
 have h2 := Int.emod_lt_of_pos n (show (0 : Int) < q by omega)
 unfold modI; omega
theorem modI_pos (q n : Nat) : modI q (n : Int) = n % q := by
 unfold modI; rw [← Int.natCast_emod]; rfl
theorem modI_neg (q m : Nat) (hq : 0 < q) : (q - (m + 1) % q) % q = modI q (-(m : Int) - 1) := by
 unfold modI
 have hr := Nat.mod_lt (m + 1) hq
 have hd := Nat.div_add_mod (m + 1) q
 generalize (m + 1) % q = r at *
 generalize (m + 1) / q = d at *
 have e : (-(m : Int) - 1) = ((q - r : Nat) : Int) + (q : Int) * (-(d : Int) - 1) := by
  rw [Int.mul_sub, Int.mul_one, Int.mul_neg]
  have : (q : Int) * (d : Int) = ((q * d : Nat) : Int) := by simp
  rw [this]; omega
 rw [e, Int.add_mul_emod_self_left, ← Int.natCast_emod]
 rfl
theorem gNumber_neg (G : GP) (ok : G.Ok) (gb m : Nat) (hm : m ≤ 9223372036854775807) (w : World) (hG : GroupAt w gb G) :
  Calls Try.prog 112 #[.pointer (some ⟨gb, 0, none⟩), .int .i64 (-(m : Int) - 1)] w fun e w' => e = .returned (scV G (modI G.q.m (-(m : Int) - 1))) ∧ Below w.heap.size w w' := by
 have OK := Lib.hid ok
 clear ok
 obtain ⟨n, hn⟩ : ∃ n : Int, n = -(m : Int) - 1 := ⟨_, rfl⟩
 rw [← hn]
 have hneg : n < 0 := by omega
 have e1 : IntKind.i64.wrap (n + 1) = n + 1 := IntWalk.i64_in _ (by omega)
 have e2 : IntKind.i64.wrap (-(n + 1)) = (m : Int) := by rw [IntWalk.i64_in _ (by omega)]; omega
 have HRES : Hid (scV G (modI G.q.m n) = scV G (G.q.m - (m + 1) % G.q.m)) := scV_eq G (by
  rw [hn, ← modI_neg _ _ OK.out.q.pos, Nat.mod_mod])
 have HM := Lib.hid hn
 clear hn
 rw [HRES.out]
 unfold scV limbV
 go_enter Try.func112, Try.ntmps112
 go_wp2_with fail
 obtain ⟨W0, hW0, hBW, hC⟩ := boxZ w 98
 rw [hW0]
 clear hW0
 have HG := Lib.hid hG
 have HC := Lib.hid hC
 have HBW := Lib.hid hBW
 clear hG hC hBW
 refine (gNumber_pos G OK.out gb m hm W0 (HG.out.below HBW.out HG.out.lt)).mono ?_
 rintro e w2 ⟨rfl, hb2⟩
 have HB2 := Lib.hid (below_up HBW.out hb2)
 have HC2 := Lib.hid (HC.out.below hb2 HC.out.lt)
 clear hb2 HC HBW
 go_wp2_with fail
 refine (gPlusOne_any G OK.out gb m w2 (HG.out.below HB2.out HG.out.lt)).mono ?_
 rintro e w3 ⟨rfl, hb3⟩
 have HB3 := Lib.hid (HB2.out.trans (hb3.mono HB2.out.size))
 have HC3 := Lib.hid (HC2.out.below hb3 HC2.out.lt)
 clear hb3 HC2 HB2
 rw [← scV_mod G (m + 1)]
 go_wp2_with fail
 refine (gNeg_any G OK.out gb ((m + 1) % G.q.m) (Nat.le_of_lt (Nat.mod_lt _ OK.out.q.pos)) w3 (HG.out.below HB3.out HG.out.lt)).mono ?_
 rintro e w4 ⟨rfl, hb4⟩
 have HBB := Lib.hid (HB3.out.trans (hb4.mono HB3.out.size))
 have HZ := Lib.hid (HC3.out.below hb4 HC3.out.lt)
 clear hb4 HC3 HB3
 unfold scV limbV
 obtain ⟨w5, hq5, HB5, HS5⟩ := fillE HBB HZ (by omega) (mont G.q.m (G.q.m - (m + 1) % G.q.m))
 have hz_ := Blk.z4 HZ.out
 have hzf_ := HZ.out.frozen
 go_wp2_with fail
 clear hz_
 have hg_ := Blk.l4 (mont G.q.m (G.q.m - (m + 1) % G.q.m)) HS5.out
 simp [bodyPost, results, Try.results112, go_sem, hg_]
 exact HB5.out
theorem gNumber_any (G : GP) (ok : G.Ok) (gb : Nat) (n : Int) (h1 : -9223372036854775808 ≤ n) (h2 : n ≤ 9223372036854775807) (w : World) (hG : GroupAt w gb G) :
  Calls Try.prog 112 #[.pointer (some ⟨gb, 0, none⟩), .int .i64 n] w fun e w' => e = .returned (scV G (modI G.q.m n)) ∧ Below w.heap.size w w' := by
 rcases Int.lt_or_le n 0 with h | h
 ·obtain ⟨m, hm⟩ : ∃ m : Nat, n = -(m : Int) - 1 := ⟨(-n - 1).toNat, by omega⟩
  subst hm
  exact gNumber_neg G ok gb m (by omega) w hG
 ·obtain ⟨m, rfl⟩ := Int.eq_ofNat_of_zero_le h
  rw [modI_pos, scV_mod]
  exact gNumber_pos G ok gb m (by omega) w hG
theorem zeroLimbs (w : World) : (zeroValue 96).run Try.prog w = .ok (.agg #[.int .u64 0, .int .u64 0, .int .u64 0, .int .u64 0]) w := by kernel_rfl
theorem allocLimbs (ρ : Operand → Value) (o : Oper) (ho : o.op = .alloc 96) (w : World) : (execOp ρ o).run Try.prog w = .ok (.value (.pointer (some ⟨w.heap.size, 0, none⟩))) (w.alloc (Obj.cells #[.int .u64 0, .int .u64 0, .int .u64 0, .int .u64 0] 96)) := by
 unfold execOp
 rw [ho]
 simp only [Instr.alloc, Sem.run_bind, zeroLimbs, Result.andThen_ok]
 rfl
theorem newLimbs (W0 : World) : Blk (W0.alloc (Obj.cells #[.int .u64 0, .int .u64 0, .int .u64 0, .int .u64 0] 96)).drew W0.heap.size 96 [0, 0, 0, 0] := Blk.new W0 _ [0, 0, 0, 0] _ rfl
def lowN (G : GP) (y : Nat) : Nat := if G.q.m < y % G.p.m then G.p.m - y % G.p.m else y % G.p.m
theorem minusLow (a b : Nat) (ha : a < BB ^ 4) (h : b ≤ a) (w : World) : Calls Try.prog 127 #[limbV a, limbV b] w fun e w' => e = .returned (.tuple #[limbV (a - b), .int .u64 0]) ∧ Below w.heap.size w w' := by
 have h1 := minus_any a b (by omega) w
 rw [sub256_ok a b ha h, under_four a b ha (by omega), if_neg (by omega)] at h1
 exact h1
theorem gText_any (G : GP) (ok : G.Ok) (gb y : Nat) (w : World) (hG : GroupAt w gb G) :
  Calls Try.prog 70 #[.pointer (some ⟨gb, 0, none⟩), elV G y] w fun e w' => e = .returned (.string (textS (lowN G y) G.size)) ∧ Below w.heap.size w w' := by
 have OK := Lib.hid ok
 clear ok
 have HGW := Lib.hid hG.lt
 obtain ⟨N, hN⟩ : ∃ N, y % G.p.m = N := ⟨_, rfl⟩
 have HLOW : Hid (lowN G y = if G.q.m < N then G.p.m - N else N) := by show _ = _; unfold lowN; rw [hN]
 have hNp : N < G.p.m := by rw [← hN]; exact Nat.mod_lt _ OK.out.p.pos
 have HN := Lib.hid hN
 have HNP := Lib.hid hNp
 clear hN hNp
 unfold elV limbV
 go_enter Try.func70, Try.ntmps70
 go_wp2_with fail
 obtain ⟨W0, hW0, hBW, hX⟩ := boxL w 117 (mont G.p.m y)
 rw [hW0]
 clear hW0
 have hG0 := hG.up hBW
 have hx_ := Blk.l4 (mont G.p.m y) hX
 have hlx := hX.lt
 have HBW := Lib.hid hBW
 clear hX hBW hG
 go_cut [5] from 6 to 11 (fun v w2 => ∃ b, v = .pointer (some ⟨b, 0, none⟩) ∧ Hid (W0.heap.size ≤ b) ∧ Hid (Blk w2 b 96 (lim N)) ∧ Hid (Below W0.heap.size W0 w2))
 case first =>
  refine wp_region_tree (fun w' => ∃ E : Over W0, w' = E.w) (.qs [0, 1, 2, 3, 4] (.two 5 (.a 6 (.a 7 .done)) 6 (.a 5 (.a 7 .done)))) (by kernel_rfl) (by kernel_rfl) (fun _ _ d _ _ h => by cases d <;> exact h) ?_ ?_
  ·exact ⟨⟨_, (Below.refl _ _).drew⟩, rfl⟩
  have hov := fun (E : Over W0) o => E.cell (b := w.heap.size) o (by omega)
  simp only [Tree.qs]
  repeat (refine tree_q rfl rfl ?_; go_big_quiet_step (fail); refine wpQuiet_nil ?_)
  refine tree_two rfl rfl ?call ?alloc
  case call =>
   intro K hK
   go_simp
   refine (outM G.p OK.out.p gb 2 y _ (hG0.up (Below.refl _ _).drew).p).mono ?_
   rintro e w2 ⟨rfl, hb2⟩
   rw [HN.out]
   unfold limbV
   have hb2' : Below W0.heap.size W0 w2 := (Below.refl _ _).drew.trans hb2
   have HB2 := Lib.hid hb2'
   refine hK _ _ ⟨⟨⟨w2, hb2'⟩, rfl⟩, ?_⟩
   clear hK K hb2 hb2'
   refine tree_a rfl (fun K hK => ?_)
   go_simp
   refine hK _ _ ⟨⟨⟨_, HB2.out.alloc HB2.out.size _⟩, rfl⟩, ?_⟩
   clear hK K
   refine tree_a rfl (fun K hK => ?_)
   go_simp
   refine hK _ _ ⟨⟨⟨_, HB2.out.alloc HB2.out.size _⟩, rfl⟩, ?_⟩
   clear hK K
   refine tree_end ?_
   go_wp2_with fail
   go_meet
   case rel => exact ⟨_, rfl, HB2.out.size, Blk.new w2 _ _ _ rfl, HB2.out.alloc HB2.out.size _⟩
  case alloc =>
   intro K hK
   refine if_wanted rfl ?_
   refine oper_value (allocLimbs _ _ rfl _) ?_
   simp only [Act.put, List.setIfInBounds_toArray, List.set_cons_succ, List.set_cons_zero]
   have hal : Below W0.heap.size W0 (W0.alloc (Obj.cells #[.int .u64 0, .int .u64 0, .int .u64 0, .int .u64 0] 96)).drew := ((Below.refl _ _).alloc (Nat.le_refl _) _).drew
   have hnew := newLimbs W0
   refine hK _ _ ⟨⟨⟨_, hal⟩, rfl⟩, ?_⟩
   clear hK K
   refine tree_a rfl (fun K hK => ?_)
   go_simp
   refine (outM G.p OK.out.p gb 2 y _ (hG0.up hal).p).mono ?_
   rintro e w2 ⟨rfl, hb2⟩
   rw [HN.out]
   unfold limbV
   have HB2 := Lib.hid (below_up hal hb2)
   have HN2 := Lib.hid (hnew.below hb2 hnew.lt)
   refine hK _ _ ⟨⟨⟨w2, HB2.out⟩, rfl⟩, ?_⟩
   clear hK K hb2 hal hnew
   refine tree_a rfl (fun K hK => ?_)
   have hy_ := Blk.z4 HN2.out
   have hyf_ := HN2.out.frozen
   go_simp
   have h4 := Lib.hid (below_fill (n := N) HB2.out (Nat.le_refl W0.heap.size))
   refine hK _ _ ⟨⟨⟨_, h4.out⟩, rfl⟩, ?_⟩
   clear hK K
   refine tree_end ?_
   have HF := Lib.hid (HN2.out.fill rfl N)
   go_wp2_with fail
   go_meet
   case rel => exact ⟨_, rfl, Nat.le_refl _, HF.out, h4.out⟩
 case rest =>
  obtain ⟨b, rfl, HB, HNB, HBC⟩ := hcut
  have hb := HB.out
  have hwb := HBW.out.size
  have hbl := HNB.out.lt
  have hG1 := hG0.up HBC.out
  have HBW1 := Lib.hid (below_up HBW.out HBC.out)
  clear hG0 hx_ hlx HB
  have hgl := hG1.lt
  have hga := hG1.ms
  have hn_ := Blk.l4 (N) HNB.out
  by_cases hlow : G.q.m < N
  ·have HCI : Hid (cmpI N G.q.m = 1) := by show _ = _; unfold cmpI; rw [if_neg (by omega), if_pos hlow]
   have HL2 : Hid (lowN G y = G.p.m - N) := by show _ = _; rw [HLOW.out, if_pos hlow]
   clear hlow
   go_wp2_with fail
   have hovg := fun (E : Over wc) o => E.cell (b := gb) o hgl
   have hovn := fun (E : Over wc) o => E.cell (b := b) o hbl
   refine wp_region_over (by kernel_rfl) (by kernel_rfl) ?_
   repeat (go_big_quiet_step (first | (go_at_call 110; exact calls_over (cmp_is N G.q.m 1 (Nat.lt_trans HNP.out OK.out.p.lt4) OK.out.q.lt4 HCI.out _))))
   refine wpQuiet_nil ?_
   rintro _ ⟨E, rfl⟩
   have hG2 := hG1.up E.h
   have HNB2 := Lib.hid (HNB.out.below E.h hbl)
   have HBW2 := Lib.hid (below_up HBW1.out E.h)
   clear hovg hovn hn_ hbl hgl hga hG1 HNB HBW1
   obtain ⟨w2, hw2⟩ : ∃ W9 : World, E.w = W9 := ⟨_, rfl⟩
   rw [hw2] at hG2 HNB2 HBW2 ⊢
   clear hw2 E
   have hgl := hG2.lt
   have hga := hG2.ms
   have hn_ := Blk.l4 (N) HNB2.out
   have hbl := HNB2.out.lt
   go_wp2_with fail
   refine wp_region_otree 6 (.a 6 (.qs [7, 8, 9] (.a 10 .done))) (by kernel_rfl) (by kernel_rfl) (fun _ _ d _ _ h => by cases d <;> exact h) ?_
   simp only [List.take_succ_cons, List.take_zero]
   have hovg := fun (E : Over w2) o => E.cell (b := gb) o hgl
   have hovn := fun (E : Over w2) o => E.cell (b := b) o hbl
   repeat (go_big_quiet_step (fail))
   refine wpQuiet_nil ?_
   rintro _ ⟨E, rfl⟩
   have hG3 := hG2.up E.h
   have HNB3 := Lib.hid (HNB2.out.below E.h hbl)
   have HBW3 := Lib.hid (below_up HBW2.out E.h)
   clear hovg hovn hn_ hbl hgl hga hG2 HNB2 HBW2
   obtain ⟨w3, hw3⟩ : ∃ W9 : World, E.w = W9 := ⟨_, rfl⟩
   rw [hw3] at hG3 HNB3 HBW3 ⊢
   clear hw3 E
   refine tree_a rfl (fun K hK => ?_)
   go_simp
   refine (minusLow G.p.m N OK.out.p.lt4 (Nat.le_of_lt HNP.out) _).mono ?_
   rintro e w4 ⟨rfl, hb4⟩
   have hG4 := hG3.up hb4
   have HNB4 := Lib.hid (HNB3.out.below hb4 HNB3.out.lt)
   have HBW4 := Lib.hid (below_up HBW3.out hb4)
   clear hG3 HNB3 HBW3 hb4
   unfold limbV
   refine hK _ _ ⟨trivial, ?_⟩
   clear hK K
   simp only [Tree.qs]
   repeat (refine tree_q rfl rfl ?_; go_big_quiet_step (fail); refine wpQuiet_nil ?_)
   have hn_ := Blk.l4 (N) HNB4.out
   have hnf_ := HNB4.out.frozen
   refine tree_a rfl (fun K hK => ?_)
   go_simp
   refine hK _ _ ⟨trivial, ?_⟩
   clear hK K
   refine tree_end ?_
   have HS5 := Lib.hid (HNB4.out.fill rfl (G.p.m - N))
   have HB5 := Lib.hid (below_fill (n := G.p.m - N) (b := b) HBW4.out (by omega))
   have hG5 := hG4.below (below_four (o := 0) (Below.refl w.heap.size w4) (show w.heap.size ≤ b by omega) (.int .u64 (dig (G.p.m - N) 0 : Int)) (.int .u64 (dig (G.p.m - N) 1 : Int)) (.int .u64 (dig (G.p.m - N) 2 : Int)) (.int .u64 (dig (G.p.m - N) 3 : Int))) HGW.out
   obtain ⟨w5, hw5⟩ : ∃ W9 : World, (((((w4).setCell ⟨b, 0, none⟩ (.int .u64 (dig (G.p.m - N) 0 : Int))).setCell ⟨b, 1, none⟩ (.int .u64 (dig (G.p.m - N) 1 : Int))).setCell ⟨b, 2, none⟩ (.int .u64 (dig (G.p.m - N) 2 : Int))).setCell ⟨b, 3, none⟩ (.int .u64 (dig (G.p.m - N) 3 : Int))) = W9 := ⟨_, rfl⟩
   clear hn_ hnf_ HNB4 HBW4 hG4
   rw [hw5] at HS5 HB5 ⊢
   have hG6 : GroupAt w5 gb G := by rw [← hw5]; exact hG5
   clear hw5 hG5
   go_wp2_with fail
   have hgl4 := hG6.lt
   have hgs4 := hG6.size
   have hm_ := Blk.l4 (G.p.m - N) HS5.out
   have hml := HS5.out.lt
   refine wp_region_over (by kernel_rfl) (by kernel_rfl) ?_
   have hovg4 := fun (E : Over w5) o => E.cell (b := gb) o hgl4
   have hovn4 := fun (E : Over w5) o => E.cell (b := b) o hml
   repeat (go_big_quiet_step (first | (go_at_call 117; exact calls_over (text_any (G.p.m - N) G.size OK.out.size_le _))))
   refine wpQuiet_nil ?_
   rintro _ ⟨E, rfl⟩
   have HB9 := Lib.hid (below_up HB5.out E.h)
   clear hovg4 hovn4 hm_
   obtain ⟨w9, hw9⟩ : ∃ W9 : World, E.w = W9 := ⟨_, rfl⟩
   rw [hw9] at HB9 ⊢
   clear hw9 E
   go_wp2_with fail
   go_ret
   exact ⟨by rw [HL2.out]; rfl, HB9.out⟩
  ·have HL2 : Hid (lowN G y = N) := by show _ = _; rw [HLOW.out, if_neg hlow]
   by_cases heq : N = G.q.m
   ·have HCI : Hid (cmpI N G.q.m = 0) := by show _ = _; unfold cmpI; rw [if_neg (by omega), if_neg (by omega)]
    clear hlow heq
    go_wp2_with fail
    have hovg := fun (E : Over wc) o => E.cell (b := gb) o hgl
    have hovn := fun (E : Over wc) o => E.cell (b := b) o hbl
    refine wp_region_over (by kernel_rfl) (by kernel_rfl) ?_
    repeat (go_big_quiet_step (first | (go_at_call 110; exact calls_over (cmp_is N G.q.m 0 (Nat.lt_trans HNP.out OK.out.p.lt4) OK.out.q.lt4 HCI.out _))))
    refine wpQuiet_nil ?_
    rintro _ ⟨E, rfl⟩
    have hG2 := hG1.up E.h
    have HNB2 := Lib.hid (HNB.out.below E.h hbl)
    have HBW2 := Lib.hid (below_up HBW1.out E.h)
    clear hovg hovn hn_ hbl hgl hga hG1 HNB HBW1
    obtain ⟨w2, hw2⟩ : ∃ W9 : World, E.w = W9 := ⟨_, rfl⟩
    rw [hw2] at hG2 HNB2 HBW2 ⊢
    clear hw2 E
    go_wp2_with fail
    have hgl4 := hG2.lt
    have hgs4 := hG2.size
    have hm_ := Blk.l4 (N) HNB2.out
    have hml := HNB2.out.lt
    refine wp_region_over (by kernel_rfl) (by kernel_rfl) ?_
    have hovg4 := fun (E : Over w2) o => E.cell (b := gb) o hgl4
    have hovn4 := fun (E : Over w2) o => E.cell (b := b) o hml
    repeat (go_big_quiet_step (first | (go_at_call 117; exact calls_over (text_any (N) G.size OK.out.size_le _))))
    refine wpQuiet_nil ?_
    rintro _ ⟨E, rfl⟩
    have HB9 := Lib.hid (below_up HBW2.out E.h)
    clear hovg4 hovn4 hm_
    obtain ⟨w9, hw9⟩ : ∃ W9 : World, E.w = W9 := ⟨_, rfl⟩
    rw [hw9] at HB9 ⊢
    clear hw9 E
    go_wp2_with fail
    go_ret
    exact ⟨by rw [HL2.out]; rfl, HB9.out⟩
   ·have HCI : Hid (cmpI N G.q.m = -1) := by show _ = _; unfold cmpI; rw [if_pos (by omega)]
    clear hlow heq
    go_wp2_with fail
    have hovg := fun (E : Over wc) o => E.cell (b := gb) o hgl
    have hovn := fun (E : Over wc) o => E.cell (b := b) o hbl
    refine wp_region_over (by kernel_rfl) (by kernel_rfl) ?_
    repeat (go_big_quiet_step (first | (go_at_call 110; exact calls_over (cmp_is N G.q.m (-1) (Nat.lt_trans HNP.out OK.out.p.lt4) OK.out.q.lt4 HCI.out _))))
    refine wpQuiet_nil ?_
    rintro _ ⟨E, rfl⟩
    have hG2 := hG1.up E.h
    have HNB2 := Lib.hid (HNB.out.below E.h hbl)
    have HBW2 := Lib.hid (below_up HBW1.out E.h)
    clear hovg hovn hn_ hbl hgl hga hG1 HNB HBW1
    obtain ⟨w2, hw2⟩ : ∃ W9 : World, E.w = W9 := ⟨_, rfl⟩
    rw [hw2] at hG2 HNB2 HBW2 ⊢
    clear hw2 E
    go_wp2_with fail
    have hgl4 := hG2.lt
    have hgs4 := hG2.size
    have hm_ := Blk.l4 (N) HNB2.out
    have hml := HNB2.out.lt
    refine wp_region_over (by kernel_rfl) (by kernel_rfl) ?_
    have hovg4 := fun (E : Over w2) o => E.cell (b := gb) o hgl4
    have hovn4 := fun (E : Over w2) o => E.cell (b := b) o hml
    repeat (go_big_quiet_step (first | (go_at_call 117; exact calls_over (text_any (N) G.size OK.out.size_le _))))
    refine wpQuiet_nil ?_
    rintro _ ⟨E, rfl⟩
    have HB9 := Lib.hid (below_up HBW2.out E.h)
    clear hovg4 hovn4 hm_
    obtain ⟨w9, hw9⟩ : ∃ W9 : World, E.w = W9 := ⟨_, rfl⟩
    rw [hw9] at HB9 ⊢
    clear hw9 E
    go_wp2_with fail
    go_ret
    exact ⟨by rw [HL2.out]; rfl, HB9.out⟩
end Go.Proofs.Ytjmeakfjfpnciaa
namespace Go.Proofs.Ytjmeakfjfpnciaa
open Go.RowKit
def of4 (a b c d : Nat) : Nat := a + BB * b + BB ^ 2 * c + BB ^ 3 * d
def grp : Nat → GP
 | 1 => ⟨1, 2, ⟨1283, 1100, 131, 690135397925220949⟩, ⟨641, 1, 1, 28778071877862015⟩⟩
 | 2 => ⟨2, 8, ⟨1152930863340584963, 576503707391577365, 1074843801509405873, 2177741659672237397⟩, ⟨576465431670292481, 354135386165974715, 178479071281353849, 14411523486952456191⟩⟩
 | _ => ⟨3, 32, ⟨of4 0x3 0x0 0x237f 0x2000000000000000, of4 0xffffffffffffffeb 0xffffffffffffffff 0xffffffffffff0786 0x1fffffffffffffff, of4 0xffffffe27829fc43 0xffffffffffffffff 0xfffea297c8e063fe 0x1fffffffffffffff, 0x5555555555555555⟩,
   ⟨of4 0x1 0x8000000000000000 0x11bf 0x1000000000000000, of4 0xfffffffffffffff1 0x7fffffffffffffff 0xfffffffffffef5c7 0xfffffffffffffff, of4 0xffffffec501bfd01 0x7fffffffffffffff 0xfffea297c8ce92bf 0xfffffffffffffff, 0xffffffffffffffff⟩⟩
theorem grp_ok (k : Nat) (h1 : 1 ≤ k) (h3 : k ≤ 3) : (grp k).Ok := by
 obtain rfl | rfl | rfl : k = 1 ∨ k = 2 ∨ k = 3 := by omega
 all_goals exact ⟨⟨by decide, by decide, by decide, by decide, by decide, by decide⟩, ⟨by decide, by decide, by decide, by decide, by decide, by decide⟩, by decide, by decide, by decide, by decide⟩
def GP.cells (G : GP) : List Value := .int .i64 G.kind :: .int .i64 G.size :: (G.p.cells ++ G.q.cells).map (Value.int .u64)
theorem cells_length (R : RingP) : R.cells.length = 13 := rfl
theorem groupAt_of {W : World} {b : Nat} {t : TypeId} {G : GP} (h : W.heap[b]? = some (.cells G.cells.toArray t (0, 0))) : GroupAt W b G := by
 have hc : ∀ i v, G.cells[i]? = some v → W.cell? ⟨b, i, none⟩ = some v := fun i v hv => by
  simp only [World.cell?, h]
  simpa using hv
 refine ⟨(Array.getElem?_eq_some_iff.1 h).1, hc 0 _ rfl, hc 1 _ rfl, ⟨(Array.getElem?_eq_some_iff.1 h).1, fun i x hx => hc (2 + i) _ ?_⟩, ⟨(Array.getElem?_eq_some_iff.1 h).1, fun i x hx => hc (15 + i) _ ?_⟩⟩
 ·rw [show 2 + i = i + 1 + 1 by omega]
  simp only [GP.cells, List.getElem?_cons_succ, List.getElem?_map]
  rw [List.getElem?_append_left (by have := (List.getElem?_eq_some_iff.1 hx).1; exact this), hx]
  rfl
 ·rw [show 15 + i = 13 + i + 1 + 1 by omega]
  simp only [GP.cells, List.getElem?_cons_succ, List.getElem?_map]
  rw [List.getElem?_append_right (by rw [cells_length]; omega), cells_length, show 13 + i - 13 = i by omega, hx]
  rfl
theorem of_none (k : Int) (hk : ¬ (1 ≤ k ∧ k ≤ 3)) (w : World) : Calls Try.prog 57 #[.int .i64 k] w fun e w' => e = .returned (.pointer none) ∧ w = w' := by
 have h1 : (k == 1) = false := by simp; omega
 have h2 : (k == 2) = false := by simp; omega
 have h3 : (k == 3) = false := by simp; omega
 go_enter Try.func57, Try.ntmps57
 go_wp2_with fail
 go_ret
 exact ⟨rfl, rfl⟩
theorem of_some (k : Nat) (h1 : 1 ≤ k) (h3 : k ≤ 3) (w : World) : Calls Try.prog 57 #[.int .i64 k] w fun e w' => e = .returned (.pointer (some ⟨w.heap.size, 0, none⟩)) ∧ GroupAt w' w.heap.size (grp k) ∧ Below w.heap.size w w' := by
 obtain rfl | rfl | rfl : k = 1 ∨ k = 2 ∨ k = 3 := by omega
 all_goals
  go_enter Try.func57, Try.ntmps57
  go_wp2_with fail
  go_ret
  refine ⟨rfl, groupAt_of (t := 181) ?_, (Below.refl _ _).alloc (Nat.le_refl _) _⟩
  rw [heap_alloc_new]
  exact congrArg (fun l => some (Obj.cells l 181 (0, 0))) (by kernel_rfl)
end Go.Proofs.Ytjmeakfjfpnciaa
namespace Go.Proofs.Ytjmeakfjfpnciaa
section
variable {B : Nat}
end
end Go.Proofs.Ytjmeakfjfpnciaa
namespace Go.Proofs.Ytjmeakfjfpnciaa
open Go.RowKit
end Go.Proofs.Ytjmeakfjfpnciaa
namespace Go.Proofs.Ytjmeakfjfpnciaa
open Go.RowKit
end Go.Proofs.Ytjmeakfjfpnciaa
namespace Go.Proofs.Ytjmeakfjfpnciaa
open Go.RowKit
end Go.Proofs.Ytjmeakfjfpnciaa
namespace Go.Proofs.Ytjmeakfjfpnciaa
open Go.RowKit
def Bx (W : World) (b : Nat) (t : TypeId) (cs : List Value) : Prop := W.heap[b]? = some (.cells cs.toArray t (0, 0))
section
variable {W W' : World} {b c i n : Nat} {t : TypeId} {cs : List Value} {v : Value}
theorem Bx.lt (h : Bx W b t cs) : b < W.heap.size := (Array.getElem?_eq_some_iff.1 h).1
theorem Bx.cell (h : Bx W b t cs) (hx : cs[i]? = some v) : W.cell? ⟨b, i, none⟩ = some v := by
 simp [World.cell?, show W.heap[b]? = _ from h, hx]
theorem Bx.frozen (h : Bx W b t cs) (i : Nat) : W.frozen? ⟨b, i, none⟩ = false := by
 simp [World.frozen?, show W.heap[b]? = _ from h]
theorem Bx.below (h : Bx W b t cs) (hb : Below n W W') (hn : b < n) : Bx W' b t cs := (hb.block b hn).trans h
theorem Bx.up (h : Bx W b t cs) (hb : Below W.heap.size W W') : Bx W' b t cs := h.below hb h.lt
theorem Bx.alloc (h : Bx W b t cs) (o : Obj) : Bx (W.alloc o) b t cs := (Below.heap_alloc W o b h.lt).trans h
theorem Bx.new (W : World) (t : TypeId) (cs : List Value) (ar : Array Value) (har : ar = cs.toArray) : Bx (W.alloc (.cells ar t)) W.heap.size t cs := by
 subst har; exact heap_alloc_new W _
theorem Bx.set (h : Bx W b t cs) (i : Nat) (v : Value) : Bx (W.setCell ⟨b, i, none⟩ v) b t (cs.set i v) := by
 obtain ⟨hlt, hk⟩ := Array.getElem?_eq_some_iff.1 h
 show (W.heap.modify b _)[b]? = _
 rw [Array.getElem?_eq_getElem (by rw [Array.size_modify]; exact hlt), Array.getElem_modify_self, hk]
 simp
end
end Go.Proofs.Ytjmeakfjfpnciaa
namespace Go.Proofs.Ytjmeakfjfpnciaa
open Go.RowKit
def RowO (N : Nat) (w : World) (e : TypeId) (size : Nat) (v : Value) (n : Nat) (xs : List Value) : Prop := w.ownsRow N e size v n xs
section
variable {w w1 : World} {e : TypeId} {N size n m g c : Nat} {v : Value} {xs ys : List Value} {r : Option Nat}
theorem RowO.nil : RowO N w e size (.slice none 0 0) 0 [] := World.ownsRow_nil _ _ _ _
theorem RowO.grown (h : RowO N w e size v n xs) (hg : w.grownBy w1 r) (hne : ∀ q, v.ownBlock = some q → r ≠ some q) : RowO N w1 e size v n xs :=
 World.ownsRow.kept h hg (by cases h9 : v.ownBlock with
  | none => exact Or.inl rfl
  | some q => exact Or.inr (fun e => hne q h9 e.symm))
theorem RowO.up (h : RowO N w e size v n xs) (hb : Below w.heap.size w w1) : RowO N w1 e size v n xs := h.grown (below_grown hb) (fun q _ => by simp)
theorem RowO.lt (h : RowO N w e size v n xs) (q : Nat) (hq : v.ownBlock = some q) : N ≤ q ∧ q < w.heap.size := World.ownsRow.lt h q hq
theorem RowO.eq (h : RowO N w e size v n xs) (hx : xs = ys) (hn : n = m) : RowO N w e size v m ys := by subst hx; subst hn; exact h
theorem RowO.sl {a : Option Addr} {k : Nat} (h : RowO N w e size (.slice a k c) n xs) : Sl w w.heap.size a xs := by
 rcases h.2 with ⟨hv, h0⟩ | ⟨g, cap, cur, hv, hb, hg, hr⟩
 ·have := h.1; subst h0; left; exact List.length_eq_zero_iff.1 (by simpa using this)
 ·simp only [Value.slice.injEq] at hv
  obtain ⟨rfl, rfl, rfl⟩ := hv
  refine Or.inr ⟨g, 0, rfl, (Array.getElem?_eq_some_iff.1 hg).1, fun i u hu => ?_⟩
  have hi : i < k * size := by have := (List.getElem?_eq_some_iff.1 hu).1; rw [h.1] at this; exact this
  rw [Nat.zero_add, World.ownsRow.cellAt h i hi]; exact hu
theorem Bx.grown {t : TypeId} {b : Nat} {cs : List Value} (h : Bx w b t cs) (hg : w.grownBy w1 r) (hne : r ≠ some b) : Bx w1 b t cs := (hg.block b h.lt (fun e => hne e.symm)).trans h
theorem cell_of_block {b : Nat} (h : w1.heap[b]? = w.heap[b]?) (o : Nat) : w1.cell? ⟨b, o, none⟩ = w.cell? ⟨b, o, none⟩ := by
 simp only [World.cell?, h]
theorem GroupAt.grown {gb : Nat} {G : GP} (h : GroupAt w gb G) (hg : w.grownBy w1 r) (hne : r ≠ some gb) : GroupAt w1 gb G := by
 have hc := cell_of_block (hg.block gb h.lt (fun e => hne e.symm))
 have hl := hg.size
 exact ⟨Nat.lt_of_lt_of_le h.lt hl, by rw [hc]; exact h.kind, by rw [hc]; exact h.size, ⟨Nat.lt_of_lt_of_le h.p.lt hl, fun i x hx => by rw [hc]; exact h.p.cell i x hx⟩, ⟨Nat.lt_of_lt_of_le h.q.lt hl, fun i x hx => by rw [hc]; exact h.q.cell i x hx⟩⟩
theorem grown_set (w : World) (b i : Nat) (u : Value) : w.grownBy (w.setCell ⟨b, i, none⟩ u) (some b) :=
 ⟨rfl, rfl, rfl, by simp [World.setCell], fun k _ hk => Below.heap_setCell w ⟨b, i, none⟩ u k (by intro e; exact hk (by rw [e]))⟩
end
theorem wpList_pushR {P : Program} (N : Nat) (w0 : World) (hN : N ≤ w0.heap.size) {ops : Array Oper} {rest : List Oper} {o : Oper} {a : Act} {Q : Exit → Act → World → Prop} (hgd : o.guard = none) (s x : Operand) (t : TypeId)
  (ho : o.op = .call { callee := .builtin .append, args := #[s, x], argTypes := #[t, t] })
  (e : TypeId) (i : TypeInfo) (z : Value) (size bytes : Nat) (ht : P.underlying t = some (.slice e)) (hi : P.info? e = some i) (hz : i.zero = some z)
  (hsize : i.size = size) (hby : i.bytes = bytes) (hzs : z.cells.size = size) (hsz : 0 < size)
  (v : Value) (n : Nat) (xs : List Value) (hs : a.eval s = v) (hown : RowO N w0 e size v n xs)
  (news : Array Value) (e2 : TypeId) (b : Nat) (hb : w0.heap.size = b) (hx : a.eval x = .slice (some ⟨b, 0, none⟩) 1 1) (hl : news.size = size) (h1 : ∀ u ∈ news.toList, u.oneCell' = true)
  (h63 : (n + 1) * bytes ≤ 140737488355328) (hn : n + 1 ≤ maxLen)
  (h : ∀ g cap w', RowO N w' e size (.slice (some ⟨g, 0, none⟩) (n + 1) cap) (n + 1) (xs ++ news.toList) → w0.grownBy w' v.ownBlock → wpList P ops Q rest (a.put o.dst (.slice (some ⟨g, 0, none⟩) (n + 1) cap)) w') :
  wpList P ops Q (o :: rest) a (w0.alloc (.cells news e2)) := by
 subst hb
 refine wpList_append_lies _ hgd s x t ho N e i z size bytes ht hi hz hsize hby hzs hsz v n xs hs (World.ownsRow.alloc hown _) ⟨w0.heap.size, 0, none⟩ 1 1 news.toList hx (by simpa using hl)
  (World.news_of_block (heap_alloc_new w0 _)) h1 (by omega) hn h63 (by simp; omega) _ rfl ?_
 intro g cap w' hown' hg _ _
 refine h g cap w' hown' ⟨hg.os, hg.tape, hg.output, ?_, ?_⟩
 ·have := hg.size; simp at this; omega
 ·intro k hk hne
  rw [hg.block k (by simp; omega) hne]
  exact Below.heap_alloc _ _ _ hk
theorem flat_at {α : Type} (f : α → List Value) (k : Nat) (hk : ∀ x, (f x).length = k) : ∀ (l : List α) (i j : Nat) (hi : i < l.length) (_ : j < k), (l.flatMap f)[i * k + j]? = (f l[i])[j]?
 | [], i, _, hi, _ => absurd hi (by simp)
 | x :: l, 0, j, _, hj => by
  rw [List.flatMap_cons, Nat.zero_mul, Nat.zero_add, List.getElem?_append_left (by rw [hk]; exact hj)]
  rfl
 | x :: l, i + 1, j, hi, hj => by
  rw [List.flatMap_cons, List.getElem?_append_right (by rw [hk, Nat.add_mul]; omega), hk, show (i + 1) * k + j - k = i * k + j by rw [Nat.add_mul]; omega]
  exact flat_at f k hk l i j (by simpa using hi) hj
theorem flat_len {α : Type} (f : α → List Value) (k : Nat) (hk : ∀ x, (f x).length = k) (l : List α) : (l.flatMap f).length = l.length * k := by
 induction l with
 | nil => simp
 | cons x l ih => rw [List.flatMap_cons, List.length_append, hk, ih, List.length_cons, Nat.add_mul]; omega
theorem flat_snoc {α : Type} (f : α → List Value) (l : List α) (i : Nat) (hi : i < l.length) : (l.take (i + 1)).flatMap f = (l.take i).flatMap f ++ f l[i] := by
 rw [List.take_succ_eq_append_getElem hi, List.flatMap_append]
 simp
theorem Sl.elem {w : World} {B : Nat} {a : Option Addr} {α : Type} {f : α → List Value} {k : Nat} {l : List α} (h : Sl w B a (l.flatMap f)) (hk : ∀ x, (f x).length = k) (h0 : 0 < k) (i : Nat) (hi : i < l.length) :
  ∃ b off, a = some ⟨b, off, none⟩ ∧ b < B ∧ ∀ j v, (f l[i])[j]? = some v → w.cell? ⟨b, off + i * k + j, none⟩ = some v := by
 rcases h with h | ⟨b, off, rfl, hb, hc⟩
 ·have := flat_len f k hk l
  rw [h, List.length_nil] at this
  have : 0 < l.length * k := Nat.mul_pos (by omega) h0
  omega
 ·exact ⟨b, off, rfl, hb, fun j v hv => by rw [Nat.add_assoc]; exact hc _ _ (by rw [flat_at f k hk l i j hi (by have := (List.getElem?_eq_some_iff.1 hv).1; rw [hk] at this; exact this)]; exact hv)⟩
end Go.Proofs.Ytjmeakfjfpnciaa
namespace Go.Proofs.Ytjmeakfjfpnciaa
open Go.RowKit
section
variable {W w0 : World} {b n : Nat} {t : TypeId} {cs cs' : List Value} {a0 a1 a2 a3 a4 a5 a6 a7 : Value}
theorem Bx.c2 (h : Bx W b t [a0, a1]) : W.cell? ⟨b, 0, none⟩ = some a0 ∧ W.cell? ⟨b, 1, none⟩ = some a1 := ⟨h.cell (i := 0) rfl, h.cell (i := 1) rfl⟩
theorem Bx.c3 (h : Bx W b t [a0, a1, a2]) : W.cell? ⟨b, 0, none⟩ = some a0 ∧ W.cell? ⟨b, 1, none⟩ = some a1 ∧ W.cell? ⟨b, 2, none⟩ = some a2 := ⟨h.cell (i := 0) rfl, h.cell (i := 1) rfl, h.cell (i := 2) rfl⟩
theorem Bx.c4 (h : Bx W b t [a0, a1, a2, a3]) : W.cell? ⟨b, 0, none⟩ = some a0 ∧ W.cell? ⟨b, 1, none⟩ = some a1 ∧ W.cell? ⟨b, 2, none⟩ = some a2 ∧ W.cell? ⟨b, 3, none⟩ = some a3 := ⟨h.cell (i := 0) rfl, h.cell (i := 1) rfl, h.cell (i := 2) rfl, h.cell (i := 3) rfl⟩
theorem Bx.c8 (h : Bx W b t [a0, a1, a2, a3, a4, a5, a6, a7]) : W.cell? ⟨b, 0, none⟩ = some a0 ∧ W.cell? ⟨b, 1, none⟩ = some a1 ∧ W.cell? ⟨b, 2, none⟩ = some a2 ∧ W.cell? ⟨b, 3, none⟩ = some a3 ∧ W.cell? ⟨b, 4, none⟩ = some a4 ∧ W.cell? ⟨b, 5, none⟩ = some a5 ∧ W.cell? ⟨b, 6, none⟩ = some a6 ∧ W.cell? ⟨b, 7, none⟩ = some a7 := ⟨h.cell (i := 0) rfl, h.cell (i := 1) rfl, h.cell (i := 2) rfl, h.cell (i := 3) rfl, h.cell (i := 4) rfl, h.cell (i := 5) rfl, h.cell (i := 6) rfl, h.cell (i := 7) rfl⟩
theorem sz {p q : Prop} (a : Hid p) (b : q) : Hid (p ∧ q) := Lib.hid ⟨a.out, b⟩
theorem sne {a b : Nat} (h : b ≠ a) : some a ≠ some b := fun e => h (Option.some.inj e).symm
theorem hbu {W w w1 : World} (h : Hid (Below W.heap.size W w)) (g : Below w.heap.size w w1) : Hid (Below W.heap.size W w1) := Lib.hid (below_up h.out g)
theorem hbg {W w w1 : World} {b : Nat} (h : Hid (Below W.heap.size W w)) (g : Hid (w.grownBy w1 (some b))) (hb : W.heap.size ≤ b) : Hid (Below W.heap.size W w1) := Lib.hid (Below.grown h.out g.out h.out.size (fun _ e => (Option.some.inj e) ▸ hb))
theorem new1 (w : World) (t0 : TypeId) (c0 : List Value) : ∃ W, w.alloc (Obj.cells c0.toArray t0) = W ∧ Below w.heap.size w W ∧ Hid (W.heap.size = w.heap.size + 1) ∧ Hid (Bx W w.heap.size t0 c0) := by
 refine ⟨_, rfl, ((Below.refl _ _).alloc (Nat.le_refl _) _), Lib.hid (by simp), ?_⟩
 ·have h := (Bx.new w t0 c0 _ rfl)
  exact Lib.hid h
theorem new2 (w : World) (t0 : TypeId) (c0 : List Value) (t1 : TypeId) (c1 : List Value) : ∃ W, (w.alloc (Obj.cells c0.toArray t0)).alloc (Obj.cells c1.toArray t1) = W ∧ Below w.heap.size w W ∧ Hid (W.heap.size = w.heap.size + 2) ∧ Hid (Bx W w.heap.size t0 c0) ∧ Hid (Bx W (w.heap.size + 1) t1 c1) := by
 refine ⟨_, rfl, (((Below.refl _ _).alloc (Nat.le_refl _) _).alloc (by simp) _), Lib.hid (by simp), ?_, ?_⟩
 ·have h := ((Bx.new w t0 c0 _ rfl).alloc (Obj.cells c1.toArray t1))
  exact Lib.hid h
 ·have h := (Bx.new (w.alloc (Obj.cells c0.toArray t0)) t1 c1 _ rfl)
  rw [World.size_alloc] at h
  exact Lib.hid h
theorem new3 (w : World) (t0 : TypeId) (c0 : List Value) (t1 : TypeId) (c1 : List Value) (t2 : TypeId) (c2 : List Value) : ∃ W, ((w.alloc (Obj.cells c0.toArray t0)).alloc (Obj.cells c1.toArray t1)).alloc (Obj.cells c2.toArray t2) = W ∧ Below w.heap.size w W ∧ Hid (W.heap.size = w.heap.size + 3) ∧ Hid (Bx W w.heap.size t0 c0) ∧ Hid (Bx W (w.heap.size + 1) t1 c1) ∧ Hid (Bx W (w.heap.size + 2) t2 c2) := by
 refine ⟨_, rfl, ((((Below.refl _ _).alloc (Nat.le_refl _) _).alloc (by simp) _).alloc (by simp; omega) _), Lib.hid (by simp), ?_, ?_, ?_⟩
 ·have h := (((Bx.new w t0 c0 _ rfl).alloc (Obj.cells c1.toArray t1)).alloc (Obj.cells c2.toArray t2))
  exact Lib.hid h
 ·have h := ((Bx.new (w.alloc (Obj.cells c0.toArray t0)) t1 c1 _ rfl).alloc (Obj.cells c2.toArray t2))
  rw [World.size_alloc] at h
  exact Lib.hid h
 ·have h := (Bx.new ((w.alloc (Obj.cells c0.toArray t0)).alloc (Obj.cells c1.toArray t1)) t2 c2 _ rfl)
  rw [World.size_alloc, World.size_alloc] at h
  exact Lib.hid h
theorem new4 (w : World) (t0 : TypeId) (c0 : List Value) (t1 : TypeId) (c1 : List Value) (t2 : TypeId) (c2 : List Value) (t3 : TypeId) (c3 : List Value) : ∃ W, (((w.alloc (Obj.cells c0.toArray t0)).alloc (Obj.cells c1.toArray t1)).alloc (Obj.cells c2.toArray t2)).alloc (Obj.cells c3.toArray t3) = W ∧ Below w.heap.size w W ∧ Hid (W.heap.size = w.heap.size + 4) ∧ Hid (Bx W w.heap.size t0 c0) ∧ Hid (Bx W (w.heap.size + 1) t1 c1) ∧ Hid (Bx W (w.heap.size + 2) t2 c2) ∧ Hid (Bx W (w.heap.size + 3) t3 c3) := by
 refine ⟨_, rfl, (((((Below.refl _ _).alloc (Nat.le_refl _) _).alloc (by simp) _).alloc (by simp; omega) _).alloc (by simp; omega) _), Lib.hid (by simp), ?_, ?_, ?_, ?_⟩
 ·have h := ((((Bx.new w t0 c0 _ rfl).alloc (Obj.cells c1.toArray t1)).alloc (Obj.cells c2.toArray t2)).alloc (Obj.cells c3.toArray t3))
  exact Lib.hid h
 ·have h := (((Bx.new (w.alloc (Obj.cells c0.toArray t0)) t1 c1 _ rfl).alloc (Obj.cells c2.toArray t2)).alloc (Obj.cells c3.toArray t3))
  rw [World.size_alloc] at h
  exact Lib.hid h
 ·have h := ((Bx.new ((w.alloc (Obj.cells c0.toArray t0)).alloc (Obj.cells c1.toArray t1)) t2 c2 _ rfl).alloc (Obj.cells c3.toArray t3))
  rw [World.size_alloc, World.size_alloc] at h
  exact Lib.hid h
 ·have h := (Bx.new (((w.alloc (Obj.cells c0.toArray t0)).alloc (Obj.cells c1.toArray t1)).alloc (Obj.cells c2.toArray t2)) t3 c3 _ rfl)
  rw [World.size_alloc, World.size_alloc, World.size_alloc] at h
  exact Lib.hid h
theorem put1 (h : Hid (Bx W b t cs)) (o0 : Nat) (v0 : Value) (cs' : List Value) (hc : (cs.set o0 v0) = cs') : ∃ W', (W.setCell ⟨b, o0, none⟩ v0) = W' ∧ Hid (W.grownBy W' (some b)) ∧ Hid (W'.heap.size = W.heap.size) ∧ Hid (Bx W' b t cs') :=
 ⟨_, rfl, Lib.hid (grown_set W b o0 v0), Lib.hid (by simp [World.setCell]), Lib.hid (hc ▸ (h.out.set o0 v0))⟩
theorem put2 (h : Hid (Bx W b t cs)) (o0 : Nat) (v0 : Value) (o1 : Nat) (v1 : Value) (cs' : List Value) (hc : ((cs.set o0 v0).set o1 v1) = cs') : ∃ W', ((W.setCell ⟨b, o0, none⟩ v0).setCell ⟨b, o1, none⟩ v1) = W' ∧ Hid (W.grownBy W' (some b)) ∧ Hid (W'.heap.size = W.heap.size) ∧ Hid (Bx W' b t cs') :=
 ⟨_, rfl, Lib.hid ((grown_set W b o0 v0).trans (grown_set (W.setCell ⟨b, o0, none⟩ v0) b o1 v1)), Lib.hid (by simp [World.setCell]), Lib.hid (hc ▸ ((h.out.set o0 v0).set o1 v1))⟩
theorem put4 (h : Hid (Bx W b t cs)) (o0 : Nat) (v0 : Value) (o1 : Nat) (v1 : Value) (o2 : Nat) (v2 : Value) (o3 : Nat) (v3 : Value) (cs' : List Value) (hc : ((((cs.set o0 v0).set o1 v1).set o2 v2).set o3 v3) = cs') : ∃ W', ((((W.setCell ⟨b, o0, none⟩ v0).setCell ⟨b, o1, none⟩ v1).setCell ⟨b, o2, none⟩ v2).setCell ⟨b, o3, none⟩ v3) = W' ∧ Hid (W.grownBy W' (some b)) ∧ Hid (W'.heap.size = W.heap.size) ∧ Hid (Bx W' b t cs') :=
 ⟨_, rfl, Lib.hid ((((grown_set W b o0 v0).trans (grown_set (W.setCell ⟨b, o0, none⟩ v0) b o1 v1)).trans (grown_set ((W.setCell ⟨b, o0, none⟩ v0).setCell ⟨b, o1, none⟩ v1) b o2 v2)).trans (grown_set (((W.setCell ⟨b, o0, none⟩ v0).setCell ⟨b, o1, none⟩ v1).setCell ⟨b, o2, none⟩ v2) b o3 v3)), Lib.hid (by simp [World.setCell]), Lib.hid (hc ▸ ((((h.out.set o0 v0).set o1 v1).set o2 v2).set o3 v3))⟩
end
end Go.Proofs.Ytjmeakfjfpnciaa
namespace Go.Proofs.Ytjmeakfjfpnciaa
open Go.RowKit
theorem sb_size : (Try.prog.info? 157).map (·.size) = some 2 := by kernel_rfl
theorem sb_byte : (Try.prog.info? 5).map (fun i => (i.zero, i.size, i.bytes)) = some (some (.int .u8 0), 1, 1) := by kernel_rfl
theorem sbCheck_used (b : Nat) (w : World) (h0 : w.cell? ⟨b, 0, none⟩ = some (.pointer (some ⟨b, 0, none⟩))) :
  Calls Try.prog 148 #[.pointer (some ⟨b, 0, none⟩)] w fun e w' => e = .returned (.tuple #[]) ∧ w' = w := by
 obtain ⟨j, hj, _⟩ := Option.map_eq_some_iff.1 sb_size
 go_enter Try.func148, Try.ntmps148
 go_wp2
 rw [Lib.run_neq_ptr_same w _ Try.underlying154 hj]
 go_wp2
 go_end0
 exact ⟨rfl, rfl⟩
theorem sbCheck_fresh (b : Nat) (w : World) (h0 : w.cell? ⟨b, 0, none⟩ = some (.pointer none)) (hsh : w.shape? b = some (157, 2)) (hfz : w.frozen? ⟨b, 0, none⟩ = false) :
  Calls Try.prog 148 #[.pointer (some ⟨b, 0, none⟩)] w fun e w' => e = .returned (.tuple #[]) ∧ w' = w.setCell ⟨b, 0, none⟩ (.pointer (some ⟨b, 0, none⟩)) := by
 obtain ⟨j, hj, hjs⟩ := Option.map_eq_some_iff.1 sb_size
 go_enter Try.func148, Try.ntmps148
 go_wp2
 rw [Lib.run_to_unsafe w ⟨b, 0, none⟩ Try.underlying154 Try.underlying260 hj (by rw [hjs]; decide) hsh (Nat.zero_lt_succ 1)]
 simp only [Result.andThen]
 rw [Oper.upon_value]
 go_wp2
 rw [run_callFunc_extern Try.func190 (by kernel_rfl) (by kernel_rfl) (by kernel_rfl) (e := Extern.AbiNoEscape.same) (by kernel_rfl)]
 rw [Lib.run_noEscape]
 simp only [Result.andThen]
 rw [Oper.upon_value]
 go_wp2
 rw [Lib.run_from_unsafe w ⟨b, 0, none⟩ Try.underlying260 Try.underlying154 hj hsh (by kernel_rfl)]
 simp only [Result.andThen]
 rw [Oper.upon_value]
 go_wp2
 go_end0
 exact ⟨rfl, rfl⟩
theorem sbCheck_any (B b : Nat) (bs : List Value) (w : World) (h : Lib.IsBuilder 157 5 B b bs w) :
  Calls Try.prog 148 #[.pointer (some ⟨b, 0, none⟩)] w fun e w' => e = .returned (.tuple #[]) ∧ Lib.BuilderAt 157 5 B b (.pointer (some ⟨b, 0, none⟩)) bs w' ∧ Below B w w' := by
 rcases h with h | h
 ·refine (sbCheck_fresh b w h.cell0 h.shape h.frozen0).mono ?_
  rintro e w' ⟨rfl, rfl⟩
  exact ⟨rfl, h.used _, (Below.refl B w).setCell (p := ⟨b, 0, none⟩) h.1 _⟩
 ·refine (sbCheck_used b w h.cell0).mono ?_
  rintro e w' ⟨rfl, rfl⟩
  exact ⟨rfl, h, Below.refl B _⟩
theorem sbWrite_any (B b : Nat) (bs : List Value) (s : ByteArray) (w : World) (h : Lib.IsBuilder 157 5 B b bs w) (hlen : bs.length + s.size ≤ 140737488355328) (hBw : B ≤ w.heap.size) :
  Calls Try.prog 91 #[.pointer (some ⟨b, 0, none⟩), .string s] w fun e w' => e = .returned (.tuple #[.int .i64 s.size, .nilIface]) ∧ Lib.IsBuilder 157 5 B b (bs ++ Lib.strCells s) w' ∧ Below B w w' := by
 obtain ⟨i0, hi, hz0, hz1, hz2⟩ := info_parts sb_byte
 go_enter Try.func91, Try.ntmps91
 go_wp2_with fail
 refine (sbCheck_any B b bs _ h).mono ?_
 rintro e w1 ⟨rfl, h1, hb1⟩
 obtain ⟨hB, v, hbk, hown, hne⟩ := h1
 have c0 : w1.cell? ⟨b, 0, none⟩ = some (.pointer (some ⟨b, 0, none⟩)) := by rw [Lib.cell_of_heap hbk]; rfl
 have c1 : w1.cell? ⟨b, 1, none⟩ = some v := by rw [Lib.cell_of_heap hbk]; rfl
 go_wp2_with (at_builtin; refine Lib.wpList_append_own_string _ rfl _ _ 155 9 rfl B 5 i0 Try.underlying155 Try.underlying9 hi hz0 hz1 hz2 _ _ _ rfl hown s rfl ?c3 ?c4 ?c5 ?_)
 case c3 => unfold maxLen; omega
 case c4 => omega
 case c5 => have := hb1.size; omega
 intro v' w2 hown' hgrow _
 have hlt : b < w1.heap.size := (Array.getElem?_eq_some_iff.1 hbk).1
 have hb2 : w2.heap[b]? = some (.cells #[.pointer (some ⟨b, 0, none⟩), v] 157 (0, 0)) := (hgrow.block b hlt (fun e => hne e.symm)).trans hbk
 have d0 : w2.cell? ⟨b, 0, none⟩ = some (.pointer (some ⟨b, 0, none⟩)) := by rw [Lib.cell_of_heap hb2]; rfl
 have d1 : w2.cell? ⟨b, 1, none⟩ = some v := by rw [Lib.cell_of_heap hb2]; rfl
 have f1 : w2.frozen? ⟨b, 1, none⟩ = false := Lib.frozen_of_heap hb2 1
 obtain ⟨ao, n', cap, rfl⟩ : ∃ ao n' cap, v' = .slice ao n' cap := by
  rcases hown'.2 with ⟨hv, _⟩ | ⟨g, cap, cur, hv, _⟩
  ·exact ⟨_, _, _, hv⟩
  ·exact ⟨_, _, _, hv⟩
 go_wp2
 go_ret2
 refine ⟨rfl, Or.inr ?_, ?_⟩
 ·exact Lib.BuilderAt.put (T := 157) (e := 5) hB hb2 (bs' := bs ++ Lib.strCells s) (by simpa [Lib.strCells_length] using hown') (by decide)
 ·exact (hb1.grown hgrow (by have := hb1.size; omega) (fun k hk => (hown.lt k hk).1)).setCell (p := ⟨b, 1, none⟩) hB _
theorem sb_up {B b : Nat} {bs : List Value} {w w' : World} (h : Lib.IsBuilder 157 5 B b bs w) (hb : Below w.heap.size w w') : Lib.IsBuilder 157 5 B b bs w' := by
 have key : ∀ p, Lib.BuilderAt 157 5 B b p bs w → Lib.BuilderAt 157 5 B b p bs w' := by
  rintro p ⟨hB, v, hbk, hown, hne⟩
  exact ⟨hB, v, (hb.block b (Array.getElem?_eq_some_iff.1 hbk).1).trans hbk, RowO.up hown hb, hne⟩
 exact h.elim (fun x => Or.inl (key _ x)) (fun x => Or.inr (key _ x))
end Go.Proofs.Ytjmeakfjfpnciaa
namespace Go.Proofs.Ytjmeakfjfpnciaa
structure Stp where
 a : Nat
 o : Nat
 m : Option Nat
 t : Nat
deriving DecidableEq
abbrev WL := List (BitVec 32)
def rotB (x : BitVec 32) (n : Nat) : BitVec 32 := BitVec.ofNat 32 (x.toNat / 2 ^ n + x.toNat % 2 ^ n * 2 ^ (32 - n))
def stepB (m v : WL) (s : Stp) : WL :=
 v.set s.a (if s.t = 0 then (v.getD s.a 0 + v.getD s.o 0) + (match s.m with | some k => m.getD k 0 | none => 0) else rotB (v.getD s.a 0 ^^^ v.getD s.o 0) s.t)
def ordL : List (List Nat) := [[0,1,2,3,4,5,6,7,8,9,10,11,12,13,14,15],[14,10,4,8,9,15,13,6,1,12,0,2,11,7,5,3],[11,8,12,0,5,2,15,13,10,14,3,6,7,1,9,4],[7,9,3,1,13,12,11,14,2,6,5,10,4,0,15,8],[9,0,5,7,2,4,10,15,14,1,11,12,6,8,3,13],
 [2,12,6,10,0,11,8,3,4,13,7,5,15,14,1,9],[12,5,1,15,14,13,4,10,0,7,6,3,9,2,8,11],[13,11,7,14,12,1,3,9,5,0,15,4,8,6,2,10],[6,15,14,9,11,3,0,8,12,2,13,7,1,4,10,5],[10,2,8,4,7,6,1,5,15,11,9,14,3,12,13,0]]
def ordN (r i : Nat) : Nat := (ordL.getD r []).getD i 0
def cA (i : Nat) : Nat := i % 4
def cB (i : Nat) : Nat := 4 + (i % 4 + i / 4) % 4
def cC (i : Nat) : Nat := 8 + (i % 4 + 2 * (i / 4)) % 4
def cD (i : Nat) : Nat := 12 + (i % 4 + 3 * (i / 4)) % 4
def quartL (i x y : Nat) : List Stp := [⟨cA i, cB i, some x, 0⟩, ⟨cD i, cA i, none, 16⟩, ⟨cC i, cD i, none, 0⟩, ⟨cB i, cC i, none, 12⟩, ⟨cA i, cB i, some y, 0⟩, ⟨cD i, cA i, none, 8⟩, ⟨cC i, cD i, none, 0⟩, ⟨cB i, cC i, none, 7⟩]
def quartB (m v : WL) (r i : Nat) : WL := (quartL i (ordN r (2 * i)) (ordN r (2 * i + 1))).foldl (stepB m) v
def rowL (r : Nat) : List Stp := (List.range 8).flatMap fun i => quartL i (ordN r (2 * i)) (ordN r (2 * i + 1))
def allL : List Stp := (List.range 10).flatMap rowL
def stirB (v m : WL) : WL := allL.foldl (stepB m) v
theorem stepB_len (m v : WL) (s : Stp) : (stepB m v s).length = v.length := by unfold stepB; rw [List.length_set]
theorem steps_len (m : WL) : ∀ (l : List Stp) (v : WL), (l.foldl (stepB m) v).length = v.length
 | [], _ => rfl
 | s :: l, v => by rw [List.foldl_cons, steps_len m l, stepB_len]
theorem stirB_len (v m : WL) : (stirB v m).length = v.length := steps_len _ _ _
def halfB (m : WL) (r i : Nat) (v : WL) : WL := ((List.range i).flatMap fun i => quartL i (ordN r (2 * i)) (ordN r (2 * i + 1))).foldl (stepB m) v
def roundsB (m : WL) (r : Nat) (v : WL) : WL := ((List.range r).flatMap rowL).foldl (stepB m) v
theorem halfB_succ (m : WL) (r i : Nat) (v : WL) : halfB m r (i + 1) v = quartB m (halfB m r i v) r i := by
 unfold halfB quartB
 rw [List.range_succ, List.flatMap_append, List.foldl_append]
 simp
theorem roundsB_succ (m : WL) (r : Nat) (v : WL) : roundsB m (r + 1) v = halfB m r 8 (roundsB m r v) := by
 unfold roundsB halfB
 rw [List.range_succ, List.flatMap_append, List.foldl_append]
 simp [rowL]
theorem roundsB_all (m : WL) (v : WL) : roundsB m 10 v = stirB v m := rfl
theorem halfB_len (m : WL) (r i : Nat) (v : WL) : (halfB m r i v).length = v.length := steps_len _ _ _
theorem roundsB_len (m : WL) (r : Nat) (v : WL) : (roundsB m r v).length = v.length := steps_len _ _ _
theorem quart_words (m v : WL) (r i : Nat) (hv : v.length = 16) (a b c d x y : BitVec 32)
  (ha : v.getD (cA i) 0 = a) (hb : v.getD (cB i) 0 = b) (hc : v.getD (cC i) 0 = c) (hd : v.getD (cD i) 0 = d) (hx : m.getD (ordN r (2 * i)) 0 = x) (hy : m.getD (ordN r (2 * i + 1)) 0 = y) :
  let a1 := a + b + x
  let d1 := rotB (d ^^^ a1) 16
  let c1 := c + d1
  let b1 := rotB (b ^^^ c1) 12
  let a2 := a1 + b1 + y
  let d2 := rotB (d1 ^^^ a2) 8
  let c2 := c1 + d2
  let b2 := rotB (b1 ^^^ c2) 7
  quartB m v r i = (((((((v.set (cA i) a1).set (cD i) d1).set (cC i) c1).set (cB i) b1).set (cA i) a2).set (cD i) d2).set (cC i) c2).set (cB i) b2 := by
 intro a1 d1 c1 b1 a2 d2 c2 b2
 have hA : cA i < 4 := by unfold cA; omega
 have hB : 4 ≤ cB i ∧ cB i < 8 := by unfold cB; omega
 have hC : 8 ≤ cC i ∧ cC i < 12 := by unfold cC; omega
 have hD : 12 ≤ cD i ∧ cD i < 16 := by unfold cD; omega
 unfold quartB quartL
 generalize cA i = A at *
 generalize cB i = B at *
 generalize cC i = C at *
 generalize cD i = D at *
 simp only [List.foldl_cons, List.foldl_nil]
 have gs : ∀ (l : WL) (k : Nat) (u : BitVec 32), k < l.length → (l.set k u).getD k 0 = u := fun l k u h => by simp [List.getD, h]
 have gn : ∀ (l : WL) (k j : Nat) (u : BitVec 32), k ≠ j → (l.set k u).getD j 0 = l.getD j 0 := fun l k j u h => by simp [List.getD, List.getElem?_set_ne h]
 have e1 : stepB m v ⟨A, B, some (ordN r (2 * i)), 0⟩ = v.set A a1 := by unfold stepB; simp only [if_pos, ha, hb, hx]; rfl
 rw [e1]
 have e2 : stepB m (v.set A a1) ⟨D, A, none, 16⟩ = (v.set A a1).set D d1 := by
  unfold stepB; rw [if_neg (by simp), gn _ A D _ (by omega), gs _ A _ (by omega), hd]
 rw [e2]
 have e3 : stepB m ((v.set A a1).set D d1) ⟨C, D, none, 0⟩ = ((v.set A a1).set D d1).set C c1 := by
  unfold stepB; rw [if_pos rfl, gn _ D C _ (by omega), gn _ A C _ (by omega), gs _ D _ (by simp; omega), hc]; simp [c1]
 rw [e3]
 have e4 : stepB m (((v.set A a1).set D d1).set C c1) ⟨B, C, none, 12⟩ = (((v.set A a1).set D d1).set C c1).set B b1 := by
  unfold stepB; rw [if_neg (by simp), gn _ C B _ (by omega), gn _ D B _ (by omega), gn _ A B _ (by omega), gs _ C _ (by simp; omega), hb]
 rw [e4]
 have e5 : stepB m ((((v.set A a1).set D d1).set C c1).set B b1) ⟨A, B, some (ordN r (2 * i + 1)), 0⟩ = ((((v.set A a1).set D d1).set C c1).set B b1).set A a2 := by
  unfold stepB; rw [if_pos rfl, gn _ B A _ (by omega), gn _ C A _ (by omega), gn _ D A _ (by omega), gs _ A _ (by omega), gs _ B _ (by simp; omega)]; rw [show (match (some (ordN r (2 * i + 1)) : Option Nat) with | some k => m.getD k 0 | none => 0) = y from hy]
 rw [e5]
 have e6 : stepB m (((((v.set A a1).set D d1).set C c1).set B b1).set A a2) ⟨D, A, none, 8⟩ = (((((v.set A a1).set D d1).set C c1).set B b1).set A a2).set D d2 := by
  unfold stepB; rw [if_neg (by simp), gn _ A D _ (by omega), gn _ B D _ (by omega), gn _ C D _ (by omega), gs _ D _ (by simp; omega), gs _ A _ (by simp; omega)]
 rw [e6]
 have e7 : stepB m ((((((v.set A a1).set D d1).set C c1).set B b1).set A a2).set D d2) ⟨C, D, none, 0⟩ = ((((((v.set A a1).set D d1).set C c1).set B b1).set A a2).set D d2).set C c2 := by
  unfold stepB; rw [if_pos rfl, gn _ D C _ (by omega), gn _ A C _ (by omega), gn _ B C _ (by omega), gs _ C _ (by simp; omega), gs _ D _ (by simp; omega)]; simp [c2]
 rw [e7]
 unfold stepB; rw [if_neg (by simp), gn _ C B _ (by omega), gn _ D B _ (by omega), gn _ A B _ (by omega), gs _ B _ (by simp; omega), gs _ C _ (by simp; omega)]
theorem rot_or (x : BitVec 32) (n : Nat) (h0 : n = 16 ∨ n = 12 ∨ n = 8 ∨ n = 7) : (x >>> n) ||| (x <<< (32 - n)) = rotB x n := by
 apply BitVec.eq_of_toNat_eq
 have hx := x.isLt
 unfold rotB
 rw [BitVec.toNat_or, BitVec.toNat_ushiftRight, BitVec.toNat_shiftLeft, BitVec.toNat_ofNat, Nat.or_comm]
 have e : x.toNat <<< (32 - n) % 2 ^ 32 = (x.toNat % 2 ^ n) <<< (32 - n) := by
  rw [Nat.shiftLeft_eq, Nat.shiftLeft_eq]
  generalize x.toNat = X at *
  rcases h0 with rfl | rfl | rfl | rfl <;> omega
 rw [e, ← Nat.shiftLeft_add_eq_or_of_lt (by rw [Nat.shiftRight_eq_div_pow]; generalize x.toNat = X at *; rcases h0 with rfl | rfl | rfl | rfl <;> omega), Nat.shiftRight_eq_div_pow, Nat.shiftLeft_eq]
 generalize x.toNat = X at *
 rcases h0 with rfl | rfl | rfl | rfl <;> omega
def startB : WL := [0x6a09e667, 0xbb67ae85, 0x3c6ef372, 0xa54ff53a, 0x510e527f, 0x9b05688c, 0x1f83d9ab, 0x5be0cd19]
def preB (h : WL) (n : Nat) (last : Bool) : WL :=
 let v := (h ++ startB).set 12 (startB.getD 4 0 ^^^ BitVec.ofNat 32 n)
 let v := v.set 13 (startB.getD 5 0 ^^^ BitVec.ofNat 32 (n / 4294967296))
 if last then v.set 14 (~~~ startB.getD 6 0) else v
def mixB (h w : WL) (k : Nat) : WL := (List.range 8).map fun i => if i < k then h.getD i 0 ^^^ w.getD i 0 ^^^ w.getD (i + 8) 0 else h.getD i 0
def pressB (h m : WL) (n : Nat) (last : Bool) : WL := mixB h (stirB (preB h n last) m) 8
theorem mixB_len (h w : WL) (k : Nat) : (mixB h w k).length = 8 := by unfold mixB; simp
theorem pressB_len (h m : WL) (n : Nat) (last : Bool) : (pressB h m n last).length = 8 := mixB_len _ _ _
theorem mixB_at (h w : WL) (k i : Nat) (hi : i < (mixB h w k).length) : (mixB h w k)[i] = if i < k then h.getD i 0 ^^^ w.getD i 0 ^^^ w.getD (i + 8) 0 else h.getD i 0 := by simp only [mixB, List.getElem_map, List.getElem_range]
theorem mixB_zero (h w : WL) (hh : h.length = 8) : mixB h w 0 = h := by
 apply List.ext_getElem (by rw [mixB_len, hh])
 intro i h1 h2
 rw [mixB_at, if_neg (by omega)]
 simp [List.getD, List.getElem?_eq_getElem h2]
theorem mixB_succ (h w : WL) (k : Nat) : mixB h w (k + 1) = (mixB h w k).set k (h.getD k 0 ^^^ w.getD k 0 ^^^ w.getD (k + 8) 0) := by
 apply List.ext_getElem (by rw [List.length_set, mixB_len, mixB_len])
 intro i h1 h2
 rw [List.getElem_set, mixB_at, mixB_at]
 by_cases e : k = i
 ·subst e; rw [if_pos (by omega), if_pos rfl]
 ·rw [if_neg e]
  by_cases e2 : i < k
  ·rw [if_pos e2, if_pos (by omega)]
  ·rw [if_neg e2, if_neg (by omega)]
def byteW (l : List UInt8) (k j : Nat) : Nat := if j < k then (l.getD j 0).toNat else 0
def wordB (l : List UInt8) (k j : Nat) : BitVec 32 := BitVec.ofNat 32 (byteW l k (4 * j) + byteW l k (4 * j + 1) * 256 + byteW l k (4 * j + 2) * 65536 + byteW l k (4 * j + 3) * 16777216)
def wordsB (l : List UInt8) (k : Nat) : WL := (List.range 16).map (wordB l k)
theorem wordsB_len (l : List UInt8) (k : Nat) : (wordsB l k).length = 16 := by unfold wordsB; simp
theorem byteW_lt (l : List UInt8) (k j : Nat) : byteW l k j < 256 := by
 unfold byteW
 split
 ·exact (l.getD j 0).toNat_lt
 ·omega
theorem wordsB_zero (l : List UInt8) : wordsB l 0 = List.replicate 16 0 := by
 unfold wordsB
 rw [List.map_congr_left (g := fun _ => (0 : BitVec 32)) (fun j _ => by unfold wordB byteW; simp)]
 rfl
theorem wordsB_at (l : List UInt8) (k j : Nat) (hj : j < (wordsB l k).length) : (wordsB l k)[j] = wordB l k j := by simp only [wordsB, List.getElem_map, List.getElem_range]
theorem wordsB_get (l : List UInt8) (k j : Nat) (h : j < 16) : (wordsB l k).getD j 0 = wordB l k j := by
 unfold wordsB
 simp [List.getD, h]
theorem wordsB_succ (l : List UInt8) (k : Nat) (hk : k < 64) : wordsB l (k + 1) = (wordsB l k).set (k / 4) ((wordsB l k).getD (k / 4) 0 + BitVec.ofNat 32 ((l.getD k 0).toNat * 256 ^ (k % 4))) := by
 apply List.ext_getElem (by rw [List.length_set, wordsB_len, wordsB_len])
 intro j h1 h2
 have hj : j < 16 := by rwa [wordsB_len] at h1
 rw [List.getElem_set]
 simp only [wordsB_get l k (k / 4) (show k / 4 < 16 by omega)]
 rw [wordsB_at, wordsB_at]
 by_cases e : k / 4 = j
 ·rw [if_pos e, e]
  unfold wordB
  rw [← BitVec.ofNat_add]
  congr 1
  have hr : k % 4 = 0 ∨ k % 4 = 1 ∨ k % 4 = 2 ∨ k % 4 = 3 := by omega
  unfold byteW
  rcases hr with hr | hr | hr | hr
  ·obtain rfl : k = 4 * j := by omega
   rw [hr]
   simp only [Nat.reducePow]
   (repeat' split) <;> omega
  ·obtain rfl : k = 4 * j + 1 := by omega
   rw [hr]
   simp only [Nat.reducePow]
   (repeat' split) <;> omega
  ·obtain rfl : k = 4 * j + 2 := by omega
   rw [hr]
   simp only [Nat.reducePow]
   (repeat' split) <;> omega
  ·obtain rfl : k = 4 * j + 3 := by omega
   rw [hr]
   simp only [Nat.reducePow]
   (repeat' split) <;> omega
 ·rw [if_neg e]
  unfold wordB
  congr 1
  have key : ∀ i, i ≠ k → byteW l (k + 1) i = byteW l k i := fun i hi => by
   unfold byteW
   by_cases h : i < k
   ·rw [if_pos h, if_pos (by omega)]
   ·rw [if_neg h, if_neg (by omega)]
  rw [key _ (by omega), key _ (by omega), key _ (by omega), key _ (by omega)]
theorem wordsB_congr (l l' : List UInt8) (k k' : Nat) (h : ∀ j, j < 64 → byteW l k j = byteW l' k' j) : wordsB l k = wordsB l' k' := by
 unfold wordsB
 apply List.map_congr_left
 intro j hj
 have hj := List.mem_range.1 hj
 unfold wordB
 rw [h _ (by omega), h _ (by omega), h _ (by omega), h _ (by omega)]
def h0B : WL := startB.set 0 0x6b08e647
def pieceB (s : List UInt8) (k : Nat) : List UInt8 := (s.drop (64 * k)).take 64
def allB (s : List UInt8) : Nat → WL
 | 0 => h0B
 | k + 1 => pressB (allB s k) (wordsB (pieceB s k) 64) (64 * (k + 1)) false
def lastB (s : List UInt8) : Nat := (s.length - 1) / 64
def digW (s : List UInt8) : WL := pressB (allB s (lastB s)) (wordsB (pieceB s (lastB s)) 64) s.length true
theorem digW_len (s : List UInt8) : (digW s).length = 8 := pressB_len _ _ _ _
theorem pieceB_append (s t : List UInt8) (k : Nat) (h : 64 * (k + 1) ≤ s.length) : pieceB (s ++ t) k = pieceB s k := by
 unfold pieceB
 rw [List.drop_append_of_le_length (by omega), List.take_append_of_le_length (by rw [List.length_drop]; omega)]
theorem allB_append (s t : List UInt8) : ∀ k, 64 * k ≤ s.length → allB (s ++ t) k = allB s k
 | 0, _ => rfl
 | k + 1, h => by unfold allB; rw [allB_append s t k (by omega), pieceB_append s t k h]
def outB (w : WL) : List UInt8 := w.flatMap fun x => [UInt8.ofNat (x.toNat % 256), UInt8.ofNat (x.toNat / 256 % 256), UInt8.ofNat (x.toNat / 65536 % 256), UInt8.ofNat (x.toNat / 16777216 % 256)]
theorem outB_len (w : WL) : (outB w).length = 4 * w.length := by
 unfold outB
 induction w with
 | nil => rfl
 | cons x w ih => rw [List.flatMap_cons, List.length_append, ih, List.length_cons]; simp; omega
def digB (s : List UInt8) : List UInt8 := outB (digW s)
theorem digB_len (s : List UInt8) : (digB s).length = 32 := by unfold digB; rw [outB_len, digW_len]
def fourL (n : Nat) : List UInt8 := [UInt8.ofNat (n / 16777216 % 256), UInt8.ofNat (n / 65536 % 256), UInt8.ofNat (n / 256 % 256), UInt8.ofNat (n % 256)]
def bytesOf (s : ByteArray) : List UInt8 := s.data.toList
def pfxL (s : ByteArray) : List UInt8 := fourL s.size ++ bytesOf s
def joinL (label : ByteArray) (ps : List ByteArray) : List UInt8 := pfxL label ++ ps.flatMap pfxL
def digS (s : List UInt8) : ByteArray := ⟨(digB s).toArray⟩
def tagS (label : ByteArray) (ps : List ByteArray) : ByteArray := digS (joinL label ps)
def fourS (n : Nat) : ByteArray := ⟨(fourL n).toArray⟩
theorem digS_size (s : List UInt8) : (digS s).size = 32 := by
 show (digB s).toArray.size = 32
 rw [List.size_toArray, digB_len]
theorem tagS_size (l : ByteArray) (ps : List ByteArray) : (tagS l ps).size = 32 := digS_size _
theorem fourS_size (n : Nat) : (fourS n).size = 4 := rfl
structure Fold (s : List UInt8) (h : WL) (n : Nat) (hb : List UInt8) (k : Nat) : Prop where
 le : k ≤ 64
 sum : n + k = s.length
 mod : n % 64 = 0
 hs : h = allB s (n / 64)
 held : hb.take k = s.drop n
 len : hb.length = 64
theorem Fold.nil (hb : List UInt8) (h : hb.length = 64) : Fold [] h0B 0 hb 0 := ⟨by omega, rfl, rfl, rfl, rfl, h⟩
theorem Fold.press {s : List UInt8} {h : WL} {n : Nat} {hb : List UInt8} (f : Fold s h n hb 64) : Fold s (pressB h (wordsB hb 64) (n + 64) false) (n + 64) hb 0 := by
 obtain ⟨_, h1, h2, h3, h4, h5⟩ := f
 refine ⟨by omega, by omega, by omega, ?_, by rw [List.take_zero, List.drop_eq_nil_of_le (by omega)], h5⟩
 obtain ⟨q, rfl⟩ : ∃ q, n = 64 * q := ⟨n / 64, by omega⟩
 have e : (64 * q + 64) / 64 = q + 1 := by omega
 have e2 : 64 * q / 64 = q := by omega
 rw [e]
 rw [e2] at h3
 rw [h3]
 show _ = pressB (allB s q) (wordsB (pieceB s q) 64) (64 * (q + 1)) false
 have e3 : pieceB s q = hb := by
  unfold pieceB
  rw [← h4, List.take_take, Nat.min_self, List.take_of_length_le (by omega)]
 rw [e3, show 64 * (q + 1) = 64 * q + 64 by omega]
theorem Fold.lay {s : List UInt8} {h : WL} {n : Nat} {hb : List UInt8} {k : Nat} (f : Fold s h n hb k) (t : List UInt8) (ht : k + t.length ≤ 64) : Fold (s ++ t) h n (hb.take k ++ t ++ hb.drop (k + t.length)) (k + t.length) := by
 obtain ⟨h0, h1, h2, h3, h4, h5⟩ := f
 have hk : (hb.take k).length = k := by rw [List.length_take]; omega
 refine ⟨ht, by rw [List.length_append]; omega, h2, ?_, ?_, ?_⟩
 ·rw [allB_append _ _ _ (by omega)]; exact h3
 ·rw [List.take_append_of_le_length (by rw [List.length_append, hk]; exact Nat.le_refl _), List.take_of_length_le (by rw [List.length_append, hk]; exact Nat.le_refl _), List.drop_append_of_le_length (by omega), h4]
 ·simp; omega
theorem Fold.fin {s : List UInt8} {h : WL} {n : Nat} {hb : List UInt8} {k : Nat} (f : Fold s h n hb k) (h0 : s = [] ∨ 0 < k) : pressB h (wordsB (hb.take k ++ List.replicate (64 - k) 0) 64) (n + k) true = digW s := by
 obtain ⟨hk, h1, h2, h3, h4, h5⟩ := f
 unfold digW
 have e1 : n / 64 = lastB s := by
  unfold lastB
  rcases h0 with rfl | h0
  ·have : n = 0 := by simp at h1; omega
   subst this; rfl
  ·omega
 have e2 : n = 64 * lastB s := by omega
 rw [h3, e1, h1]
 congr 1
 apply wordsB_congr
 intro j hj
 unfold byteW
 rw [if_pos hj, if_pos hj, h4]
 congr 1
 unfold pieceB
 rw [← e2]
 have e3 : (s.drop n).length = k := by rw [List.length_drop]; omega
 rw [List.take_of_length_le (by omega)]
 unfold List.getD
 by_cases h : j < k
 ·rw [List.getElem?_append_left (by omega)]
 ·rw [List.getElem?_append_right (by omega), List.getElem?_eq_none (l := s.drop n) (by omega), List.getElem?_replicate]
  split <;> rfl
end Go.Proofs.Ytjmeakfjfpnciaa
namespace Go.Proofs.Ytjmeakfjfpnciaa
open Go.RowKit
theorem wrap32_nat (n : Nat) : IntKind.u32.wrap (n : Int) = ((n % 4294967296 : Nat) : Int) := by
 simp [IntKind.wrap, IntKind.signed, IntKind.bits]
theorem bv_of (x : BitVec 32) : BitVec.ofInt 32 (x.toNat : Int) = x := by apply BitVec.eq_of_toNat_eq; simp
theorem wrap_bv (x : BitVec 32) : IntKind.u32.wrap (x.toNat : Int) = (x.toNat : Int) := by
 have := x.isLt
 rw [wrap32_nat, Nat.mod_eq_of_lt (by omega)]
theorem bits_xor (a b : BitVec 32) : bits BinOp.xor IntKind.u32 (a.toNat : Int) (b.toNat : Int) = ((a ^^^ b).toNat : Int) := by
 show IntKind.u32.wrap ((BitVec.ofInt 32 (a.toNat : Int) ^^^ BitVec.ofInt 32 (b.toNat : Int) : BitVec 32).toNat : Int) = _
 rw [bv_of, bv_of, wrap_bv]
theorem bits_not (a : BitVec 32) : bits BinOp.xor IntKind.u32 4294967295 (a.toNat : Int) = ((~~~ a).toNat : Int) := by
 have e : (4294967295 : Int) = ((4294967295#32).toNat : Int) := rfl
 rw [e, bits_xor, BitVec.not_def, show (4294967295#32) = BitVec.allOnes 32 from rfl]
theorem bits_or (a b : Nat) (ha : a < 4294967296) (hb : b < 4294967296) : bits BinOp.or IntKind.u32 (a : Int) (b : Int) = ((a ||| b : Nat) : Int) := by
 show IntKind.u32.wrap ((BitVec.ofInt 32 (a : Int) ||| BitVec.ofInt 32 (b : Int) : BitVec 32).toNat : Int) = _
 have e : ∀ n : Nat, BitVec.ofInt 32 (n : Int) = BitVec.ofNat 32 n := fun n => by apply BitVec.eq_of_toNat_eq; simp
 rw [e, e, wrap_bv, BitVec.toNat_or, BitVec.toNat_ofNat, BitVec.toNat_ofNat, Nat.mod_eq_of_lt (show a < 2 ^ 32 from ha), Nat.mod_eq_of_lt (show b < 2 ^ 32 from hb)]
theorem add32 (a b : BitVec 32) : ((a.toNat : Int) + (b.toNat : Int)) % 4294967296 = ((a + b).toNat : Int) := by
 rw [BitVec.toNat_add]; omega
def wlV (l : WL) : List Value := l.map fun x => .int .u32 (x.toNat : Int)
theorem wlV_len (l : WL) : (wlV l).length = l.length := List.length_map _
theorem wlV_get (l : WL) (i : Nat) (h : i < l.length) : (wlV l)[i]? = some (.int .u32 ((l.getD i 0).toNat : Int)) := by
 unfold wlV
 simp [List.getD, h]
theorem wlV_set (l : WL) (i : Nat) (x : BitVec 32) : (wlV l).set i (.int .u32 (x.toNat : Int)) = wlV (l.set i x) := by
 unfold wlV
 rw [List.map_set]
end Go.Proofs.Ytjmeakfjfpnciaa
namespace Go.Proofs.Ytjmeakfjfpnciaa
open Go.RowKit
theorem step_pushR {P : Program} (N : Nat) (w0 : World) (hN : N ≤ w0.heap.size) {ops : Array Oper} {o : Oper} {a : Act} {K : Act → World → Prop} {Q : Exit → Act → World → Prop} {E : Prop} (hgd : o.guard = none) (s x : Operand) (t : TypeId)
  (ho : o.op = .call { callee := .builtin .append, args := #[s, x], argTypes := #[t, t] })
  (e : TypeId) (i : TypeInfo) (z : Value) (size bytes : Nat) (ht : P.underlying t = some (.slice e)) (hi : P.info? e = some i) (hz : i.zero = some z)
  (hsize : i.size = size) (hby : i.bytes = bytes) (hzs : z.cells.size = size) (hsz : 0 < size)
  (v : Value) (n : Nat) (xs : List Value) (hs : a.eval s = v) (hown : RowO N w0 e size v n xs)
  (news : Array Value) (e2 : TypeId) (b : Nat) (hb : w0.heap.size = b) (hx : a.eval x = .slice (some ⟨b, 0, none⟩) 1 1) (hl : news.size = size) (h1 : ∀ u ∈ news.toList, u.oneCell' = true)
  (h63 : (n + 1) * bytes ≤ 140737488355328) (hn : n + 1 ≤ maxLen)
  (h : ∀ g cap w', RowO N w' e size (.slice (some ⟨g, 0, none⟩) (n + 1) cap) (n + 1) (xs ++ news.toList) → w0.grownBy w' v.ownBlock → K (a.put o.dst (.slice (some ⟨g, 0, none⟩) (n + 1) cap)) w') :
  if Region.wanted o (yielded ops a.tmps) = true then Oper.wp P o a (w0.alloc (.cells news e2)) K Q else E := by
 subst hb
 refine step_append_lies _ hgd s x t ho N e i z size bytes ht hi hz hsize hby hzs hsz v n xs hs (World.ownsRow.alloc hown _) ⟨w0.heap.size, 0, none⟩ 1 1 news.toList hx (by simpa using hl)
  (World.news_of_block (heap_alloc_new w0 _)) h1 (by omega) hn h63 (by simp; omega) _ rfl ?_
 intro g cap w' hown' hg _ _
 refine h g cap w' hown' ⟨hg.os, hg.tape, hg.output, ?_, ?_⟩
 ·have := hg.size; simp at this; omega
 ·intro k hk hne
  rw [hg.block k (by simp; omega) hne]
  exact Below.heap_alloc _ _ _ hk
end Go.Proofs.Ytjmeakfjfpnciaa
namespace Go.Proofs.Ytjmeakfjfpnciaa
open Go.RowKit
structure Kept (P : Nat → Prop) (w0 w : World) : Prop where
 os : w.os = w0.os
 tape : w.tape = w0.tape
 output : w.output = w0.output
 size : w0.heap.size ≤ w.heap.size
 block : ∀ q, q < w0.heap.size → ¬ P q → w.heap[q]? = w0.heap[q]?
section
variable {P : Nat → Prop} {b c n gb : Nat} {w0 w w1 : World} {r : Option Nat} {t : TypeId} {cs : List Value} {G : GP}
theorem Kept.refl (P : Nat → Prop) (w : World) : Kept P w w := ⟨rfl, rfl, rfl, Nat.le_refl _, fun _ _ _ => rfl⟩
theorem Kept.grown (h : Kept P w0 w) (hg : w.grownBy w1 r) (hr : ∀ q, r = some q → w0.heap.size ≤ q ∨ P q) : Kept P w0 w1 :=
 ⟨hg.os.trans h.os, hg.tape.trans h.tape, hg.output.trans h.output, Nat.le_trans h.size hg.size, fun q hq hne => (hg.block q (Nat.lt_of_lt_of_le hq h.size) (fun e => by
  rcases hr q e.symm with h1 | h1
  ·omega
  ·exact hne h1)).trans (h.block q hq hne)⟩
theorem Kept.up (h : Kept P w0 w) (hb : Below w.heap.size w w1) : Kept P w0 w1 := h.grown (below_grown hb) (fun q e => by cases e)
theorem Kept.trans {w2 : World} (h : Kept P w0 w) (h1 : Kept P w w2) : Kept P w0 w2 :=
 ⟨h1.os.trans h.os, h1.tape.trans h.tape, h1.output.trans h.output, Nat.le_trans h.size h1.size, fun q hq hne => (h1.block q (Nat.lt_of_lt_of_le hq h.size) hne).trans (h.block q hq hne)⟩
theorem Sl.kept {a : Option Addr} (h : Sl w0 w0.heap.size a cs) (hk : Kept P w0 w) (hne : ∀ x, a = some x → ¬ P x.block) : Sl w w.heap.size a cs := by
 rcases h with h | ⟨q, off, rfl, hq, hc⟩
 ·exact Or.inl h
 ·refine Or.inr ⟨q, off, rfl, Nat.lt_of_lt_of_le hq hk.size, fun i v hv => ?_⟩
  rw [cell_of_block (hk.block q hq (hne _ rfl))]
  exact hc i v hv
theorem Bx.keptP (h : Bx w0 b t cs) (hk : Kept P w0 w) (hne : ¬ P b) : Bx w b t cs := (hk.block b h.lt hne).trans h
theorem GroupAt.keptP (h : GroupAt w0 gb G) (hk : Kept P w0 w) (hne : ¬ P gb) : GroupAt w gb G := by
 have hc := cell_of_block (hk.block gb h.lt hne)
 have hl := hk.size
 exact ⟨Nat.lt_of_lt_of_le h.lt hl, by rw [hc]; exact h.kind, by rw [hc]; exact h.size, ⟨Nat.lt_of_lt_of_le h.p.lt hl, fun i x hx => by rw [hc]; exact h.p.cell i x hx⟩, ⟨Nat.lt_of_lt_of_le h.q.lt hl, fun i x hx => by rw [hc]; exact h.q.cell i x hx⟩⟩
theorem Below.keptP {W : World} (h : Below n W w0) (hk : Kept P w0 w) (hn : n ≤ w0.heap.size) (hp : ∀ q, P q → n ≤ q) : Below n W w := by
 refine ⟨hk.os.trans h.os, hk.tape.trans h.tape, hk.output.trans h.output, Nat.le_trans h.size hk.size, fun q hq => ?_⟩
 rw [hk.block q (by omega) (fun e => by have := hp q e; omega)]
 exact h.block q hq
theorem Sl.lt {a : Option Addr} {B : Nat} (h : Sl w B a cs) (h0 : cs ≠ []) (x : Addr) (hx : a = some x) : x.block < B := by
 rcases h with h | ⟨q, off, rfl, hq, _⟩
 ·exact absurd h h0
 ·cases hx; exact hq
end
theorem wpList_pushF {P : Program} (N : Nat) (w0 : World) (hN : N ≤ w0.heap.size) {ops : Array Oper} {rest : List Oper} {o : Oper} {a : Act} {Q : Exit → Act → World → Prop} (hgd : o.guard = none) (s x : Operand) (t : TypeId)
  (ho : o.op = .call { callee := .builtin .append, args := #[s, x], argTypes := #[t, t] })
  (e : TypeId) (i : TypeInfo) (z : Value) (size bytes : Nat) (ht : P.underlying t = some (.slice e)) (hi : P.info? e = some i) (hz : i.zero = some z)
  (hsize : i.size = size) (hby : i.bytes = bytes) (hzs : z.cells.size = size) (hsz : 0 < size)
  (v : Value) (n : Nat) (xs : List Value) (hs : a.eval s = v) (hown : RowO N w0 e size v n xs)
  (news : Array Value) (e2 : TypeId) (b : Nat) (hb : w0.heap.size = b) (hx : a.eval x = .slice (some ⟨b, 0, none⟩) 1 1) (hl : news.size = size) (h1 : ∀ u ∈ news.toList, u.oneCell' = true)
  (h63 : (n + 1) * bytes ≤ 140737488355328) (hn : n + 1 ≤ maxLen)
  (h : ∀ g cap w', RowO N w' e size (.slice (some ⟨g, 0, none⟩) (n + 1) cap) (n + 1) (xs ++ news.toList) → w0.grownBy w' v.ownBlock → (v.ownBlock = some g ∨ w0.heap.size ≤ g) → wpList P ops Q rest (a.put o.dst (.slice (some ⟨g, 0, none⟩) (n + 1) cap)) w') :
  wpList P ops Q (o :: rest) a (w0.alloc (.cells news e2)) := by
 subst hb
 refine wpList_append_lies _ hgd s x t ho N e i z size bytes ht hi hz hsize hby hzs hsz v n xs hs (World.ownsRow.alloc hown _) ⟨w0.heap.size, 0, none⟩ 1 1 news.toList hx (by simpa using hl)
  (World.news_of_block (heap_alloc_new w0 _)) h1 (by omega) hn h63 (by simp; omega) _ rfl ?_
 intro g cap w' hown' hg hf _
 refine h g cap w' hown' ⟨hg.os, hg.tape, hg.output, ?_, ?_⟩ ?_
 ·have := hg.size; simp at this; omega
 ·intro k hk hne
  rw [hg.block k (by simp; omega) hne]
  exact Below.heap_alloc _ _ _ hk
 ·rcases hf with h9 | h9
  ·exact Or.inl h9
  ·right; rw [h9]; simp
end Go.Proofs.Ytjmeakfjfpnciaa
namespace Go.Proofs.Ytjmeakfjfpnciaa
open Go.RowKit
theorem turn_nat (x : BitVec 32) (n : Nat) (h0 : n = 16 ∨ n = 12 ∨ n = 8 ∨ n = 7) : x.toNat / 2 ^ n ||| x.toNat * 2 ^ (32 - n) % 4294967296 = (rotB x n).toNat := by
 rw [← rot_or x n h0, BitVec.toNat_or, BitVec.toNat_ushiftRight, BitVec.toNat_shiftLeft, Nat.shiftRight_eq_div_pow, Nat.shiftLeft_eq]
theorem turn_any (x : BitVec 32) (n : Nat) (h0 : n = 16 ∨ n = 12 ∨ n = 8 ∨ n = 7) (w : World) : Calls Try.prog 216 #[.int .u32 (x.toNat : Int), .int .i64 (n : Int)] w fun e w' => e = .returned (.int .u32 ((rotB x n).toNat : Int)) ∧ Below w.heap.size w w' := by
 have hx := x.isLt
 have ht := turn_nat x n h0
 have HB := Lib.hid (bits_or (x.toNat / 2 ^ n) (x.toNat * 2 ^ (32 - n) % 4294967296) (Nat.lt_of_le_of_lt (Nat.div_le_self _ _) hx) (Nat.mod_lt _ (by decide)))
 rw [ht] at HB
 have HBo := HB.out
 clear ht HB
 rcases h0 with rfl | rfl | rfl | rfl <;> simp at HBo
 all_goals
  go_enter Try.func216, Try.ntmps216
  go_wp2_with fail
  refine wp_region_over (by kernel_rfl) (by kernel_rfl) ?_
  repeat (go_big_quiet_step (first | fail))
  all_goals (try unfold elV limbV)
  repeat (go_big_quiet_step (first | fail))
  all_goals (try unfold elV limbV)
  repeat (go_big_quiet_step (first | fail))
  all_goals (try unfold ciphV)
  refine wpQuiet_nil ?_
  rintro _ ⟨E, rfl⟩
  have HB := Lib.hid E.h
  have HZS := Lib.hid E.h.size
  obtain ⟨w1, hq9⟩ : ∃ W9 : World, E.w = W9 := ⟨_, rfl⟩
  rw [hq9] at HB HZS ⊢
  clear hq9 E
  go_wp2_with fail
  go_ret
  exact ⟨rfl, HB.out⟩
def ordB : ByteArray := ⟨#[48, 49, 50, 51, 52, 53, 54, 55, 56, 57, 97, 98, 99, 100, 101, 102, 101, 97, 52, 56, 57, 102, 100, 54, 49, 99, 48, 50, 98, 55, 53, 51, 98, 56, 99, 48, 53, 50, 102, 100, 97, 101, 51, 54, 55, 49, 57, 52, 55, 57, 51, 49, 100, 99, 98, 101, 50, 54, 53, 97, 52, 48, 102, 56, 57, 48, 53, 55, 50, 52, 97, 102, 101, 49, 98, 99, 54, 56, 51, 100, 50, 99, 54, 97, 48, 98, 56, 51, 52, 100, 55, 53, 102, 101, 49, 57, 99, 53, 49, 102, 101, 100, 52, 97, 48, 55, 54, 51, 57, 50, 56, 98, 100, 98, 55, 101, 99, 49, 51, 57, 53, 48, 102, 52, 56, 54, 50, 97, 54, 102, 101, 57, 98, 51, 48, 56, 99, 50, 100, 55, 49, 52, 97, 53, 97, 50, 56, 52, 55, 54, 49, 53, 102, 98, 57, 101, 51, 99, 100, 48]⟩
theorem ord_tab : ∀ k : Fin 160, (ordB.data.getD k.1 0).toNat = if ordN (k.1 / 16) (k.1 % 16) < 10 then 48 + ordN (k.1 / 16) (k.1 % 16) else 87 + ordN (k.1 / 16) (k.1 % 16) := by decide +kernel
theorem ord_lt : ∀ k : Fin 160, ordN (k.1 / 16) (k.1 % 16) < 16 := by decide +kernel
theorem ordN_lt {r i : Nat} (hr : r < 10) (hi : i < 16) : ordN r i < 16 := by
 have h := ord_lt ⟨16 * r + i, by omega⟩
 simp only at h
 rwa [show (16 * r + i) / 16 = r by omega, show (16 * r + i) % 16 = i by omega] at h
theorem place_at {r i : Nat} (hr : r < 10) (hi : i < 16) (h : 16 * r + i < ordB.size) : (ordB[16 * r + i].toNat : Int) = if ordN r i < 10 then 48 + (ordN r i : Int) else 87 + (ordN r i : Int) := by
 have h1 := ord_tab ⟨16 * r + i, by omega⟩
 simp only at h1
 rw [show (16 * r + i) / 16 = r by omega, show (16 * r + i) % 16 = i by omega] at h1
 have e : ordB[16 * r + i] = ordB.data.getD (16 * r + i) 0 := by
  show ordB.data[16 * r + i]'h = _
  unfold Array.getD
  exact (dif_pos h).symm
 rw [e, h1]
 split <;> simp
theorem place_lo {r i : Nat} (hr : r < 10) (hi : i < 16) (h : 16 * r + i < ordB.size) (hc : (ordB[16 * r + i].toNat : Int) < 97) : ((ordB[16 * r + i].toNat : Int) - 48) % 256 = (ordN r i : Int) := by
 rw [place_at hr hi h] at *
 have := ordN_lt hr hi
 split at * <;> omega
theorem place_hi {r i : Nat} (hr : r < 10) (hi : i < 16) (h : 16 * r + i < ordB.size) (hc : 97 ≤ (ordB[16 * r + i].toNat : Int)) : ((ordB[16 * r + i].toNat : Int) - 97) % 256 + 10 = (ordN r i : Int) := by
 rw [place_at hr hi h] at *
 have := ordN_lt hr hi
 split at * <;> omega
theorem place_any (r i : Nat) (hr : r < 10) (hi : i < 16) (w : World) : Calls Try.prog 214 #[.int .i64 (r : Int), .int .i64 (i : Int)] w fun e w' => e = .returned (.int .i64 (ordN r i : Int)) ∧ Below w.heap.size w w' := by
 go_enter Try.func214, Try.ntmps214
 go_wp2_with fail
 ·go_ret
  exact ⟨ret_int (place_hi hr hi (show 16 * r + i < 160 by omega) (by assumption)), Below.refl _ _⟩
 ·go_ret
  exact ⟨ret_int (place_lo hr hi (show 16 * r + i < 160 by omega) (by assumption)), Below.refl _ _⟩
theorem corners_any (pb i : Nat) (hi : i < 8) (w : World) : Calls Try.prog 215 #[.pointer (some ⟨pb, 0, none⟩), .int .i64 (i : Int)] w fun e w' => e = .returned (.tuple #[.pointer (some ⟨pb, cA i, none⟩), .pointer (some ⟨pb, cB i, none⟩), .pointer (some ⟨pb, cC i, none⟩), .pointer (some ⟨pb, cD i, none⟩)]) ∧ Below w.heap.size w w' := by
 have h8 : i = 0 ∨ i = 1 ∨ i = 2 ∨ i = 3 ∨ i = 4 ∨ i = 5 ∨ i = 6 ∨ i = 7 := by omega
 clear hi
 rcases h8 with rfl | rfl | rfl | rfl | rfl | rfl | rfl | rfl
 all_goals
  go_enter Try.func215, Try.ntmps215
  go_wp2_with fail
  refine wp_region_over (by kernel_rfl) (by kernel_rfl) ?_
  repeat (go_big_quiet_step (first | fail))
  all_goals (try unfold elV limbV)
  repeat (go_big_quiet_step (first | fail))
  all_goals (try unfold elV limbV)
  repeat (go_big_quiet_step (first | fail))
  all_goals (try unfold ciphV)
  refine wpQuiet_nil ?_
  rintro _ ⟨E, rfl⟩
  have HB := Lib.hid E.h
  have HZS := Lib.hid E.h.size
  obtain ⟨w1, hq9⟩ : ∃ W9 : World, E.w = W9 := ⟨_, rfl⟩
  rw [hq9] at HB HZS ⊢
  clear hq9 E
  go_wp2_with fail
  simp [bodyPost, results, Try.results215, go_sem, cA, cB, cC, cD]
  exact HB.out
structure W4 (l : WL) (A B C D : Nat) (a b c d : BitVec 32) : Prop where
 len : l.length = 16
 bd : A < 4 ∧ 4 ≤ B ∧ B < 8 ∧ 8 ≤ C ∧ C < 12 ∧ 12 ≤ D ∧ D < 16
 ha : l.getD A 0 = a
 hb : l.getD B 0 = b
 hc : l.getD C 0 = c
 hd : l.getD D 0 = d
section
variable {l : WL} {A B C D : Nat} {a b c d z : BitVec 32}
theorem W4.ca (h : W4 l A B C D a b c d) : (wlV l)[A]? = some (.int .u32 (a.toNat : Int)) := h.ha ▸ wlV_get l A (by have := h.len; have := h.bd; omega)
theorem W4.cb (h : W4 l A B C D a b c d) : (wlV l)[B]? = some (.int .u32 (b.toNat : Int)) := h.hb ▸ wlV_get l B (by have := h.len; have := h.bd; omega)
theorem W4.cc (h : W4 l A B C D a b c d) : (wlV l)[C]? = some (.int .u32 (c.toNat : Int)) := h.hc ▸ wlV_get l C (by have := h.len; have := h.bd; omega)
theorem W4.cd (h : W4 l A B C D a b c d) : (wlV l)[D]? = some (.int .u32 (d.toNat : Int)) := h.hd ▸ wlV_get l D (by have := h.len; have := h.bd; omega)
theorem set_same (l : WL) (k : Nat) (u : BitVec 32) (h : k < l.length) : (l.set k u).getD k 0 = u := by simp [List.getD, h]
theorem set_other (l : WL) (k j : Nat) (u : BitVec 32) (h : k ≠ j) : (l.set k u).getD j 0 = l.getD j 0 := by simp [List.getD, List.getElem?_set_ne h]
theorem W4.sa (h : W4 l A B C D a b c d) : W4 (l.set A z) A B C D z b c d := by
 have h1 := h.len; have h2 := h.bd
 exact ⟨by rw [List.length_set]; exact h1, h2, set_same _ _ _ (by omega), by rw [set_other _ _ _ _ (by omega)]; exact h.hb, by rw [set_other _ _ _ _ (by omega)]; exact h.hc, by rw [set_other _ _ _ _ (by omega)]; exact h.hd⟩
theorem W4.sb (h : W4 l A B C D a b c d) : W4 (l.set B z) A B C D a z c d := by
 have h1 := h.len; have h2 := h.bd
 exact ⟨by rw [List.length_set]; exact h1, h2, by rw [set_other _ _ _ _ (by omega)]; exact h.ha, set_same _ _ _ (by omega), by rw [set_other _ _ _ _ (by omega)]; exact h.hc, by rw [set_other _ _ _ _ (by omega)]; exact h.hd⟩
theorem W4.sc (h : W4 l A B C D a b c d) : W4 (l.set C z) A B C D a b z d := by
 have h1 := h.len; have h2 := h.bd
 exact ⟨by rw [List.length_set]; exact h1, h2, by rw [set_other _ _ _ _ (by omega)]; exact h.ha, by rw [set_other _ _ _ _ (by omega)]; exact h.hb, set_same _ _ _ (by omega), by rw [set_other _ _ _ _ (by omega)]; exact h.hd⟩
theorem W4.sd (h : W4 l A B C D a b c d) : W4 (l.set D z) A B C D a b c z := by
 have h1 := h.len; have h2 := h.bd
 exact ⟨by rw [List.length_set]; exact h1, h2, by rw [set_other _ _ _ _ (by omega)]; exact h.ha, by rw [set_other _ _ _ _ (by omega)]; exact h.hb, by rw [set_other _ _ _ _ (by omega)]; exact h.hc, set_same _ _ _ (by omega)⟩
theorem Bx.wset {W : World} {b i : Nat} {t : TypeId} {l : WL} {x : BitVec 32} (h : Bx W b t ((wlV l).set i (.int .u32 (x.toNat : Int)))) : Bx W b t (wlV (l.set i x)) := wlV_set l i x ▸ h
end
theorem quarter_any (m v : WL) (r i : Nat) (hi : i < 8) (hv : v.length = 16) (pb : Nat) (w : World) (hp : Bx w pb 287 (wlV v)) :
  Calls Try.prog 213 #[.pointer (some ⟨pb, 0, none⟩), .int .i64 (i : Int), .int .u32 ((m.getD (ordN r (2 * i)) 0).toNat : Int), .int .u32 ((m.getD (ordN r (2 * i + 1)) 0).toNat : Int)] w
   fun e w' => e = .returned (.tuple #[]) ∧ Bx w' pb 287 (wlV (quartB m v r i)) ∧ Kept (fun q => q = pb) w w' := by
 have hq := quart_words m v r i hv _ _ _ _ _ _ rfl rfl rfl rfl rfl rfl
 have HC := Lib.hid (fun w => corners_any pb i hi w)
 have HW := Lib.hid (show W4 v (cA i) (cB i) (cC i) (cD i) _ _ _ _ from ⟨hv, by unfold cA cB cC cD; omega, rfl, rfl, rfl, rfl⟩)
 generalize quartB m v r i = V at *
 generalize m.getD (ordN r (2 * i)) 0 = x at *
 generalize m.getD (ordN r (2 * i + 1)) 0 = y at *
 generalize v.getD (cA i) 0 = a at *
 generalize v.getD (cB i) 0 = b at *
 generalize v.getD (cC i) 0 = c at *
 generalize v.getD (cD i) 0 = d at *
 generalize cA i = A at *
 generalize cB i = B at *
 generalize cC i = C at *
 generalize cD i = D at *
 have HQ := Lib.hid hq
 have Hp := Lib.hid hp
 clear hp hv hi hq
 go_enter Try.func213, Try.ntmps213
 go_wp2_with fail
 have HK := Lib.hid (Kept.refl (fun q9 => q9 = pb) w)
 refine (HC.out w).mono ?_
 rintro e w1 ⟨rfl, hb9⟩
 replace Hp := Lib.hid (Hp.out.up hb9)
 replace HK := Lib.hid (Kept.up HK.out hb9)
 have HZS := Lib.hid hb9.size
 clear hb9
 go_wp2_with fail
 have g1 := add32 b x
 obtain ⟨za1, e0⟩ : ∃ z, b + x = z := ⟨_, rfl⟩
 rw [e0] at g1
 have g2 := add32 a za1
 obtain ⟨a1, e1⟩ : ∃ z, a + za1 = z := ⟨_, rfl⟩
 rw [e1] at g2
 have Eza1 := Lib.hid e0
 have Ea1 := Lib.hid e1
 clear e1 e0
 have hlp := Hp.out.lt
 have hcA := Hp.out.cell HW.out.ca
 have hcB := Hp.out.cell HW.out.cb
 have hcC := Hp.out.cell HW.out.cc
 have hcD := Hp.out.cell HW.out.cd
 refine wp_region_otail 10 (by kernel_rfl) (by kernel_rfl) ?_
 simp only [List.take_succ_cons, List.take_zero, List.drop_succ_cons, List.drop_zero]
 have hov_pb := fun (E : Over w1) o => E.cell (b := pb) o hlp
 repeat (go_big_quiet_step (first | fail))
 all_goals (try unfold elV limbV)
 repeat (go_big_quiet_step (first | fail))
 all_goals (try unfold elV limbV)
 repeat (go_big_quiet_step (first | fail))
 all_goals (try unfold ciphV)
 refine wpQuiet_nil ?_
 rintro _ ⟨E, rfl⟩
 clear hov_pb
 replace Hp := Lib.hid (Hp.out.up E.h)
 replace HK := Lib.hid (Kept.up HK.out E.h)
 replace HZS := sz HZS E.h.size
 obtain ⟨w2, hq9⟩ : ∃ W9 : World, E.w = W9 := ⟨_, rfl⟩
 rw [hq9] at Hp HK HZS ⊢
 clear hq9 E hcA hcB hcC hcD hlp
 have hcT := Hp.out.cell HW.out.ca
 have f3_p := Hp.out.frozen
 obtain ⟨w3, hq3, hg9, hz9, hx9⟩ := put1 Hp A (.int .u32 (a1.toNat : Int)) _ rfl
 replace HK := Lib.hid (Kept.grown HK.out hg9.out (fun q9 e9 => by obtain rfl := Option.some.inj e9; exact Or.inr (rfl)))
 replace HZS := sz HZS hz9.out
 replace Hp := hx9
 clear hx9 hg9 hz9
 replace Hp := Lib.hid Hp.out.wset
 replace HW := Lib.hid (HW.out.sa (z := a1))
 go_wp2_with fail
 clear hq3 f3_p hcT g1 g2
 have g1 := bits_xor d a1
 obtain ⟨zd1, e0⟩ : ∃ z, d ^^^ a1 = z := ⟨_, rfl⟩
 rw [e0] at g1
 obtain ⟨d1, e1⟩ : ∃ z, rotB zd1 16 = z := ⟨_, rfl⟩
 have HT := Lib.hid (fun w => turn_any zd1 16 (by omega) w)
 rw [e1] at HT
 have Ezd1 := Lib.hid e0
 have Ed1 := Lib.hid e1
 clear e1 e0
 have hlp := Hp.out.lt
 have hcA := Hp.out.cell HW.out.ca
 have hcB := Hp.out.cell HW.out.cb
 have hcC := Hp.out.cell HW.out.cc
 have hcD := Hp.out.cell HW.out.cd
 refine wp_region_otail 10 (by kernel_rfl) (by kernel_rfl) ?_
 simp only [List.take_succ_cons, List.take_zero, List.drop_succ_cons, List.drop_zero]
 have hov_pb := fun (E : Over w3) o => E.cell (b := pb) o hlp
 repeat (go_big_quiet_step (first | (go_at_call 216; exact calls_over (HT.out _))))
 all_goals (try unfold elV limbV)
 repeat (go_big_quiet_step (first | (go_at_call 216; exact calls_over (HT.out _))))
 all_goals (try unfold elV limbV)
 repeat (go_big_quiet_step (first | (go_at_call 216; exact calls_over (HT.out _))))
 all_goals (try unfold ciphV)
 refine wpQuiet_nil ?_
 rintro _ ⟨E, rfl⟩
 clear hov_pb
 replace Hp := Lib.hid (Hp.out.up E.h)
 replace HK := Lib.hid (Kept.up HK.out E.h)
 replace HZS := sz HZS E.h.size
 obtain ⟨w4, hq9⟩ : ∃ W9 : World, E.w = W9 := ⟨_, rfl⟩
 rw [hq9] at Hp HK HZS ⊢
 clear hq9 E hcA hcB hcC hcD hlp
 have hcT := Hp.out.cell HW.out.cd
 have f5_p := Hp.out.frozen
 obtain ⟨w5, hq5, hg9, hz9, hx9⟩ := put1 Hp D (.int .u32 (d1.toNat : Int)) _ rfl
 replace HK := Lib.hid (Kept.grown HK.out hg9.out (fun q9 e9 => by obtain rfl := Option.some.inj e9; exact Or.inr (rfl)))
 replace HZS := sz HZS hz9.out
 replace Hp := hx9
 clear hx9 hg9 hz9
 replace Hp := Lib.hid Hp.out.wset
 replace HW := Lib.hid (HW.out.sd (z := d1))
 go_wp2_with fail
 clear hq5 f5_p hcT g1 HT
 have g2 := add32 c d1
 obtain ⟨c1, e1⟩ : ∃ z, c + d1 = z := ⟨_, rfl⟩
 rw [e1] at g2
 have Ec1 := Lib.hid e1
 clear e1
 have hlp := Hp.out.lt
 have hcA := Hp.out.cell HW.out.ca
 have hcB := Hp.out.cell HW.out.cb
 have hcC := Hp.out.cell HW.out.cc
 have hcD := Hp.out.cell HW.out.cd
 refine wp_region_otail 8 (by kernel_rfl) (by kernel_rfl) ?_
 simp only [List.take_succ_cons, List.take_zero, List.drop_succ_cons, List.drop_zero]
 have hov_pb := fun (E : Over w5) o => E.cell (b := pb) o hlp
 repeat (go_big_quiet_step (first | fail))
 all_goals (try unfold elV limbV)
 repeat (go_big_quiet_step (first | fail))
 all_goals (try unfold elV limbV)
 repeat (go_big_quiet_step (first | fail))
 all_goals (try unfold ciphV)
 refine wpQuiet_nil ?_
 rintro _ ⟨E, rfl⟩
 clear hov_pb
 replace Hp := Lib.hid (Hp.out.up E.h)
 replace HK := Lib.hid (Kept.up HK.out E.h)
 replace HZS := sz HZS E.h.size
 obtain ⟨w6, hq9⟩ : ∃ W9 : World, E.w = W9 := ⟨_, rfl⟩
 rw [hq9] at Hp HK HZS ⊢
 clear hq9 E hcA hcB hcC hcD hlp
 have hcT := Hp.out.cell HW.out.cc
 have f7_p := Hp.out.frozen
 obtain ⟨w7, hq7, hg9, hz9, hx9⟩ := put1 Hp C (.int .u32 (c1.toNat : Int)) _ rfl
 replace HK := Lib.hid (Kept.grown HK.out hg9.out (fun q9 e9 => by obtain rfl := Option.some.inj e9; exact Or.inr (rfl)))
 replace HZS := sz HZS hz9.out
 replace Hp := hx9
 clear hx9 hg9 hz9
 replace Hp := Lib.hid Hp.out.wset
 replace HW := Lib.hid (HW.out.sc (z := c1))
 go_wp2_with fail
 clear hq7 f7_p hcT g2
 have g1 := bits_xor b c1
 obtain ⟨zb1, e0⟩ : ∃ z, b ^^^ c1 = z := ⟨_, rfl⟩
 rw [e0] at g1
 obtain ⟨b1, e1⟩ : ∃ z, rotB zb1 12 = z := ⟨_, rfl⟩
 have HT := Lib.hid (fun w => turn_any zb1 12 (by omega) w)
 rw [e1] at HT
 have Ezb1 := Lib.hid e0
 have Eb1 := Lib.hid e1
 clear e1 e0
 have hlp := Hp.out.lt
 have hcA := Hp.out.cell HW.out.ca
 have hcB := Hp.out.cell HW.out.cb
 have hcC := Hp.out.cell HW.out.cc
 have hcD := Hp.out.cell HW.out.cd
 refine wp_region_otail 10 (by kernel_rfl) (by kernel_rfl) ?_
 simp only [List.take_succ_cons, List.take_zero, List.drop_succ_cons, List.drop_zero]
 have hov_pb := fun (E : Over w7) o => E.cell (b := pb) o hlp
 repeat (go_big_quiet_step (first | (go_at_call 216; exact calls_over (HT.out _))))
 all_goals (try unfold elV limbV)
 repeat (go_big_quiet_step (first | (go_at_call 216; exact calls_over (HT.out _))))
 all_goals (try unfold elV limbV)
 repeat (go_big_quiet_step (first | (go_at_call 216; exact calls_over (HT.out _))))
 all_goals (try unfold ciphV)
 refine wpQuiet_nil ?_
 rintro _ ⟨E, rfl⟩
 clear hov_pb
 replace Hp := Lib.hid (Hp.out.up E.h)
 replace HK := Lib.hid (Kept.up HK.out E.h)
 replace HZS := sz HZS E.h.size
 obtain ⟨w8, hq9⟩ : ∃ W9 : World, E.w = W9 := ⟨_, rfl⟩
 rw [hq9] at Hp HK HZS ⊢
 clear hq9 E hcA hcB hcC hcD hlp
 have hcT := Hp.out.cell HW.out.cb
 have f9_p := Hp.out.frozen
 obtain ⟨w9, hq9, hg9, hz9, hx9⟩ := put1 Hp B (.int .u32 (b1.toNat : Int)) _ rfl
 replace HK := Lib.hid (Kept.grown HK.out hg9.out (fun q9 e9 => by obtain rfl := Option.some.inj e9; exact Or.inr (rfl)))
 replace HZS := sz HZS hz9.out
 replace Hp := hx9
 clear hx9 hg9 hz9
 replace Hp := Lib.hid Hp.out.wset
 replace HW := Lib.hid (HW.out.sb (z := b1))
 go_wp2_with fail
 clear hq9 f9_p hcT g1 HT
 have g1 := add32 b1 y
 obtain ⟨za2, e0⟩ : ∃ z, b1 + y = z := ⟨_, rfl⟩
 rw [e0] at g1
 have g2 := add32 a1 za2
 obtain ⟨a2, e1⟩ : ∃ z, a1 + za2 = z := ⟨_, rfl⟩
 rw [e1] at g2
 have Eza2 := Lib.hid e0
 have Ea2 := Lib.hid e1
 clear e1 e0
 have hlp := Hp.out.lt
 have hcA := Hp.out.cell HW.out.ca
 have hcB := Hp.out.cell HW.out.cb
 have hcC := Hp.out.cell HW.out.cc
 have hcD := Hp.out.cell HW.out.cd
 refine wp_region_otail 10 (by kernel_rfl) (by kernel_rfl) ?_
 simp only [List.take_succ_cons, List.take_zero, List.drop_succ_cons, List.drop_zero]
 have hov_pb := fun (E : Over w9) o => E.cell (b := pb) o hlp
 repeat (go_big_quiet_step (first | fail))
 all_goals (try unfold elV limbV)
 repeat (go_big_quiet_step (first | fail))
 all_goals (try unfold elV limbV)
 repeat (go_big_quiet_step (first | fail))
 all_goals (try unfold ciphV)
 refine wpQuiet_nil ?_
 rintro _ ⟨E, rfl⟩
 clear hov_pb
 replace Hp := Lib.hid (Hp.out.up E.h)
 replace HK := Lib.hid (Kept.up HK.out E.h)
 replace HZS := sz HZS E.h.size
 obtain ⟨w10, hq9⟩ : ∃ W9 : World, E.w = W9 := ⟨_, rfl⟩
 rw [hq9] at Hp HK HZS ⊢
 clear hq9 E hcA hcB hcC hcD hlp
 have hcT := Hp.out.cell HW.out.ca
 have f11_p := Hp.out.frozen
 obtain ⟨w11, hq11, hg9, hz9, hx9⟩ := put1 Hp A (.int .u32 (a2.toNat : Int)) _ rfl
 replace HK := Lib.hid (Kept.grown HK.out hg9.out (fun q9 e9 => by obtain rfl := Option.some.inj e9; exact Or.inr (rfl)))
 replace HZS := sz HZS hz9.out
 replace Hp := hx9
 clear hx9 hg9 hz9
 replace Hp := Lib.hid Hp.out.wset
 replace HW := Lib.hid (HW.out.sa (z := a2))
 go_wp2_with fail
 clear hq11 f11_p hcT g1 g2
 have g1 := bits_xor d1 a2
 obtain ⟨zd2, e0⟩ : ∃ z, d1 ^^^ a2 = z := ⟨_, rfl⟩
 rw [e0] at g1
 obtain ⟨d2, e1⟩ : ∃ z, rotB zd2 8 = z := ⟨_, rfl⟩
 have HT := Lib.hid (fun w => turn_any zd2 8 (by omega) w)
 rw [e1] at HT
 have Ezd2 := Lib.hid e0
 have Ed2 := Lib.hid e1
 clear e1 e0
 have hlp := Hp.out.lt
 have hcA := Hp.out.cell HW.out.ca
 have hcB := Hp.out.cell HW.out.cb
 have hcC := Hp.out.cell HW.out.cc
 have hcD := Hp.out.cell HW.out.cd
 refine wp_region_otail 10 (by kernel_rfl) (by kernel_rfl) ?_
 simp only [List.take_succ_cons, List.take_zero, List.drop_succ_cons, List.drop_zero]
 have hov_pb := fun (E : Over w11) o => E.cell (b := pb) o hlp
 repeat (go_big_quiet_step (first | (go_at_call 216; exact calls_over (HT.out _))))
 all_goals (try unfold elV limbV)
 repeat (go_big_quiet_step (first | (go_at_call 216; exact calls_over (HT.out _))))
 all_goals (try unfold elV limbV)
 repeat (go_big_quiet_step (first | (go_at_call 216; exact calls_over (HT.out _))))
 all_goals (try unfold ciphV)
 refine wpQuiet_nil ?_
 rintro _ ⟨E, rfl⟩
 clear hov_pb
 replace Hp := Lib.hid (Hp.out.up E.h)
 replace HK := Lib.hid (Kept.up HK.out E.h)
 replace HZS := sz HZS E.h.size
 obtain ⟨w12, hq9⟩ : ∃ W9 : World, E.w = W9 := ⟨_, rfl⟩
 rw [hq9] at Hp HK HZS ⊢
 clear hq9 E hcA hcB hcC hcD hlp
 have hcT := Hp.out.cell HW.out.cd
 have f13_p := Hp.out.frozen
 obtain ⟨w13, hq13, hg9, hz9, hx9⟩ := put1 Hp D (.int .u32 (d2.toNat : Int)) _ rfl
 replace HK := Lib.hid (Kept.grown HK.out hg9.out (fun q9 e9 => by obtain rfl := Option.some.inj e9; exact Or.inr (rfl)))
 replace HZS := sz HZS hz9.out
 replace Hp := hx9
 clear hx9 hg9 hz9
 replace Hp := Lib.hid Hp.out.wset
 replace HW := Lib.hid (HW.out.sd (z := d2))
 go_wp2_with fail
 clear hq13 f13_p hcT g1 HT
 have g2 := add32 c1 d2
 obtain ⟨c2, e1⟩ : ∃ z, c1 + d2 = z := ⟨_, rfl⟩
 rw [e1] at g2
 have Ec2 := Lib.hid e1
 clear e1
 have hlp := Hp.out.lt
 have hcA := Hp.out.cell HW.out.ca
 have hcB := Hp.out.cell HW.out.cb
 have hcC := Hp.out.cell HW.out.cc
 have hcD := Hp.out.cell HW.out.cd
 refine wp_region_otail 8 (by kernel_rfl) (by kernel_rfl) ?_
 simp only [List.take_succ_cons, List.take_zero, List.drop_succ_cons, List.drop_zero]
 have hov_pb := fun (E : Over w13) o => E.cell (b := pb) o hlp
 repeat (go_big_quiet_step (first | fail))
 all_goals (try unfold elV limbV)
 repeat (go_big_quiet_step (first | fail))
 all_goals (try unfold elV limbV)
 repeat (go_big_quiet_step (first | fail))
 all_goals (try unfold ciphV)
 refine wpQuiet_nil ?_
 rintro _ ⟨E, rfl⟩
 clear hov_pb
 replace Hp := Lib.hid (Hp.out.up E.h)
 replace HK := Lib.hid (Kept.up HK.out E.h)
 replace HZS := sz HZS E.h.size
 obtain ⟨w14, hq9⟩ : ∃ W9 : World, E.w = W9 := ⟨_, rfl⟩
 rw [hq9] at Hp HK HZS ⊢
 clear hq9 E hcA hcB hcC hcD hlp
 have hcT := Hp.out.cell HW.out.cc
 have f15_p := Hp.out.frozen
 obtain ⟨w15, hq15, hg9, hz9, hx9⟩ := put1 Hp C (.int .u32 (c2.toNat : Int)) _ rfl
 replace HK := Lib.hid (Kept.grown HK.out hg9.out (fun q9 e9 => by obtain rfl := Option.some.inj e9; exact Or.inr (rfl)))
 replace HZS := sz HZS hz9.out
 replace Hp := hx9
 clear hx9 hg9 hz9
 replace Hp := Lib.hid Hp.out.wset
 replace HW := Lib.hid (HW.out.sc (z := c2))
 go_wp2_with fail
 clear hq15 f15_p hcT g2
 have g1 := bits_xor b1 c2
 obtain ⟨zb2, e0⟩ : ∃ z, b1 ^^^ c2 = z := ⟨_, rfl⟩
 rw [e0] at g1
 obtain ⟨b2, e1⟩ : ∃ z, rotB zb2 7 = z := ⟨_, rfl⟩
 have HT := Lib.hid (fun w => turn_any zb2 7 (by omega) w)
 rw [e1] at HT
 have Ezb2 := Lib.hid e0
 have Eb2 := Lib.hid e1
 clear e1 e0
 have hlp := Hp.out.lt
 have hcA := Hp.out.cell HW.out.ca
 have hcB := Hp.out.cell HW.out.cb
 have hcC := Hp.out.cell HW.out.cc
 have hcD := Hp.out.cell HW.out.cd
 refine wp_region_otail 10 (by kernel_rfl) (by kernel_rfl) ?_
 simp only [List.take_succ_cons, List.take_zero, List.drop_succ_cons, List.drop_zero]
 have hov_pb := fun (E : Over w15) o => E.cell (b := pb) o hlp
 repeat (go_big_quiet_step (first | (go_at_call 216; exact calls_over (HT.out _))))
 all_goals (try unfold elV limbV)
 repeat (go_big_quiet_step (first | (go_at_call 216; exact calls_over (HT.out _))))
 all_goals (try unfold elV limbV)
 repeat (go_big_quiet_step (first | (go_at_call 216; exact calls_over (HT.out _))))
 all_goals (try unfold ciphV)
 refine wpQuiet_nil ?_
 rintro _ ⟨E, rfl⟩
 clear hov_pb
 replace Hp := Lib.hid (Hp.out.up E.h)
 replace HK := Lib.hid (Kept.up HK.out E.h)
 replace HZS := sz HZS E.h.size
 obtain ⟨w16, hq9⟩ : ∃ W9 : World, E.w = W9 := ⟨_, rfl⟩
 rw [hq9] at Hp HK HZS ⊢
 clear hq9 E hcA hcB hcC hcD hlp
 have hcT := Hp.out.cell HW.out.cb
 have f17_p := Hp.out.frozen
 obtain ⟨w17, hq17, hg9, hz9, hx9⟩ := put1 Hp B (.int .u32 (b2.toNat : Int)) _ rfl
 replace HK := Lib.hid (Kept.grown HK.out hg9.out (fun q9 e9 => by obtain rfl := Option.some.inj e9; exact Or.inr (rfl)))
 replace HZS := sz HZS hz9.out
 replace Hp := hx9
 clear hx9 hg9 hz9
 replace Hp := Lib.hid Hp.out.wset
 replace HW := Lib.hid (HW.out.sb (z := b2))
 go_wp2_with fail
 clear hq17 f17_p hcT g1 HT
 go_end0
 have h := HQ.out
 rw [BitVec.add_assoc a b x, Eza1.out, Ea1.out, Ezd1.out, Ed1.out, Ec1.out, Ezb1.out, Eb1.out, BitVec.add_assoc a1 b1 y, Eza2.out, Ea2.out, Ezd2.out, Ed2.out, Ec2.out, Ezb2.out, Eb2.out] at h
 exact ⟨rfl, h ▸ Hp.out, HK.out⟩
end Go.Proofs.Ytjmeakfjfpnciaa
namespace Go.Proofs.Ytjmeakfjfpnciaa
open Go.RowKit
theorem wpList_pushM {P : Program} (N : Nat) (w0 : World) (hN : N ≤ w0.heap.size) {ops : Array Oper} {rest : List Oper} {o : Oper} {a : Act} {Q : Exit → Act → World → Prop} (hgd : o.guard = none) (s x : Operand) (t : TypeId)
  (ho : o.op = .call { callee := .builtin .append, args := #[s, x], argTypes := #[t, t] })
  (e : TypeId) (i : TypeInfo) (z : Value) (size bytes m : Nat) (ht : P.underlying t = some (.slice e)) (hi : P.info? e = some i) (hz : i.zero = some z)
  (hsize : i.size = size) (hby : i.bytes = bytes) (hzs : z.cells.size = size) (hsz : 0 < size) (hm : 0 < m)
  (v : Value) (n : Nat) (xs : List Value) (hs : a.eval s = v) (hown : RowO N w0 e size v n xs)
  (news : Array Value) (e2 : TypeId) (b : Nat) (hb : w0.heap.size = b) (hx : a.eval x = .slice (some ⟨b, 0, none⟩) m m) (hl : news.size = m * size) (h1 : ∀ u ∈ news.toList, u.oneCell' = true)
  (h63 : (n + m) * bytes ≤ 140737488355328) (hn : n + m ≤ maxLen)
  (h : ∀ g cap w', RowO N w' e size (.slice (some ⟨g, 0, none⟩) (n + m) cap) (n + m) (xs ++ news.toList) → w0.grownBy w' v.ownBlock → wpList P ops Q rest (a.put o.dst (.slice (some ⟨g, 0, none⟩) (n + m) cap)) w') :
  wpList P ops Q (o :: rest) a (w0.alloc (.cells news e2)) := by
 subst hb
 refine wpList_append_lies _ hgd s x t ho N e i z size bytes ht hi hz hsize hby hzs hsz v n xs hs (World.ownsRow.alloc hown _) ⟨w0.heap.size, 0, none⟩ m m news.toList hx (by simpa using hl)
  (World.news_of_block (heap_alloc_new w0 _)) h1 hm hn h63 (by simp; omega) _ rfl ?_
 intro g cap w' hown' hg _ _
 refine h g cap w' hown' ⟨hg.os, hg.tape, hg.output, ?_, ?_⟩
 ·have := hg.size; simp at this; omega
 ·intro k hk hne
  rw [hg.block k (by simp; omega) hne]
  exact Below.heap_alloc _ _ _ hk
end Go.Proofs.Ytjmeakfjfpnciaa
