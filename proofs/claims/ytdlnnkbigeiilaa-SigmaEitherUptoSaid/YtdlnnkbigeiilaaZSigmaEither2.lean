/- Texts of this seat, one behind the other: what SigmaEither leans on. No condition beyond those that each names. -/
import Derived.Test.YtdlnnkbigeiilaaZSigmaEither1
import Derived.Laws.StructEq
import Derived.ChangeKeysEq
import Derived.Deep.Cut
import Derived.Deep.CutRange
import Derived.IntWalk
import Derived.Test.YtdlnnkbigeiilaaRows
import Derived.ProofKit
import Derived.SizedLaws
import Derived.Lib.SmallJoins
import Derived.Deep.Slices
import Derived.Deep.Fields
import Derived.Shelf.Abstract
import Derived.Deep.LoopGhost

set_option maxRecDepth 100000
set_option maxHeartbeats 4000000
set_option linter.unusedVariables false
set_option linter.unusedSimpArgs false
namespace Go.Proofs.Ytdlnnkbigeiilaa
open Go.RowKit
theorem addM (R : RingP) (ok : R.Ok) (rb off x y : Nat) (w : World) (hR : RingAt w rb off R) :
  Calls Try.prog 121 #[.pointer (some ⟨rb, off, none⟩), limbV (mont R.m x), limbV (mont R.m y)] w fun e w' => e = .returned (limbV (mont R.m (x + y))) ∧ Below w.heap.size w w' :=
 ringAdd_any R rb off _ _ _ (by
  have h1 := mont_lt ok.pos x
  have h2 := mont_lt ok.pos y
  have h3 := ok.top
  simp only [BB] at h3
  show _ < 18446744073709551616 ^ 4
  omega) ok.lt4 (mont_add R.m x y ok.pos).symm w hR
theorem subM (R : RingP) (ok : R.Ok) (rb off x y : Nat) (hy : y ≤ R.m) (w : World) (hR : RingAt w rb off R) :
  Calls Try.prog 122 #[.pointer (some ⟨rb, off, none⟩), limbV (mont R.m x), limbV (mont R.m y)] w fun e w' => e = .returned (limbV (mont R.m (x + (R.m - y)))) ∧ Below w.heap.size w w' :=
 ringSub_any R rb off _ _ _ (mont_lt ok.pos x) (mont_lt ok.pos y) ok.lt4 (mont_sub R.m x y hy ok.pos).symm w hR
theorem outM (R : RingP) (ok : R.Ok) (rb off x : Nat) (w : World) (hR : RingAt w rb off R) :
  Calls Try.prog 86 #[.pointer (some ⟨rb, off, none⟩), limbV (mont R.m x)] w fun e w' => e = .returned (limbV (x % R.m)) ∧ Below w.heap.size w w' := by
 rw [← mont_mod]
 exact out_any R ok rb off _ (Nat.mod_lt _ ok.pos) w hR
structure GP where
 kind : Nat
 size : Nat
 p : RingP
 q : RingP
structure GroupAt (W : World) (gb : Nat) (G : GP) : Prop where
 lt : gb < W.heap.size
 kind : W.cell? ⟨gb, 0, none⟩ = some (.int .i64 G.kind)
 size : W.cell? ⟨gb, 1, none⟩ = some (.int .i64 G.size)
 p : RingAt W gb 2 G.p
 q : RingAt W gb 15 G.q
theorem GroupAt.below {W W' : World} {gb n : Nat} {G : GP} (h : GroupAt W gb G) (hb : Below n W W') (hn : gb < n) : GroupAt W' gb G :=
 ⟨Nat.lt_of_lt_of_le h.lt hb.size, by rw [hb.cell (p := ⟨gb, 0, none⟩) hn]; exact h.kind, by rw [hb.cell (p := ⟨gb, 1, none⟩) hn]; exact h.size, h.p.below hb hn, h.q.below hb hn⟩
theorem GroupAt.up {W W' : World} {gb : Nat} {G : GP} (h : GroupAt W gb G) (hb : Below W.heap.size W W') : GroupAt W' gb G := h.below hb h.lt
structure GP.Ok (G : GP) : Prop where
 p : G.p.Ok
 q : G.q.Ok
 twice : G.p.m = 2 * G.q.m + 1
 size_le : G.size ≤ 32
 fits : G.q.m ≤ 256 ^ G.size
 odd : 256 < G.q.m
theorem GroupAt.ms {W : World} {gb : Nat} {G : GP} (h : GroupAt W gb G) : W.cell? ⟨gb, 0, none⟩ = some (.int .i64 G.kind) ∧ W.cell? ⟨gb, 1, none⟩ = some (.int .i64 G.size) ∧ W.cell? ⟨gb, 2, none⟩ = some (.int .u64 (dig G.p.m 0 : Int)) ∧ W.cell? ⟨gb, 3, none⟩ = some (.int .u64 (dig G.p.m 1 : Int)) ∧ W.cell? ⟨gb, 4, none⟩ = some (.int .u64 (dig G.p.m 2 : Int)) ∧ W.cell? ⟨gb, 5, none⟩ = some (.int .u64 (dig G.p.m 3 : Int)) ∧ W.cell? ⟨gb, 15, none⟩ = some (.int .u64 (dig G.q.m 0 : Int)) ∧ W.cell? ⟨gb, 16, none⟩ = some (.int .u64 (dig G.q.m 1 : Int)) ∧ W.cell? ⟨gb, 17, none⟩ = some (.int .u64 (dig G.q.m 2 : Int)) ∧ W.cell? ⟨gb, 18, none⟩ = some (.int .u64 (dig G.q.m 3 : Int)) :=
 ⟨h.kind, h.size, h.p.cell 0 _ rfl, h.p.cell 1 _ rfl, h.p.cell 2 _ rfl, h.p.cell 3 _ rfl, h.q.cell 0 _ rfl, h.q.cell 1 _ rfl, h.q.cell 2 _ rfl, h.q.cell 3 _ rfl⟩
theorem GroupAt.all {W : World} {gb : Nat} {G : GP} (h : GroupAt W gb G) (ok : G.Ok) : (W.cell? ⟨gb, 0, none⟩ = some (.int .i64 G.kind) ∧ W.cell? ⟨gb, 1, none⟩ = some (.int .i64 G.size) ∧ W.cell? ⟨gb, 2, none⟩ = some (.int .u64 (dig G.p.m 0 : Int)) ∧ W.cell? ⟨gb, 3, none⟩ = some (.int .u64 (dig G.p.m 1 : Int)) ∧ W.cell? ⟨gb, 4, none⟩ = some (.int .u64 (dig G.p.m 2 : Int)) ∧ W.cell? ⟨gb, 5, none⟩ = some (.int .u64 (dig G.p.m 3 : Int)) ∧ W.cell? ⟨gb, 15, none⟩ = some (.int .u64 (dig G.q.m 0 : Int)) ∧ W.cell? ⟨gb, 16, none⟩ = some (.int .u64 (dig G.q.m 1 : Int)) ∧ W.cell? ⟨gb, 17, none⟩ = some (.int .u64 (dig G.q.m 2 : Int)) ∧ W.cell? ⟨gb, 18, none⟩ = some (.int .u64 (dig G.q.m 3 : Int))) ∧ W.cell? ⟨gb, 6, none⟩ = some (.int .u64 (dig (mont G.p.m 1) 0 : Int)) ∧ W.cell? ⟨gb, 7, none⟩ = some (.int .u64 (dig (mont G.p.m 1) 1 : Int)) ∧ W.cell? ⟨gb, 8, none⟩ = some (.int .u64 (dig (mont G.p.m 1) 2 : Int)) ∧ W.cell? ⟨gb, 9, none⟩ = some (.int .u64 (dig (mont G.p.m 1) 3 : Int)) ∧ W.cell? ⟨gb, 19, none⟩ = some (.int .u64 (dig (mont G.q.m 1) 0 : Int)) ∧ W.cell? ⟨gb, 20, none⟩ = some (.int .u64 (dig (mont G.q.m 1) 1 : Int)) ∧ W.cell? ⟨gb, 21, none⟩ = some (.int .u64 (dig (mont G.q.m 1) 2 : Int)) ∧ W.cell? ⟨gb, 22, none⟩ = some (.int .u64 (dig (mont G.q.m 1) 3 : Int)) :=
 ⟨h.ms, by rw [← ok.p.one']; exact h.p.cell 4 _ rfl, by rw [← ok.p.one']; exact h.p.cell 5 _ rfl, by rw [← ok.p.one']; exact h.p.cell 6 _ rfl, by rw [← ok.p.one']; exact h.p.cell 7 _ rfl, by rw [← ok.q.one']; exact h.q.cell 4 _ rfl, by rw [← ok.q.one']; exact h.q.cell 5 _ rfl, by rw [← ok.q.one']; exact h.q.cell 6 _ rfl, by rw [← ok.q.one']; exact h.q.cell 7 _ rfl⟩
def scV (G : GP) (x : Nat) : Value := limbV (mont G.q.m x)
def elV (G : GP) (y : Nat) : Value := limbV (mont G.p.m y)
theorem limbV_small (c : Nat) (hc : c < BB) : limbV c = .agg #[.int .u64 (c : Int), .int .u64 0, .int .u64 0, .int .u64 0] := by
 have h0 : dig c 0 = c := by simp only [dig, Nat.pow_zero, Nat.div_one]; exact Nat.mod_eq_of_lt hc
 have h : ∀ i, 0 < i → dig c i = 0 := fun i hi => by
  unfold dig
  have : BB ≤ BB ^ i := by
   have := Nat.pow_le_pow_right (n := BB) (by decide) (show 1 ≤ i from hi)
   rwa [Nat.pow_one] at this
  rw [Nat.div_eq_of_lt (Nat.lt_of_lt_of_le hc this)]
  rfl
 simp only [limbV, h0, h 1 (by omega), h 2 (by omega), h 3 (by omega)]
 rfl
theorem subZ (R : RingP) (ok : R.Ok) (rb off y : Nat) (hy : y ≤ R.m) (w : World) (hR : RingAt w rb off R) :
  Calls Try.prog 122 #[.pointer (some ⟨rb, off, none⟩), .agg #[.int .u64 0, .int .u64 0, .int .u64 0, .int .u64 0], limbV (mont R.m y)] w fun e w' => e = .returned (limbV (mont R.m (R.m - y))) ∧ Below w.heap.size w w' := by
 have h := subM R ok rb off 0 y hy w hR
 rw [mont_zero, limbV_small 0 (by decide), Nat.zero_add] at h
 exact h
theorem inSmall (R : RingP) (ok : R.Ok) (rb off c : Nat) (hc : c < BB) (w : World) (hR : RingAt w rb off R) :
  Calls Try.prog 126 #[.pointer (some ⟨rb, off, none⟩), .agg #[.int .u64 (c : Int), .int .u64 0, .int .u64 0, .int .u64 0]] w fun e w' => e = .returned (limbV (mont R.m c)) ∧ Below w.heap.size w w' := by
 have h := in_any R ok rb off c (Nat.lt_trans hc (by decide)) w hR
 rwa [limbV_small c hc] at h
theorem onceSmall (R : RingP) (ok : R.Ok) (rb off c : Nat) (hc : c < 256) (h256 : 256 < R.m) (w : World) (hR : RingAt w rb off R) :
  Calls Try.prog 149 #[.pointer (some ⟨rb, off, none⟩), .agg #[.int .u64 (c : Int), .int .u64 0, .int .u64 0, .int .u64 0]] w fun e w' => e = .returned (.agg #[.int .u64 (c : Int), .int .u64 0, .int .u64 0, .int .u64 0]) ∧ Below w.heap.size w w' := by
 have hb : c < BB := Nat.lt_trans hc (by decide)
 have h := once_any R rb off c c (Nat.lt_trans hb (by decide)) ok.lt4 (by rw [if_neg (by omega)]) w hR
 rwa [limbV_small c hb] at h
theorem gAdd_any (G : GP) (ok : G.Ok) (gb : Nat) (x y : Nat)  (w : World) (hG : GroupAt w gb G) :
  Calls Try.prog 75 #[.pointer (some ⟨gb, 0, none⟩), scV G x, scV G y] w fun e w' => e = .returned (scV G (x + y)) ∧ Below w.heap.size w w' := by
 have OK := Lib.hid ok
 clear ok
 unfold scV limbV
 go_enter Try.func75, Try.ntmps75
 go_wp2_with fail
 obtain ⟨W0, hW0, hBW, hX0, hX1, hC⟩ := boxLLZ w 78 (mont G.q.m (x)) 78 (mont G.q.m (y)) 78
 rw [hW0]
 clear hW0
 have hG0 := hG.up hBW
 have hgl := hG0.lt
 have hga := hG0.all OK.out
 have hx0_ := Blk.l4 (mont G.q.m (x)) hX0
 have hl0 := hX0.lt
 have hx1_ := Blk.l4 (mont G.q.m (y)) hX1
 have hl1 := hX1.lt
 have HC := Lib.hid hC
 have HBW := Lib.hid hBW
 clear hC hBW hG hX0 hX1
 refine wp_region_otail 9 (by kernel_rfl) (by kernel_rfl) ?_
 simp only [List.take_succ_cons, List.take_zero, List.drop_succ_cons, List.drop_zero]
 have hovg := fun (E : Over W0) o => E.cell (b := gb) o hgl
 have hov0 := fun (E : Over W0) o => E.cell (b := w.heap.size) o hl0
 have hov1 := fun (E : Over W0) o => E.cell (b := w.heap.size + 1) o hl1
 repeat (go_big_quiet_step (first | (go_at_call 121; exact calls_over (addM G.q OK.out.q gb 15 x y _ (hG0.up (Over.h _)).q))))
 all_goals (try unfold limbV)
 repeat (go_big_quiet_step (first | (go_at_call 121; exact calls_over (addM G.q OK.out.q gb 15 x y _ (hG0.up (Over.h _)).q))))
 all_goals (try unfold limbV)
 repeat (go_big_quiet_step (first | (go_at_call 121; exact calls_over (addM G.q OK.out.q gb 15 x y _ (hG0.up (Over.h _)).q))))
 refine wpQuiet_nil ?_
 rintro _ ⟨E, rfl⟩
 have HZ := Lib.hid (HC.out.below E.h HC.out.lt)
 have HBB := Lib.hid (below_up HBW.out E.h)
 clear hovg hov0 hov1
 generalize E.w = w3 at *
 obtain ⟨w5, hq5, HB5, HS5⟩ := fillE HBB HZ (by omega) (mont G.q.m (x + y))
 have hz_ := Blk.z4 HZ.out
 have hzf_ := HZ.out.frozen
 go_wp2_with fail
 clear hz_
 have hg_ := Blk.l4 (mont G.q.m (x + y)) HS5.out
 simp [bodyPost, results, Try.results75, go_sem, hg_]
 exact HB5.out
theorem gSub_any (G : GP) (ok : G.Ok) (gb : Nat) (x y : Nat) (hy : y ≤ G.q.m) (w : World) (hG : GroupAt w gb G) :
  Calls Try.prog 76 #[.pointer (some ⟨gb, 0, none⟩), scV G x, scV G y] w fun e w' => e = .returned (scV G (x + (G.q.m - y))) ∧ Below w.heap.size w w' := by
 have OK := Lib.hid ok
 clear ok
 unfold scV limbV
 go_enter Try.func76, Try.ntmps76
 go_wp2_with fail
 obtain ⟨W0, hW0, hBW, hX0, hX1, hC⟩ := boxLLZ w 78 (mont G.q.m (x)) 78 (mont G.q.m (y)) 78
 rw [hW0]
 clear hW0
 have hG0 := hG.up hBW
 have hgl := hG0.lt
 have hga := hG0.all OK.out
 have hx0_ := Blk.l4 (mont G.q.m (x)) hX0
 have hl0 := hX0.lt
 have hx1_ := Blk.l4 (mont G.q.m (y)) hX1
 have hl1 := hX1.lt
 have HC := Lib.hid hC
 have HBW := Lib.hid hBW
 clear hC hBW hG hX0 hX1
 refine wp_region_otail 9 (by kernel_rfl) (by kernel_rfl) ?_
 simp only [List.take_succ_cons, List.take_zero, List.drop_succ_cons, List.drop_zero]
 have hovg := fun (E : Over W0) o => E.cell (b := gb) o hgl
 have hov0 := fun (E : Over W0) o => E.cell (b := w.heap.size) o hl0
 have hov1 := fun (E : Over W0) o => E.cell (b := w.heap.size + 1) o hl1
 repeat (go_big_quiet_step (first | (go_at_call 122; exact calls_over (subM G.q OK.out.q gb 15 x y hy _ (hG0.up (Over.h _)).q))))
 all_goals (try unfold limbV)
 repeat (go_big_quiet_step (first | (go_at_call 122; exact calls_over (subM G.q OK.out.q gb 15 x y hy _ (hG0.up (Over.h _)).q))))
 all_goals (try unfold limbV)
 repeat (go_big_quiet_step (first | (go_at_call 122; exact calls_over (subM G.q OK.out.q gb 15 x y hy _ (hG0.up (Over.h _)).q))))
 refine wpQuiet_nil ?_
 rintro _ ⟨E, rfl⟩
 have HZ := Lib.hid (HC.out.below E.h HC.out.lt)
 have HBB := Lib.hid (below_up HBW.out E.h)
 clear hovg hov0 hov1
 generalize E.w = w3 at *
 obtain ⟨w5, hq5, HB5, HS5⟩ := fillE HBB HZ (by omega) (mont G.q.m (x + (G.q.m - y)))
 have hz_ := Blk.z4 HZ.out
 have hzf_ := HZ.out.frozen
 go_wp2_with fail
 clear hz_
 have hg_ := Blk.l4 (mont G.q.m (x + (G.q.m - y))) HS5.out
 simp [bodyPost, results, Try.results76, go_sem, hg_]
 exact HB5.out
theorem gMul_any (G : GP) (ok : G.Ok) (gb : Nat) (x y : Nat)  (w : World) (hG : GroupAt w gb G) :
  Calls Try.prog 123 #[.pointer (some ⟨gb, 0, none⟩), scV G x, scV G y] w fun e w' => e = .returned (scV G (x * y)) ∧ Below w.heap.size w w' := by
 have OK := Lib.hid ok
 clear ok
 unfold scV limbV
 go_enter Try.func123, Try.ntmps123
 go_wp2_with fail
 obtain ⟨W0, hW0, hBW, hX0, hX1, hC⟩ := boxLLZ w 78 (mont G.q.m (x)) 78 (mont G.q.m (y)) 78
 rw [hW0]
 clear hW0
 have hG0 := hG.up hBW
 have hgl := hG0.lt
 have hga := hG0.all OK.out
 have hx0_ := Blk.l4 (mont G.q.m (x)) hX0
 have hl0 := hX0.lt
 have hx1_ := Blk.l4 (mont G.q.m (y)) hX1
 have hl1 := hX1.lt
 have HC := Lib.hid hC
 have HBW := Lib.hid hBW
 clear hC hBW hG hX0 hX1
 refine wp_region_otail 9 (by kernel_rfl) (by kernel_rfl) ?_
 simp only [List.take_succ_cons, List.take_zero, List.drop_succ_cons, List.drop_zero]
 have hovg := fun (E : Over W0) o => E.cell (b := gb) o hgl
 have hov0 := fun (E : Over W0) o => E.cell (b := w.heap.size) o hl0
 have hov1 := fun (E : Over W0) o => E.cell (b := w.heap.size + 1) o hl1
 repeat (go_big_quiet_step (first | (go_at_call 130; exact calls_over (mulM G.q OK.out.q gb 15 x y _ (hG0.up (Over.h _)).q))))
 all_goals (try unfold limbV)
 repeat (go_big_quiet_step (first | (go_at_call 130; exact calls_over (mulM G.q OK.out.q gb 15 x y _ (hG0.up (Over.h _)).q))))
 all_goals (try unfold limbV)
 repeat (go_big_quiet_step (first | (go_at_call 130; exact calls_over (mulM G.q OK.out.q gb 15 x y _ (hG0.up (Over.h _)).q))))
 refine wpQuiet_nil ?_
 rintro _ ⟨E, rfl⟩
 have HZ := Lib.hid (HC.out.below E.h HC.out.lt)
 have HBB := Lib.hid (below_up HBW.out E.h)
 clear hovg hov0 hov1
 generalize E.w = w3 at *
 obtain ⟨w5, hq5, HB5, HS5⟩ := fillE HBB HZ (by omega) (mont G.q.m (x * y))
 have hz_ := Blk.z4 HZ.out
 have hzf_ := HZ.out.frozen
 go_wp2_with fail
 clear hz_
 have hg_ := Blk.l4 (mont G.q.m (x * y)) HS5.out
 simp [bodyPost, results, Try.results123, go_sem, hg_]
 exact HB5.out
theorem gNeg_any (G : GP) (ok : G.Ok) (gb : Nat) (y : Nat) (hy : y ≤ G.q.m) (w : World) (hG : GroupAt w gb G) :
  Calls Try.prog 118 #[.pointer (some ⟨gb, 0, none⟩), scV G y] w fun e w' => e = .returned (scV G (G.q.m - y)) ∧ Below w.heap.size w w' := by
 have OK := Lib.hid ok
 clear ok
 unfold scV limbV
 go_enter Try.func118, Try.ntmps118
 go_wp2_with fail
 obtain ⟨W0, hW0, hBW, hX0, hC⟩ := boxLZ w 78 (mont G.q.m (y)) 78
 rw [hW0]
 clear hW0
 have hG0 := hG.up hBW
 have hgl := hG0.lt
 have hga := hG0.all OK.out
 have hx0_ := Blk.l4 (mont G.q.m (y)) hX0
 have hl0 := hX0.lt
 have HC := Lib.hid hC
 have HBW := Lib.hid hBW
 clear hC hBW hG hX0
 refine wp_region_otail 8 (by kernel_rfl) (by kernel_rfl) ?_
 simp only [List.take_succ_cons, List.take_zero, List.drop_succ_cons, List.drop_zero]
 have hovg := fun (E : Over W0) o => E.cell (b := gb) o hgl
 have hov0 := fun (E : Over W0) o => E.cell (b := w.heap.size) o hl0
 repeat (go_big_quiet_step (first | (go_at_call 122; exact calls_over (subZ G.q OK.out.q gb 15 y hy _ (hG0.up (Over.h _)).q))))
 all_goals (try unfold limbV)
 repeat (go_big_quiet_step (first | (go_at_call 122; exact calls_over (subZ G.q OK.out.q gb 15 y hy _ (hG0.up (Over.h _)).q))))
 all_goals (try unfold limbV)
 repeat (go_big_quiet_step (first | (go_at_call 122; exact calls_over (subZ G.q OK.out.q gb 15 y hy _ (hG0.up (Over.h _)).q))))
 refine wpQuiet_nil ?_
 rintro _ ⟨E, rfl⟩
 have HZ := Lib.hid (HC.out.below E.h HC.out.lt)
 have HBB := Lib.hid (below_up HBW.out E.h)
 clear hovg hov0
 generalize E.w = w3 at *
 obtain ⟨w5, hq5, HB5, HS5⟩ := fillE HBB HZ (by omega) (mont G.q.m (G.q.m - y))
 have hz_ := Blk.z4 HZ.out
 have hzf_ := HZ.out.frozen
 go_wp2_with fail
 clear hz_
 have hg_ := Blk.l4 (mont G.q.m (G.q.m - y)) HS5.out
 simp [bodyPost, results, Try.results118, go_sem, hg_]
 exact HB5.out
theorem gTimes_any (G : GP) (ok : G.Ok) (gb : Nat) (x y : Nat)  (w : World) (hG : GroupAt w gb G) :
  Calls Try.prog 120 #[.pointer (some ⟨gb, 0, none⟩), elV G x, elV G y] w fun e w' => e = .returned (elV G (x * y)) ∧ Below w.heap.size w w' := by
 have OK := Lib.hid ok
 clear ok
 unfold elV limbV
 go_enter Try.func120, Try.ntmps120
 go_wp2_with fail
 obtain ⟨W0, hW0, hBW, hX0, hX1, hC⟩ := boxLLZ w 164 (mont G.p.m (x)) 164 (mont G.p.m (y)) 164
 rw [hW0]
 clear hW0
 have hG0 := hG.up hBW
 have hgl := hG0.lt
 have hga := hG0.all OK.out
 have hx0_ := Blk.l4 (mont G.p.m (x)) hX0
 have hl0 := hX0.lt
 have hx1_ := Blk.l4 (mont G.p.m (y)) hX1
 have hl1 := hX1.lt
 have HC := Lib.hid hC
 have HBW := Lib.hid hBW
 clear hC hBW hG hX0 hX1
 refine wp_region_otail 9 (by kernel_rfl) (by kernel_rfl) ?_
 simp only [List.take_succ_cons, List.take_zero, List.drop_succ_cons, List.drop_zero]
 have hovg := fun (E : Over W0) o => E.cell (b := gb) o hgl
 have hov0 := fun (E : Over W0) o => E.cell (b := w.heap.size) o hl0
 have hov1 := fun (E : Over W0) o => E.cell (b := w.heap.size + 1) o hl1
 repeat (go_big_quiet_step (first | (go_at_call 130; exact calls_over (mulM G.p OK.out.p gb 2 x y _ (hG0.up (Over.h _)).p))))
 all_goals (try unfold limbV)
 repeat (go_big_quiet_step (first | (go_at_call 130; exact calls_over (mulM G.p OK.out.p gb 2 x y _ (hG0.up (Over.h _)).p))))
 all_goals (try unfold limbV)
 repeat (go_big_quiet_step (first | (go_at_call 130; exact calls_over (mulM G.p OK.out.p gb 2 x y _ (hG0.up (Over.h _)).p))))
 refine wpQuiet_nil ?_
 rintro _ ⟨E, rfl⟩
 have HZ := Lib.hid (HC.out.below E.h HC.out.lt)
 have HBB := Lib.hid (below_up HBW.out E.h)
 clear hovg hov0 hov1
 generalize E.w = w3 at *
 obtain ⟨w5, hq5, HB5, HS5⟩ := fillE HBB HZ (by omega) (mont G.p.m (x * y))
 have hz_ := Blk.z4 HZ.out
 have hzf_ := HZ.out.frozen
 go_wp2_with fail
 clear hz_
 have hg_ := Blk.l4 (mont G.p.m (x * y)) HS5.out
 simp [bodyPost, results, Try.results120, go_sem, hg_]
 exact HB5.out
theorem gPower_any (G : GP) (ok : G.Ok) (gb : Nat) (x n : Nat)  (w : World) (hG : GroupAt w gb G) :
  Calls Try.prog 117 #[.pointer (some ⟨gb, 0, none⟩), elV G x, scV G n] w fun e w' => e = .returned (elV G (x ^ (n % G.q.m))) ∧ Below w.heap.size w w' := by
 have OK := Lib.hid ok
 clear ok
 unfold elV scV limbV
 go_enter Try.func117, Try.ntmps117
 go_wp2_with fail
 obtain ⟨W0, hW0, hBW, hX0, hX1, hC⟩ := boxLLZ w 164 (mont G.p.m (x)) 78 (mont G.q.m (n)) 164
 rw [hW0]
 clear hW0
 have hG0 := hG.up hBW
 have hgl := hG0.lt
 have hga := hG0.all OK.out
 have hx0_ := Blk.l4 (mont G.p.m (x)) hX0
 have hl0 := hX0.lt
 have hx1_ := Blk.l4 (mont G.q.m (n)) hX1
 have hl1 := hX1.lt
 have HC := Lib.hid hC
 have HBW := Lib.hid hBW
 clear hC hBW hG hX0 hX1
 refine wp_region_otail 13 (by kernel_rfl) (by kernel_rfl) ?_
 simp only [List.take_succ_cons, List.take_zero, List.drop_succ_cons, List.drop_zero]
 have hovg := fun (E : Over W0) o => E.cell (b := gb) o hgl
 have hov0 := fun (E : Over W0) o => E.cell (b := w.heap.size) o hl0
 have hov1 := fun (E : Over W0) o => E.cell (b := w.heap.size + 1) o hl1
 repeat (go_big_quiet_step (first | (go_at_call 86; exact calls_over (outM G.q OK.out.q gb 15 n _ (hG0.up (Over.h _)).q)) | (go_at_call 148; exact calls_over (pow_any G.p OK.out.p gb 2 x (n % G.q.m) (Nat.lt_trans (Nat.mod_lt _ OK.out.q.pos) OK.out.q.lt4) _ (hG0.up (Over.h _)).p))))
 all_goals (try unfold limbV)
 repeat (go_big_quiet_step (first | (go_at_call 86; exact calls_over (outM G.q OK.out.q gb 15 n _ (hG0.up (Over.h _)).q)) | (go_at_call 148; exact calls_over (pow_any G.p OK.out.p gb 2 x (n % G.q.m) (Nat.lt_trans (Nat.mod_lt _ OK.out.q.pos) OK.out.q.lt4) _ (hG0.up (Over.h _)).p))))
 all_goals (try unfold limbV)
 repeat (go_big_quiet_step (first | (go_at_call 86; exact calls_over (outM G.q OK.out.q gb 15 n _ (hG0.up (Over.h _)).q)) | (go_at_call 148; exact calls_over (pow_any G.p OK.out.p gb 2 x (n % G.q.m) (Nat.lt_trans (Nat.mod_lt _ OK.out.q.pos) OK.out.q.lt4) _ (hG0.up (Over.h _)).p))))
 refine wpQuiet_nil ?_
 rintro _ ⟨E, rfl⟩
 have HZ := Lib.hid (HC.out.below E.h HC.out.lt)
 have HBB := Lib.hid (below_up HBW.out E.h)
 clear hovg hov0 hov1
 generalize E.w = w3 at *
 obtain ⟨w5, hq5, HB5, HS5⟩ := fillE HBB HZ (by omega) (mont G.p.m (x ^ (n % G.q.m)))
 have hz_ := Blk.z4 HZ.out
 have hzf_ := HZ.out.frozen
 go_wp2_with fail
 clear hz_
 have hg_ := Blk.l4 (mont G.p.m (x ^ (n % G.q.m))) HS5.out
 simp [bodyPost, results, Try.results117, go_sem, hg_]
 exact HB5.out
theorem gBase_any (G : GP) (ok : G.Ok) (gb : Nat)  (w : World) (hG : GroupAt w gb G) :
  Calls Try.prog 104 #[.pointer (some ⟨gb, 0, none⟩)] w fun e w' => e = .returned (elV G (2)) ∧ Below w.heap.size w w' := by
 have OK := Lib.hid ok
 clear ok
 unfold elV limbV
 go_enter Try.func104, Try.ntmps104
 go_wp2_with fail
 obtain ⟨W0, hW0, hBW, hC⟩ := boxZ w 164
 rw [hW0]
 clear hW0
 have hG0 := hG.up hBW
 have hgl := hG0.lt
 have hga := hG0.all OK.out
 have HC := Lib.hid hC
 have HBW := Lib.hid hBW
 clear hC hBW hG
 refine wp_region_otail 15 (by kernel_rfl) (by kernel_rfl) ?_
 simp only [List.take_succ_cons, List.take_zero, List.drop_succ_cons, List.drop_zero]
 have hovg := fun (E : Over W0) o => E.cell (b := gb) o hgl
 repeat (go_big_quiet_step (first | (go_at_call 121; exact calls_over (addM G.p OK.out.p gb 2 1 1 _ (hG0.up (Over.h _)).p))))
 all_goals (try unfold limbV)
 repeat (go_big_quiet_step (first | (go_at_call 121; exact calls_over (addM G.p OK.out.p gb 2 1 1 _ (hG0.up (Over.h _)).p))))
 all_goals (try unfold limbV)
 repeat (go_big_quiet_step (first | (go_at_call 121; exact calls_over (addM G.p OK.out.p gb 2 1 1 _ (hG0.up (Over.h _)).p))))
 refine wpQuiet_nil ?_
 rintro _ ⟨E, rfl⟩
 have HZ := Lib.hid (HC.out.below E.h HC.out.lt)
 have HBB := Lib.hid (below_up HBW.out E.h)
 clear hovg
 generalize E.w = w3 at *
 obtain ⟨w5, hq5, HB5, HS5⟩ := fillE HBB HZ (by omega) (mont G.p.m (2))
 have hz_ := Blk.z4 HZ.out
 have hzf_ := HZ.out.frozen
 go_wp2_with fail
 clear hz_
 have hg_ := Blk.l4 (mont G.p.m (2)) HS5.out
 simp [bodyPost, results, Try.results104, go_sem, hg_]
 exact HB5.out
theorem gOne_any (G : GP) (ok : G.Ok) (gb : Nat) (w : World) (hG : GroupAt w gb G) :
  Calls Try.prog 142 #[.pointer (some ⟨gb, 0, none⟩)] w fun e w' => e = .returned (elV G 1) ∧ Below w.heap.size w w' := by
 have OK := Lib.hid ok
 clear ok
 unfold elV limbV
 have hG0 := hG
 have hgl := hG0.lt
 have hga := hG0.all OK.out
 go_enter Try.func142, Try.ntmps142
 go_wp2_with fail
 simp [bodyPost, results, Try.results142, go_sem]
 exact (Below.refl _ _).alloc (Nat.le_refl _) _
end Go.Proofs.Ytdlnnkbigeiilaa
namespace Go.Proofs.Ytdlnnkbigeiilaa
open Go.RowKit
theorem run_equalIn_four {P : Program} (w : World) (d : Nat) (t e : TypeId) (ht : P.underlying t = some (.array 4 e)) (he : P.underlying e = some (.int .u64)) (i : TypeInfo) (hi : P.info? e = some i) (hc : P.cellsOf e = 1) (hp : P.plainKey e = true) (x0 x1 x2 x3 y0 y1 y2 y3 : Int) :
  (Op.equalIn (d + 2) t (.agg #[.int .u64 x0, .int .u64 x1, .int .u64 x2, .int .u64 x3]) (.agg #[.int .u64 y0, .int .u64 y1, .int .u64 y2, .int .u64 y3])).run P w = .ok (x0 == y0 && (x1 == y1 && (x2 == y2 && x3 == y3))) w := by
 rw [Op.equalIn]
 simp only [Sem.run_bind, run_underlying ht, Result.andThen_ok, run_sizeOf w hi, hc]
 have hx : ∀ (xs : Array Value) (k : Nat) (v : Value), xs[k]? = some v → (part e xs (k * 1)).run P w = .ok v w := fun xs k v h => run_part_plain w hp (by simpa using h)
 have eqi : ∀ a b : Int, (Op.equalIn (d + 1) e (.int .u64 a) (.int .u64 b)).run P w = .ok (a == b) w := fun a b => run_equalIn_int w d e .u64 .u64 a b he
 have h0 := hx #[.int .u64 x0, .int .u64 x1, .int .u64 x2, .int .u64 x3] 0 _ rfl
 have h1 := hx #[.int .u64 x0, .int .u64 x1, .int .u64 x2, .int .u64 x3] 1 _ rfl
 have h2 := hx #[.int .u64 x0, .int .u64 x1, .int .u64 x2, .int .u64 x3] 2 _ rfl
 have h3 := hx #[.int .u64 x0, .int .u64 x1, .int .u64 x2, .int .u64 x3] 3 _ rfl
 have g0 := hx #[.int .u64 y0, .int .u64 y1, .int .u64 y2, .int .u64 y3] 0 _ rfl
 have g1 := hx #[.int .u64 y0, .int .u64 y1, .int .u64 y2, .int .u64 y3] 1 _ rfl
 have g2 := hx #[.int .u64 y0, .int .u64 y1, .int .u64 y2, .int .u64 y3] 2 _ rfl
 have g3 := hx #[.int .u64 y0, .int .u64 y1, .int .u64 y2, .int .u64 y3] 3 _ rfl
 clear hx
 simp only [Std.Legacy.Range.forIn_eq_forIn_range', Std.Legacy.Range.size]
 have r4 : List.range' 0 ((4 - 0 + 1 - 1) / 1) 1 = [0, 1, 2, 3] := rfl
 rw [r4]
 simp only [List.forIn_cons, List.forIn_nil, Sem.run_bind, Sem.run_ite, Sem.run_pure, Result.andThen_ok, h0, g0]
 cases h0' : (x0 == y0) <;> cases h1' : (x1 == y1) <;> cases h2' : (x2 == y2) <;> cases h3' : (x3 == y3) <;> first | (simp [Sem.run_bind, h1, h2, h3, g1, g2, g3, eqi, h1', h2', h3']; done) | (simp [Sem.run_bind, h1, h2, h3, g1, g2, g3, eqi, h1', h2', h3']; simpa using h0')
theorem wpQuiet_bin {P : Program} {ops : Array Oper} {C : World → Prop} {Q : Act → Prop} {a : Act} {o : Oper} {rest : List Oper} (hw : Region.wanted o (yielded ops a.tmps) = true) (op : BinOp) (x y : Operand) (t t2 : TypeId) (ho : o.op = .binOp op t x y t2)
  (u v r : Value) (hx : a.eval x = u) (hy : a.eval y = v) (hg : ∀ w, (eqGuard op t x y u v).run P w = .ok () w) (hb : ∀ w, (binOp op t u v).run P w = .ok r w)
  (h : wpQuiet P ops C Q rest (a.put o.dst r)) : wpQuiet P ops C Q (o :: rest) a := by
 refine wpQuiet_step fun K hK => ?_
 rw [if_pos hw]
 refine ⟨r, fun w _ => ?_, hK _ h⟩
 unfold Oper.quietAt execOp
 simp only [ho, hx, hy, Sem.run_bind, hg, hb, Result.andThen_ok, Sem.run_pure]
 exact ⟨rfl, rfl⟩
theorem oper_value {P : Program} {o : Oper} {a : Act} {w w' : World} {v : Value} {K : Act → World → Prop} {Q : Exit → Act → World → Prop} (h : (execOp a.eval o).run P w = .ok (.value v) w') (hk : K (a.put o.dst v) w') : Oper.wp P o a w K Q := by
 unfold Oper.wp
 rw [h]
 exact hk
theorem if_wanted {o : Oper} {ys : Nat → Option Bool} {A B : Prop} (h : o.guard = none) (hk : A) : if Region.wanted o ys = true then A else B := by
 have hw : Region.wanted o ys = true := by unfold Region.wanted; rw [h]
 rw [if_pos hw]; exact hk
end Go.Proofs.Ytdlnnkbigeiilaa
namespace Go.Proofs.Ytdlnnkbigeiilaa
open Go.RowKit
theorem lim_eq (x y : Nat) (hx : x < BB ^ 4) (hy : y < BB ^ 4) (h0 : dig x 0 = dig y 0) (h1 : dig x 1 = dig y 1) (h2 : dig x 2 = dig y 2) (h3 : dig x 3 = dig y 3) : x = y := by
 have e : ∀ z, z < BB ^ 4 → z = dig z 0 + BB * dig z 1 + BB ^ 2 * dig z 2 + BB ^ 3 * dig z 3 := fun z hz => by
  have a3 := mod_succ z 3
  have a2 := mod_succ z 2
  have a1 := mod_succ z 1
  have a0 := mod_succ z 0
  rw [Nat.mod_eq_of_lt hz] at a3
  simp only [Nat.pow_zero, Nat.mod_one, Nat.zero_add, Nat.pow_one, Nat.one_mul] at a0 a1
  simp only [Nat.reduceAdd] at a1 a2
  omega
 have ex := e x hx
 have ey := e y hy
 rw [h0, h1, h2, h3] at ex
 generalize hs : dig y 0 + BB * dig y 1 + BB ^ 2 * dig y 2 + BB ^ 3 * dig y 3 = s at *
 omega
theorem infoU64 : (Try.prog.info? 74).isSome = true := by kernel_rfl
theorem cellsU64 : Try.prog.cellsOf 74 = 1 := by kernel_rfl
theorem plainU64 : Try.prog.plainKey 74 = true := by kernel_rfl
theorem eqLimbs (x y : Nat) (hx : x < BB ^ 4) (hy : y < BB ^ 4) (w : World) (b : Bool) (hb : b = decide (x = y)) :
  (Op.equalIn 10000 76 (.agg #[.int .u64 (dig x 0 : Int), .int .u64 (dig x 1 : Int), .int .u64 (dig x 2 : Int), .int .u64 (dig x 3 : Int)]) (.agg #[.int .u64 (dig y 0 : Int), .int .u64 (dig y 1 : Int), .int .u64 (dig y 2 : Int), .int .u64 (dig y 3 : Int)])).run Try.prog w = .ok b w := by
 obtain ⟨i, hi⟩ := Option.isSome_iff_exists.1 infoU64
 rw [run_equalIn_four w 9998 _ _ Try.underlying76 Try.underlying74 i hi cellsU64 plainU64, hb]
 refine congrArg (fun b => Result.ok b w) ?_
 rw [Bool.eq_iff_iff]
 simp only [Bool.and_eq_true, beq_iff_eq, Int.natCast_inj, decide_eq_true_eq]
 exact ⟨fun ⟨h0, h1, h2, h3⟩ => lim_eq x y hx hy h0 h1 h2 h3, fun e => by rw [e]; exact ⟨rfl, rfl, rfl, rfl⟩⟩
theorem guardLimbs (op : BinOp) (x y : Operand) (xs ys : Array Value) (w : World) : (eqGuard op 76 x y (.agg xs) (.agg ys)).run Try.prog w = .ok () w := run_eqGuard_agg w op _ x y xs ys (by kernel_rfl)
theorem binLimbs {xs ys : Array Value} {b : Bool} {w : World} (h : (Op.equalIn 10000 76 (.agg xs) (.agg ys)).run Try.prog w = .ok b w) : (binOp .eql 76 (.agg xs) (.agg ys)).run Try.prog w = .ok (.bool b) w := by
 rw [run_eql_struct, h]
 rfl
theorem eqZero (x : Nat) (hx : x < BB ^ 4) (w : World) (b : Bool) (hb : b = decide (x = 0)) :
  (Op.equalIn 10000 76 (.agg #[.int .u64 (dig x 0 : Int), .int .u64 (dig x 1 : Int), .int .u64 (dig x 2 : Int), .int .u64 (dig x 3 : Int)]) (.agg #[.int .u64 0, .int .u64 0, .int .u64 0, .int .u64 0])).run Try.prog w = .ok b w := by
 have h := eqLimbs x 0 hx (by decide) w b hb
 simpa [dig] using h
theorem gPut_any (G : GP) (ok : G.Ok) (gb x : Nat) (w : World) (hG : GroupAt w gb G) :
  Calls Try.prog 39 #[.pointer (some ⟨gb, 0, none⟩), scV G x] w fun e w' => e = .returned (.string (textS (x % G.q.m) G.size)) ∧ Below w.heap.size w w' := by
 have OK := Lib.hid ok
 clear ok
 unfold scV limbV
 go_enter Try.func39, Try.ntmps39
 go_wp2_with fail
 obtain ⟨W0, hW0, hBW, hX⟩ := boxL w 78 (mont G.q.m x)
 rw [hW0]
 clear hW0
 have hG0 := hG.up hBW
 have hgl := hG0.lt
 have hga := hG0.all OK.out
 have hx_ := Blk.l4 (mont G.q.m x) hX
 have hlx := hX.lt
 have HBW := Lib.hid hBW
 clear hX hBW hG
 refine wp_region_over (by kernel_rfl) (by kernel_rfl) ?_
 have hovg := fun (E : Over W0) o => E.cell (b := gb) o hgl
 have hov0 := fun (E : Over W0) o => E.cell (b := w.heap.size) o hlx
 repeat (go_big_quiet_step (first | (go_at_call 86; exact calls_over (outM G.q OK.out.q gb 15 x _ (hG0.up (Over.h _)).q)) | (go_at_call 87; exact calls_over (text_any (x % G.q.m) G.size OK.out.size_le _))))
 refine wpQuiet_nil ?_
 rintro _ ⟨E, rfl⟩
 have HBB := Lib.hid (below_up HBW.out E.h)
 clear hovg hov0
 generalize E.w = w3 at *
 go_wp2_with fail
 go_ret
 exact ⟨rfl, HBB.out⟩
end Go.Proofs.Ytdlnnkbigeiilaa
namespace Go.Proofs.Ytdlnnkbigeiilaa
open Go.RowKit
theorem numOf_lt (s : ByteArray) (hs : s.size ≤ 32) : numOf s < BB ^ 4 := by
 have h := numL_lt s.data.toList
 have e : s.data.toList.length = s.size := rfl
 rw [e] at h
 exact Nat.lt_of_lt_of_le h (by
  have := Nat.pow_le_pow_right (n := 256) (by decide) hs
  exact Nat.le_trans this (by decide))
theorem cmp_is (a b : Nat) (c : Int) (ha : a < BB ^ 4) (hb : b < BB ^ 4) (hc : cmpI a b = c) (w : World) : Calls Try.prog 125 #[limbV a, limbV b] w fun e w' => e = .returned (.int .i64 c) ∧ Below w.heap.size w w' := by
 subst hc; exact cmp_any a b ha hb w
theorem gScalar_long (G : GP) (ok : G.Ok) (gb : Nat) (s : ByteArray) (hs : 32 < s.size) (w : World) (hG : GroupAt w gb G) :
  Calls Try.prog 78 #[.pointer (some ⟨gb, 0, none⟩), .string s] w fun e w' => e = .returned (.tuple #[limbV 0, .bool false]) ∧ Below w.heap.size w w' := by
 have e0 : limbV 0 = .agg #[.int .u64 0, .int .u64 0, .int .u64 0, .int .u64 0] := limbV_small 0 (by decide)
 rw [e0]
 clear e0
 have OK := Lib.hid ok
 clear ok
 go_enter Try.func78, Try.ntmps78
 go_wp2_with fail
 obtain ⟨W0, hW0, hBW, hC⟩ := boxZ w 78
 rw [hW0]
 clear hW0
 have HG0 := Lib.hid (hG.up hBW)
 have HC := Lib.hid hC
 have HBW := Lib.hid hBW
 have hcl := hC.lt
 clear hG hC hBW
 refine (read_long s hs W0).mono ?_
 rintro e w2 ⟨rfl, hb2⟩
 have hz2 := hb2.size
 have HN : Hid (Blk (w2.alloc (Obj.cells #[.int .u64 (dig (0) 0 : Int), .int .u64 (dig (0) 1 : Int), .int .u64 (dig (0) 2 : Int), .int .u64 (dig (0) 3 : Int)] 76)) w2.heap.size 76 (lim (0))) := Blk.new w2 _ _ _ rfl
 have HB3 := Lib.hid (hb2.alloc hz2 (Obj.cells #[.int .u64 (dig (0) 0 : Int), .int .u64 (dig (0) 1 : Int), .int .u64 (dig (0) 2 : Int), .int .u64 (dig (0) 3 : Int)] 76))
 clear hb2
 unfold limbV
 go_wp2_with fail
 generalize w2.alloc (Obj.cells #[.int .u64 (dig (0) 0 : Int), .int .u64 (dig (0) 1 : Int), .int .u64 (dig (0) 2 : Int), .int .u64 (dig (0) 3 : Int)] 76) = W3 at *
 have hG0 := HG0.out.up HB3.out
 have hgl := hG0.lt
 have hga := hG0.all OK.out
 have hn_ := Blk.l4 (0) HN.out
 have hln := HN.out.lt
 refine wp_region_over (by kernel_rfl) (by kernel_rfl) ?_
 repeat (go_big_quiet_step (fail))
 refine wpQuiet_nil ?_
 rintro _ ⟨E, rfl⟩
 have HZ := Lib.hid ((HC.out.below HB3.out HC.out.lt).below E.h (by have := HB3.out.size; omega))
 have HBB := Lib.hid (below_up (below_up HBW.out HB3.out) E.h)
 generalize E.w = w3 at *
 have HS5 : Hid (Blk (((((w3).setCell ⟨w.heap.size, 0, none⟩ (.int .u64 0)).setCell ⟨w.heap.size, 1, none⟩ (.int .u64 0)).setCell ⟨w.heap.size, 2, none⟩ (.int .u64 0)).setCell ⟨w.heap.size, 3, none⟩ (.int .u64 0)) (w.heap.size) 78 [0, 0, 0, 0]) := (((HZ.out.set 0 0).set 1 0).set 2 0).set 3 0
 have HB5 : Hid (Below w.heap.size w (((((w3).setCell ⟨w.heap.size, 0, none⟩ (.int .u64 0)).setCell ⟨w.heap.size, 1, none⟩ (.int .u64 0)).setCell ⟨w.heap.size, 2, none⟩ (.int .u64 0)).setCell ⟨w.heap.size, 3, none⟩ (.int .u64 0))) := below_four HBB.out (by omega) _ _ _ _
 have hz_ := Blk.z4 HZ.out
 have hzf_ := HZ.out.frozen
 go_wp2_with fail
 generalize (((((w3).setCell ⟨w.heap.size, 0, none⟩ (.int .u64 0)).setCell ⟨w.heap.size, 1, none⟩ (.int .u64 0)).setCell ⟨w.heap.size, 2, none⟩ (.int .u64 0)).setCell ⟨w.heap.size, 3, none⟩ (.int .u64 0)) = w5 at *
 clear hz_
 have hg_ := Blk.z4 HS5.out
 simp [bodyPost, results, Try.results78, go_sem, hg_]
 exact HB5.out
theorem gScalar_len (G : GP) (ok : G.Ok) (gb : Nat) (s : ByteArray) (hs : s.size ≤ 32) (hl : s.size ≠ G.size) (w : World) (hG : GroupAt w gb G) :
  Calls Try.prog 78 #[.pointer (some ⟨gb, 0, none⟩), .string s] w fun e w' => e = .returned (.tuple #[limbV 0, .bool false]) ∧ Below w.heap.size w w' := by
 have e0 : limbV 0 = .agg #[.int .u64 0, .int .u64 0, .int .u64 0, .int .u64 0] := limbV_small 0 (by decide)
 rw [e0]
 clear e0
 have OK := Lib.hid ok
 clear ok
 go_enter Try.func78, Try.ntmps78
 go_wp2_with fail
 obtain ⟨W0, hW0, hBW, hC⟩ := boxZ w 78
 rw [hW0]
 clear hW0
 have HG0 := Lib.hid (hG.up hBW)
 have HC := Lib.hid hC
 have HBW := Lib.hid hBW
 have hcl := hC.lt
 clear hG hC hBW
 refine (read_any s hs W0).mono ?_
 rintro e w2 ⟨rfl, hb2⟩
 have hz2 := hb2.size
 have HN : Hid (Blk (w2.alloc (Obj.cells #[.int .u64 (dig (numOf s) 0 : Int), .int .u64 (dig (numOf s) 1 : Int), .int .u64 (dig (numOf s) 2 : Int), .int .u64 (dig (numOf s) 3 : Int)] 76)) w2.heap.size 76 (lim (numOf s))) := Blk.new w2 _ _ _ rfl
 have HB3 := Lib.hid (hb2.alloc hz2 (Obj.cells #[.int .u64 (dig (numOf s) 0 : Int), .int .u64 (dig (numOf s) 1 : Int), .int .u64 (dig (numOf s) 2 : Int), .int .u64 (dig (numOf s) 3 : Int)] 76))
 clear hb2
 unfold limbV
 go_wp2_with fail
 generalize w2.alloc (Obj.cells #[.int .u64 (dig (numOf s) 0 : Int), .int .u64 (dig (numOf s) 1 : Int), .int .u64 (dig (numOf s) 2 : Int), .int .u64 (dig (numOf s) 3 : Int)] 76) = W3 at *
 have hG0 := HG0.out.up HB3.out
 have hgl := hG0.lt
 have hga := hG0.all OK.out
 have hn_ := Blk.l4 (numOf s) HN.out
 have hln := HN.out.lt
 have hne : ((s.size : Int) != (G.size : Int)) = true := by simp; omega
 have hovg := fun (E : Over W3) o => E.cell (b := gb) o hgl
 refine wp_region_over (by kernel_rfl) (by kernel_rfl) ?_
 repeat (go_big_quiet_step (fail))
 refine wpQuiet_nil ?_
 rintro _ ⟨E, rfl⟩
 have HZ := Lib.hid ((HC.out.below HB3.out HC.out.lt).below E.h (by have := HB3.out.size; omega))
 have HBB := Lib.hid (below_up (below_up HBW.out HB3.out) E.h)
 clear hovg
 generalize E.w = w3 at *
 have HS5 : Hid (Blk (((((w3).setCell ⟨w.heap.size, 0, none⟩ (.int .u64 0)).setCell ⟨w.heap.size, 1, none⟩ (.int .u64 0)).setCell ⟨w.heap.size, 2, none⟩ (.int .u64 0)).setCell ⟨w.heap.size, 3, none⟩ (.int .u64 0)) (w.heap.size) 78 [0, 0, 0, 0]) := (((HZ.out.set 0 0).set 1 0).set 2 0).set 3 0
 have HB5 : Hid (Below w.heap.size w (((((w3).setCell ⟨w.heap.size, 0, none⟩ (.int .u64 0)).setCell ⟨w.heap.size, 1, none⟩ (.int .u64 0)).setCell ⟨w.heap.size, 2, none⟩ (.int .u64 0)).setCell ⟨w.heap.size, 3, none⟩ (.int .u64 0))) := below_four HBB.out (by omega) _ _ _ _
 have hz_ := Blk.z4 HZ.out
 have hzf_ := HZ.out.frozen
 go_wp2_with fail
 generalize (((((w3).setCell ⟨w.heap.size, 0, none⟩ (.int .u64 0)).setCell ⟨w.heap.size, 1, none⟩ (.int .u64 0)).setCell ⟨w.heap.size, 2, none⟩ (.int .u64 0)).setCell ⟨w.heap.size, 3, none⟩ (.int .u64 0)) = w5 at *
 clear hz_
 have hg_ := Blk.z4 HS5.out
 simp [bodyPost, results, Try.results78, go_sem, hg_]
 exact HB5.out
theorem gElem_long (G : GP) (ok : G.Ok) (gb : Nat) (s : ByteArray) (hs : 32 < s.size) (w : World) (hG : GroupAt w gb G) :
  Calls Try.prog 105 #[.pointer (some ⟨gb, 0, none⟩), .string s] w fun e w' => e = .returned (.tuple #[limbV 0, .bool false]) ∧ Below w.heap.size w w' := by
 have e0 : limbV 0 = .agg #[.int .u64 0, .int .u64 0, .int .u64 0, .int .u64 0] := limbV_small 0 (by decide)
 rw [e0]
 clear e0
 have OK := Lib.hid ok
 clear ok
 go_enter Try.func105, Try.ntmps105
 go_wp2_with fail
 obtain ⟨W0, hW0, hBW, hC⟩ := boxZ w 164
 rw [hW0]
 clear hW0
 have HG0 := Lib.hid (hG.up hBW)
 have HC := Lib.hid hC
 have HBW := Lib.hid hBW
 have hcl := hC.lt
 clear hG hC hBW
 refine (read_long s hs W0).mono ?_
 rintro e w2 ⟨rfl, hb2⟩
 have hz2 := hb2.size
 have HN : Hid (Blk (w2.alloc (Obj.cells #[.int .u64 (dig (0) 0 : Int), .int .u64 (dig (0) 1 : Int), .int .u64 (dig (0) 2 : Int), .int .u64 (dig (0) 3 : Int)] 76)) w2.heap.size 76 (lim (0))) := Blk.new w2 _ _ _ rfl
 have HB3 := Lib.hid (hb2.alloc hz2 (Obj.cells #[.int .u64 (dig (0) 0 : Int), .int .u64 (dig (0) 1 : Int), .int .u64 (dig (0) 2 : Int), .int .u64 (dig (0) 3 : Int)] 76))
 clear hb2
 unfold limbV
 go_wp2_with fail
 generalize w2.alloc (Obj.cells #[.int .u64 (dig (0) 0 : Int), .int .u64 (dig (0) 1 : Int), .int .u64 (dig (0) 2 : Int), .int .u64 (dig (0) 3 : Int)] 76) = W3 at *
 have hG0 := HG0.out.up HB3.out
 have hgl := hG0.lt
 have hga := hG0.all OK.out
 have hn_ := Blk.l4 (0) HN.out
 have hln := HN.out.lt
 refine wp_region_over (by kernel_rfl) (by kernel_rfl) ?_
 repeat (go_big_quiet_step (fail))
 refine wpQuiet_nil ?_
 rintro _ ⟨E, rfl⟩
 have HZ := Lib.hid ((HC.out.below HB3.out HC.out.lt).below E.h (by have := HB3.out.size; omega))
 have HBB := Lib.hid (below_up (below_up HBW.out HB3.out) E.h)
 generalize E.w = w3 at *
 have HS5 : Hid (Blk (((((w3).setCell ⟨w.heap.size, 0, none⟩ (.int .u64 0)).setCell ⟨w.heap.size, 1, none⟩ (.int .u64 0)).setCell ⟨w.heap.size, 2, none⟩ (.int .u64 0)).setCell ⟨w.heap.size, 3, none⟩ (.int .u64 0)) (w.heap.size) 164 [0, 0, 0, 0]) := (((HZ.out.set 0 0).set 1 0).set 2 0).set 3 0
 have HB5 : Hid (Below w.heap.size w (((((w3).setCell ⟨w.heap.size, 0, none⟩ (.int .u64 0)).setCell ⟨w.heap.size, 1, none⟩ (.int .u64 0)).setCell ⟨w.heap.size, 2, none⟩ (.int .u64 0)).setCell ⟨w.heap.size, 3, none⟩ (.int .u64 0))) := below_four HBB.out (by omega) _ _ _ _
 have hz_ := Blk.z4 HZ.out
 have hzf_ := HZ.out.frozen
 go_wp2_with fail
 generalize (((((w3).setCell ⟨w.heap.size, 0, none⟩ (.int .u64 0)).setCell ⟨w.heap.size, 1, none⟩ (.int .u64 0)).setCell ⟨w.heap.size, 2, none⟩ (.int .u64 0)).setCell ⟨w.heap.size, 3, none⟩ (.int .u64 0)) = w5 at *
 clear hz_
 have hg_ := Blk.z4 HS5.out
 simp [bodyPost, results, Try.results105, go_sem, hg_]
 exact HB5.out
theorem gElem_len (G : GP) (ok : G.Ok) (gb : Nat) (s : ByteArray) (hs : s.size ≤ 32) (hl : s.size ≠ G.size) (w : World) (hG : GroupAt w gb G) :
  Calls Try.prog 105 #[.pointer (some ⟨gb, 0, none⟩), .string s] w fun e w' => e = .returned (.tuple #[limbV 0, .bool false]) ∧ Below w.heap.size w w' := by
 have e0 : limbV 0 = .agg #[.int .u64 0, .int .u64 0, .int .u64 0, .int .u64 0] := limbV_small 0 (by decide)
 rw [e0]
 clear e0
 have OK := Lib.hid ok
 clear ok
 go_enter Try.func105, Try.ntmps105
 go_wp2_with fail
 obtain ⟨W0, hW0, hBW, hC⟩ := boxZ w 164
 rw [hW0]
 clear hW0
 have HG0 := Lib.hid (hG.up hBW)
 have HC := Lib.hid hC
 have HBW := Lib.hid hBW
 have hcl := hC.lt
 clear hG hC hBW
 refine (read_any s hs W0).mono ?_
 rintro e w2 ⟨rfl, hb2⟩
 have hz2 := hb2.size
 have HN : Hid (Blk (w2.alloc (Obj.cells #[.int .u64 (dig (numOf s) 0 : Int), .int .u64 (dig (numOf s) 1 : Int), .int .u64 (dig (numOf s) 2 : Int), .int .u64 (dig (numOf s) 3 : Int)] 76)) w2.heap.size 76 (lim (numOf s))) := Blk.new w2 _ _ _ rfl
 have HB3 := Lib.hid (hb2.alloc hz2 (Obj.cells #[.int .u64 (dig (numOf s) 0 : Int), .int .u64 (dig (numOf s) 1 : Int), .int .u64 (dig (numOf s) 2 : Int), .int .u64 (dig (numOf s) 3 : Int)] 76))
 clear hb2
 unfold limbV
 go_wp2_with fail
 generalize w2.alloc (Obj.cells #[.int .u64 (dig (numOf s) 0 : Int), .int .u64 (dig (numOf s) 1 : Int), .int .u64 (dig (numOf s) 2 : Int), .int .u64 (dig (numOf s) 3 : Int)] 76) = W3 at *
 have hG0 := HG0.out.up HB3.out
 have hgl := hG0.lt
 have hga := hG0.all OK.out
 have hn_ := Blk.l4 (numOf s) HN.out
 have hln := HN.out.lt
 have hne : ((s.size : Int) != (G.size : Int)) = true := by simp; omega
 have hovg := fun (E : Over W3) o => E.cell (b := gb) o hgl
 refine wp_region_over (by kernel_rfl) (by kernel_rfl) ?_
 repeat (go_big_quiet_step (fail))
 refine wpQuiet_nil ?_
 rintro _ ⟨E, rfl⟩
 have HZ := Lib.hid ((HC.out.below HB3.out HC.out.lt).below E.h (by have := HB3.out.size; omega))
 have HBB := Lib.hid (below_up (below_up HBW.out HB3.out) E.h)
 clear hovg
 generalize E.w = w3 at *
 have HS5 : Hid (Blk (((((w3).setCell ⟨w.heap.size, 0, none⟩ (.int .u64 0)).setCell ⟨w.heap.size, 1, none⟩ (.int .u64 0)).setCell ⟨w.heap.size, 2, none⟩ (.int .u64 0)).setCell ⟨w.heap.size, 3, none⟩ (.int .u64 0)) (w.heap.size) 164 [0, 0, 0, 0]) := (((HZ.out.set 0 0).set 1 0).set 2 0).set 3 0
 have HB5 : Hid (Below w.heap.size w (((((w3).setCell ⟨w.heap.size, 0, none⟩ (.int .u64 0)).setCell ⟨w.heap.size, 1, none⟩ (.int .u64 0)).setCell ⟨w.heap.size, 2, none⟩ (.int .u64 0)).setCell ⟨w.heap.size, 3, none⟩ (.int .u64 0))) := below_four HBB.out (by omega) _ _ _ _
 have hz_ := Blk.z4 HZ.out
 have hzf_ := HZ.out.frozen
 go_wp2_with fail
 generalize (((((w3).setCell ⟨w.heap.size, 0, none⟩ (.int .u64 0)).setCell ⟨w.heap.size, 1, none⟩ (.int .u64 0)).setCell ⟨w.heap.size, 2, none⟩ (.int .u64 0)).setCell ⟨w.heap.size, 3, none⟩ (.int .u64 0)) = w5 at *
 clear hz_
 have hg_ := Blk.z4 HS5.out
 simp [bodyPost, results, Try.results105, go_sem, hg_]
 exact HB5.out
theorem gScalar_eq (G : GP) (ok : G.Ok) (gb : Nat) (s : ByteArray) (hl : s.size = G.size) (hc : numOf s = G.q.m) (w : World) (hG : GroupAt w gb G) :
  Calls Try.prog 78 #[.pointer (some ⟨gb, 0, none⟩), .string s] w fun e w' => e = .returned (.tuple #[limbV 0, .bool false]) ∧ Below w.heap.size w w' := by
 have e0 : limbV 0 = .agg #[.int .u64 0, .int .u64 0, .int .u64 0, .int .u64 0] := limbV_small 0 (by decide)
 rw [e0]
 clear e0
 have hs : s.size ≤ 32 := by have := ok.size_le; omega
 have HLT := Lib.hid (numOf_lt s hs)
 have HCI : Hid (cmpI (numOf s) G.q.m = 0) := by show _ = _; unfold cmpI; rw [if_neg (by omega), if_neg (by omega)]
 have HL := Lib.hid hl
 clear hl hc
 have OK := Lib.hid ok
 clear ok
 go_enter Try.func78, Try.ntmps78
 go_wp2_with fail
 obtain ⟨W0, hW0, hBW, hC⟩ := boxZ w 78
 rw [hW0]
 clear hW0
 have HG0 := Lib.hid (hG.up hBW)
 have HC := Lib.hid hC
 have HBW := Lib.hid hBW
 have hcl := hC.lt
 clear hG hC hBW
 refine (read_any s hs W0).mono ?_
 rintro e w2 ⟨rfl, hb2⟩
 have hz2 := hb2.size
 have HN : Hid (Blk (w2.alloc (Obj.cells #[.int .u64 (dig (numOf s) 0 : Int), .int .u64 (dig (numOf s) 1 : Int), .int .u64 (dig (numOf s) 2 : Int), .int .u64 (dig (numOf s) 3 : Int)] 76)) w2.heap.size 76 (lim (numOf s))) := Blk.new w2 _ _ _ rfl
 have HB3 := Lib.hid (hb2.alloc hz2 (Obj.cells #[.int .u64 (dig (numOf s) 0 : Int), .int .u64 (dig (numOf s) 1 : Int), .int .u64 (dig (numOf s) 2 : Int), .int .u64 (dig (numOf s) 3 : Int)] 76))
 clear hb2
 unfold limbV
 go_wp2_with fail
 generalize w2.alloc (Obj.cells #[.int .u64 (dig (numOf s) 0 : Int), .int .u64 (dig (numOf s) 1 : Int), .int .u64 (dig (numOf s) 2 : Int), .int .u64 (dig (numOf s) 3 : Int)] 76) = W3 at *
 have hG0 := HG0.out.up HB3.out
 have hgl := hG0.lt
 have hga := hG0.all OK.out
 have hn_ := Blk.l4 (numOf s) HN.out
 have hln := HN.out.lt
 have hne : ((s.size : Int) != (G.size : Int)) = false := by simp [HL.out]
 have hovg := fun (E : Over W3) o => E.cell (b := gb) o hgl
 have hovn := fun (E : Over W3) o => E.cell (b := w2.heap.size) o hln
 refine wp_region_over (by kernel_rfl) (by kernel_rfl) ?_
 repeat (go_big_quiet_step (first | (go_at_call 125; exact calls_over (cmp_is (numOf s) G.q.m 0 HLT.out OK.out.q.lt4 HCI.out _))))
 refine wpQuiet_nil ?_
 rintro _ ⟨E, rfl⟩
 have HZ := Lib.hid ((HC.out.below HB3.out HC.out.lt).below E.h (by have := HB3.out.size; omega))
 have HBB := Lib.hid (below_up (below_up HBW.out HB3.out) E.h)
 clear hovg hovn
 generalize E.w = w3 at *
 have HS5 : Hid (Blk (((((w3).setCell ⟨w.heap.size, 0, none⟩ (.int .u64 0)).setCell ⟨w.heap.size, 1, none⟩ (.int .u64 0)).setCell ⟨w.heap.size, 2, none⟩ (.int .u64 0)).setCell ⟨w.heap.size, 3, none⟩ (.int .u64 0)) (w.heap.size) 78 [0, 0, 0, 0]) := (((HZ.out.set 0 0).set 1 0).set 2 0).set 3 0
 have HB5 : Hid (Below w.heap.size w (((((w3).setCell ⟨w.heap.size, 0, none⟩ (.int .u64 0)).setCell ⟨w.heap.size, 1, none⟩ (.int .u64 0)).setCell ⟨w.heap.size, 2, none⟩ (.int .u64 0)).setCell ⟨w.heap.size, 3, none⟩ (.int .u64 0))) := below_four HBB.out (by omega) _ _ _ _
 have hz_ := Blk.z4 HZ.out
 have hzf_ := HZ.out.frozen
 go_wp2_with fail
 generalize (((((w3).setCell ⟨w.heap.size, 0, none⟩ (.int .u64 0)).setCell ⟨w.heap.size, 1, none⟩ (.int .u64 0)).setCell ⟨w.heap.size, 2, none⟩ (.int .u64 0)).setCell ⟨w.heap.size, 3, none⟩ (.int .u64 0)) = w5 at *
 clear hz_
 have hg_ := Blk.z4 HS5.out
 simp [bodyPost, results, Try.results78, go_sem, hg_]
 exact HB5.out
theorem gScalar_gt (G : GP) (ok : G.Ok) (gb : Nat) (s : ByteArray) (hl : s.size = G.size) (hc : G.q.m < numOf s) (w : World) (hG : GroupAt w gb G) :
  Calls Try.prog 78 #[.pointer (some ⟨gb, 0, none⟩), .string s] w fun e w' => e = .returned (.tuple #[limbV 0, .bool false]) ∧ Below w.heap.size w w' := by
 have e0 : limbV 0 = .agg #[.int .u64 0, .int .u64 0, .int .u64 0, .int .u64 0] := limbV_small 0 (by decide)
 rw [e0]
 clear e0
 have hs : s.size ≤ 32 := by have := ok.size_le; omega
 have HLT := Lib.hid (numOf_lt s hs)
 have HCI : Hid (cmpI (numOf s) G.q.m = 1) := by show _ = _; unfold cmpI; rw [if_neg (by omega), if_pos (by omega)]
 have HL := Lib.hid hl
 clear hl hc
 have OK := Lib.hid ok
 clear ok
 go_enter Try.func78, Try.ntmps78
 go_wp2_with fail
 obtain ⟨W0, hW0, hBW, hC⟩ := boxZ w 78
 rw [hW0]
 clear hW0
 have HG0 := Lib.hid (hG.up hBW)
 have HC := Lib.hid hC
 have HBW := Lib.hid hBW
 have hcl := hC.lt
 clear hG hC hBW
 refine (read_any s hs W0).mono ?_
 rintro e w2 ⟨rfl, hb2⟩
 have hz2 := hb2.size
 have HN : Hid (Blk (w2.alloc (Obj.cells #[.int .u64 (dig (numOf s) 0 : Int), .int .u64 (dig (numOf s) 1 : Int), .int .u64 (dig (numOf s) 2 : Int), .int .u64 (dig (numOf s) 3 : Int)] 76)) w2.heap.size 76 (lim (numOf s))) := Blk.new w2 _ _ _ rfl
 have HB3 := Lib.hid (hb2.alloc hz2 (Obj.cells #[.int .u64 (dig (numOf s) 0 : Int), .int .u64 (dig (numOf s) 1 : Int), .int .u64 (dig (numOf s) 2 : Int), .int .u64 (dig (numOf s) 3 : Int)] 76))
 clear hb2
 unfold limbV
 go_wp2_with fail
 generalize w2.alloc (Obj.cells #[.int .u64 (dig (numOf s) 0 : Int), .int .u64 (dig (numOf s) 1 : Int), .int .u64 (dig (numOf s) 2 : Int), .int .u64 (dig (numOf s) 3 : Int)] 76) = W3 at *
 have hG0 := HG0.out.up HB3.out
 have hgl := hG0.lt
 have hga := hG0.all OK.out
 have hn_ := Blk.l4 (numOf s) HN.out
 have hln := HN.out.lt
 have hne : ((s.size : Int) != (G.size : Int)) = false := by simp [HL.out]
 have hovg := fun (E : Over W3) o => E.cell (b := gb) o hgl
 have hovn := fun (E : Over W3) o => E.cell (b := w2.heap.size) o hln
 refine wp_region_over (by kernel_rfl) (by kernel_rfl) ?_
 repeat (go_big_quiet_step (first | (go_at_call 125; exact calls_over (cmp_is (numOf s) G.q.m 1 HLT.out OK.out.q.lt4 HCI.out _))))
 refine wpQuiet_nil ?_
 rintro _ ⟨E, rfl⟩
 have HZ := Lib.hid ((HC.out.below HB3.out HC.out.lt).below E.h (by have := HB3.out.size; omega))
 have HBB := Lib.hid (below_up (below_up HBW.out HB3.out) E.h)
 clear hovg hovn
 generalize E.w = w3 at *
 have HS5 : Hid (Blk (((((w3).setCell ⟨w.heap.size, 0, none⟩ (.int .u64 0)).setCell ⟨w.heap.size, 1, none⟩ (.int .u64 0)).setCell ⟨w.heap.size, 2, none⟩ (.int .u64 0)).setCell ⟨w.heap.size, 3, none⟩ (.int .u64 0)) (w.heap.size) 78 [0, 0, 0, 0]) := (((HZ.out.set 0 0).set 1 0).set 2 0).set 3 0
 have HB5 : Hid (Below w.heap.size w (((((w3).setCell ⟨w.heap.size, 0, none⟩ (.int .u64 0)).setCell ⟨w.heap.size, 1, none⟩ (.int .u64 0)).setCell ⟨w.heap.size, 2, none⟩ (.int .u64 0)).setCell ⟨w.heap.size, 3, none⟩ (.int .u64 0))) := below_four HBB.out (by omega) _ _ _ _
 have hz_ := Blk.z4 HZ.out
 have hzf_ := HZ.out.frozen
 go_wp2_with fail
 generalize (((((w3).setCell ⟨w.heap.size, 0, none⟩ (.int .u64 0)).setCell ⟨w.heap.size, 1, none⟩ (.int .u64 0)).setCell ⟨w.heap.size, 2, none⟩ (.int .u64 0)).setCell ⟨w.heap.size, 3, none⟩ (.int .u64 0)) = w5 at *
 clear hz_
 have hg_ := Blk.z4 HS5.out
 simp [bodyPost, results, Try.results78, go_sem, hg_]
 exact HB5.out
theorem gScalar_yes (G : GP) (ok : G.Ok) (gb : Nat) (s : ByteArray) (hl : s.size = G.size) (hc : numOf s < G.q.m) (w : World) (hG : GroupAt w gb G) :
  Calls Try.prog 78 #[.pointer (some ⟨gb, 0, none⟩), .string s] w fun e w' => e = .returned (.tuple #[scV G (numOf s), .bool true]) ∧ Below w.heap.size w w' := by
 have hs : s.size ≤ 32 := by have := ok.size_le; omega
 have HLT := Lib.hid (numOf_lt s hs)
 have HCI : Hid (cmpI (numOf s) G.q.m = -1) := by show _ = _; unfold cmpI; rw [if_pos hc]
 have HL := Lib.hid hl
 clear hl hc
 unfold scV limbV
 have OK := Lib.hid ok
 clear ok
 go_enter Try.func78, Try.ntmps78
 go_wp2_with fail
 obtain ⟨W0, hW0, hBW, hC⟩ := boxZ w 78
 rw [hW0]
 clear hW0
 have HG0 := Lib.hid (hG.up hBW)
 have HC := Lib.hid hC
 have HBW := Lib.hid hBW
 have hcl := hC.lt
 clear hG hC hBW
 refine (read_any s hs W0).mono ?_
 rintro e w2 ⟨rfl, hb2⟩
 have hz2 := hb2.size
 have HN : Hid (Blk (w2.alloc (Obj.cells #[.int .u64 (dig (numOf s) 0 : Int), .int .u64 (dig (numOf s) 1 : Int), .int .u64 (dig (numOf s) 2 : Int), .int .u64 (dig (numOf s) 3 : Int)] 76)) w2.heap.size 76 (lim (numOf s))) := Blk.new w2 _ _ _ rfl
 have HB3 := Lib.hid (hb2.alloc hz2 (Obj.cells #[.int .u64 (dig (numOf s) 0 : Int), .int .u64 (dig (numOf s) 1 : Int), .int .u64 (dig (numOf s) 2 : Int), .int .u64 (dig (numOf s) 3 : Int)] 76))
 clear hb2
 unfold limbV
 go_wp2_with fail
 generalize w2.alloc (Obj.cells #[.int .u64 (dig (numOf s) 0 : Int), .int .u64 (dig (numOf s) 1 : Int), .int .u64 (dig (numOf s) 2 : Int), .int .u64 (dig (numOf s) 3 : Int)] 76) = W3 at *
 have hG0 := HG0.out.up HB3.out
 have hgl := hG0.lt
 have hga := hG0.all OK.out
 have hn_ := Blk.l4 (numOf s) HN.out
 have hln := HN.out.lt
 have hne : ((s.size : Int) != (G.size : Int)) = false := by simp [HL.out]
 have hovg := fun (E : Over W3) o => E.cell (b := gb) o hgl
 have hovn := fun (E : Over W3) o => E.cell (b := w2.heap.size) o hln
 refine wp_region_over (by kernel_rfl) (by kernel_rfl) ?_
 repeat (go_big_quiet_step (first | (go_at_call 125; exact calls_over (cmp_is (numOf s) G.q.m (-1) HLT.out OK.out.q.lt4 HCI.out _))))
 refine wpQuiet_nil ?_
 rintro _ ⟨E, rfl⟩
 have HC3 := Lib.hid ((HC.out.below HB3.out HC.out.lt).below E.h (by have := HB3.out.size; omega))
 have HB33 := Lib.hid (below_up (below_up HBW.out HB3.out) E.h)
 have HN3 := Lib.hid (HN.out.below E.h HN.out.lt)
 have hG3 := hG0.up E.h
 clear hovg hovn hG0 hn_ hln HC HBW HB3 HN
 generalize E.w = w3 at *
 have hn_ := Blk.l4 (numOf s) HN3.out
 have hln := HN3.out.lt
 go_wp2_with fail
 refine wp_region_otail 6 (by kernel_rfl) (by kernel_rfl) ?_
 simp only [List.take_succ_cons, List.take_zero, List.drop_succ_cons, List.drop_zero]
 have hovn := fun (E : Over w3) o => E.cell (b := w2.heap.size) o hln
 repeat (go_big_quiet_step (first | (go_at_call 126; exact calls_over (in_any G.q OK.out.q gb 15 (numOf s) HLT.out _ (hG3.up (Over.h _)).q))))
 all_goals (try unfold limbV)
 repeat (go_big_quiet_step (first | (go_at_call 126; exact calls_over (in_any G.q OK.out.q gb 15 (numOf s) HLT.out _ (hG3.up (Over.h _)).q))))
 all_goals (try unfold limbV)
 repeat (go_big_quiet_step (first | (go_at_call 126; exact calls_over (in_any G.q OK.out.q gb 15 (numOf s) HLT.out _ (hG3.up (Over.h _)).q))))
 refine wpQuiet_nil ?_
 rintro _ ⟨E, rfl⟩
 have HZ := Lib.hid (HC3.out.below E.h HC3.out.lt)
 have HBB := Lib.hid (below_up HB33.out E.h)
 clear hovn
 generalize E.w = w4 at *
 obtain ⟨w5, hq5, HB5, HS5⟩ := fillE HBB HZ (by omega) (mont G.q.m (numOf s))
 have hz_ := Blk.z4 HZ.out
 have hzf_ := HZ.out.frozen
 go_wp2_with fail
 clear hz_
 have hg_ := Blk.l4 (mont G.q.m (numOf s)) HS5.out
 simp [bodyPost, results, Try.results78, go_sem, hg_]
 exact HB5.out
theorem gElem_zero (G : GP) (ok : G.Ok) (gb : Nat) (s : ByteArray) (hl : s.size = G.size) (hc : numOf s = 0) (w : World) (hG : GroupAt w gb G) :
  Calls Try.prog 105 #[.pointer (some ⟨gb, 0, none⟩), .string s] w fun e w' => e = .returned (.tuple #[limbV 0, .bool false]) ∧ Below w.heap.size w w' := by
 have e0 : limbV 0 = .agg #[.int .u64 0, .int .u64 0, .int .u64 0, .int .u64 0] := limbV_small 0 (by decide)
 rw [e0]
 clear e0
 have hs : s.size ≤ 32 := by have := ok.size_le; omega
 have hq := ok.odd
 have HLT := Lib.hid (numOf_lt s hs)
 have HCI : Hid (cmpI (numOf s) G.q.m = -1) := by show _ = _; unfold cmpI; rw [if_pos (by omega)]
 have HEQ : Hid (∀ W, (Op.equalIn 10000 76 (.agg #[.int .u64 (dig (numOf s) 0 : Int), .int .u64 (dig (numOf s) 1 : Int), .int .u64 (dig (numOf s) 2 : Int), .int .u64 (dig (numOf s) 3 : Int)]) (.agg #[.int .u64 0, .int .u64 0, .int .u64 0, .int .u64 0])).run Try.prog W = .ok true W) :=
 fun W => eqZero (numOf s) (numOf_lt s hs) W true (by simp; omega)
 have HL := Lib.hid hl
 clear hl hc hq
 have OK := Lib.hid ok
 clear ok
 go_enter Try.func105, Try.ntmps105
 go_wp2_with fail
 obtain ⟨W0, hW0, hBW, hC⟩ := boxZ w 164
 rw [hW0]
 clear hW0
 have HG0 := Lib.hid (hG.up hBW)
 have HC := Lib.hid hC
 have HBW := Lib.hid hBW
 have hcl := hC.lt
 clear hG hC hBW
 refine (read_any s hs W0).mono ?_
 rintro e w2 ⟨rfl, hb2⟩
 have hz2 := hb2.size
 have HN : Hid (Blk (w2.alloc (Obj.cells #[.int .u64 (dig (numOf s) 0 : Int), .int .u64 (dig (numOf s) 1 : Int), .int .u64 (dig (numOf s) 2 : Int), .int .u64 (dig (numOf s) 3 : Int)] 76)) w2.heap.size 76 (lim (numOf s))) := Blk.new w2 _ _ _ rfl
 have HB3 := Lib.hid (hb2.alloc hz2 (Obj.cells #[.int .u64 (dig (numOf s) 0 : Int), .int .u64 (dig (numOf s) 1 : Int), .int .u64 (dig (numOf s) 2 : Int), .int .u64 (dig (numOf s) 3 : Int)] 76))
 clear hb2
 unfold limbV
 go_wp2_with fail
 generalize w2.alloc (Obj.cells #[.int .u64 (dig (numOf s) 0 : Int), .int .u64 (dig (numOf s) 1 : Int), .int .u64 (dig (numOf s) 2 : Int), .int .u64 (dig (numOf s) 3 : Int)] 76) = W3 at *
 have hG0 := HG0.out.up HB3.out
 have hgl := hG0.lt
 have hga := hG0.all OK.out
 have hn_ := Blk.l4 (numOf s) HN.out
 have hln := HN.out.lt
 have hne : ((s.size : Int) != (G.size : Int)) = false := by simp [HL.out]
 have hovg := fun (E : Over W3) o => E.cell (b := gb) o hgl
 have hovn := fun (E : Over W3) o => E.cell (b := w2.heap.size) o hln
 refine wp_region_over (by kernel_rfl) (by kernel_rfl) ?_
 iterate 14 (go_big_quiet_step (fail))
 refine wpQuiet_bin rfl .eql _ _ 76 _ rfl _ _ (.bool true) rfl rfl (fun _ => guardLimbs _ _ _ _ _ _) (fun _ => binLimbs (HEQ.out _)) ?_
 simp only [Act.put, List.setIfInBounds_toArray, List.set_cons_succ, List.set_cons_zero]
 repeat (go_big_quiet_step (first | (go_at_call 125; exact calls_over (cmp_is (numOf s) G.q.m (-1) HLT.out OK.out.q.lt4 HCI.out _))))
 refine wpQuiet_nil ?_
 rintro _ ⟨E, rfl⟩
 have HZ := Lib.hid ((HC.out.below HB3.out HC.out.lt).below E.h (by have := HB3.out.size; omega))
 have HBB := Lib.hid (below_up (below_up HBW.out HB3.out) E.h)
 clear hovg hovn
 generalize E.w = w3 at *
 have HS5 : Hid (Blk (((((w3).setCell ⟨w.heap.size, 0, none⟩ (.int .u64 0)).setCell ⟨w.heap.size, 1, none⟩ (.int .u64 0)).setCell ⟨w.heap.size, 2, none⟩ (.int .u64 0)).setCell ⟨w.heap.size, 3, none⟩ (.int .u64 0)) (w.heap.size) 164 [0, 0, 0, 0]) := (((HZ.out.set 0 0).set 1 0).set 2 0).set 3 0
 have HB5 : Hid (Below w.heap.size w (((((w3).setCell ⟨w.heap.size, 0, none⟩ (.int .u64 0)).setCell ⟨w.heap.size, 1, none⟩ (.int .u64 0)).setCell ⟨w.heap.size, 2, none⟩ (.int .u64 0)).setCell ⟨w.heap.size, 3, none⟩ (.int .u64 0))) := below_four HBB.out (by omega) _ _ _ _
 have hz_ := Blk.z4 HZ.out
 have hzf_ := HZ.out.frozen
 go_wp2_with fail
 generalize (((((w3).setCell ⟨w.heap.size, 0, none⟩ (.int .u64 0)).setCell ⟨w.heap.size, 1, none⟩ (.int .u64 0)).setCell ⟨w.heap.size, 2, none⟩ (.int .u64 0)).setCell ⟨w.heap.size, 3, none⟩ (.int .u64 0)) = w5 at *
 clear hz_
 have hg_ := Blk.z4 HS5.out
 simp [bodyPost, results, Try.results105, go_sem, hg_]
 exact HB5.out
theorem gElem_gt (G : GP) (ok : G.Ok) (gb : Nat) (s : ByteArray) (hl : s.size = G.size) (hc : G.q.m < numOf s) (w : World) (hG : GroupAt w gb G) :
  Calls Try.prog 105 #[.pointer (some ⟨gb, 0, none⟩), .string s] w fun e w' => e = .returned (.tuple #[limbV 0, .bool false]) ∧ Below w.heap.size w w' := by
 have e0 : limbV 0 = .agg #[.int .u64 0, .int .u64 0, .int .u64 0, .int .u64 0] := limbV_small 0 (by decide)
 rw [e0]
 clear e0
 have hs : s.size ≤ 32 := by have := ok.size_le; omega
 have hq := ok.odd
 have HLT := Lib.hid (numOf_lt s hs)
 have HCI : Hid (cmpI (numOf s) G.q.m = 1) := by show _ = _; unfold cmpI; rw [if_neg (by omega), if_pos (by omega)]
 have HEQ : Hid (∀ W, (Op.equalIn 10000 76 (.agg #[.int .u64 (dig (numOf s) 0 : Int), .int .u64 (dig (numOf s) 1 : Int), .int .u64 (dig (numOf s) 2 : Int), .int .u64 (dig (numOf s) 3 : Int)]) (.agg #[.int .u64 0, .int .u64 0, .int .u64 0, .int .u64 0])).run Try.prog W = .ok false W) :=
 fun W => eqZero (numOf s) (numOf_lt s hs) W false (by simp; omega)
 have HL := Lib.hid hl
 clear hl hc hq
 have OK := Lib.hid ok
 clear ok
 go_enter Try.func105, Try.ntmps105
 go_wp2_with fail
 obtain ⟨W0, hW0, hBW, hC⟩ := boxZ w 164
 rw [hW0]
 clear hW0
 have HG0 := Lib.hid (hG.up hBW)
 have HC := Lib.hid hC
 have HBW := Lib.hid hBW
 have hcl := hC.lt
 clear hG hC hBW
 refine (read_any s hs W0).mono ?_
 rintro e w2 ⟨rfl, hb2⟩
 have hz2 := hb2.size
 have HN : Hid (Blk (w2.alloc (Obj.cells #[.int .u64 (dig (numOf s) 0 : Int), .int .u64 (dig (numOf s) 1 : Int), .int .u64 (dig (numOf s) 2 : Int), .int .u64 (dig (numOf s) 3 : Int)] 76)) w2.heap.size 76 (lim (numOf s))) := Blk.new w2 _ _ _ rfl
 have HB3 := Lib.hid (hb2.alloc hz2 (Obj.cells #[.int .u64 (dig (numOf s) 0 : Int), .int .u64 (dig (numOf s) 1 : Int), .int .u64 (dig (numOf s) 2 : Int), .int .u64 (dig (numOf s) 3 : Int)] 76))
 clear hb2
 unfold limbV
 go_wp2_with fail
 generalize w2.alloc (Obj.cells #[.int .u64 (dig (numOf s) 0 : Int), .int .u64 (dig (numOf s) 1 : Int), .int .u64 (dig (numOf s) 2 : Int), .int .u64 (dig (numOf s) 3 : Int)] 76) = W3 at *
 have hG0 := HG0.out.up HB3.out
 have hgl := hG0.lt
 have hga := hG0.all OK.out
 have hn_ := Blk.l4 (numOf s) HN.out
 have hln := HN.out.lt
 have hne : ((s.size : Int) != (G.size : Int)) = false := by simp [HL.out]
 have hovg := fun (E : Over W3) o => E.cell (b := gb) o hgl
 have hovn := fun (E : Over W3) o => E.cell (b := w2.heap.size) o hln
 refine wp_region_over (by kernel_rfl) (by kernel_rfl) ?_
 iterate 14 (go_big_quiet_step (fail))
 refine wpQuiet_bin rfl .eql _ _ 76 _ rfl _ _ (.bool false) rfl rfl (fun _ => guardLimbs _ _ _ _ _ _) (fun _ => binLimbs (HEQ.out _)) ?_
 simp only [Act.put, List.setIfInBounds_toArray, List.set_cons_succ, List.set_cons_zero]
 repeat (go_big_quiet_step (first | (go_at_call 125; exact calls_over (cmp_is (numOf s) G.q.m (1) HLT.out OK.out.q.lt4 HCI.out _))))
 refine wpQuiet_nil ?_
 rintro _ ⟨E, rfl⟩
 have HZ := Lib.hid ((HC.out.below HB3.out HC.out.lt).below E.h (by have := HB3.out.size; omega))
 have HBB := Lib.hid (below_up (below_up HBW.out HB3.out) E.h)
 clear hovg hovn
 generalize E.w = w3 at *
 have HS5 : Hid (Blk (((((w3).setCell ⟨w.heap.size, 0, none⟩ (.int .u64 0)).setCell ⟨w.heap.size, 1, none⟩ (.int .u64 0)).setCell ⟨w.heap.size, 2, none⟩ (.int .u64 0)).setCell ⟨w.heap.size, 3, none⟩ (.int .u64 0)) (w.heap.size) 164 [0, 0, 0, 0]) := (((HZ.out.set 0 0).set 1 0).set 2 0).set 3 0
 have HB5 : Hid (Below w.heap.size w (((((w3).setCell ⟨w.heap.size, 0, none⟩ (.int .u64 0)).setCell ⟨w.heap.size, 1, none⟩ (.int .u64 0)).setCell ⟨w.heap.size, 2, none⟩ (.int .u64 0)).setCell ⟨w.heap.size, 3, none⟩ (.int .u64 0))) := below_four HBB.out (by omega) _ _ _ _
 have hz_ := Blk.z4 HZ.out
 have hzf_ := HZ.out.frozen
 go_wp2_with fail
 generalize (((((w3).setCell ⟨w.heap.size, 0, none⟩ (.int .u64 0)).setCell ⟨w.heap.size, 1, none⟩ (.int .u64 0)).setCell ⟨w.heap.size, 2, none⟩ (.int .u64 0)).setCell ⟨w.heap.size, 3, none⟩ (.int .u64 0)) = w5 at *
 clear hz_
 have hg_ := Blk.z4 HS5.out
 simp [bodyPost, results, Try.results105, go_sem, hg_]
 exact HB5.out
theorem gElem_lt (G : GP) (ok : G.Ok) (gb : Nat) (s : ByteArray) (hl : s.size = G.size) (h0 : 0 < numOf s) (hc : numOf s < G.q.m) (w : World) (hG : GroupAt w gb G) :
  Calls Try.prog 105 #[.pointer (some ⟨gb, 0, none⟩), .string s] w fun e w' => e = .returned (.tuple #[elV G (numOf s), .bool true]) ∧ Below w.heap.size w w' := by
 have hs : s.size ≤ 32 := by have := ok.size_le; omega
 have HLT := Lib.hid (numOf_lt s hs)
 have HCI : Hid (cmpI (numOf s) G.q.m = -1) := by show _ = _; unfold cmpI; rw [if_pos (by omega)]
 have HEQ : Hid (∀ W, (Op.equalIn 10000 76 (.agg #[.int .u64 (dig (numOf s) 0 : Int), .int .u64 (dig (numOf s) 1 : Int), .int .u64 (dig (numOf s) 2 : Int), .int .u64 (dig (numOf s) 3 : Int)]) (.agg #[.int .u64 0, .int .u64 0, .int .u64 0, .int .u64 0])).run Try.prog W = .ok false W) :=
 fun W => eqZero (numOf s) (numOf_lt s hs) W false (by simp; omega)
 have HL := Lib.hid hl
 clear hl hc h0
 unfold elV limbV
 have OK := Lib.hid ok
 clear ok
 go_enter Try.func105, Try.ntmps105
 go_wp2_with fail
 obtain ⟨W0, hW0, hBW, hC⟩ := boxZ w 164
 rw [hW0]
 clear hW0
 have HG0 := Lib.hid (hG.up hBW)
 have HC := Lib.hid hC
 have HBW := Lib.hid hBW
 have hcl := hC.lt
 clear hG hC hBW
 refine (read_any s hs W0).mono ?_
 rintro e w2 ⟨rfl, hb2⟩
 have hz2 := hb2.size
 have HN : Hid (Blk (w2.alloc (Obj.cells #[.int .u64 (dig (numOf s) 0 : Int), .int .u64 (dig (numOf s) 1 : Int), .int .u64 (dig (numOf s) 2 : Int), .int .u64 (dig (numOf s) 3 : Int)] 76)) w2.heap.size 76 (lim (numOf s))) := Blk.new w2 _ _ _ rfl
 have HB3 := Lib.hid (hb2.alloc hz2 (Obj.cells #[.int .u64 (dig (numOf s) 0 : Int), .int .u64 (dig (numOf s) 1 : Int), .int .u64 (dig (numOf s) 2 : Int), .int .u64 (dig (numOf s) 3 : Int)] 76))
 clear hb2
 unfold limbV
 go_wp2_with fail
 generalize w2.alloc (Obj.cells #[.int .u64 (dig (numOf s) 0 : Int), .int .u64 (dig (numOf s) 1 : Int), .int .u64 (dig (numOf s) 2 : Int), .int .u64 (dig (numOf s) 3 : Int)] 76) = W3 at *
 have hG0 := HG0.out.up HB3.out
 have hgl := hG0.lt
 have hga := hG0.all OK.out
 have hn_ := Blk.l4 (numOf s) HN.out
 have hln := HN.out.lt
 have hne : ((s.size : Int) != (G.size : Int)) = false := by simp [HL.out]
 have hovg := fun (E : Over W3) o => E.cell (b := gb) o hgl
 have hovn := fun (E : Over W3) o => E.cell (b := w2.heap.size) o hln
 refine wp_region_over (by kernel_rfl) (by kernel_rfl) ?_
 iterate 14 (go_big_quiet_step (fail))
 refine wpQuiet_bin rfl .eql _ _ 76 _ rfl _ _ (.bool false) rfl rfl (fun _ => guardLimbs _ _ _ _ _ _) (fun _ => binLimbs (HEQ.out _)) ?_
 simp only [Act.put, List.setIfInBounds_toArray, List.set_cons_succ, List.set_cons_zero]
 repeat (go_big_quiet_step (first | (go_at_call 125; exact calls_over (cmp_is (numOf s) G.q.m (-1) HLT.out OK.out.q.lt4 HCI.out _))))
 refine wpQuiet_nil ?_
 rintro _ ⟨E, rfl⟩
 have HC3 := Lib.hid ((HC.out.below HB3.out HC.out.lt).below E.h (by have := HB3.out.size; omega))
 have HB33 := Lib.hid (below_up (below_up HBW.out HB3.out) E.h)
 have HN3 := Lib.hid (HN.out.below E.h HN.out.lt)
 have hG3 := hG0.up E.h
 clear hovg hovn hG0 hn_ hln HC HBW HB3 HN
 generalize E.w = w3 at *
 have hn_ := Blk.l4 (numOf s) HN3.out
 have hln := HN3.out.lt
 go_wp2_with fail
 refine wp_region_otail 6 (by kernel_rfl) (by kernel_rfl) ?_
 simp only [List.take_succ_cons, List.take_zero, List.drop_succ_cons, List.drop_zero]
 have hovn := fun (E : Over w3) o => E.cell (b := w2.heap.size) o hln
 repeat (go_big_quiet_step (first | (go_at_call 126; exact calls_over (in_any G.p OK.out.p gb 2 (numOf s) HLT.out _ (hG3.up (Over.h _)).p))))
 all_goals (try unfold limbV)
 repeat (go_big_quiet_step (first | (go_at_call 126; exact calls_over (in_any G.p OK.out.p gb 2 (numOf s) HLT.out _ (hG3.up (Over.h _)).p))))
 all_goals (try unfold limbV)
 repeat (go_big_quiet_step (first | (go_at_call 126; exact calls_over (in_any G.p OK.out.p gb 2 (numOf s) HLT.out _ (hG3.up (Over.h _)).p))))
 refine wpQuiet_nil ?_
 rintro _ ⟨E, rfl⟩
 have HZ := Lib.hid (HC3.out.below E.h HC3.out.lt)
 have HBB := Lib.hid (below_up HB33.out E.h)
 clear hovn
 generalize E.w = w4 at *
 obtain ⟨w5, hq5, HB5, HS5⟩ := fillE HBB HZ (by omega) (mont G.p.m (numOf s))
 have hz_ := Blk.z4 HZ.out
 have hzf_ := HZ.out.frozen
 go_wp2_with fail
 clear hz_
 have hg_ := Blk.l4 (mont G.p.m (numOf s)) HS5.out
 simp [bodyPost, results, Try.results105, go_sem, hg_]
 exact HB5.out
theorem gElem_eq (G : GP) (ok : G.Ok) (gb : Nat) (s : ByteArray) (hl : s.size = G.size) (h0 : 0 < numOf s) (hc : numOf s = G.q.m) (w : World) (hG : GroupAt w gb G) :
  Calls Try.prog 105 #[.pointer (some ⟨gb, 0, none⟩), .string s] w fun e w' => e = .returned (.tuple #[elV G (numOf s), .bool true]) ∧ Below w.heap.size w w' := by
 have hs : s.size ≤ 32 := by have := ok.size_le; omega
 have HLT := Lib.hid (numOf_lt s hs)
 have HCI : Hid (cmpI (numOf s) G.q.m = 0) := by show _ = _; unfold cmpI; rw [if_neg (by omega), if_neg (by omega)]
 have HEQ : Hid (∀ W, (Op.equalIn 10000 76 (.agg #[.int .u64 (dig (numOf s) 0 : Int), .int .u64 (dig (numOf s) 1 : Int), .int .u64 (dig (numOf s) 2 : Int), .int .u64 (dig (numOf s) 3 : Int)]) (.agg #[.int .u64 0, .int .u64 0, .int .u64 0, .int .u64 0])).run Try.prog W = .ok false W) :=
 fun W => eqZero (numOf s) (numOf_lt s hs) W false (by simp; omega)
 have HL := Lib.hid hl
 clear hl hc h0
 unfold elV limbV
 have OK := Lib.hid ok
 clear ok
 go_enter Try.func105, Try.ntmps105
 go_wp2_with fail
 obtain ⟨W0, hW0, hBW, hC⟩ := boxZ w 164
 rw [hW0]
 clear hW0
 have HG0 := Lib.hid (hG.up hBW)
 have HC := Lib.hid hC
 have HBW := Lib.hid hBW
 have hcl := hC.lt
 clear hG hC hBW
 refine (read_any s hs W0).mono ?_
 rintro e w2 ⟨rfl, hb2⟩
 have hz2 := hb2.size
 have HN : Hid (Blk (w2.alloc (Obj.cells #[.int .u64 (dig (numOf s) 0 : Int), .int .u64 (dig (numOf s) 1 : Int), .int .u64 (dig (numOf s) 2 : Int), .int .u64 (dig (numOf s) 3 : Int)] 76)) w2.heap.size 76 (lim (numOf s))) := Blk.new w2 _ _ _ rfl
 have HB3 := Lib.hid (hb2.alloc hz2 (Obj.cells #[.int .u64 (dig (numOf s) 0 : Int), .int .u64 (dig (numOf s) 1 : Int), .int .u64 (dig (numOf s) 2 : Int), .int .u64 (dig (numOf s) 3 : Int)] 76))
 clear hb2
 unfold limbV
 go_wp2_with fail
 generalize w2.alloc (Obj.cells #[.int .u64 (dig (numOf s) 0 : Int), .int .u64 (dig (numOf s) 1 : Int), .int .u64 (dig (numOf s) 2 : Int), .int .u64 (dig (numOf s) 3 : Int)] 76) = W3 at *
 have hG0 := HG0.out.up HB3.out
 have hgl := hG0.lt
 have hga := hG0.all OK.out
 have hn_ := Blk.l4 (numOf s) HN.out
 have hln := HN.out.lt
 have hne : ((s.size : Int) != (G.size : Int)) = false := by simp [HL.out]
 have hovg := fun (E : Over W3) o => E.cell (b := gb) o hgl
 have hovn := fun (E : Over W3) o => E.cell (b := w2.heap.size) o hln
 refine wp_region_over (by kernel_rfl) (by kernel_rfl) ?_
 iterate 14 (go_big_quiet_step (fail))
 refine wpQuiet_bin rfl .eql _ _ 76 _ rfl _ _ (.bool false) rfl rfl (fun _ => guardLimbs _ _ _ _ _ _) (fun _ => binLimbs (HEQ.out _)) ?_
 simp only [Act.put, List.setIfInBounds_toArray, List.set_cons_succ, List.set_cons_zero]
 repeat (go_big_quiet_step (first | (go_at_call 125; exact calls_over (cmp_is (numOf s) G.q.m (0) HLT.out OK.out.q.lt4 HCI.out _))))
 refine wpQuiet_nil ?_
 rintro _ ⟨E, rfl⟩
 have HC3 := Lib.hid ((HC.out.below HB3.out HC.out.lt).below E.h (by have := HB3.out.size; omega))
 have HB33 := Lib.hid (below_up (below_up HBW.out HB3.out) E.h)
 have HN3 := Lib.hid (HN.out.below E.h HN.out.lt)
 have hG3 := hG0.up E.h
 clear hovg hovn hG0 hn_ hln HC HBW HB3 HN
 generalize E.w = w3 at *
 have hn_ := Blk.l4 (numOf s) HN3.out
 have hln := HN3.out.lt
 go_wp2_with fail
 refine wp_region_otail 6 (by kernel_rfl) (by kernel_rfl) ?_
 simp only [List.take_succ_cons, List.take_zero, List.drop_succ_cons, List.drop_zero]
 have hovn := fun (E : Over w3) o => E.cell (b := w2.heap.size) o hln
 repeat (go_big_quiet_step (first | (go_at_call 126; exact calls_over (in_any G.p OK.out.p gb 2 (numOf s) HLT.out _ (hG3.up (Over.h _)).p))))
 all_goals (try unfold limbV)
 repeat (go_big_quiet_step (first | (go_at_call 126; exact calls_over (in_any G.p OK.out.p gb 2 (numOf s) HLT.out _ (hG3.up (Over.h _)).p))))
 all_goals (try unfold limbV)
 repeat (go_big_quiet_step (first | (go_at_call 126; exact calls_over (in_any G.p OK.out.p gb 2 (numOf s) HLT.out _ (hG3.up (Over.h _)).p))))
 refine wpQuiet_nil ?_
 rintro _ ⟨E, rfl⟩
 have HZ := Lib.hid (HC3.out.below E.h HC3.out.lt)
 have HBB := Lib.hid (below_up HB33.out E.h)
 clear hovn
 generalize E.w = w4 at *
 obtain ⟨w5, hq5, HB5, HS5⟩ := fillE HBB HZ (by omega) (mont G.p.m (numOf s))
 have hz_ := Blk.z4 HZ.out
 have hzf_ := HZ.out.frozen
 go_wp2_with fail
 clear hz_
 have hg_ := Blk.l4 (mont G.p.m (numOf s)) HS5.out
 simp [bodyPost, results, Try.results105, go_sem, hg_]
 exact HB5.out
end Go.Proofs.Ytdlnnkbigeiilaa
namespace Go.Proofs.Ytdlnnkbigeiilaa
open Go.RowKit
theorem numL_snoc (c : UInt8) : ∀ l : List UInt8, numL (l ++ [c]) = numL l * 256 + c.toNat
 | [] => by simp [numL]
 | d :: t => by
  rw [List.cons_append, numL, numL, numL_snoc c t, List.length_append, List.length_singleton, Nat.pow_succ, Nat.add_mul, Nat.mul_assoc, Nat.add_assoc]
def numHead (s : ByteArray) (k : Nat) : Nat := numL (s.data.toList.take k)
theorem numHead_zero (s : ByteArray) : numHead s 0 = 0 := by simp [numHead, numL]
theorem numHead_all (s : ByteArray) : numHead s s.size = numOf s := by
 have : s.data.toList.take s.size = s.data.toList := List.take_of_length_le (Nat.le_refl _)
 simp only [numHead, this, numOf]
theorem numHead_succ (s : ByteArray) (k : Nat) (hk : k < s.size) : numHead s (k + 1) = numHead s k * 256 + s[k].toNat := by
 have h : s.data.toList.take (k + 1) = s.data.toList.take k ++ [s[k]] := by
  rw [List.take_succ_eq_append_getElem (by simpa using hk)]; rfl
 rw [numHead, h, numL_snoc, numHead]
theorem numL_bytes (a : Nat) : ∀ size, numL ((textL a size size).map fun n => UInt8.ofNat n.toNat) = a % 256 ^ size
 | 0 => by simp [textL, numL, Nat.mod_one]
 | size + 1 => by
  have e : textL a (size + 1) (size + 1) = (byteAt a size : Int) :: textL a size size := by
   unfold textL
   rw [List.range_succ_eq_map, List.map_cons, List.map_map]
   congr 1
   ·simp
   ·refine List.map_congr_left fun p hp => ?_
    have hp' : p < size := by simpa using hp
    simp only [Function.comp_apply]
    rw [if_pos (by omega), if_pos (by omega), show size + 1 - 1 - (p + 1) = size - 1 - p by omega]
  rw [e, List.map_cons, numL, numL_bytes a size, List.length_map, textL_length]
  have hb : (UInt8.ofNat ((byteAt a size : Nat) : Int).toNat).toNat = a / 256 ^ size % 256 := by
   rw [Int.toNat_natCast, UInt8.toNat_ofNat']
   unfold byteAt
   omega
  rw [hb, Nat.pow_succ, Nat.mod_mul, Nat.add_comm, Nat.mul_comm]
theorem numOf_textS (a size : Nat) : numOf (textS a size) = a % 256 ^ size := numL_bytes a size
theorem textS_size (a size : Nat) : (textS a size).size = size := by rw [textS, strOfNums_size, textL_length]
theorem scV_mod (G : GP) (x : Nat) : scV G (x % G.q.m) = scV G x := by unfold scV; rw [mont_mod]
theorem gByte_any (G : GP) (ok : G.Ok) (gb c : Nat) (hc : c < 256) (w : World) (hG : GroupAt w gb G) :
  Calls Try.prog 131 #[.pointer (some ⟨gb, 0, none⟩), .int .u8 (c : Int)] w fun e w' => e = .returned (scV G c) ∧ Below w.heap.size w w' := by
 have OK := Lib.hid ok
 clear ok
 unfold scV limbV
 go_enter Try.func131, Try.ntmps131
 go_wp2_with fail
 obtain ⟨W0, hW0, hBW, hC⟩ := boxZ w 78
 rw [hW0]
 clear hW0
 have hG0 := hG.up hBW
 have HC := Lib.hid hC
 have HBW := Lib.hid hBW
 clear hC hBW hG
 refine wp_region_otail 12 (by kernel_rfl) (by kernel_rfl) ?_
 simp only [List.take_succ_cons, List.take_zero, List.drop_succ_cons, List.drop_zero]
 repeat (go_big_quiet_step (first | (go_at_call 149; exact calls_over (onceSmall G.q OK.out.q gb 15 c hc OK.out.odd _ (hG0.up (Over.h _)).q)) | (go_at_call 126; exact calls_over (inSmall G.q OK.out.q gb 15 c (by simp only [BB]; omega) _ (hG0.up (Over.h _)).q))))
 all_goals (try unfold limbV)
 repeat (go_big_quiet_step (first | (go_at_call 149; exact calls_over (onceSmall G.q OK.out.q gb 15 c hc OK.out.odd _ (hG0.up (Over.h _)).q)) | (go_at_call 126; exact calls_over (inSmall G.q OK.out.q gb 15 c (by simp only [BB]; omega) _ (hG0.up (Over.h _)).q))))
 all_goals (try unfold limbV)
 repeat (go_big_quiet_step (first | (go_at_call 149; exact calls_over (onceSmall G.q OK.out.q gb 15 c hc OK.out.odd _ (hG0.up (Over.h _)).q)) | (go_at_call 126; exact calls_over (inSmall G.q OK.out.q gb 15 c (by simp only [BB]; omega) _ (hG0.up (Over.h _)).q))))
 refine wpQuiet_nil ?_
 rintro _ ⟨E, rfl⟩
 have HZ := Lib.hid (HC.out.below E.h HC.out.lt)
 have HBB := Lib.hid (below_up HBW.out E.h)
 generalize E.w = w3 at *
 obtain ⟨w5, hq5, HB5, HS5⟩ := fillE HBB HZ (by omega) (mont G.q.m c)
 have hz_ := Blk.z4 HZ.out
 have hzf_ := HZ.out.frozen
 go_wp2_with fail
 clear hz_
 have hg_ := Blk.l4 (mont G.q.m c) HS5.out
 simp [bodyPost, results, Try.results131, go_sem, hg_]
 exact HB5.out
theorem boxZZZ (w : World) (t0 t1 t2 : TypeId) : ∃ W, ((w.alloc (Obj.cells #[.int .u64 0, .int .u64 0, .int .u64 0, .int .u64 0] t0)).alloc (Obj.cells #[.int .u64 0, .int .u64 0, .int .u64 0, .int .u64 0] t1)).alloc (Obj.cells #[.int .u64 0, .int .u64 0, .int .u64 0, .int .u64 0] t2) = W ∧ Below w.heap.size w W ∧ Blk W w.heap.size t0 [0, 0, 0, 0] ∧ Blk W (w.heap.size + 1) t1 [0, 0, 0, 0] ∧ Blk W (w.heap.size + 2) t2 [0, 0, 0, 0] := by
 refine ⟨_, rfl, (((Below.refl _ _).alloc (Nat.le_refl _) _).alloc (by simp) _).alloc (by simp; omega) _, ?_, ?_, ?_⟩
 ·have h := (((Blk.new w t0 [0, 0, 0, 0] _ rfl).alloc (Obj.cells #[.int .u64 0, .int .u64 0, .int .u64 0, .int .u64 0] t1)).alloc (Obj.cells #[.int .u64 0, .int .u64 0, .int .u64 0, .int .u64 0] t2))
  exact h
 ·have h := ((Blk.new (w.alloc (Obj.cells #[.int .u64 0, .int .u64 0, .int .u64 0, .int .u64 0] t0)) t1 [0, 0, 0, 0] _ rfl).alloc (Obj.cells #[.int .u64 0, .int .u64 0, .int .u64 0, .int .u64 0] t2))
  rw [World.size_alloc] at h
  exact h
 ·have h := (Blk.new ((w.alloc (Obj.cells #[.int .u64 0, .int .u64 0, .int .u64 0, .int .u64 0] t0)).alloc (Obj.cells #[.int .u64 0, .int .u64 0, .int .u64 0, .int .u64 0] t1)) t2 [0, 0, 0, 0] _ rfl)
  rw [World.size_alloc, World.size_alloc] at h
  exact h
theorem Blk.fillOther {W : World} {b c : Nat} {t : TypeId} {xs : List Int} (h : Blk W b t xs) (hne : b ≠ c) (n : Nat) : Blk (((((W).setCell ⟨c, 0, none⟩ (.int .u64 (dig (n) 0 : Int))).setCell ⟨c, 1, none⟩ (.int .u64 (dig (n) 1 : Int))).setCell ⟨c, 2, none⟩ (.int .u64 (dig (n) 2 : Int))).setCell ⟨c, 3, none⟩ (.int .u64 (dig (n) 3 : Int))) b t xs :=
 (((h.other hne _ _).other hne _ _).other hne _ _).other hne _ _
theorem gReduce_any (G : GP) (ok : G.Ok) (gb : Nat) (s : ByteArray) (hs : s.size ≤ maxLen) (w : World) (hG : GroupAt w gb G) :
  Calls Try.prog 88 #[.pointer (some ⟨gb, 0, none⟩), .string s] w fun e w' => e = .returned (scV G (numOf s)) ∧ Below w.heap.size w w' := by
 unfold maxLen at hs
 have OK := Lib.hid ok
 clear ok
 unfold scV limbV
 go_enter Try.func88, Try.ntmps88
 go_wp2_with fail
 obtain ⟨W0, hW0, hBW, hC, hO, hS⟩ := boxZZZ w 78 78 78
 rw [hW0]
 clear hW0
 have HG := Lib.hid hG
 have HC := Lib.hid hC
 have HO := Lib.hid hO
 have HS := Lib.hid hS
 have HBW := Lib.hid hBW
 clear hG hC hO hS hBW
 refine (inSmall G.q OK.out.q gb 15 256 (by decide) W0 (HG.out.below HBW.out HG.out.lt).q).mono ?_
 rintro e w2 ⟨rfl, hb2⟩
 have HS2 := Lib.hid (HS.out.below hb2 HS.out.lt)
 have HB2 := Lib.hid (below_up HBW.out hb2)
 have HO3 : Hid (Blk (((((w2).setCell ⟨w.heap.size + 2, 0, none⟩ (.int .u64 (dig (mont G.q.m 256) 0 : Int))).setCell ⟨w.heap.size + 2, 1, none⟩ (.int .u64 (dig (mont G.q.m 256) 1 : Int))).setCell ⟨w.heap.size + 2, 2, none⟩ (.int .u64 (dig (mont G.q.m 256) 2 : Int))).setCell ⟨w.heap.size + 2, 3, none⟩ (.int .u64 (dig (mont G.q.m 256) 3 : Int))) (w.heap.size + 1) 78 (lim (mont G.q.m (numHead s 0)))) := by
  rw [numHead_zero, mont_zero]
  exact (HO.out.below hb2 HO.out.lt).fillOther (by omega) _
 have HC3 : Hid (Blk (((((w2).setCell ⟨w.heap.size + 2, 0, none⟩ (.int .u64 (dig (mont G.q.m 256) 0 : Int))).setCell ⟨w.heap.size + 2, 1, none⟩ (.int .u64 (dig (mont G.q.m 256) 1 : Int))).setCell ⟨w.heap.size + 2, 2, none⟩ (.int .u64 (dig (mont G.q.m 256) 2 : Int))).setCell ⟨w.heap.size + 2, 3, none⟩ (.int .u64 (dig (mont G.q.m 256) 3 : Int))) w.heap.size 78 [0, 0, 0, 0]) := (HC.out.below hb2 HC.out.lt).fillOther (by omega) _
 clear hb2 HO HS HC HBW
 unfold limbV
 have HS3 := Lib.hid (HS2.out.fill rfl (mont G.q.m 256))
 have HB3 := Lib.hid (below_fill (n := mont G.q.m 256) (b := w.heap.size + 2) HB2.out (by omega))
 have hz_ := Blk.z4 HS2.out
 have hzf_ := HS2.out.frozen
 go_wp2_with fail
 generalize (((((w2).setCell ⟨w.heap.size + 1 + 1, 0, none⟩ (.int .u64 (dig (mont G.q.m 256) 0 : Int))).setCell ⟨w.heap.size + 1 + 1, 1, none⟩ (.int .u64 (dig (mont G.q.m 256) 1 : Int))).setCell ⟨w.heap.size + 1 + 1, 2, none⟩ (.int .u64 (dig (mont G.q.m 256) 2 : Int))).setCell ⟨w.heap.size + 1 + 1, 3, none⟩ (.int .u64 (dig (mont G.q.m 256) 3 : Int))) = W3 at *
 clear hz_ hzf_ HS2 HB2
 go_loopw [7, 16] (fun _ i wr => ∃ k : Nat, k ≤ s.size ∧ i = .int .i64 k ∧ Hid (Blk wr (w.heap.size + 1) 78 (lim (mont G.q.m (numHead s k)))) ∧ Hid (Blk wr (w.heap.size + 2) 78 (lim (mont G.q.m 256))) ∧ Hid (Blk wr w.heap.size 78 [0, 0, 0, 0]) ∧ Hid (Below w.heap.size w wr)) (fun _ i _ => s.size - (intOf i).toNat)
 case atStart => exact ⟨0, Nat.zero_le _, rfl, HO3.out, HS3.out, HC3.out, HB3.out⟩
 case round =>
  clear HO3 HS3 HC3 HB3
  obtain ⟨k, hk, rfl, HO, HS, HC, HB⟩ := hrel
  have ho_ := Blk.l4 (mont G.q.m (numHead s k)) HO.out
  have hlo := HO.out.lt
  by_cases hkl : k < s.size
  ·have hs_ := Blk.l4 (mont G.q.m 256) HS.out
   have hls := HS.out.lt
   have hG0 := HG.out.below HB.out HG.out.lt
   have hc256 := (s[k]'hkl).toNat_lt
   go_wp2_with fail
   refine wp_region_otail 11 (by kernel_rfl) (by kernel_rfl) ?_
   simp only [List.take_succ_cons, List.take_zero, List.drop_succ_cons, List.drop_zero]
   have hov0 := fun (E : Over wr) o => E.cell (b := w.heap.size + 1) o hlo
   have hov1 := fun (E : Over wr) o => E.cell (b := w.heap.size + 2) o hls
   repeat (go_big_quiet_step (first | (go_at_call 123; exact calls_over (gMul_any G OK.out gb (numHead s k) 256 _ (hG0.up (Over.h _)))) | (go_at_call 131; exact calls_over (gByte_any G OK.out gb (s[k]'hkl).toNat hc256 _ (hG0.up (Over.h _)))) | (go_at_call 75; exact calls_over (gAdd_any G OK.out gb (numHead s k * 256) (s[k]'hkl).toNat _ (hG0.up (Over.h _))))))
   all_goals (try unfold limbV)
   repeat (go_big_quiet_step (first | (go_at_call 123; exact calls_over (gMul_any G OK.out gb (numHead s k) 256 _ (hG0.up (Over.h _)))) | (go_at_call 131; exact calls_over (gByte_any G OK.out gb (s[k]'hkl).toNat hc256 _ (hG0.up (Over.h _)))) | (go_at_call 75; exact calls_over (gAdd_any G OK.out gb (numHead s k * 256) (s[k]'hkl).toNat _ (hG0.up (Over.h _))))))
   all_goals (try unfold limbV)
   repeat (go_big_quiet_step (first | (go_at_call 123; exact calls_over (gMul_any G OK.out gb (numHead s k) 256 _ (hG0.up (Over.h _)))) | (go_at_call 131; exact calls_over (gByte_any G OK.out gb (s[k]'hkl).toNat hc256 _ (hG0.up (Over.h _)))) | (go_at_call 75; exact calls_over (gAdd_any G OK.out gb (numHead s k * 256) (s[k]'hkl).toNat _ (hG0.up (Over.h _))))))
   refine wpQuiet_nil ?_
   rintro _ ⟨E, rfl⟩
   have HO2 := Lib.hid (HO.out.below E.h HO.out.lt)
   have HS2 := Lib.hid (HS.out.below E.h HS.out.lt)
   have HC2 := Lib.hid (HC.out.below E.h HC.out.lt)
   have HB2 := Lib.hid (HB.out.trans (E.h.mono HB.out.size))
   clear hov0 hov1 ho_ hs_ hG0
   generalize E.w = w3 at *
   rw [← numHead_succ s k hkl]
   unfold scV limbV
   have ho_ := Blk.l4 (mont G.q.m (numHead s k)) HO2.out
   have hof_ := HO2.out.frozen
   have HO4 := Lib.hid (HO2.out.fill rfl (mont G.q.m (numHead s (k + 1))))
   have HS4 := Lib.hid (HS2.out.fillOther (c := w.heap.size + 1) (by omega) (mont G.q.m (numHead s (k + 1))))
   have HC4 := Lib.hid (HC2.out.fillOther (c := w.heap.size + 1) (by omega) (mont G.q.m (numHead s (k + 1))))
   have HB4 := Lib.hid (below_fill (n := mont G.q.m (numHead s (k + 1))) (b := w.heap.size + 1) HB2.out (by omega))
   go_wp2_with fail
   go_roundw
   case rel => exact ⟨k + 1, by omega, by go_num, HO4.out, HS4.out, HC4.out, HB4.out⟩
   case measure => simp [intOf]; omega
  ·have hks : k = s.size := by omega
   subst hks
   rw [numHead_all] at ho_
   have HZ := HC
   have HBB := HB
   obtain ⟨w5, hq5, HB5, HS5⟩ := fillE HBB HZ (by omega) (mont G.q.m (numOf s))
   have hz_ := Blk.z4 HZ.out
   have hzf_ := HZ.out.frozen
   go_wp2_with fail
   clear hz_
   have hg_ := Blk.l4 (mont G.q.m (numOf s)) HS5.out
   simp [bodyPost, results, Try.results88, go_sem, hg_]
   exact HB5.out
end Go.Proofs.Ytdlnnkbigeiilaa
namespace Go.Proofs.Ytdlnnkbigeiilaa
open Go.RowKit
theorem zeroLimbs (w : World) : (zeroValue 76).run Try.prog w = .ok (.agg #[.int .u64 0, .int .u64 0, .int .u64 0, .int .u64 0]) w := by kernel_rfl
theorem allocLimbs (ρ : Operand → Value) (o : Oper) (ho : o.op = .alloc 76) (w : World) : (execOp ρ o).run Try.prog w = .ok (.value (.pointer (some ⟨w.heap.size, 0, none⟩))) (w.alloc (Obj.cells #[.int .u64 0, .int .u64 0, .int .u64 0, .int .u64 0] 76)) := by
 unfold execOp
 rw [ho]
 simp only [Instr.alloc, Sem.run_bind, zeroLimbs, Result.andThen_ok]
 rfl
theorem newLimbs (W0 : World) : Blk (W0.alloc (Obj.cells #[.int .u64 0, .int .u64 0, .int .u64 0, .int .u64 0] 76)).drew W0.heap.size 76 [0, 0, 0, 0] := Blk.new W0 _ [0, 0, 0, 0] _ rfl
def lowN (G : GP) (y : Nat) : Nat := if G.q.m < y % G.p.m then G.p.m - y % G.p.m else y % G.p.m
theorem minusLow (a b : Nat) (ha : a < BB ^ 4) (h : b ≤ a) (w : World) : Calls Try.prog 140 #[limbV a, limbV b] w fun e w' => e = .returned (.tuple #[limbV (a - b), .int .u64 0]) ∧ Below w.heap.size w w' := by
 have h1 := minus_any a b (by omega) w
 rw [sub256_ok a b ha h, under_four a b ha (by omega), if_neg (by omega)] at h1
 exact h1
theorem gText_any (G : GP) (ok : G.Ok) (gb y : Nat) (w : World) (hG : GroupAt w gb G) :
  Calls Try.prog 103 #[.pointer (some ⟨gb, 0, none⟩), elV G y] w fun e w' => e = .returned (.string (textS (lowN G y) G.size)) ∧ Below w.heap.size w w' := by
 have OK := Lib.hid ok
 clear ok
 have HGW := Lib.hid hG.lt
 obtain ⟨N, hN⟩ : ∃ N, y % G.p.m = N := ⟨_, rfl⟩
 have HLOW : Hid (lowN G y = if G.q.m < N then G.p.m - N else N) := by show _ = _; unfold lowN; rw [hN]
 have hNp : N < G.p.m := by rw [← hN]; exact Nat.mod_lt _ OK.out.p.pos
 have HN := Lib.hid hN
 have HNP := Lib.hid hNp
 clear hN hNp
 unfold elV limbV
 go_enter Try.func103, Try.ntmps103
 go_wp2_with fail
 obtain ⟨W0, hW0, hBW, hX⟩ := boxL w 164 (mont G.p.m y)
 rw [hW0]
 clear hW0
 have hG0 := hG.up hBW
 have hx_ := Blk.l4 (mont G.p.m y) hX
 have hlx := hX.lt
 have HBW := Lib.hid hBW
 clear hX hBW hG
 go_cut [5] from 6 to 11 (fun v w2 => ∃ b, v = .pointer (some ⟨b, 0, none⟩) ∧ Hid (W0.heap.size ≤ b) ∧ Hid (Blk w2 b 76 (lim N)) ∧ Hid (Below W0.heap.size W0 w2))
 case first =>
  refine wp_region_tree (fun w' => ∃ E : Over W0, w' = E.w) (.qs [0, 1, 2, 3, 4] (.two 5 (.a 6 (.a 7 .done)) 6 (.a 5 (.a 7 .done)))) (by kernel_rfl) (by kernel_rfl) (fun _ _ d _ _ h => by cases d <;> exact h) ?_ ?_
  ·exact ⟨⟨_, (Below.refl _ _).drew⟩, rfl⟩
  have hov := fun (E : Over W0) o => E.cell (b := w.heap.size) o (by omega)
  simp only [Tree.qs]
  repeat (refine tree_q rfl rfl ?_; go_big_quiet_step (fail); refine wpQuiet_nil ?_)
  refine tree_two rfl rfl ?call ?alloc
  case call =>
   intro K hK
   go_simp
   refine (outM G.p OK.out.p gb 2 y _ (hG0.up (Below.refl _ _).drew).p).mono ?_
   rintro e w2 ⟨rfl, hb2⟩
   rw [HN.out]
   unfold limbV
   have hb2' : Below W0.heap.size W0 w2 := (Below.refl _ _).drew.trans hb2
   have HB2 := Lib.hid hb2'
   refine hK _ _ ⟨⟨⟨w2, hb2'⟩, rfl⟩, ?_⟩
   clear hK K hb2 hb2'
   refine tree_a rfl (fun K hK => ?_)
   go_simp
   refine hK _ _ ⟨⟨⟨_, HB2.out.alloc HB2.out.size _⟩, rfl⟩, ?_⟩
   clear hK K
   refine tree_a rfl (fun K hK => ?_)
   go_simp
   refine hK _ _ ⟨⟨⟨_, HB2.out.alloc HB2.out.size _⟩, rfl⟩, ?_⟩
   clear hK K
   refine tree_end ?_
   go_wp2_with fail
   go_meet
   case rel => exact ⟨_, rfl, HB2.out.size, Blk.new w2 _ _ _ rfl, HB2.out.alloc HB2.out.size _⟩
  case alloc =>
   intro K hK
   refine if_wanted rfl ?_
   refine oper_value (allocLimbs _ _ rfl _) ?_
   simp only [Act.put, List.setIfInBounds_toArray, List.set_cons_succ, List.set_cons_zero]
   have hal : Below W0.heap.size W0 (W0.alloc (Obj.cells #[.int .u64 0, .int .u64 0, .int .u64 0, .int .u64 0] 76)).drew := ((Below.refl _ _).alloc (Nat.le_refl _) _).drew
   have hnew := newLimbs W0
   refine hK _ _ ⟨⟨⟨_, hal⟩, rfl⟩, ?_⟩
   clear hK K
   refine tree_a rfl (fun K hK => ?_)
   go_simp
   refine (outM G.p OK.out.p gb 2 y _ (hG0.up hal).p).mono ?_
   rintro e w2 ⟨rfl, hb2⟩
   rw [HN.out]
   unfold limbV
   have HB2 := Lib.hid (below_up hal hb2)
   have HN2 := Lib.hid (hnew.below hb2 hnew.lt)
   refine hK _ _ ⟨⟨⟨w2, HB2.out⟩, rfl⟩, ?_⟩
   clear hK K hb2 hal hnew
   refine tree_a rfl (fun K hK => ?_)
   have hy_ := Blk.z4 HN2.out
   have hyf_ := HN2.out.frozen
   go_simp
   have h4 := Lib.hid (below_fill (n := N) HB2.out (Nat.le_refl W0.heap.size))
   refine hK _ _ ⟨⟨⟨_, h4.out⟩, rfl⟩, ?_⟩
   clear hK K
   refine tree_end ?_
   have HF := Lib.hid (HN2.out.fill rfl N)
   go_wp2_with fail
   go_meet
   case rel => exact ⟨_, rfl, Nat.le_refl _, HF.out, h4.out⟩
 case rest =>
  obtain ⟨b, rfl, HB, HNB, HBC⟩ := hcut
  have hb := HB.out
  have hwb := HBW.out.size
  have hbl := HNB.out.lt
  have hG1 := hG0.up HBC.out
  have HBW1 := Lib.hid (below_up HBW.out HBC.out)
  clear hG0 hx_ hlx HB
  have hgl := hG1.lt
  have hga := hG1.ms
  have hn_ := Blk.l4 (N) HNB.out
  by_cases hlow : G.q.m < N
  ·have HCI : Hid (cmpI N G.q.m = 1) := by show _ = _; unfold cmpI; rw [if_neg (by omega), if_pos hlow]
   have HL2 : Hid (lowN G y = G.p.m - N) := by show _ = _; rw [HLOW.out, if_pos hlow]
   clear hlow
   go_wp2_with fail
   have hovg := fun (E : Over wc) o => E.cell (b := gb) o hgl
   have hovn := fun (E : Over wc) o => E.cell (b := b) o hbl
   refine wp_region_over (by kernel_rfl) (by kernel_rfl) ?_
   repeat (go_big_quiet_step (first | (go_at_call 125; exact calls_over (cmp_is N G.q.m 1 (Nat.lt_trans HNP.out OK.out.p.lt4) OK.out.q.lt4 HCI.out _))))
   refine wpQuiet_nil ?_
   rintro _ ⟨E, rfl⟩
   have hG2 := hG1.up E.h
   have HNB2 := Lib.hid (HNB.out.below E.h hbl)
   have HBW2 := Lib.hid (below_up HBW1.out E.h)
   clear hovg hovn hn_ hbl hgl hga hG1 HNB HBW1
   obtain ⟨w2, hw2⟩ : ∃ W9 : World, E.w = W9 := ⟨_, rfl⟩
   rw [hw2] at hG2 HNB2 HBW2 ⊢
   clear hw2 E
   have hgl := hG2.lt
   have hga := hG2.ms
   have hn_ := Blk.l4 (N) HNB2.out
   have hbl := HNB2.out.lt
   go_wp2_with fail
   refine wp_region_otree 6 (.a 6 (.qs [7, 8, 9] (.a 10 .done))) (by kernel_rfl) (by kernel_rfl) (fun _ _ d _ _ h => by cases d <;> exact h) ?_
   simp only [List.take_succ_cons, List.take_zero]
   have hovg := fun (E : Over w2) o => E.cell (b := gb) o hgl
   have hovn := fun (E : Over w2) o => E.cell (b := b) o hbl
   repeat (go_big_quiet_step (fail))
   refine wpQuiet_nil ?_
   rintro _ ⟨E, rfl⟩
   have hG3 := hG2.up E.h
   have HNB3 := Lib.hid (HNB2.out.below E.h hbl)
   have HBW3 := Lib.hid (below_up HBW2.out E.h)
   clear hovg hovn hn_ hbl hgl hga hG2 HNB2 HBW2
   obtain ⟨w3, hw3⟩ : ∃ W9 : World, E.w = W9 := ⟨_, rfl⟩
   rw [hw3] at hG3 HNB3 HBW3 ⊢
   clear hw3 E
   refine tree_a rfl (fun K hK => ?_)
   go_simp
   refine (minusLow G.p.m N OK.out.p.lt4 (Nat.le_of_lt HNP.out) _).mono ?_
   rintro e w4 ⟨rfl, hb4⟩
   have hG4 := hG3.up hb4
   have HNB4 := Lib.hid (HNB3.out.below hb4 HNB3.out.lt)
   have HBW4 := Lib.hid (below_up HBW3.out hb4)
   clear hG3 HNB3 HBW3 hb4
   unfold limbV
   refine hK _ _ ⟨trivial, ?_⟩
   clear hK K
   simp only [Tree.qs]
   repeat (refine tree_q rfl rfl ?_; go_big_quiet_step (fail); refine wpQuiet_nil ?_)
   have hn_ := Blk.l4 (N) HNB4.out
   have hnf_ := HNB4.out.frozen
   refine tree_a rfl (fun K hK => ?_)
   go_simp
   refine hK _ _ ⟨trivial, ?_⟩
   clear hK K
   refine tree_end ?_
   have HS5 := Lib.hid (HNB4.out.fill rfl (G.p.m - N))
   have HB5 := Lib.hid (below_fill (n := G.p.m - N) (b := b) HBW4.out (by omega))
   have hG5 := hG4.below (below_four (o := 0) (Below.refl w.heap.size w4) (show w.heap.size ≤ b by omega) (.int .u64 (dig (G.p.m - N) 0 : Int)) (.int .u64 (dig (G.p.m - N) 1 : Int)) (.int .u64 (dig (G.p.m - N) 2 : Int)) (.int .u64 (dig (G.p.m - N) 3 : Int))) HGW.out
   obtain ⟨w5, hw5⟩ : ∃ W9 : World, (((((w4).setCell ⟨b, 0, none⟩ (.int .u64 (dig (G.p.m - N) 0 : Int))).setCell ⟨b, 1, none⟩ (.int .u64 (dig (G.p.m - N) 1 : Int))).setCell ⟨b, 2, none⟩ (.int .u64 (dig (G.p.m - N) 2 : Int))).setCell ⟨b, 3, none⟩ (.int .u64 (dig (G.p.m - N) 3 : Int))) = W9 := ⟨_, rfl⟩
   clear hn_ hnf_ HNB4 HBW4 hG4
   rw [hw5] at HS5 HB5 ⊢
   have hG6 : GroupAt w5 gb G := by rw [← hw5]; exact hG5
   clear hw5 hG5
   go_wp2_with fail
   have hgl4 := hG6.lt
   have hgs4 := hG6.size
   have hm_ := Blk.l4 (G.p.m - N) HS5.out
   have hml := HS5.out.lt
   refine wp_region_over (by kernel_rfl) (by kernel_rfl) ?_
   have hovg4 := fun (E : Over w5) o => E.cell (b := gb) o hgl4
   have hovn4 := fun (E : Over w5) o => E.cell (b := b) o hml
   repeat (go_big_quiet_step (first | (go_at_call 87; exact calls_over (text_any (G.p.m - N) G.size OK.out.size_le _))))
   refine wpQuiet_nil ?_
   rintro _ ⟨E, rfl⟩
   have HB9 := Lib.hid (below_up HB5.out E.h)
   clear hovg4 hovn4 hm_
   obtain ⟨w9, hw9⟩ : ∃ W9 : World, E.w = W9 := ⟨_, rfl⟩
   rw [hw9] at HB9 ⊢
   clear hw9 E
   go_wp2_with fail
   go_ret
   exact ⟨by rw [HL2.out]; rfl, HB9.out⟩
  ·have HL2 : Hid (lowN G y = N) := by show _ = _; rw [HLOW.out, if_neg hlow]
   by_cases heq : N = G.q.m
   ·have HCI : Hid (cmpI N G.q.m = 0) := by show _ = _; unfold cmpI; rw [if_neg (by omega), if_neg (by omega)]
    clear hlow heq
    go_wp2_with fail
    have hovg := fun (E : Over wc) o => E.cell (b := gb) o hgl
    have hovn := fun (E : Over wc) o => E.cell (b := b) o hbl
    refine wp_region_over (by kernel_rfl) (by kernel_rfl) ?_
    repeat (go_big_quiet_step (first | (go_at_call 125; exact calls_over (cmp_is N G.q.m 0 (Nat.lt_trans HNP.out OK.out.p.lt4) OK.out.q.lt4 HCI.out _))))
    refine wpQuiet_nil ?_
    rintro _ ⟨E, rfl⟩
    have hG2 := hG1.up E.h
    have HNB2 := Lib.hid (HNB.out.below E.h hbl)
    have HBW2 := Lib.hid (below_up HBW1.out E.h)
    clear hovg hovn hn_ hbl hgl hga hG1 HNB HBW1
    obtain ⟨w2, hw2⟩ : ∃ W9 : World, E.w = W9 := ⟨_, rfl⟩
    rw [hw2] at hG2 HNB2 HBW2 ⊢
    clear hw2 E
    go_wp2_with fail
    have hgl4 := hG2.lt
    have hgs4 := hG2.size
    have hm_ := Blk.l4 (N) HNB2.out
    have hml := HNB2.out.lt
    refine wp_region_over (by kernel_rfl) (by kernel_rfl) ?_
    have hovg4 := fun (E : Over w2) o => E.cell (b := gb) o hgl4
    have hovn4 := fun (E : Over w2) o => E.cell (b := b) o hml
    repeat (go_big_quiet_step (first | (go_at_call 87; exact calls_over (text_any (N) G.size OK.out.size_le _))))
    refine wpQuiet_nil ?_
    rintro _ ⟨E, rfl⟩
    have HB9 := Lib.hid (below_up HBW2.out E.h)
    clear hovg4 hovn4 hm_
    obtain ⟨w9, hw9⟩ : ∃ W9 : World, E.w = W9 := ⟨_, rfl⟩
    rw [hw9] at HB9 ⊢
    clear hw9 E
    go_wp2_with fail
    go_ret
    exact ⟨by rw [HL2.out]; rfl, HB9.out⟩
   ·have HCI : Hid (cmpI N G.q.m = -1) := by show _ = _; unfold cmpI; rw [if_pos (by omega)]
    clear hlow heq
    go_wp2_with fail
    have hovg := fun (E : Over wc) o => E.cell (b := gb) o hgl
    have hovn := fun (E : Over wc) o => E.cell (b := b) o hbl
    refine wp_region_over (by kernel_rfl) (by kernel_rfl) ?_
    repeat (go_big_quiet_step (first | (go_at_call 125; exact calls_over (cmp_is N G.q.m (-1) (Nat.lt_trans HNP.out OK.out.p.lt4) OK.out.q.lt4 HCI.out _))))
    refine wpQuiet_nil ?_
    rintro _ ⟨E, rfl⟩
    have hG2 := hG1.up E.h
    have HNB2 := Lib.hid (HNB.out.below E.h hbl)
    have HBW2 := Lib.hid (below_up HBW1.out E.h)
    clear hovg hovn hn_ hbl hgl hga hG1 HNB HBW1
    obtain ⟨w2, hw2⟩ : ∃ W9 : World, E.w = W9 := ⟨_, rfl⟩
    rw [hw2] at hG2 HNB2 HBW2 ⊢
    clear hw2 E
    go_wp2_with fail
    have hgl4 := hG2.lt
    have hgs4 := hG2.size
    have hm_ := Blk.l4 (N) HNB2.out
    have hml := HNB2.out.lt
    refine wp_region_over (by kernel_rfl) (by kernel_rfl) ?_
    have hovg4 := fun (E : Over w2) o => E.cell (b := gb) o hgl4
    have hovn4 := fun (E : Over w2) o => E.cell (b := b) o hml
    repeat (go_big_quiet_step (first | (go_at_call 87; exact calls_over (text_any (N) G.size OK.out.size_le _))))
    refine wpQuiet_nil ?_
    rintro _ ⟨E, rfl⟩
    have HB9 := Lib.hid (below_up HBW2.out E.h)
    clear hovg4 hovn4 hm_
    obtain ⟨w9, hw9⟩ : ∃ W9 : World, E.w = W9 := ⟨_, rfl⟩
    rw [hw9] at HB9 ⊢
    clear hw9 E
    go_wp2_with fail
    go_ret
    exact ⟨by rw [HL2.out]; rfl, HB9.out⟩
end Go.Proofs.Ytdlnnkbigeiilaa
namespace Go.Proofs.Ytdlnnkbigeiilaa
open Go.RowKit
def of4 (a b c d : Nat) : Nat := a + BB * b + BB ^ 2 * c + BB ^ 3 * d
def grp : Nat → GP
 | 1 => ⟨1, 2, ⟨1283, 1100, 131, 690135397925220949⟩, ⟨641, 1, 1, 28778071877862015⟩⟩
 | 2 => ⟨2, 8, ⟨1152930863340584963, 576503707391577365, 1074843801509405873, 2177741659672237397⟩, ⟨576465431670292481, 354135386165974715, 178479071281353849, 14411523486952456191⟩⟩
 | _ => ⟨3, 32, ⟨of4 0x3 0x0 0x237f 0x2000000000000000, of4 0xffffffffffffffeb 0xffffffffffffffff 0xffffffffffff0786 0x1fffffffffffffff, of4 0xffffffe27829fc43 0xffffffffffffffff 0xfffea297c8e063fe 0x1fffffffffffffff, 0x5555555555555555⟩,
   ⟨of4 0x1 0x8000000000000000 0x11bf 0x1000000000000000, of4 0xfffffffffffffff1 0x7fffffffffffffff 0xfffffffffffef5c7 0xfffffffffffffff, of4 0xffffffec501bfd01 0x7fffffffffffffff 0xfffea297c8ce92bf 0xfffffffffffffff, 0xffffffffffffffff⟩⟩
theorem grp_ok (k : Nat) (h1 : 1 ≤ k) (h3 : k ≤ 3) : (grp k).Ok := by
 obtain rfl | rfl | rfl : k = 1 ∨ k = 2 ∨ k = 3 := by omega
 all_goals exact ⟨⟨by decide, by decide, by decide, by decide, by decide, by decide⟩, ⟨by decide, by decide, by decide, by decide, by decide, by decide⟩, by decide, by decide, by decide, by decide⟩
def GP.cells (G : GP) : List Value := .int .i64 G.kind :: .int .i64 G.size :: (G.p.cells ++ G.q.cells).map (Value.int .u64)
theorem cells_length (R : RingP) : R.cells.length = 13 := rfl
theorem groupAt_of {W : World} {b : Nat} {t : TypeId} {G : GP} (h : W.heap[b]? = some (.cells G.cells.toArray t (0, 0))) : GroupAt W b G := by
 have hc : ∀ i v, G.cells[i]? = some v → W.cell? ⟨b, i, none⟩ = some v := fun i v hv => by
  simp only [World.cell?, h]
  simpa using hv
 refine ⟨(Array.getElem?_eq_some_iff.1 h).1, hc 0 _ rfl, hc 1 _ rfl, ⟨(Array.getElem?_eq_some_iff.1 h).1, fun i x hx => hc (2 + i) _ ?_⟩, ⟨(Array.getElem?_eq_some_iff.1 h).1, fun i x hx => hc (15 + i) _ ?_⟩⟩
 ·rw [show 2 + i = i + 1 + 1 by omega]
  simp only [GP.cells, List.getElem?_cons_succ, List.getElem?_map]
  rw [List.getElem?_append_left (by have := (List.getElem?_eq_some_iff.1 hx).1; exact this), hx]
  rfl
 ·rw [show 15 + i = 13 + i + 1 + 1 by omega]
  simp only [GP.cells, List.getElem?_cons_succ, List.getElem?_map]
  rw [List.getElem?_append_right (by rw [cells_length]; omega), cells_length, show 13 + i - 13 = i by omega, hx]
  rfl
theorem of_none (k : Int) (hk : ¬ (1 ≤ k ∧ k ≤ 3)) (w : World) : Calls Try.prog 65 #[.int .i64 k] w fun e w' => e = .returned (.pointer none) ∧ w = w' := by
 have h1 : (k == 1) = false := by simp; omega
 have h2 : (k == 2) = false := by simp; omega
 have h3 : (k == 3) = false := by simp; omega
 go_enter Try.func65, Try.ntmps65
 go_wp2_with fail
 go_ret
 exact ⟨rfl, rfl⟩
theorem of_some (k : Nat) (h1 : 1 ≤ k) (h3 : k ≤ 3) (w : World) : Calls Try.prog 65 #[.int .i64 k] w fun e w' => e = .returned (.pointer (some ⟨w.heap.size, 0, none⟩)) ∧ GroupAt w' w.heap.size (grp k) ∧ Below w.heap.size w w' := by
 obtain rfl | rfl | rfl : k = 1 ∨ k = 2 ∨ k = 3 := by omega
 all_goals
  go_enter Try.func65, Try.ntmps65
  go_wp2_with fail
  go_ret
  refine ⟨rfl, groupAt_of (t := 148) ?_, (Below.refl _ _).alloc (Nat.le_refl _) _⟩
  rw [heap_alloc_new]
  exact congrArg (fun l => some (Obj.cells l 148 (0, 0))) (by kernel_rfl)
end Go.Proofs.Ytdlnnkbigeiilaa
namespace Go.Proofs.Ytdlnnkbigeiilaa
section
variable {B : Nat}
end
end Go.Proofs.Ytdlnnkbigeiilaa
namespace Go.Proofs.Ytdlnnkbigeiilaa
open Go.RowKit
end Go.Proofs.Ytdlnnkbigeiilaa
namespace Go.Proofs.Ytdlnnkbigeiilaa
open Go.RowKit
theorem own_form3 {w : World} {base e k n : Nat} {v : Value} {xs : List Value} (h : w.ownsRow base e k v n xs) : ∃ a c, v = .slice a n c ∧ (n = 0 ∨ ∃ g, a = some ⟨g, 0, none⟩ ∧ g < w.heap.size) := by
 rcases h.2 with ⟨hv, h0⟩ | ⟨g, cap, cur, hv, _, hg, _⟩
 ·subst h0; exact ⟨none, 0, hv, Or.inl rfl⟩
 ·exact ⟨_, cap, hv, Or.inr ⟨g, rfl, (Array.getElem?_eq_some_iff.1 hg).1⟩⟩
end Go.Proofs.Ytdlnnkbigeiilaa
namespace Go.Proofs.Ytdlnnkbigeiilaa
open Go.RowKit
end Go.Proofs.Ytdlnnkbigeiilaa
namespace Go.Proofs.Ytdlnnkbigeiilaa
open Go.RowKit
def Bx (W : World) (b : Nat) (t : TypeId) (cs : List Value) : Prop := W.heap[b]? = some (.cells cs.toArray t (0, 0))
section
variable {W W' : World} {b c i n : Nat} {t : TypeId} {cs : List Value} {v : Value}
theorem Bx.lt (h : Bx W b t cs) : b < W.heap.size := (Array.getElem?_eq_some_iff.1 h).1
theorem Bx.cell (h : Bx W b t cs) (hx : cs[i]? = some v) : W.cell? ⟨b, i, none⟩ = some v := by
 simp [World.cell?, show W.heap[b]? = _ from h, hx]
theorem Bx.frozen (h : Bx W b t cs) (i : Nat) : W.frozen? ⟨b, i, none⟩ = false := by
 simp [World.frozen?, show W.heap[b]? = _ from h]
theorem Bx.below (h : Bx W b t cs) (hb : Below n W W') (hn : b < n) : Bx W' b t cs := (hb.block b hn).trans h
theorem Bx.up (h : Bx W b t cs) (hb : Below W.heap.size W W') : Bx W' b t cs := h.below hb h.lt
theorem Bx.alloc (h : Bx W b t cs) (o : Obj) : Bx (W.alloc o) b t cs := (Below.heap_alloc W o b h.lt).trans h
theorem Bx.new (W : World) (t : TypeId) (cs : List Value) (ar : Array Value) (har : ar = cs.toArray) : Bx (W.alloc (.cells ar t)) W.heap.size t cs := by
 subst har; exact heap_alloc_new W _
theorem Bx.set (h : Bx W b t cs) (i : Nat) (v : Value) : Bx (W.setCell ⟨b, i, none⟩ v) b t (cs.set i v) := by
 obtain ⟨hlt, hk⟩ := Array.getElem?_eq_some_iff.1 h
 show (W.heap.modify b _)[b]? = _
 rw [Array.getElem?_eq_getElem (by rw [Array.size_modify]; exact hlt), Array.getElem_modify_self, hk]
 simp
end
end Go.Proofs.Ytdlnnkbigeiilaa
namespace Go.Proofs.Ytdlnnkbigeiilaa
open Go.RowKit
def RowO (N : Nat) (w : World) (e : TypeId) (size : Nat) (v : Value) (n : Nat) (xs : List Value) : Prop := w.ownsRow N e size v n xs
section
variable {w w1 : World} {e : TypeId} {N size n m g c : Nat} {v : Value} {xs ys : List Value} {r : Option Nat}
theorem RowO.nil : RowO N w e size (.slice none 0 0) 0 [] := World.ownsRow_nil _ _ _ _
theorem RowO.grown (h : RowO N w e size v n xs) (hg : w.grownBy w1 r) (hne : ∀ q, v.ownBlock = some q → r ≠ some q) : RowO N w1 e size v n xs :=
 World.ownsRow.kept h hg (by cases h9 : v.ownBlock with
  | none => exact Or.inl rfl
  | some q => exact Or.inr (fun e => hne q h9 e.symm))
theorem RowO.up (h : RowO N w e size v n xs) (hb : Below w.heap.size w w1) : RowO N w1 e size v n xs := h.grown (below_grown hb) (fun q _ => by simp)
theorem RowO.lt (h : RowO N w e size v n xs) (q : Nat) (hq : v.ownBlock = some q) : N ≤ q ∧ q < w.heap.size := World.ownsRow.lt h q hq
theorem RowO.form (h : RowO N w e size v n xs) : ∃ a c, v = .slice a n c := let ⟨a, c, h1, _⟩ := own_form3 h; ⟨a, c, h1⟩
theorem RowO.eq (h : RowO N w e size v n xs) (hx : xs = ys) (hn : n = m) : RowO N w e size v m ys := by subst hx; subst hn; exact h
theorem RowO.sl {a : Option Addr} {k : Nat} (h : RowO N w e size (.slice a k c) n xs) : Sl w w.heap.size a xs := by
 rcases h.2 with ⟨hv, h0⟩ | ⟨g, cap, cur, hv, hb, hg, hr⟩
 ·have := h.1; subst h0; left; exact List.length_eq_zero_iff.1 (by simpa using this)
 ·simp only [Value.slice.injEq] at hv
  obtain ⟨rfl, rfl, rfl⟩ := hv
  refine Or.inr ⟨g, 0, rfl, (Array.getElem?_eq_some_iff.1 hg).1, fun i u hu => ?_⟩
  have hi : i < k * size := by have := (List.getElem?_eq_some_iff.1 hu).1; rw [h.1] at this; exact this
  rw [Nat.zero_add, World.ownsRow.cellAt h i hi]; exact hu
theorem Bx.grown {t : TypeId} {b : Nat} {cs : List Value} (h : Bx w b t cs) (hg : w.grownBy w1 r) (hne : r ≠ some b) : Bx w1 b t cs := (hg.block b h.lt (fun e => hne e.symm)).trans h
theorem cell_of_block {b : Nat} (h : w1.heap[b]? = w.heap[b]?) (o : Nat) : w1.cell? ⟨b, o, none⟩ = w.cell? ⟨b, o, none⟩ := by
 simp only [World.cell?, h]
theorem GroupAt.grown {gb : Nat} {G : GP} (h : GroupAt w gb G) (hg : w.grownBy w1 r) (hne : r ≠ some gb) : GroupAt w1 gb G := by
 have hc := cell_of_block (hg.block gb h.lt (fun e => hne e.symm))
 have hl := hg.size
 exact ⟨Nat.lt_of_lt_of_le h.lt hl, by rw [hc]; exact h.kind, by rw [hc]; exact h.size, ⟨Nat.lt_of_lt_of_le h.p.lt hl, fun i x hx => by rw [hc]; exact h.p.cell i x hx⟩, ⟨Nat.lt_of_lt_of_le h.q.lt hl, fun i x hx => by rw [hc]; exact h.q.cell i x hx⟩⟩
theorem grown_set (w : World) (b i : Nat) (u : Value) : w.grownBy (w.setCell ⟨b, i, none⟩ u) (some b) :=
 ⟨rfl, rfl, rfl, by simp [World.setCell], fun k _ hk => Below.heap_setCell w ⟨b, i, none⟩ u k (by intro e; exact hk (by rw [e]))⟩
end
theorem wpList_pushR {P : Program} (N : Nat) (w0 : World) (hN : N ≤ w0.heap.size) {ops : Array Oper} {rest : List Oper} {o : Oper} {a : Act} {Q : Exit → Act → World → Prop} (hgd : o.guard = none) (s x : Operand) (t : TypeId)
  (ho : o.op = .call { callee := .builtin .append, args := #[s, x], argTypes := #[t, t] })
  (e : TypeId) (i : TypeInfo) (z : Value) (size bytes : Nat) (ht : P.underlying t = some (.slice e)) (hi : P.info? e = some i) (hz : i.zero = some z)
  (hsize : i.size = size) (hby : i.bytes = bytes) (hzs : z.cells.size = size) (hsz : 0 < size)
  (v : Value) (n : Nat) (xs : List Value) (hs : a.eval s = v) (hown : RowO N w0 e size v n xs)
  (news : Array Value) (e2 : TypeId) (b : Nat) (hb : w0.heap.size = b) (hx : a.eval x = .slice (some ⟨b, 0, none⟩) 1 1) (hl : news.size = size) (h1 : ∀ u ∈ news.toList, u.oneCell' = true)
  (h63 : (n + 1) * bytes ≤ 140737488355328) (hn : n + 1 ≤ maxLen)
  (h : ∀ g cap w', RowO N w' e size (.slice (some ⟨g, 0, none⟩) (n + 1) cap) (n + 1) (xs ++ news.toList) → w0.grownBy w' v.ownBlock → wpList P ops Q rest (a.put o.dst (.slice (some ⟨g, 0, none⟩) (n + 1) cap)) w') :
  wpList P ops Q (o :: rest) a (w0.alloc (.cells news e2)) := by
 subst hb
 refine wpList_append_lies _ hgd s x t ho N e i z size bytes ht hi hz hsize hby hzs hsz v n xs hs (World.ownsRow.alloc hown _) ⟨w0.heap.size, 0, none⟩ 1 1 news.toList hx (by simpa using hl)
  (World.news_of_block (heap_alloc_new w0 _)) h1 (by omega) hn h63 (by simp; omega) _ rfl ?_
 intro g cap w' hown' hg _ _
 refine h g cap w' hown' ⟨hg.os, hg.tape, hg.output, ?_, ?_⟩
 ·have := hg.size; simp at this; omega
 ·intro k hk hne
  rw [hg.block k (by simp; omega) hne]
  exact Below.heap_alloc _ _ _ hk
theorem wpList_fitR {P : Program} (N : Nat) (w0 : World) {ops : Array Oper} {rest : List Oper} {o : Oper} {a : Act} {Q : Exit → Act → World → Prop} (hgd : o.guard = none) (s x : Operand) (t : TypeId)
  (ho : o.op = .call { callee := .builtin .append, args := #[s, x], argTypes := #[t, t] })
  (e : TypeId) (i : TypeInfo) (size : Nat) (ht : P.underlying t = some (.slice e)) (hi : P.info? e = some i) (hsize : i.size = size)
  (g n cap : Nat) (xs : List Value) (hs : a.eval s = .slice (some ⟨g, 0, none⟩) n cap) (hown : RowO N w0 e size (.slice (some ⟨g, 0, none⟩) n cap) n xs)
  (news : Array Value) (e2 : TypeId) (b : Nat) (hb : w0.heap.size = b) (hx : a.eval x = .slice (some ⟨b, 0, none⟩) 1 1) (hl : news.size = size) (h1 : ∀ u ∈ news.toList, u.oneCell' = true)
  (hfit : n + 1 ≤ cap)
  (h : ∀ w', RowO N w' e size (.slice (some ⟨g, 0, none⟩) (n + 1) cap) (n + 1) (xs ++ news.toList) → w0.grownBy w' (some g) → wpList P ops Q rest (a.put o.dst (.slice (some ⟨g, 0, none⟩) (n + 1) cap)) w') :
  wpList P ops Q (o :: rest) a (w0.alloc (.cells news e2)) := by
 subst hb
 refine wpList_append_fits _ hgd s x t ho N e i size ht hi hsize g n cap xs hs (World.ownsRow.alloc hown _) ⟨w0.heap.size, 0, none⟩ 1 1 news.toList hx (by simpa using hl)
  (World.news_of_block (heap_alloc_new w0 _)) h1 hfit ?_
 intro w' hown' hg
 refine h w' hown' ⟨hg.os, hg.tape, hg.output, ?_, ?_⟩
 ·have := hg.size; simp at this; omega
 ·intro k hk hne
  rw [hg.block k (by simp; omega) hne]
  exact Below.heap_alloc _ _ _ hk
theorem Sl.app_left {w : World} {B : Nat} {a : Option Addr} {xs ys : List Value} (h : Sl w B a (xs ++ ys)) : Sl w B a xs := by
 rcases h with h | ⟨b, off, rfl, hb, hc⟩
 ·left; exact (List.append_eq_nil_iff.1 h).1
 ·exact Or.inr ⟨b, off, rfl, hb, fun i v hv => hc i v (by rw [List.getElem?_append_left (List.getElem?_eq_some_iff.1 hv).1]; exact hv)⟩
theorem flat_at {α : Type} (f : α → List Value) (k : Nat) (hk : ∀ x, (f x).length = k) : ∀ (l : List α) (i j : Nat) (hi : i < l.length) (_ : j < k), (l.flatMap f)[i * k + j]? = (f l[i])[j]?
 | [], i, _, hi, _ => absurd hi (by simp)
 | x :: l, 0, j, _, hj => by
  rw [List.flatMap_cons, Nat.zero_mul, Nat.zero_add, List.getElem?_append_left (by rw [hk]; exact hj)]
  rfl
 | x :: l, i + 1, j, hi, hj => by
  rw [List.flatMap_cons, List.getElem?_append_right (by rw [hk, Nat.add_mul]; omega), hk, show (i + 1) * k + j - k = i * k + j by rw [Nat.add_mul]; omega]
  exact flat_at f k hk l i j (by simpa using hi) hj
theorem flat_len {α : Type} (f : α → List Value) (k : Nat) (hk : ∀ x, (f x).length = k) (l : List α) : (l.flatMap f).length = l.length * k := by
 induction l with
 | nil => simp
 | cons x l ih => rw [List.flatMap_cons, List.length_append, hk, ih, List.length_cons, Nat.add_mul]; omega
theorem flat_snoc {α : Type} (f : α → List Value) (l : List α) (i : Nat) (hi : i < l.length) : (l.take (i + 1)).flatMap f = (l.take i).flatMap f ++ f l[i] := by
 rw [List.take_succ_eq_append_getElem hi, List.flatMap_append]
 simp
theorem Sl.elem {w : World} {B : Nat} {a : Option Addr} {α : Type} {f : α → List Value} {k : Nat} {l : List α} (h : Sl w B a (l.flatMap f)) (hk : ∀ x, (f x).length = k) (h0 : 0 < k) (i : Nat) (hi : i < l.length) :
  ∃ b off, a = some ⟨b, off, none⟩ ∧ b < B ∧ ∀ j v, (f l[i])[j]? = some v → w.cell? ⟨b, off + i * k + j, none⟩ = some v := by
 rcases h with h | ⟨b, off, rfl, hb, hc⟩
 ·have := flat_len f k hk l
  rw [h, List.length_nil] at this
  have : 0 < l.length * k := Nat.mul_pos (by omega) h0
  omega
 ·exact ⟨b, off, rfl, hb, fun j v hv => by rw [Nat.add_assoc]; exact hc _ _ (by rw [flat_at f k hk l i j hi (by have := (List.getElem?_eq_some_iff.1 hv).1; rw [hk] at this; exact this)]; exact hv)⟩
end Go.Proofs.Ytdlnnkbigeiilaa
namespace Go.Proofs.Ytdlnnkbigeiilaa
open Go.RowKit
section
variable {W w0 : World} {b n : Nat} {t : TypeId} {cs cs' : List Value} {a0 a1 a2 a3 a4 a5 a6 a7 : Value}
theorem Bx.c1 (h : Bx W b t [a0]) : W.cell? ⟨b, 0, none⟩ = some a0 := h.cell (i := 0) rfl
theorem Bx.c2 (h : Bx W b t [a0, a1]) : W.cell? ⟨b, 0, none⟩ = some a0 ∧ W.cell? ⟨b, 1, none⟩ = some a1 := ⟨h.cell (i := 0) rfl, h.cell (i := 1) rfl⟩
theorem Bx.c3 (h : Bx W b t [a0, a1, a2]) : W.cell? ⟨b, 0, none⟩ = some a0 ∧ W.cell? ⟨b, 1, none⟩ = some a1 ∧ W.cell? ⟨b, 2, none⟩ = some a2 := ⟨h.cell (i := 0) rfl, h.cell (i := 1) rfl, h.cell (i := 2) rfl⟩
theorem Bx.c4 (h : Bx W b t [a0, a1, a2, a3]) : W.cell? ⟨b, 0, none⟩ = some a0 ∧ W.cell? ⟨b, 1, none⟩ = some a1 ∧ W.cell? ⟨b, 2, none⟩ = some a2 ∧ W.cell? ⟨b, 3, none⟩ = some a3 := ⟨h.cell (i := 0) rfl, h.cell (i := 1) rfl, h.cell (i := 2) rfl, h.cell (i := 3) rfl⟩
theorem Bx.c8 (h : Bx W b t [a0, a1, a2, a3, a4, a5, a6, a7]) : W.cell? ⟨b, 0, none⟩ = some a0 ∧ W.cell? ⟨b, 1, none⟩ = some a1 ∧ W.cell? ⟨b, 2, none⟩ = some a2 ∧ W.cell? ⟨b, 3, none⟩ = some a3 ∧ W.cell? ⟨b, 4, none⟩ = some a4 ∧ W.cell? ⟨b, 5, none⟩ = some a5 ∧ W.cell? ⟨b, 6, none⟩ = some a6 ∧ W.cell? ⟨b, 7, none⟩ = some a7 := ⟨h.cell (i := 0) rfl, h.cell (i := 1) rfl, h.cell (i := 2) rfl, h.cell (i := 3) rfl, h.cell (i := 4) rfl, h.cell (i := 5) rfl, h.cell (i := 6) rfl, h.cell (i := 7) rfl⟩
theorem sz {p q : Prop} (a : Hid p) (b : q) : Hid (p ∧ q) := Lib.hid ⟨a.out, b⟩
theorem sne {a b : Nat} (h : b ≠ a) : some a ≠ some b := fun e => h (Option.some.inj e).symm
theorem hbu {W w w1 : World} (h : Hid (Below W.heap.size W w)) (g : Below w.heap.size w w1) : Hid (Below W.heap.size W w1) := Lib.hid (below_up h.out g)
theorem hbg {W w w1 : World} {b : Nat} (h : Hid (Below W.heap.size W w)) (g : Hid (w.grownBy w1 (some b))) (hb : W.heap.size ≤ b) : Hid (Below W.heap.size W w1) := Lib.hid (Below.grown h.out g.out h.out.size (fun _ e => (Option.some.inj e) ▸ hb))
theorem new1 (w : World) (t0 : TypeId) (c0 : List Value) : ∃ W, w.alloc (Obj.cells c0.toArray t0) = W ∧ Below w.heap.size w W ∧ Hid (W.heap.size = w.heap.size + 1) ∧ Hid (Bx W w.heap.size t0 c0) := by
 refine ⟨_, rfl, ((Below.refl _ _).alloc (Nat.le_refl _) _), Lib.hid (by simp), ?_⟩
 ·have h := (Bx.new w t0 c0 _ rfl)
  exact Lib.hid h
theorem new2 (w : World) (t0 : TypeId) (c0 : List Value) (t1 : TypeId) (c1 : List Value) : ∃ W, (w.alloc (Obj.cells c0.toArray t0)).alloc (Obj.cells c1.toArray t1) = W ∧ Below w.heap.size w W ∧ Hid (W.heap.size = w.heap.size + 2) ∧ Hid (Bx W w.heap.size t0 c0) ∧ Hid (Bx W (w.heap.size + 1) t1 c1) := by
 refine ⟨_, rfl, (((Below.refl _ _).alloc (Nat.le_refl _) _).alloc (by simp) _), Lib.hid (by simp), ?_, ?_⟩
 ·have h := ((Bx.new w t0 c0 _ rfl).alloc (Obj.cells c1.toArray t1))
  exact Lib.hid h
 ·have h := (Bx.new (w.alloc (Obj.cells c0.toArray t0)) t1 c1 _ rfl)
  rw [World.size_alloc] at h
  exact Lib.hid h
theorem new3 (w : World) (t0 : TypeId) (c0 : List Value) (t1 : TypeId) (c1 : List Value) (t2 : TypeId) (c2 : List Value) : ∃ W, ((w.alloc (Obj.cells c0.toArray t0)).alloc (Obj.cells c1.toArray t1)).alloc (Obj.cells c2.toArray t2) = W ∧ Below w.heap.size w W ∧ Hid (W.heap.size = w.heap.size + 3) ∧ Hid (Bx W w.heap.size t0 c0) ∧ Hid (Bx W (w.heap.size + 1) t1 c1) ∧ Hid (Bx W (w.heap.size + 2) t2 c2) := by
 refine ⟨_, rfl, ((((Below.refl _ _).alloc (Nat.le_refl _) _).alloc (by simp) _).alloc (by simp; omega) _), Lib.hid (by simp), ?_, ?_, ?_⟩
 ·have h := (((Bx.new w t0 c0 _ rfl).alloc (Obj.cells c1.toArray t1)).alloc (Obj.cells c2.toArray t2))
  exact Lib.hid h
 ·have h := ((Bx.new (w.alloc (Obj.cells c0.toArray t0)) t1 c1 _ rfl).alloc (Obj.cells c2.toArray t2))
  rw [World.size_alloc] at h
  exact Lib.hid h
 ·have h := (Bx.new ((w.alloc (Obj.cells c0.toArray t0)).alloc (Obj.cells c1.toArray t1)) t2 c2 _ rfl)
  rw [World.size_alloc, World.size_alloc] at h
  exact Lib.hid h
theorem new4 (w : World) (t0 : TypeId) (c0 : List Value) (t1 : TypeId) (c1 : List Value) (t2 : TypeId) (c2 : List Value) (t3 : TypeId) (c3 : List Value) : ∃ W, (((w.alloc (Obj.cells c0.toArray t0)).alloc (Obj.cells c1.toArray t1)).alloc (Obj.cells c2.toArray t2)).alloc (Obj.cells c3.toArray t3) = W ∧ Below w.heap.size w W ∧ Hid (W.heap.size = w.heap.size + 4) ∧ Hid (Bx W w.heap.size t0 c0) ∧ Hid (Bx W (w.heap.size + 1) t1 c1) ∧ Hid (Bx W (w.heap.size + 2) t2 c2) ∧ Hid (Bx W (w.heap.size + 3) t3 c3) := by
 refine ⟨_, rfl, (((((Below.refl _ _).alloc (Nat.le_refl _) _).alloc (by simp) _).alloc (by simp; omega) _).alloc (by simp; omega) _), Lib.hid (by simp), ?_, ?_, ?_, ?_⟩
 ·have h := ((((Bx.new w t0 c0 _ rfl).alloc (Obj.cells c1.toArray t1)).alloc (Obj.cells c2.toArray t2)).alloc (Obj.cells c3.toArray t3))
  exact Lib.hid h
 ·have h := (((Bx.new (w.alloc (Obj.cells c0.toArray t0)) t1 c1 _ rfl).alloc (Obj.cells c2.toArray t2)).alloc (Obj.cells c3.toArray t3))
  rw [World.size_alloc] at h
  exact Lib.hid h
 ·have h := ((Bx.new ((w.alloc (Obj.cells c0.toArray t0)).alloc (Obj.cells c1.toArray t1)) t2 c2 _ rfl).alloc (Obj.cells c3.toArray t3))
  rw [World.size_alloc, World.size_alloc] at h
  exact Lib.hid h
 ·have h := (Bx.new (((w.alloc (Obj.cells c0.toArray t0)).alloc (Obj.cells c1.toArray t1)).alloc (Obj.cells c2.toArray t2)) t3 c3 _ rfl)
  rw [World.size_alloc, World.size_alloc, World.size_alloc] at h
  exact Lib.hid h
theorem put1 (h : Hid (Bx W b t cs)) (o0 : Nat) (v0 : Value) (cs' : List Value) (hc : (cs.set o0 v0) = cs') : ∃ W', (W.setCell ⟨b, o0, none⟩ v0) = W' ∧ Hid (W.grownBy W' (some b)) ∧ Hid (W'.heap.size = W.heap.size) ∧ Hid (Bx W' b t cs') :=
 ⟨_, rfl, Lib.hid (grown_set W b o0 v0), Lib.hid (by simp [World.setCell]), Lib.hid (hc ▸ (h.out.set o0 v0))⟩
theorem put2 (h : Hid (Bx W b t cs)) (o0 : Nat) (v0 : Value) (o1 : Nat) (v1 : Value) (cs' : List Value) (hc : ((cs.set o0 v0).set o1 v1) = cs') : ∃ W', ((W.setCell ⟨b, o0, none⟩ v0).setCell ⟨b, o1, none⟩ v1) = W' ∧ Hid (W.grownBy W' (some b)) ∧ Hid (W'.heap.size = W.heap.size) ∧ Hid (Bx W' b t cs') :=
 ⟨_, rfl, Lib.hid ((grown_set W b o0 v0).trans (grown_set (W.setCell ⟨b, o0, none⟩ v0) b o1 v1)), Lib.hid (by simp [World.setCell]), Lib.hid (hc ▸ ((h.out.set o0 v0).set o1 v1))⟩
theorem put4 (h : Hid (Bx W b t cs)) (o0 : Nat) (v0 : Value) (o1 : Nat) (v1 : Value) (o2 : Nat) (v2 : Value) (o3 : Nat) (v3 : Value) (cs' : List Value) (hc : ((((cs.set o0 v0).set o1 v1).set o2 v2).set o3 v3) = cs') : ∃ W', ((((W.setCell ⟨b, o0, none⟩ v0).setCell ⟨b, o1, none⟩ v1).setCell ⟨b, o2, none⟩ v2).setCell ⟨b, o3, none⟩ v3) = W' ∧ Hid (W.grownBy W' (some b)) ∧ Hid (W'.heap.size = W.heap.size) ∧ Hid (Bx W' b t cs') :=
 ⟨_, rfl, Lib.hid ((((grown_set W b o0 v0).trans (grown_set (W.setCell ⟨b, o0, none⟩ v0) b o1 v1)).trans (grown_set ((W.setCell ⟨b, o0, none⟩ v0).setCell ⟨b, o1, none⟩ v1) b o2 v2)).trans (grown_set (((W.setCell ⟨b, o0, none⟩ v0).setCell ⟨b, o1, none⟩ v1).setCell ⟨b, o2, none⟩ v2) b o3 v3)), Lib.hid (by simp [World.setCell]), Lib.hid (hc ▸ ((((h.out.set o0 v0).set o1 v1).set o2 v2).set o3 v3))⟩
end
end Go.Proofs.Ytdlnnkbigeiilaa
namespace Go.Proofs.Ytdlnnkbigeiilaa
open Go.ChangeShapes Go.WideShapes Go.ChangeAt Go.RowKit
theorem law_own : ownKnob Try.prog.godebug = none := by kernel_rfl
theorem law_laidOut : laidOutB Try.prog = true := by kernel_rfl
section
variable {H : Type} {enc : TypeId × Value → H} {P : Program} {w : World}
theorem add_plain (b off i : Nat) : (⟨b, off, none⟩ : Addr).add i = ⟨b, off + i, none⟩ := by unfold Addr.add; split <;> simp_all
end
end Go.Proofs.Ytdlnnkbigeiilaa
namespace Go.Proofs.Ytdlnnkbigeiilaa
def IsPrime (p : Nat) : Prop := 2 ≤ p ∧ ∀ d, d ∣ p → d = 1 ∨ d = p
theorem IsPrime.coprime_of_not_dvd {p a : Nat} (hp : IsPrime p) (h : ¬ p ∣ a) : Nat.Coprime p a := by
 rcases hp.2 (Nat.gcd p a) (Nat.gcd_dvd_left p a) with h1 | h1
 ·exact h1
 ·exact absurd (h1 ▸ Nat.gcd_dvd_right p a) h
theorem IsPrime.dvd_mul {p a b : Nat} (hp : IsPrime p) (h : p ∣ a * b) : p ∣ a ∨ p ∣ b := by
 by_cases ha : p ∣ a
 ·exact Or.inl ha
 ·exact Or.inr ((hp.coprime_of_not_dvd ha).dvd_of_dvd_mul_left h)
theorem exists_prime_dvd : ∀ n : Nat, 2 ≤ n → ∃ p, IsPrime p ∧ p ∣ n := by
 intro n
 induction n using Nat.strongRecOn with
 | ind n ih =>
  intro hn
  by_cases h : ∃ d, d ∣ n ∧ d ≠ 1 ∧ d ≠ n
  ·obtain ⟨d, hd, h1, h2⟩ := h
   have hd0 : d ≠ 0 := by
    intro e; subst e; have := Nat.eq_zero_of_zero_dvd hd; omega
   have hle := Nat.le_of_dvd (by omega) hd
   obtain ⟨p, hp, hpd⟩ := ih d (by omega) (by omega)
   exact ⟨p, hp, Nat.dvd_trans hpd hd⟩
  ·refine ⟨n, ⟨hn, fun d hd => ?_⟩, Nat.dvd_refl n⟩
   by_cases h1 : d = 1
   ·exact Or.inl h1
   ·by_cases h2 : d = n
    ·exact Or.inr h2
    ·exact absurd ⟨d, hd, h1, h2⟩ h
theorem exists_small_prime {n : Nat} (hn : 2 ≤ n) (h : ¬ IsPrime n) : ∃ p, IsPrime p ∧ p ∣ n ∧ p * p ≤ n := by
 have : ∃ d, d ∣ n ∧ d ≠ 1 ∧ d ≠ n := by
  apply Classical.byContradiction
  intro hc
  apply h
  refine ⟨hn, fun d hd => ?_⟩
  by_cases h1 : d = 1
  ·exact Or.inl h1
  ·by_cases h2 : d = n
   ·exact Or.inr h2
   ·exact absurd ⟨d, hd, h1, h2⟩ hc
 obtain ⟨d, ⟨c, hc⟩, h1, h2⟩ := this
 have hd0 : d ≠ 0 := by intro e; subst e; simp at hc; omega
 have hc0 : c ≠ 0 := by intro e; subst e; simp at hc; omega
 have hc1 : c ≠ 1 := by intro e; subst e; simp at hc; omega
 rcases Nat.le_total d c with hdc | hdc
 ·obtain ⟨p, hp, hpd⟩ := exists_prime_dvd d (by omega)
  refine ⟨p, hp, Nat.dvd_trans hpd ⟨c, hc⟩, ?_⟩
  have := Nat.le_of_dvd (by omega) hpd
  calc p * p ≤ d * d := Nat.mul_le_mul this this
   _ ≤ d * c := Nat.mul_le_mul_left d hdc
   _ = n := hc.symm
 ·obtain ⟨p, hp, hpd⟩ := exists_prime_dvd c (by omega)
  refine ⟨p, hp, Nat.dvd_trans hpd ⟨d, by rw [hc, Nat.mul_comm]⟩, ?_⟩
  have := Nat.le_of_dvd (by omega) hpd
  calc p * p ≤ c * c := Nat.mul_le_mul this this
   _ ≤ d * c := Nat.mul_le_mul_right c hdc
   _ = n := hc.symm
def choose : Nat → Nat → Nat
 | _, 0 => 1
 | 0, _ + 1 => 0
 | n + 1, k + 1 => choose n k + choose n (k + 1)
theorem choose_zero (n : Nat) : choose n 0 = 1 := by cases n <;> rfl
theorem choose_big : ∀ n k, n < k → choose n k = 0
 | 0, _ + 1, _ => rfl
 | n + 1, k + 1, h => by rw [choose, choose_big n k (by omega), choose_big n (k + 1) (by omega)]
theorem choose_self : ∀ n, choose n n = 1
 | 0 => rfl
 | n + 1 => by rw [choose, choose_self n, choose_big n (n + 1) (by omega)]
theorem choose_mul : ∀ n k, choose (n + 1) (k + 1) * (k + 1) = (n + 1) * choose n k
 | 0, 0 => rfl
 | 0, k + 1 => by simp [choose]
 | n + 1, 0 => by
  have h := choose_mul n 0
  have e : choose (n + 1 + 1) (0 + 1) = choose (n + 1) 0 + choose (n + 1) (0 + 1) := rfl
  rw [e]
  simp only [choose_zero, Nat.mul_one, Nat.zero_add] at h ⊢
  omega
 | n + 1, k + 1 => by
  have h1 := choose_mul n k
  have h2 := choose_mul n (k + 1)
  have e : choose (n + 1) (k + 1) = choose n k + choose n (k + 1) := rfl
  have e2 : choose (n + 1 + 1) (k + 1 + 1) = choose (n + 1) (k + 1) + choose (n + 1) (k + 1 + 1) := rfl
  rw [e2, Nat.add_mul, h2]
  have : choose (n + 1) (k + 1) * (k + 1 + 1) = choose (n + 1) (k + 1) * (k + 1) + choose (n + 1) (k + 1) := by
   rw [Nat.mul_add, Nat.mul_one]
  rw [this, h1]
  have : (n + 1 + 1) * choose (n + 1) (k + 1) = (n + 1) * choose (n + 1) (k + 1) + choose (n + 1) (k + 1) := by
   rw [Nat.add_mul (n + 1) 1, Nat.one_mul]
  rw [this, e, Nat.mul_add]
  omega
def binom (a n : Nat) : Nat → Nat
 | 0 => 0
 | m + 1 => binom a n m + choose n m * a ^ m
theorem binom_succ (a n : Nat) : ∀ m, binom a (n + 1) (m + 1) = binom a n (m + 1) + a * binom a n m
 | 0 => by simp [binom, choose_zero]
 | m + 1 => by
  have ih := binom_succ a n m
  rw [binom, ih]
  have e : choose (n + 1) (m + 1) = choose n m + choose n (m + 1) := rfl
  rw [e]
  have e1 : binom a n (m + 1 + 1) = binom a n (m + 1) + choose n (m + 1) * a ^ (m + 1) := rfl
  have e2 : binom a n (m + 1) = binom a n m + choose n m * a ^ m := rfl
  rw [e1, Nat.add_mul]
  have e3 : a * binom a n (m + 1) = a * binom a n m + choose n m * a ^ (m + 1) := by
   rw [e2, Nat.mul_add, Nat.pow_succ]
   have : a * (choose n m * a ^ m) = choose n m * (a ^ m * a) := by
    rw [Nat.mul_left_comm, Nat.mul_comm a]
   rw [this]
  rw [e3]
  omega
theorem binom_all (a : Nat) : ∀ n, (a + 1) ^ n = binom a n (n + 1)
 | 0 => by simp [binom, choose]
 | n + 1 => by
  rw [binom_succ, Nat.pow_succ, binom_all a n]
  have e : binom a n (n + 1 + 1) = binom a n (n + 1) := by
   show binom a n (n + 1) + choose n (n + 1) * a ^ (n + 1) = _
   rw [choose_big n (n + 1) (by omega)]; simp
  rw [e, Nat.mul_add, Nat.mul_one, Nat.mul_comm, Nat.add_comm]
theorem prime_dvd_choose {p : Nat} (hp : IsPrime p) {k : Nat} (h0 : 0 < k) (h1 : k < p) : p ∣ choose p k := by
 obtain ⟨n, rfl⟩ : ∃ n, p = n + 1 := ⟨p - 1, by have := hp.1; omega⟩
 obtain ⟨j, rfl⟩ : ∃ j, k = j + 1 := ⟨k - 1, by omega⟩
 have h := choose_mul n j
 have : (n + 1) ∣ choose (n + 1) (j + 1) * (j + 1) := ⟨choose n j, h⟩
 rcases hp.dvd_mul this with h | h
 ·exact h
 ·have := Nat.le_of_dvd (by omega) h; omega
theorem binom_mod {p : Nat} (hp : IsPrime p) (a : Nat) : ∀ m, m < p → binom a p (m + 1) % p = 1 % p
 | 0, _ => by simp [binom, choose_zero]
 | m + 1, h => by
  rw [binom, Nat.add_mod, binom_mod hp a m (by omega)]
  have : choose p (m + 1) * a ^ (m + 1) % p = 0 :=
   Nat.mod_eq_zero_of_dvd (Nat.dvd_trans (prime_dvd_choose hp (by omega) h) ⟨_, rfl⟩)
  rw [this]; simp
theorem succ_pow_mod {p : Nat} (hp : IsPrime p) (a : Nat) : (a + 1) ^ p % p = (a ^ p + 1) % p := by
 have h2 := hp.1
 rw [binom_all]
 show (binom a p p + choose p p * a ^ p) % p = _
 have e := binom_mod hp a (p - 1) (by omega)
 rw [show p - 1 + 1 = p by omega] at e
 rw [choose_self, Nat.one_mul, Nat.add_mod, e, ← Nat.add_mod, Nat.add_comm]
theorem pow_prime_mod {p : Nat} (hp : IsPrime p) : ∀ a : Nat, a ^ p % p = a % p
 | 0 => by rw [Nat.zero_pow (by have := hp.1; omega)]
 | a + 1 => by rw [succ_pow_mod hp, Nat.add_mod, pow_prime_mod hp a, ← Nat.add_mod]
theorem mod_eq_iff_dvd_sub {a b n : Nat} (h : b ≤ a) : a % n = b % n ↔ n ∣ a - b := by
 constructor
 ·intro e
  exact Nat.dvd_of_mod_eq_zero (Nat.sub_mod_eq_zero_of_mod_eq e)
 ·rintro ⟨c, hc⟩
  have : a = b + n * c := by omega
  rw [this, Nat.add_mul_mod_self_left]
theorem mul_cancel_mod {p a x y : Nat} (hp : Nat.Coprime p a) (h : a * x % p = a * y % p) : x % p = y % p := by
 rcases Nat.le_total y x with hxy | hxy
 ·rw [mod_eq_iff_dvd_sub (Nat.mul_le_mul_left a hxy), ← Nat.mul_sub] at h
  exact (mod_eq_iff_dvd_sub hxy).2 (hp.dvd_of_dvd_mul_left h)
 ·have h := h.symm
  rw [mod_eq_iff_dvd_sub (Nat.mul_le_mul_left a hxy), ← Nat.mul_sub] at h
  exact ((mod_eq_iff_dvd_sub hxy).2 (hp.dvd_of_dvd_mul_left h)).symm
theorem fermat {p a : Nat} (hp : IsPrime p) (h : ¬ p ∣ a) : a ^ (p - 1) % p = 1 % p := by
 have h2 := hp.1
 apply mul_cancel_mod (hp.coprime_of_not_dvd h)
 have e := pow_prime_mod hp a
 rw [show p = p - 1 + 1 by omega, Nat.pow_succ, Nat.mul_comm] at e
 rw [show p - 1 + 1 = p by omega] at e
 rw [e, Nat.mul_one]
theorem pow_mod_one {p a m : Nat} (h : a ^ m % p = 1 % p) (k : Nat) : a ^ (m * k) % p = 1 % p := by
 rw [Nat.pow_mul, Nat.pow_mod, h, ← Nat.pow_mod, Nat.one_pow]
theorem pow_gcd {p a : Nat} : ∀ m n : Nat, a ^ m % p = 1 % p → a ^ n % p = 1 % p → a ^ (Nat.gcd m n) % p = 1 % p := by
 intro m
 induction m using Nat.strongRecOn with
 | ind m ih =>
  intro n hm hn
  by_cases h0 : m = 0
  ·subst h0; simpa using hn
  ·rw [Nat.gcd_rec]
   refine ih (n % m) (Nat.mod_lt _ (by omega)) m ?_ hm
   have e : a ^ n = a ^ (m * (n / m)) * a ^ (n % m) := by rw [← Nat.pow_add, Nat.div_add_mod]
   rw [e] at hn
   rw [Nat.mul_mod, pow_mod_one hm, ← Nat.mul_mod, Nat.one_mul] at hn
   exact hn
theorem coprime_of_pow {p a m : Nat} (hp : IsPrime p) (hm : 0 < m) (h : a ^ m % p = 1 % p) : ¬ p ∣ a := by
 intro hd
 have : p ∣ a ^ m := Nat.dvd_trans hd (Nat.dvd_trans ⟨a ^ (m - 1), by rw [← Nat.pow_succ', show (m - 1).succ = m by omega]⟩ (Nat.dvd_refl _))
 rw [Nat.mod_eq_zero_of_dvd this, Nat.mod_eq_of_lt hp.1] at h
 omega
theorem proth {h k a : Nat} (hk : 0 < k) (hh : 0 < h) (hlt : h < 2 ^ k) (hw : (a ^ (h * 2 ^ (k - 1)) + 1) % (h * 2 ^ k + 1) = 0) : IsPrime (h * 2 ^ k + 1) := by
 have h2k : 2 ^ k = 2 * 2 ^ (k - 1) := by rw [← Nat.pow_succ', show (k - 1).succ = k by omega]
 have hpos : 0 < 2 ^ (k - 1) := Nat.pow_pos (by omega)
 apply Classical.byContradiction
 intro hn
 have hbig : 2 ≤ h * 2 ^ k + 1 := by have := Nat.mul_pos hh (show 0 < 2 ^ k by omega); omega
 obtain ⟨p, hp, hpd, hpp⟩ := exists_small_prime hbig hn
 have hdw : p ∣ a ^ (h * 2 ^ (k - 1)) + 1 := Nat.dvd_trans hpd (Nat.dvd_of_mod_eq_zero hw)
 have hp2 := hp.1
 have hodd : p ≠ 2 := by
  intro e; subst e
  obtain ⟨c, hc⟩ := hpd
  have : h * 2 ^ k = 2 * (h * 2 ^ (k - 1)) := by rw [h2k, Nat.mul_left_comm]
  omega
 have hx : a ^ (h * 2 ^ k) % p = 1 % p := by
  have e : a ^ (h * 2 ^ k) = a ^ (h * 2 ^ (k - 1)) * a ^ (h * 2 ^ (k - 1)) := by
   rw [← Nat.pow_add]; congr 1; rw [h2k, Nat.mul_left_comm]; omega
  rw [e]
  generalize a ^ (h * 2 ^ (k - 1)) = A at hdw
  have hA : A ≠ 0 := by
   intro e0; subst e0
   have := Nat.le_of_dvd (by omega) hdw; omega
  obtain ⟨B, rfl⟩ : ∃ B, A = B + 1 := ⟨A - 1, by omega⟩
  have e2 : (B + 1) * (B + 1) = (B + 1 + 1) * B + 1 := by
   rw [Nat.add_mul, Nat.mul_add, Nat.add_mul (B + 1), Nat.add_mul B]; omega
  rw [e2, mod_eq_iff_dvd_sub (by omega)]
  exact Nat.dvd_trans hdw ⟨B, by omega⟩
 have hcop := coprime_of_pow hp (Nat.mul_pos hh (by omega : 0 < 2 ^ k)) hx
 have hfer := fermat hp hcop
 have hg := pow_gcd _ _ hx hfer
 have hdiv : 2 ^ k ∣ Nat.gcd (h * 2 ^ k) (p - 1) := by
  apply Classical.byContradiction
  intro hnd
  have hgd : Nat.gcd (h * 2 ^ k) (p - 1) ∣ h * 2 ^ k := Nat.gcd_dvd_left _ _
  generalize Nat.gcd (h * 2 ^ k) (p - 1) = g at hg hnd hgd
  have key : ∀ k, 0 < k → ∀ g, g ∣ h * 2 ^ k → ¬ 2 ^ k ∣ g → g ∣ h * 2 ^ (k - 1) := by
   intro k
   induction k with
   | zero => intro h0; omega
   | succ k ihk =>
    intro _ g hgd hnd
    show g ∣ h * 2 ^ k
    by_cases hev : 2 ∣ g
    ·obtain ⟨g', rfl⟩ := hev
     rw [Nat.pow_succ] at hgd hnd
     have h1 : g' ∣ h * 2 ^ k := by
      obtain ⟨c, hc⟩ := hgd
      refine ⟨c, ?_⟩
      have : 2 * (h * 2 ^ k) = 2 * (g' * c) := by
       rw [← Nat.mul_assoc 2 g' c, ← hc, Nat.mul_comm 2, Nat.mul_assoc]
      omega
     have h2 : ¬ 2 ^ k ∣ g' := by
      rintro ⟨c, rfl⟩
      exact hnd ⟨c, by rw [Nat.mul_comm (2 ^ k) 2, Nat.mul_assoc]⟩
     by_cases hk0 : k = 0
     ·subst hk0; exact absurd (Nat.one_dvd g') h2
     ·have := ihk (by omega) g' h1 h2
      rw [show k = k - 1 + 1 by omega, Nat.pow_succ, ← Nat.mul_assoc, Nat.mul_comm 2]
      exact Nat.mul_dvd_mul_right this 2
    ·have hc2 : Nat.Coprime g 2 := by
      have p2 : IsPrime 2 := ⟨by omega, fun d hd => by have := Nat.le_of_dvd (by omega) hd; have : d ≠ 0 := (by intro e; subst e; simp at hd); omega⟩
      exact (p2.coprime_of_not_dvd hev).symm
     rw [Nat.pow_succ, ← Nat.mul_assoc] at hgd
     exact hc2.dvd_of_dvd_mul_right hgd
  obtain ⟨c, hc⟩ := key k hk g hgd hnd
  have h1 := pow_mod_one hg c
  rw [← hc] at h1
  have : (a ^ (h * 2 ^ (k - 1)) + 1) % p = 2 % p := by rw [Nat.add_mod, h1, ← Nat.add_mod]
  rw [Nat.mod_eq_zero_of_dvd hdw] at this
  rw [Nat.mod_eq_of_lt (by omega)] at this
  omega
 have h1 : 2 ^ k ∣ p - 1 := Nat.dvd_trans hdiv (Nat.gcd_dvd_right _ _)
 have h2 := Nat.le_of_dvd (by omega) h1
 have h3 : (2 ^ k + 1) * (2 ^ k + 1) ≤ p * p := Nat.mul_le_mul (by omega) (by omega)
 have h4 : h * 2 ^ k ≤ 2 ^ k * 2 ^ k := Nat.mul_le_mul_right _ (by omega)
 have h5 : (2 ^ k + 1) * (2 ^ k + 1) = 2 ^ k * 2 ^ k + 2 ^ k + 2 ^ k + 1 := by rw [Nat.add_mul, Nat.mul_add]; omega
 omega
theorem pocklington {q a : Nat} (hq : IsPrime q) (ha : 2 ≤ a) (h1 : a ^ (2 * q) % (2 * q + 1) = 1) (h2 : Nat.gcd (a ^ 2 - 1) (2 * q + 1) = 1) : IsPrime (2 * q + 1) := by
 have hq2 := hq.1
 apply Classical.byContradiction
 intro hn
 obtain ⟨p, hp, hpd, hpp⟩ := exists_small_prime (by omega) hn
 have hp2 := hp.1
 have hx : a ^ (2 * q) % p = 1 % p := by
  rw [← Nat.mod_mod_of_dvd _ hpd, h1]
 have hcop := coprime_of_pow hp (by omega) hx
 have hfer := fermat hp hcop
 have hg := pow_gcd _ _ hx hfer
 have hdiv : q ∣ Nat.gcd (2 * q) (p - 1) := by
  apply Classical.byContradiction
  intro hnd
  have hgd : Nat.gcd (2 * q) (p - 1) ∣ 2 * q := Nat.gcd_dvd_left _ _
  generalize Nat.gcd (2 * q) (p - 1) = g at hg hnd hgd
  have : g ∣ 2 := (hq.coprime_of_not_dvd hnd).symm.dvd_of_dvd_mul_right hgd
  obtain ⟨c, hc⟩ := this
  have h3 := pow_mod_one hg c
  rw [← hc] at h3
  have hpos : 1 ≤ a ^ 2 := Nat.pow_pos (by omega)
  have h4 := (mod_eq_iff_dvd_sub hpos).1 h3
  have h5 := Nat.dvd_gcd h4 hpd
  rw [h2] at h5
  have := Nat.le_of_dvd (by omega) h5
  omega
 have h3 : q ∣ p - 1 := Nat.dvd_trans hdiv (Nat.gcd_dvd_right _ _)
 have h4 := Nat.le_of_dvd (by omega) h3
 have h5 : (q + 1) * (q + 1) ≤ p * p := Nat.mul_le_mul (by omega) (by omega)
 have h6 : (q + 1) * (q + 1) = q * q + q + q + 1 := by rw [Nat.add_mul, Nat.mul_add]; omega
 have : 2 * q ≤ q * q := Nat.mul_le_mul_right q hq2
 omega
def powMod (a m : Nat) : Nat → Nat → Nat
 | 0, _ => 1 % m
 | f + 1, n => if n = 0 then 1 % m else
   let h := powMod a m f (n / 2)
   if n % 2 = 0 then h * h % m else h * h % m * a % m
theorem powMod_eq (a m : Nat) : ∀ f n, n < 2 ^ f → powMod a m f n = a ^ n % m
 | 0, n, h => by
  have : n = 0 := by simpa using h
  subst this; rfl
 | f + 1, n, h => by
  rw [powMod]
  by_cases h0 : n = 0
  ·subst h0; simp
  ·rw [if_neg h0]
   have ih := powMod_eq a m f (n / 2) (by rw [Nat.pow_succ] at h; omega)
   simp only [ih]
   have hn : n = n / 2 * 2 + n % 2 := by omega
   have e : (a ^ (n / 2) % m) * (a ^ (n / 2) % m) % m = a ^ (n / 2 * 2) % m := by
    rw [← Nat.mul_mod, ← Nat.pow_add]; congr 2; omega
   rw [e]
   by_cases h2 : n % 2 = 0
   ·rw [if_pos h2]; congr 2; omega
   ·rw [if_neg h2, Nat.mod_mul_mod, ← Nat.pow_succ]; congr 2; omega
theorem proth_by {h k a : Nat} (f : Nat) (hk : 0 < k) (hh : 0 < h) (hlt : h < 2 ^ k) (hf : h * 2 ^ (k - 1) < 2 ^ f)
  (hw : (powMod a (h * 2 ^ k + 1) f (h * 2 ^ (k - 1)) + 1) % (h * 2 ^ k + 1) = 0) : IsPrime (h * 2 ^ k + 1) := by
 rw [powMod_eq _ _ _ _ hf] at hw
 refine proth (a := a) hk hh hlt ?_
 rw [Nat.add_mod, Nat.mod_mod, ← Nat.add_mod] at hw
 exact hw
theorem pocklington_by {q a : Nat} (f : Nat) (hq : IsPrime q) (ha : 2 ≤ a) (hf : 2 * q < 2 ^ f) (h1 : powMod a (2 * q + 1) f (2 * q) = 1)
  (h2 : Nat.gcd (a ^ 2 - 1) (2 * q + 1) = 1) : IsPrime (2 * q + 1) := by
 rw [powMod_eq _ _ _ _ hf] at h1
 exact pocklington hq ha h1 h2
theorem prime_q1 : IsPrime 641 := proth_by (h := 5) (k := 7) (a := 3) 10 (by decide +kernel) (by decide +kernel) (by decide +kernel) (by decide +kernel) (by decide +kernel)
theorem prime_p1 : IsPrime 1283 := pocklington_by (q := 641) (a := 2) 11 prime_q1 (by decide +kernel) (by decide +kernel) (by decide +kernel) (by decide +kernel)
theorem prime_q2 : IsPrime 576465431670292481 := proth_by (h := 268437635) (k := 31) (a := 3) 60 (by decide +kernel) (by decide +kernel) (by decide +kernel) (by decide +kernel) (by decide +kernel)
theorem prime_p2 : IsPrime 1152930863340584963 := pocklington_by (q := 576465431670292481) (a := 2) 61 prime_q2 (by decide +kernel) (by decide +kernel) (by decide +kernel) (by decide +kernel)
theorem prime_q3 : IsPrime 7237005577332262213973186563042995786902308146886443998308627866733439352833 := proth_by (h := 42535295865117307932921825928971035519) (k := 127) (a := 3) 253 (by decide +kernel) (by decide +kernel) (by decide +kernel) (by decide +kernel) (by decide +kernel)
theorem prime_p3 : IsPrime 14474011154664524427946373126085991573804616293772887996617255733466878705667 := pocklington_by (q := 7237005577332262213973186563042995786902308146886443998308627866733439352833) (a := 2) 254 prime_q3 (by decide +kernel) (by decide +kernel) (by decide +kernel) (by decide +kernel)
end Go.Proofs.Ytdlnnkbigeiilaa
namespace Go.Proofs.Ytdlnnkbigeiilaa
open Go.RowKit
end Go.Proofs.Ytdlnnkbigeiilaa
namespace Go.Proofs.Ytdlnnkbigeiilaa
open Go.RowKit
def Ans (v : Value) (er : Int) (w : World) (e : Ending) (w' : World) : Prop := e = .returned (.tuple #[v, .int .i64 er]) ∧ Below w.heap.size w w'
theorem withS_none (k : Int) (hk : ¬ (1 ≤ k ∧ k ≤ 3)) (fv : Value) (w : World) : Calls Try.prog 84 #[.int .i64 k, fv] w (Ans (.string ⟨#[]⟩) 1 w) := by
 go_enter Try.func84, Try.ntmps84
 go_wp2_with fail
 refine (of_none k hk w).mono ?_
 rintro e w1 ⟨rfl, rfl⟩
 go_wp2_with fail
 go_ret2
 exact ⟨rfl, Below.refl _ _⟩
theorem withS_some (k : Nat) (h1 : 1 ≤ k) (h3 : k ≤ 3) (f : FuncId) (caps : Array Value) (v : Value) (er : Int) (hent : Enters Try.prog f) (w : World)
  (hcall : ∀ w1, Below w.heap.size w w1 → GroupAt w1 w.heap.size (grp k) → Calls Try.prog f (#[.pointer (some ⟨w.heap.size, 0, none⟩)] ++ caps) w1 (Ans v er w1)) :
  Calls Try.prog 84 #[.int .i64 (k : Int), .func (.func f) #[] caps] w (Ans v er w) := by
 have HC := Lib.hid hcall
 clear hcall
 have hcf : ∀ (args : Array Value) (w : World), (callFunc f args).run Try.prog w = .ok (.enter f args) w := hent
 clear hent
 go_enter Try.func84, Try.ntmps84
 go_wp2_with fail
 refine (of_some k h1 h3 w).mono ?_
 rintro e w1 ⟨rfl, hg, hb⟩
 have HG := Lib.hid hg
 have HB := Lib.hid hb
 clear hg hb
 go_wp2_with fail
 refine (HC.out w1 HB.out HG.out).mono ?_
 rintro e w2 ⟨rfl, hb2⟩
 have HB2 := Lib.hid (below_up HB.out hb2)
 clear hb2
 go_wp2_with fail
 go_ret2
 exact ⟨rfl, HB2.out⟩
end Go.Proofs.Ytdlnnkbigeiilaa
namespace Go.Proofs.Ytdlnnkbigeiilaa
open Go.RowKit
theorem fixed1_any (gb b : Nat) (f : FuncId) (caps : Array Value) (s : ByteArray) (hent : Enters Try.prog f) (w : World) (hc : w.cell? ⟨b, 0, none⟩ = some (.func (.func f) #[] caps))
  (hcall : Calls Try.prog f (#[.pointer (some ⟨gb, 0, none⟩)] ++ caps) w fun e w' => e = .returned (.string s) ∧ Below w.heap.size w w') :
  Calls Try.prog 85 #[.pointer (some ⟨gb, 0, none⟩), .pointer (some ⟨b, 0, none⟩)] w (Ans (.string s) 0 w) := by
 have HC := Lib.hid hcall
 clear hcall
 have hcf : ∀ (args : Array Value) (w : World), (callFunc f args).run Try.prog w = .ok (.enter f args) w := hent
 clear hent
 go_enter Try.func85, Try.ntmps85
 go_wp2_with fail
 refine HC.out.mono ?_
 rintro e w2 ⟨rfl, hb2⟩
 have HB2 := Lib.hid hb2
 clear hb2 hc
 go_wp2_with fail
 go_ret2
 exact ⟨rfl, HB2.out⟩
theorem fixed_some (k : Nat) (h1 : 1 ≤ k) (h3 : k ≤ 3) (f : FuncId) (caps : Array Value) (s : ByteArray) (hent : Enters Try.prog f) (w : World)
  (hcall : ∀ w1 gb, Below w.heap.size w w1 → GroupAt w1 gb (grp k) → Calls Try.prog f (#[.pointer (some ⟨gb, 0, none⟩)] ++ caps) w1 fun e w' => e = .returned (.string s) ∧ Below w1.heap.size w1 w') :
  Calls Try.prog 37 #[.int .i64 (k : Int), .func (.func f) #[] caps] w (Ans (.string s) 0 w) := by
 have HC := Lib.hid hcall
 have HE := Lib.hid hent
 clear hcall hent
 go_enter Try.func37, Try.ntmps37
 go_wp2_with fail
 have hb0 : Below w.heap.size w (w.alloc (.cells #[.func (.func f) #[] caps] 80)) := (Below.refl _ _).alloc (Nat.le_refl _) _
 have hz0 : Bx (w.alloc (.cells #[.func (.func f) #[] caps] 80)) w.heap.size 80 [.func (.func f) #[] caps] := Bx.new w _ _ _ rfl
 obtain ⟨W0, hW0⟩ : ∃ W9 : World, (w.alloc (.cells #[.func (.func f) #[] caps] 80)) = W9 := ⟨_, rfl⟩
 rw [hW0] at hb0 hz0 ⊢
 have HB0 := Lib.hid hb0
 have HZ0 := Lib.hid hz0
 clear hW0 hb0 hz0
 refine (withS_some k h1 h3 85 #[.pointer (some ⟨w.heap.size, 0, none⟩)] (.string s) 0 (enters_of Try.func85 (by kernel_rfl) rfl) W0 (fun w1 hb hg => ?_)).mono ?_
 ·exact fixed1_any _ _ f caps s HE.out w1 ((HZ0.out.up hb).cell (i := 0) rfl) (HC.out w1 _ (below_up HB0.out hb) hg)
 ·rintro e w2 ⟨rfl, hb2⟩
  have HB2 := Lib.hid (below_up HB0.out hb2)
  clear hb2
  go_wp2_with fail
  go_ret2
  exact ⟨rfl, HB2.out⟩
theorem fixed_none (k : Int) (hk : ¬ (1 ≤ k ∧ k ≤ 3)) (f : FuncId) (caps : Array Value) (w : World) : Calls Try.prog 37 #[.int .i64 k, .func (.func f) #[] caps] w (Ans (.string ⟨#[]⟩) 1 w) := by
 go_enter Try.func37, Try.ntmps37
 go_wp2_with fail
 refine (withS_none k hk _ _).mono ?_
 rintro e w1 ⟨rfl, hb⟩
 have HB := Lib.hid (((Below.refl w.heap.size w).alloc (Nat.le_refl _) _).trans (hb.mono (by simp)))
 clear hb
 go_wp2_with fail
 go_ret2
 exact ⟨rfl, HB.out⟩
theorem base1_any (G : GP) (ok : G.Ok) (gb : Nat) (w : World) (hG : GroupAt w gb G) : Calls Try.prog 102 #[.pointer (some ⟨gb, 0, none⟩)] w fun e w' => e = .returned (.string (textS (lowN G 2) G.size)) ∧ Below w.heap.size w w' := by
 have HG := Lib.hid hG
 have OK := Lib.hid ok
 clear hG ok
 go_enter Try.func102, Try.ntmps102
 go_wp2_with fail
 refine (gBase_any G OK.out gb w HG.out).mono ?_
 rintro e w1 ⟨rfl, hb1⟩
 have HB1 := Lib.hid hb1
 clear hb1
 go_wp2_with fail
 refine (gText_any G OK.out gb 2 w1 (HG.out.up HB1.out)).mono ?_
 rintro e w2 ⟨rfl, hb2⟩
 have HB2 := Lib.hid (below_up HB1.out hb2)
 clear hb2
 go_wp2_with fail
 go_ret
 exact ⟨rfl, HB2.out⟩
theorem low2 (k : Nat) (h1 : 1 ≤ k) (h3 : k ≤ 3) : lowN (grp k) 2 = 2 := by
 obtain rfl | rfl | rfl : k = 1 ∨ k = 2 ∨ k = 3 := by omega
 all_goals decide
theorem Base_some (k : Nat) (h1 : 1 ≤ k) (h3 : k ≤ 3) (w : World) : Calls Try.prog 62 #[.int .i64 (k : Int)] w (Ans (.string (textS 2 (grp k).size)) 0 w) := by
 go_enter Try.func62, Try.ntmps62
 go_wp2_with fail
 refine (fixed_some k h1 h3 102 #[] ((textS 2 (grp k).size)) (enters_of Try.func102 (by kernel_rfl) rfl) w (fun w1 gb hb hg => by rw [← low2 k h1 h3]; exact base1_any (grp k) (grp_ok k h1 h3) gb w1 hg)).mono ?_
 rintro e w2 ⟨rfl, hb2⟩
 have HB2 := Lib.hid hb2
 clear hb2
 go_wp2_with fail
 go_ret2
 exact ⟨rfl, HB2.out⟩
theorem Base_none (k : Int) (hk : ¬ (1 ≤ k ∧ k ≤ 3)) (w : World) : Calls Try.prog 62 #[.int .i64 k] w (Ans (.string ⟨#[]⟩) 1 w) := by
 go_enter Try.func62, Try.ntmps62
 go_wp2_with fail
 refine (fixed_none k hk _ _ w).mono ?_
 rintro e w2 ⟨rfl, hb2⟩
 have HB2 := Lib.hid hb2
 clear hb2
 go_wp2_with fail
 go_ret2
 exact ⟨rfl, HB2.out⟩
end Go.Proofs.Ytdlnnkbigeiilaa
namespace Go.Proofs.Ytdlnnkbigeiilaa
open Go.RowKit
end Go.Proofs.Ytdlnnkbigeiilaa
namespace Go.Proofs.Ytdlnnkbigeiilaa
open Go.RowKit
end Go.Proofs.Ytdlnnkbigeiilaa
namespace Go.Proofs.Ytdlnnkbigeiilaa
open Go.RowKit
end Go.Proofs.Ytdlnnkbigeiilaa
namespace Go.Proofs.Ytdlnnkbigeiilaa
open Go.RowKit
end Go.Proofs.Ytdlnnkbigeiilaa
namespace Go.Proofs.Ytdlnnkbigeiilaa
open Go.RowKit
end Go.Proofs.Ytdlnnkbigeiilaa
namespace Go.Proofs.Ytdlnnkbigeiilaa
open Go.RowKit
def lowR (q p x : Nat) : Nat := if q < x then p - x else x
end Go.Proofs.Ytdlnnkbigeiilaa
namespace Go.Proofs.Ytdlnnkbigeiilaa
open Go.RowKit
def isSc (q sz : Nat) (s : ByteArray) : Bool := decide (s.size = sz) && decide (numOf s < q)
def isEl (q sz : Nat) (s : ByteArray) : Bool := decide (s.size = sz) && decide (0 < numOf s) && decide (numOf s ≤ q)
end Go.Proofs.Ytdlnnkbigeiilaa
namespace Go.Proofs.Ytdlnnkbigeiilaa
open Go.RowKit
def ReadR (ok : Bool) (v : Value) (w : World) (e : Ending) (w' : World) : Prop := ∃ x : Nat, e = .returned (.tuple #[limbV x, .bool ok]) ∧ Below w.heap.size w w' ∧ (ok = true → limbV x = v)
theorem gScalar_any (G : GP) (ok : G.Ok) (gb : Nat) (s : ByteArray) (w : World) (hG : GroupAt w gb G) :
  Calls Try.prog 78 #[.pointer (some ⟨gb, 0, none⟩), .string s] w (ReadR (isSc G.q.m G.size s) (scV G (numOf s)) w) := by
 have no : isSc G.q.m G.size s = false → ∀ e w', (e = .returned (.tuple #[limbV 0, .bool false]) ∧ Below w.heap.size w w') → ReadR (isSc G.q.m G.size s) (scV G (numOf s)) w e w' := fun h e w' ⟨h1, h2⟩ => ⟨0, by rw [h]; exact h1, h2, fun hc => by rw [h] at hc; cases hc⟩
 by_cases h32 : 32 < s.size
 ·exact (gScalar_long G ok gb s h32 w hG).mono (no (by have := ok.size_le; unfold isSc; simp; omega))
 by_cases hl : s.size = G.size
 ·rcases Nat.lt_trichotomy (numOf s) G.q.m with hc | hc | hc
  ·refine (gScalar_yes G ok gb s hl hc w hG).mono ?_
   rintro e w' ⟨h1, h2⟩
   exact ⟨mont G.q.m (numOf s), by rw [show isSc G.q.m G.size s = true by unfold isSc; simp [hl, hc]]; exact h1, h2, fun _ => rfl⟩
  ·exact (gScalar_eq G ok gb s hl hc w hG).mono (no (by unfold isSc; simp; omega))
  ·exact (gScalar_gt G ok gb s hl hc w hG).mono (no (by unfold isSc; simp; omega))
 ·exact (gScalar_len G ok gb s (by omega) hl w hG).mono (no (by unfold isSc; simp [hl]))
theorem gElem_any (G : GP) (ok : G.Ok) (gb : Nat) (s : ByteArray) (w : World) (hG : GroupAt w gb G) :
  Calls Try.prog 105 #[.pointer (some ⟨gb, 0, none⟩), .string s] w (ReadR (isEl G.q.m G.size s) (elV G (numOf s)) w) := by
 have no : isEl G.q.m G.size s = false → ∀ e w', (e = .returned (.tuple #[limbV 0, .bool false]) ∧ Below w.heap.size w w') → ReadR (isEl G.q.m G.size s) (elV G (numOf s)) w e w' := fun h e w' ⟨h1, h2⟩ => ⟨0, by rw [h]; exact h1, h2, fun hc => by rw [h] at hc; cases hc⟩
 by_cases h32 : 32 < s.size
 ·exact (gElem_long G ok gb s h32 w hG).mono (no (by have := ok.size_le; unfold isEl; simp; omega))
 by_cases hl : s.size = G.size
 ·by_cases h0 : numOf s = 0
  ·exact (gElem_zero G ok gb s hl h0 w hG).mono (no (by unfold isEl; simp [h0]))
  rcases Nat.lt_trichotomy (numOf s) G.q.m with hc | hc | hc
  ·refine (gElem_lt G ok gb s hl (by omega) hc w hG).mono ?_
   rintro e w' ⟨h1, h2⟩
   exact ⟨mont G.p.m (numOf s), by rw [show isEl G.q.m G.size s = true by unfold isEl; simp [hl]; omega]; exact h1, h2, fun _ => rfl⟩
  ·refine (gElem_eq G ok gb s hl (by omega) hc w hG).mono ?_
   rintro e w' ⟨h1, h2⟩
   exact ⟨mont G.p.m (numOf s), by rw [show isEl G.q.m G.size s = true by unfold isEl; simp [hl]; omega]; exact h1, h2, fun _ => rfl⟩
  ·exact (gElem_gt G ok gb s hl hc w hG).mono (no (by unfold isEl; simp; omega))
 ·exact (gElem_len G ok gb s (by omega) hl w hG).mono (no (by unfold isEl; simp [hl]))
theorem Scalar_some (k : Nat) (h1 : 1 ≤ k) (h3 : k ≤ 3) (s : ByteArray) (w : World) : Calls Try.prog 61 #[.int .i64 (k : Int), .string s] w fun e w' => e = .returned (.bool (isSc (grp k).q.m (grp k).size s)) ∧ Below w.heap.size w w' := by
 have OK := Lib.hid (grp_ok k h1 h3)
 go_enter Try.func61, Try.ntmps61
 go_wp2_with fail
 refine (of_some k h1 h3 w).mono ?_
 rintro e w1 ⟨rfl, hg, hb⟩
 have HG := Lib.hid hg
 have HB := Lib.hid hb
 clear hg hb
 go_wp2_with fail
 refine (gScalar_any (grp k) OK.out w.heap.size s w1 HG.out).mono ?_
 rintro e w2 ⟨x, rfl, hb2, -⟩
 have HB2 := Lib.hid (below_up HB.out hb2)
 clear hb2
 obtain ⟨b, hbb⟩ : ∃ b, isSc (grp k).q.m (grp k).size s = b := ⟨_, rfl⟩
 rw [hbb]
 have HBB := Lib.hid hbb
 clear hbb
 unfold limbV
 go_wp2_with fail
 go_ret
 exact ⟨by rw [HBB.out]; rfl, HB2.out.alloc HB2.out.size _⟩
theorem Member_some (k : Nat) (h1 : 1 ≤ k) (h3 : k ≤ 3) (s : ByteArray) (w : World) : Calls Try.prog 63 #[.int .i64 (k : Int), .string s] w fun e w' => e = .returned (.bool (isEl (grp k).q.m (grp k).size s)) ∧ Below w.heap.size w w' := by
 have OK := Lib.hid (grp_ok k h1 h3)
 go_enter Try.func63, Try.ntmps63
 go_wp2_with fail
 refine (of_some k h1 h3 w).mono ?_
 rintro e w1 ⟨rfl, hg, hb⟩
 have HG := Lib.hid hg
 have HB := Lib.hid hb
 clear hg hb
 go_wp2_with fail
 refine (gElem_any (grp k) OK.out w.heap.size s w1 HG.out).mono ?_
 rintro e w2 ⟨x, rfl, hb2, -⟩
 have HB2 := Lib.hid (below_up HB.out hb2)
 clear hb2
 obtain ⟨b, hbb⟩ : ∃ b, isEl (grp k).q.m (grp k).size s = b := ⟨_, rfl⟩
 rw [hbb]
 have HBB := Lib.hid hbb
 clear hbb
 unfold limbV
 go_wp2_with fail
 go_ret
 exact ⟨by rw [HBB.out]; rfl, HB2.out.alloc HB2.out.size _⟩
end Go.Proofs.Ytdlnnkbigeiilaa
namespace Go.Proofs.Ytdlnnkbigeiilaa
open Go.RowKit
def ReadM (b : Bool) (m : Nat) (w : World) (e : Ending) (w' : World) : Prop := ∃ x : Nat, e = .returned (.tuple #[limbV x, .bool b]) ∧ Below w.heap.size w w' ∧ (b = true → x = m)
theorem ReadR.m {b : Bool} {m : Nat} {w w' : World} {e : Ending} (h : ReadR b (limbV m) w e w') : ReadM b m w e w' := by
 obtain ⟨x, h1, h2, h3⟩ := h
 cases b with
 | true => exact ⟨m, by rw [h1, h3 rfl], h2, fun _ => rfl⟩
 | false => exact ⟨x, h1, h2, fun h => by cases h⟩
theorem gScalar_m (G : GP) (ok : G.Ok) (gb : Nat) (s : ByteArray) (b : Bool) (hb : isSc G.q.m G.size s = b) (w : World) (hG : GroupAt w gb G) :
  Calls Try.prog 78 #[.pointer (some ⟨gb, 0, none⟩), .string s] w (ReadM b (mont G.q.m (numOf s)) w) := by
 subst hb
 exact (gScalar_any G ok gb s w hG).mono fun e w' h => ReadR.m h
theorem gElem_m (G : GP) (ok : G.Ok) (gb : Nat) (s : ByteArray) (b : Bool) (hb : isEl G.q.m G.size s = b) (w : World) (hG : GroupAt w gb G) :
  Calls Try.prog 105 #[.pointer (some ⟨gb, 0, none⟩), .string s] w (ReadM b (mont G.p.m (numOf s)) w) := by
 subst hb
 exact (gElem_any G ok gb s w hG).mono fun e w' h => ReadR.m h
end Go.Proofs.Ytdlnnkbigeiilaa
namespace Go.Proofs.Ytdlnnkbigeiilaa
open Go.RowKit
theorem box2 (w : World) (v1 v2 : Value) (t1 t2 : TypeId) :
  Below w.heap.size w ((w.alloc (.cells #[v1] t1)).alloc (.cells #[v2] t2)) ∧ Bx ((w.alloc (.cells #[v1] t1)).alloc (.cells #[v2] t2)) w.heap.size t1 [v1] ∧ Bx ((w.alloc (.cells #[v1] t1)).alloc (.cells #[v2] t2)) (w.heap.size + 1) t2 [v2] := by
 have a1 : Below w.heap.size w (w.alloc (.cells #[v1] t1)) := (Below.refl _ _).alloc (Nat.le_refl _) _
 have a2 : Below (w.alloc (.cells #[v1] t1)).heap.size (w.alloc (.cells #[v1] t1)) ((w.alloc (.cells #[v1] t1)).alloc (.cells #[v2] t2)) := (Below.refl _ _).alloc (Nat.le_refl _) _
 refine ⟨below_up a1 a2, (Bx.new w _ _ _ rfl).up a2, ?_⟩
 have h := Bx.new (w.alloc (.cells #[v1] t1)) t2 [v2] _ rfl
 rwa [World.size_alloc] at h
theorem isSc_lt {q size : Nat} {s : ByteArray} (h : isSc q size s = true) : numOf s < q := by
 unfold isSc at h
 simp at h
 exact h.2
end Go.Proofs.Ytdlnnkbigeiilaa
namespace Go.Proofs.Ytdlnnkbigeiilaa
open Go.RowKit
def prodV (G : GP) : List ByteArray → List ByteArray → Nat → ByteArray
 | a :: xs, n :: ys, z => if isEl G.q.m G.size a = false then ⟨#[]⟩ else if isSc G.q.m G.size n = false then ⟨#[]⟩ else prodV G xs ys (z * numOf a ^ numOf n)
 | _, _, z => textS (lowN G z) G.size
def prodE (G : GP) : List ByteArray → List ByteArray → Int
 | a :: xs, n :: ys => if isEl G.q.m G.size a = false then 7 else if isSc G.q.m G.size n = false then 6 else prodE G xs ys
 | _, _ => 0
theorem product1_long (gb b1 b2 la ln : Nat) (aa an : Option Addr) (ca cn : Nat) (hl : 256 < la ∨ 256 < ln) (w : World)
  (hc1 : Bx w b1 22 [.slice aa la ca]) (hc2 : Bx w b2 22 [.slice an ln cn]) :
  Calls Try.prog 141 #[.pointer (some ⟨gb, 0, none⟩), .pointer (some ⟨b1, 0, none⟩), .pointer (some ⟨b2, 0, none⟩)] w (Ans (.string ⟨#[]⟩) 3 w) := by
 have hk1 := hc1.cell (i := 0) rfl
 have hk2 := hc2.cell (i := 0) rfl
 clear hc1 hc2
 by_cases ha : 256 < la
 ·have hd : decide ((la : Int) > 256) = true := by simp; omega
  go_enter Try.func141, Try.ntmps141
  go_wp2_with fail
  go_ret2
  exact ⟨rfl, Below.refl _ _⟩
 ·have hd : decide ((la : Int) > 256) = false := by simp; omega
  have hd2 : decide ((ln : Int) > 256) = true := by simp; omega
  go_enter Try.func141, Try.ntmps141
  go_wp2_with fail
  go_ret2
  exact ⟨rfl, Below.refl _ _⟩
theorem product1_form (gb b1 b2 la ln : Nat) (aa an : Option Addr) (ca cn : Nat) (h1 : la ≤ 256) (h2 : ln ≤ 256) (hne : la ≠ ln) (w : World)
  (hc1 : Bx w b1 22 [.slice aa la ca]) (hc2 : Bx w b2 22 [.slice an ln cn]) :
  Calls Try.prog 141 #[.pointer (some ⟨gb, 0, none⟩), .pointer (some ⟨b1, 0, none⟩), .pointer (some ⟨b2, 0, none⟩)] w (Ans (.string ⟨#[]⟩) 2 w) := by
 have hk1 := hc1.cell (i := 0) rfl
 have hk2 := hc2.cell (i := 0) rfl
 clear hc1 hc2
 have hd : decide ((la : Int) > 256) = false := by simp; omega
 have hd2 : decide ((ln : Int) > 256) = false := by simp; omega
 have hd3 : ((la : Int) != (ln : Int)) = true := by rw [bne_iff_ne]; intro h; exact hne (by exact_mod_cast h)
 go_enter Try.func141, Try.ntmps141
 go_wp2_with fail
 go_ret2
 exact ⟨rfl, Below.refl _ _⟩
theorem drop_cons {α : Type} {l : List α} {i : Nat} (h : i < l.length) : l.drop i = l[i] :: l.drop (i + 1) := List.drop_eq_getElem_cons h
theorem product1_any (G : GP) (ok : G.Ok) (gb b1 b2 L : Nat) (xs ys : List ByteArray) (aa an : Option Addr) (ca cn : Nat) (ha : xs.length = L) (hn : ys.length = L) (hL : L ≤ 256) (w : World) (hG : GroupAt w gb G)
  (hc1 : Bx w b1 22 [.slice aa L ca]) (hc2 : Bx w b2 22 [.slice an L cn]) (hA : Sl w w.heap.size aa (xs.map Value.string)) (hN : Sl w w.heap.size an (ys.map Value.string)) :
  Calls Try.prog 141 #[.pointer (some ⟨gb, 0, none⟩), .pointer (some ⟨b1, 0, none⟩), .pointer (some ⟨b2, 0, none⟩)] w (Ans (.string (prodV G xs ys 1)) (prodE G xs ys) w) := by
 have HLA := Lib.hid ha
 have HLN := Lib.hid hn
 have HC1 := Lib.hid hc1
 have HC2 := Lib.hid hc2
 have HA := Lib.hid hA
 have HNN := Lib.hid hN
 have HG := Lib.hid hG
 have OK := Lib.hid ok
 have hk1 := hc1.cell (i := 0) rfl
 have hk2 := hc2.cell (i := 0) rfl
 clear ha hn hc1 hc2 hA hN hG ok
 have hd : decide ((L : Int) > 256) = false := by simp; omega
 have hd3 : ((L : Int) != (L : Int)) = false := by simp
 go_enter Try.func141, Try.ntmps141
 go_wp2_with fail
 refine (gOne_any G OK.out gb w HG.out).mono ?_
 rintro e w1 ⟨rfl, hb1⟩
 have HB1 := Lib.hid hb1
 clear hb1
 unfold elV limbV
 obtain ⟨w2, hlw, hlb, hlz⟩ := boxL w1 164 ((mont G.p.m 1))
 have HLw2 := Lib.hid hlb
 have HXw2 := Lib.hid hlz
 clear hlb hlz
 have HB2 := Lib.hid (below_up HB1.out HLw2.out)
 have hwb : w.heap.size ≤ w1.heap.size := HB1.out.size
 clear hk1 hk2
 have hk1 := (HC1.out.up HB2.out).cell (i := 0) rfl
 go_wp2_with fail
 go_loopw [7, 8, 9, 10, 30] (fun _ _ _ _ x wr => ∃ i z : Nat, i ≤ L ∧ x = .int .i64 (i : Int) ∧ Hid (Below w.heap.size w wr) ∧ Hid (Blk wr w1.heap.size 164 (lim (mont G.p.m z))) ∧ Hid (prodV G xs ys 1 = prodV G (xs.drop i) (ys.drop i) z) ∧ Hid (prodE G xs ys = prodE G (xs.drop i) (ys.drop i))) (fun _ _ _ _ x _ => L - (intOf x).toNat)
 case atStart => exact ⟨0, 1, Nat.zero_le _, rfl, HB2.out, HXw2.out, rfl, rfl⟩
 case round =>
  obtain ⟨i, z, hi, hxi, HB, HZ, HV, HE⟩ := hrel
  subst hxi
  clear hk1
  have hk1 := (HC1.out.up HB.out).cell (i := 0) rfl
  have hk2 := (HC2.out.up HB.out).cell (i := 0) rfl
  by_cases hiL : i < L
  ·obtain ⟨s, hs⟩ : ∃ s, xs[i]'(by rw [HLA.out]; exact hiL) = s := ⟨_, rfl⟩
   obtain ⟨t, ht⟩ : ∃ t, ys[i]'(by rw [HLN.out]; exact hiL) = t := ⟨_, rfl⟩
   obtain ⟨b3, o3, rfl, hb3, hc3⟩ := HA.out.at i (by rw [List.length_map, HLA.out]; exact hiL)
   obtain ⟨b4, o4, rfl, hb4, hc4⟩ := HNN.out.at i (by rw [List.length_map, HLN.out]; exact hiL)
   rw [List.getElem_map, hs] at hc3
   rw [List.getElem_map, ht] at hc4
   have hx3 : wr.cell? ⟨b3, o3 + i, none⟩ = some (.string s) := by rw [HB.out.cell (p := ⟨b3, o3 + i, none⟩) hb3]; exact hc3
   have HC4 := Lib.hid hc4
   have hdx := drop_cons (show i < xs.length by rw [HLA.out]; exact hiL)
   have hdy := drop_cons (show i < ys.length by rw [HLN.out]; exact hiL)
   rw [hs] at hdx
   rw [ht] at hdy
   have HDX := Lib.hid hdx
   have HDY := Lib.hid hdy
   clear hs ht hc3 hc4 hdx hdy
   obtain ⟨ba, hba⟩ : ∃ b, isEl G.q.m G.size s = b := ⟨_, rfl⟩
   obtain ⟨bb, hbb⟩ : ∃ b, isSc G.q.m G.size t = b := ⟨_, rfl⟩
   have HBA := Lib.hid hba
   have HBB := Lib.hid hbb
   clear hba hbb
   go_wp2_with fail
   refine (gElem_m G OK.out gb s ba HBA.out wr (HG.out.up HB.out)).mono ?_
   rintro e w3 ⟨x, rfl, hb3', hx⟩
   have HX := Lib.hid hx
   have HB3 := Lib.hid (below_up HB.out hb3')
   have HZ3 := Lib.hid (HZ.out.below hb3' HZ.out.lt)
   clear hb3' hx hx3 hk1 hk2
   unfold limbV
   obtain ⟨w4, hlw, hlb, hlz⟩ := boxL w3 164 (x)
   have HLw4 := Lib.hid hlb
   have HXw4 := Lib.hid hlz
   clear hlb hlz
   have HB4 := Lib.hid (below_up HB3.out HLw4.out)
   have HZ4 := Lib.hid (HZ3.out.below HLw4.out HZ3.out.lt)
   have hk2 := (HC2.out.up HB4.out).cell (i := 0) rfl
   have hx4 : w4.cell? ⟨b4, o4 + i, none⟩ = some (.string t) := by rw [HB4.out.cell (p := ⟨b4, o4 + i, none⟩) hb4]; exact HC4.out
   cases ba
   ·go_wp2_with fail
    go_ret2
    exact ⟨by rw [HV.out, HE.out, HDX.out, HDY.out]; unfold prodV prodE; rw [if_pos HBA.out, if_pos HBA.out]; rfl, HB4.out⟩
   ·obtain rfl : x = mont G.p.m (numOf s) := HX.out rfl
    go_wp2_with fail
    refine (gScalar_m G OK.out gb t bb HBB.out w4 (HG.out.up HB4.out)).mono ?_
    rintro e w5 ⟨y, rfl, hb5, hy⟩
    have HY := Lib.hid hy
    have HB5 := Lib.hid (below_up HB4.out hb5)
    have HZ5 := Lib.hid (HZ4.out.below hb5 HZ4.out.lt)
    have HX5 := Lib.hid (HXw4.out.below hb5 HXw4.out.lt)
    clear hb5 hy hx4 hk2 hlw
    unfold limbV
    obtain ⟨w6, hlw, hlb, hlz⟩ := boxL w5 78 (y)
    have HLw6 := Lib.hid hlb
    have HXw6 := Lib.hid hlz
    clear hlb hlz
    have HB6 := Lib.hid (below_up HB5.out HLw6.out)
    have HZ6 := Lib.hid (HZ5.out.below HLw6.out HZ5.out.lt)
    have HX6 := Lib.hid (HX5.out.below HLw6.out HX5.out.lt)
    cases bb
    ·go_wp2_with fail
     go_ret2
     exact ⟨by rw [HV.out, HE.out, HDX.out, HDY.out]; unfold prodV prodE; rw [if_neg (by rw [HBA.out]; decide), if_pos HBB.out, if_neg (by rw [HBA.out]; decide), if_pos HBB.out]; rfl, HB6.out⟩
    ·obtain rfl : y = mont G.q.m (numOf t) := HY.out rfl
     have HV2 : Hid (prodV G xs ys 1 = prodV G (xs.drop (i + 1)) (ys.drop (i + 1)) (z * numOf s ^ numOf t)) := by
      show _ = _
      rw [HV.out, HDX.out, HDY.out, prodV, if_neg (by rw [HBA.out]; decide), if_neg (by rw [HBB.out]; decide)]
     have HE2 : Hid (prodE G xs ys = prodE G (xs.drop (i + 1)) (ys.drop (i + 1))) := by
      show _ = _
      rw [HE.out, HDX.out, HDY.out, prodE, if_neg (by rw [HBA.out]; decide), if_neg (by rw [HBB.out]; decide)]
     have HM : Hid (numOf t % G.q.m = numOf t) := Nat.mod_eq_of_lt (isSc_lt HBB.out)
     go_wp2_with fail
     have hz_ := Blk.l4 (mont G.p.m z) HZ6.out
     have hx_ := Blk.l4 (mont G.p.m (numOf s)) HX6.out
     have hy_ := Blk.l4 (mont G.q.m (numOf t)) HXw6.out
     have hl1 := HZ6.out.lt
     have hl2 := HX6.out.lt
     have hl3 := HXw6.out.lt
     refine wp_region_otail 7 (by kernel_rfl) (by kernel_rfl) ?_
     simp only [List.take_succ_cons, List.take_zero, List.drop_succ_cons, List.drop_zero]
     have hov1 := fun (E : Over w6) o => E.cell (b := w1.heap.size) o hl1
     have hov2 := fun (E : Over w6) o => E.cell (b := w3.heap.size) o hl2
     have hov3 := fun (E : Over w6) o => E.cell (b := w5.heap.size) o hl3
     have hpow := fun (E : Over w6) => gPower_any G OK.out gb (numOf s) (numOf t) E.w (HG.out.up (below_up HB6.out E.h))
     rw [HM.out] at hpow
     have HPOW := Lib.hid hpow
     clear hpow
     repeat (go_big_quiet_step (first | (go_at_call 117; exact calls_over (HPOW.out _)) | (go_at_call 120; exact calls_over (gTimes_any G OK.out gb z (numOf s ^ numOf t) _ (HG.out.up (below_up HB6.out (Over.h _)))))))
     all_goals (try unfold elV limbV)
     repeat (go_big_quiet_step (first | (go_at_call 117; exact calls_over (HPOW.out _)) | (go_at_call 120; exact calls_over (gTimes_any G OK.out gb z (numOf s ^ numOf t) _ (HG.out.up (below_up HB6.out (Over.h _)))))))
     all_goals (try unfold elV limbV)
     repeat (go_big_quiet_step (first | (go_at_call 117; exact calls_over (HPOW.out _)) | (go_at_call 120; exact calls_over (gTimes_any G OK.out gb z (numOf s ^ numOf t) _ (HG.out.up (below_up HB6.out (Over.h _)))))))
     refine wpQuiet_nil ?_
     rintro _ ⟨E, rfl⟩
     have HZ7 := Lib.hid (HZ6.out.below E.h HZ6.out.lt)
     have HB7 := Lib.hid (below_up HB6.out E.h)
     clear hov1 hov2 hov3 hz_
     generalize E.w = w7 at *
     have hz_ := Blk.l4 (mont G.p.m z) HZ7.out
     have hzf_ := HZ7.out.frozen
     have HB8 : Hid (Below w.heap.size w (((((w7).setCell ⟨w1.heap.size, 0, none⟩ (.int .u64 (dig (mont G.p.m (z * numOf s ^ numOf t)) 0 : Int))).setCell ⟨w1.heap.size, 1, none⟩ (.int .u64 (dig (mont G.p.m (z * numOf s ^ numOf t)) 1 : Int))).setCell ⟨w1.heap.size, 2, none⟩ (.int .u64 (dig (mont G.p.m (z * numOf s ^ numOf t)) 2 : Int))).setCell ⟨w1.heap.size, 3, none⟩ (.int .u64 (dig (mont G.p.m (z * numOf s ^ numOf t)) 3 : Int)))) := below_fill HB7.out hwb
     have HZ8 : Hid (Blk (((((w7).setCell ⟨w1.heap.size, 0, none⟩ (.int .u64 (dig (mont G.p.m (z * numOf s ^ numOf t)) 0 : Int))).setCell ⟨w1.heap.size, 1, none⟩ (.int .u64 (dig (mont G.p.m (z * numOf s ^ numOf t)) 1 : Int))).setCell ⟨w1.heap.size, 2, none⟩ (.int .u64 (dig (mont G.p.m (z * numOf s ^ numOf t)) 2 : Int))).setCell ⟨w1.heap.size, 3, none⟩ (.int .u64 (dig (mont G.p.m (z * numOf s ^ numOf t)) 3 : Int))) w1.heap.size 164 (lim (mont G.p.m (z * numOf s ^ numOf t)))) := HZ7.out.fill rfl _
     go_wp2_with fail
     go_roundw
     case rel => exact ⟨i + 1, z * numOf s ^ numOf t, by omega, by go_num, HB8.out, HZ8.out, HV2.out, HE2.out⟩
     case measure => simp [intOf]; omega
  ·have hil : i = L := by omega
   subst hil
   have hz_ := Blk.l4 (mont G.p.m z) HZ.out
   go_wp2_with fail
   refine (gText_any G OK.out gb z wr (HG.out.up HB.out)).mono ?_
   rintro e w3 ⟨rfl, hb3⟩
   have HB3 := Lib.hid (below_up HB.out hb3)
   clear hb3
   go_wp2_with fail
   go_ret2
   refine ⟨?_, HB3.out⟩
   rw [HV.out, HE.out, List.drop_eq_nil_of_le (by rw [HLA.out]; exact Nat.le_refl _)]
   rfl
def proV (G : GP) (xs ys : List ByteArray) : ByteArray := if 256 < xs.length ∨ 256 < ys.length then ⟨#[]⟩ else if xs.length ≠ ys.length then ⟨#[]⟩ else prodV G xs ys 1
def proE (G : GP) (xs ys : List ByteArray) : Int := if 256 < xs.length ∨ 256 < ys.length then 3 else if xs.length ≠ ys.length then 2 else prodE G xs ys
theorem Product_call {k : Nat} (h1 : 1 ≤ k) (h3 : k ≤ 3) {xs ys : List ByteArray} {aa an : Option Addr} {la ln ca cn : Nat} (ha : xs.length = la) (hn : ys.length = ln) {w W0 w1 : World}
  (hA : Sl w w.heap.size aa (xs.map Value.string)) (hN : Sl w w.heap.size an (ys.map Value.string))
  (hz : Below w.heap.size w W0 ∧ Bx W0 w.heap.size 22 [.slice aa la ca] ∧ Bx W0 (w.heap.size + 1) 22 [.slice an ln cn]) (hb : Below W0.heap.size W0 w1) (hg : GroupAt w1 W0.heap.size (grp k)) :
  Calls Try.prog 141 #[.pointer (some ⟨W0.heap.size, 0, none⟩), .pointer (some ⟨w.heap.size, 0, none⟩), .pointer (some ⟨w.heap.size + 1, 0, none⟩)] w1 (Ans (.string (proV (grp k) xs ys)) (proE (grp k) xs ys) w1) := by
 have ok := grp_ok k h1 h3
 have z1 := hz.2.1.up hb
 have z2 := hz.2.2.up hb
 have hu := below_up hz.1 hb
 unfold proV proE
 rw [ha, hn]
 by_cases hl : 256 < la ∨ 256 < ln
 ·rw [if_pos hl, if_pos hl]
  exact product1_long _ _ _ la ln aa an ca cn hl w1 z1 z2
 ·rw [if_neg hl, if_neg hl]
  by_cases he : la = ln
  ·subst he
   rw [if_neg (by simp), if_neg (by simp)]
   exact product1_any _ ok _ _ _ la xs ys aa an ca cn ha hn (by omega) w1 hg z1 z2 (hA.up hu) (hN.up hu)
  ·rw [if_pos he, if_pos he]
   exact product1_form _ _ _ la ln aa an ca cn (by omega) (by omega) he w1 z1 z2
theorem Product_some (k : Nat) (h1 : 1 ≤ k) (h3 : k ≤ 3) (xs ys : List ByteArray) (aa an : Option Addr) (la ln ca cn : Nat) (ha : xs.length = la) (hn : ys.length = ln) (w : World)
  (hA : Sl w w.heap.size aa (xs.map Value.string)) (hN : Sl w w.heap.size an (ys.map Value.string)) :
  Calls Try.prog 106 #[.int .i64 (k : Int), .slice aa la ca, .slice an ln cn] w (Ans (.string (proV (grp k) xs ys)) (proE (grp k) xs ys) w) := by
 have HLA := Lib.hid ha
 have HLN := Lib.hid hn
 have HA := Lib.hid hA
 have HN := Lib.hid hN
 clear ha hn hA hN
 go_enter Try.func106, Try.ntmps106
 go_wp2_with fail
 obtain ⟨W0, hW0⟩ : ∃ W9 : World, ((w.alloc (.cells #[.slice aa la ca] 22)).alloc (.cells #[.slice an ln cn] 22)) = W9 := ⟨_, rfl⟩
 have hz := box2 w (.slice aa la ca) (.slice an ln cn) 22 22
 rw [hW0] at hz
 have HZ := Lib.hid hz
 clear hz
 simp only [hW0]
 clear hW0
 refine (withS_some k h1 h3 141 #[.pointer (some ⟨w.heap.size, 0, none⟩), .pointer (some ⟨w.heap.size + 1, 0, none⟩)] (.string (proV (grp k) xs ys)) (proE (grp k) xs ys) (enters_of Try.func141 (by kernel_rfl) rfl) W0 (fun w1 hb hg => Product_call h1 h3 HLA.out HLN.out HA.out HN.out HZ.out hb hg)).mono ?_
 rintro e w2 ⟨rfl, hb2⟩
 have HB2 := Lib.hid (below_up HZ.out.1 hb2)
 clear hb2
 go_wp2_with fail
 go_ret2
 exact ⟨rfl, HB2.out⟩
end Go.Proofs.Ytdlnnkbigeiilaa
namespace Go.Proofs.Ytdlnnkbigeiilaa
open Go.RowKit
def powV (G : GP) (a n : ByteArray) : ByteArray := if isEl G.q.m G.size a = false then ⟨#[]⟩ else if isSc G.q.m G.size n = false then ⟨#[]⟩ else textS (lowN G (numOf a ^ numOf n)) G.size
def powE (G : GP) (a n : ByteArray) : Int := if isEl G.q.m G.size a = false then 7 else if isSc G.q.m G.size n = false then 6 else 0
theorem powV_eq (G : GP) (a n : ByteArray) : proV G [a] [n] = powV G a n := by
 unfold proV powV
 rw [if_neg (by simp), if_neg (by simp)]
 unfold prodV
 rw [Nat.one_mul]
 rfl
theorem powE_eq (G : GP) (a n : ByteArray) : proE G [a] [n] = powE G a n := by
 unfold proE powE
 rw [if_neg (by simp), if_neg (by simp)]
 rfl
theorem Sl.of_bx {W : World} {b : Nat} {t : TypeId} {cs : List Value} (h : Bx W b t cs) : Sl W W.heap.size (some ⟨b, 0, none⟩) cs := by
 have h1 := Sl.of_block h
 simpa using h1
theorem Power_some (k : Nat) (h1 : 1 ≤ k) (h3 : k ≤ 3) (a n : ByteArray) (w : World) : Calls Try.prog 64 #[.int .i64 (k : Int), .string a, .string n] w (Ans (.string (powV (grp k) a n)) (powE (grp k) a n) w) := by
 go_enter Try.func64, Try.ntmps64
 go_wp2_with fail
 have hz := box2 w (.string a) (.string n) 9 9
 have hp := Product_some k h1 h3 [a] [n] (some ⟨w.heap.size, 0, none⟩) (some ⟨w.heap.size + 1, 0, none⟩) 1 1 1 1 rfl rfl _ (Sl.of_bx hz.2.1) (Sl.of_bx hz.2.2)
 rw [powV_eq, powE_eq] at hp
 refine hp.mono ?_
 rintro e w1 ⟨rfl, hb⟩
 have HB := Lib.hid (below_up hz.1 hb)
 clear hb hz hp
 go_wp2_with fail
 go_ret2
 exact ⟨rfl, HB.out⟩
end Go.Proofs.Ytdlnnkbigeiilaa
namespace Go.Proofs.Ytdlnnkbigeiilaa
theorem grp_prime_q (k : Nat) (h1 : 1 ≤ k) (h3 : k ≤ 3) : IsPrime (grp k).q.m := by
 obtain rfl | rfl | rfl : k = 1 ∨ k = 2 ∨ k = 3 := by omega
 ·exact prime_q1
 ·exact prime_q2
 ·exact prime_q3
theorem grp_prime_p (k : Nat) (h1 : 1 ≤ k) (h3 : k ≤ 3) : IsPrime (grp k).p.m := by
 obtain rfl | rfl | rfl : k = 1 ∨ k = 2 ∨ k = 3 := by omega
 ·exact prime_p1
 ·exact prime_p2
 ·exact prime_p3
def PM (p x y : Nat) : Prop := (p : Int) ∣ (x : Int) - y ∨ (p : Int) ∣ (x : Int) + y
theorem PM.refl (p x : Nat) : PM p x x := Or.inl ⟨0, by omega⟩
theorem PM.of_mod {p x y : Nat} (h : x % p = y % p) : PM p x y := Or.inl (by
 have h1 := Nat.div_add_mod x p
 have h2 := Nat.div_add_mod y p
 refine ⟨(x / p : Nat) - (y / p : Nat), ?_⟩
 have e1 : (x : Int) = p * (x / p : Nat) + (x % p : Nat) := by exact_mod_cast h1.symm
 have e2 : (y : Int) = p * (y / p : Nat) + (y % p : Nat) := by exact_mod_cast h2.symm
 rw [e1, e2, h]
 generalize ((x / p : Nat) : Int) = a
 generalize ((y / p : Nat) : Int) = b
 grind)
theorem PM.symm {p x y : Nat} (h : PM p x y) : PM p y x := by
 rcases h with ⟨c, h⟩ | ⟨c, h⟩
 ·exact Or.inl ⟨-c, by grind⟩
 ·exact Or.inr ⟨c, by grind⟩
theorem PM.trans {p x y z : Nat} (h : PM p x y) (g : PM p y z) : PM p x z := by
 rcases h with ⟨c, h⟩ | ⟨c, h⟩ <;> rcases g with ⟨d, g⟩ | ⟨d, g⟩
 ·exact Or.inl ⟨c + d, by grind⟩
 ·exact Or.inr ⟨c + d, by grind⟩
 ·exact Or.inr ⟨c - d, by grind⟩
 ·exact Or.inl ⟨c - d, by grind⟩
theorem PM.mul {p x y u v : Nat} (h : PM p x y) (g : PM p u v) : PM p (x * u) (y * v) := by
 have e1 : ((x * u : Nat) : Int) = x * u := by simp
 have e2 : ((y * v : Nat) : Int) = y * v := by simp
 unfold PM
 rw [e1, e2]
 rcases h with ⟨c, h⟩ | ⟨c, h⟩ <;> rcases g with ⟨d, g⟩ | ⟨d, g⟩
 ·exact Or.inl ⟨c * u + y * d, by grind⟩
 ·exact Or.inr ⟨c * u + y * d, by grind⟩
 ·exact Or.inr ⟨c * u - y * d, by grind⟩
 ·exact Or.inl ⟨c * u - y * d, by grind⟩
theorem PM.pow {p x y : Nat} (h : PM p x y) : ∀ n : Nat, PM p (x ^ n) (y ^ n)
 | 0 => PM.refl _ _
 | n + 1 => by rw [Nat.pow_succ, Nat.pow_succ]; exact PM.mul (PM.pow h n) h
theorem PM.mod (p x : Nat) : PM p (x % p) x := PM.of_mod (Nat.mod_mod _ _)
theorem lowR_pm (q p x : Nat) (hx : x < p) : PM p (lowR q p x) x := by
 unfold lowR
 split
 ·exact Or.inr ⟨1, by omega⟩
 ·exact PM.refl _ _
theorem lowR_leq {q p x : Nat} (hp : p = 2 * q + 1) (hx : x < p) : lowR q p x ≤ q := by
 unfold lowR
 split <;> omega
theorem lowR_fix {q p x : Nat} (hx : x ≤ q) : lowR q p x = x := by
 unfold lowR
 rw [if_neg (by omega)]
theorem low_unique {q p x y : Nat} (hp : p = 2 * q + 1) (hx : x ≤ q) (hy : y ≤ q) (h : PM p x y) : x = y := by
 rcases h with h | h
 ·have := Int.eq_zero_of_dvd_of_natAbs_lt_natAbs h (by omega)
  omega
 ·have := Int.eq_zero_of_dvd_of_natAbs_lt_natAbs h (by omega)
  omega
theorem low_eq {q p x y : Nat} (_hq : 0 < q) (hp : p = 2 * q + 1) (h : PM p x y) : lowR q p (x % p) = lowR q p (y % p) := by
 have hx := Nat.mod_lt x (show 0 < p by omega)
 have hy := Nat.mod_lt y (show 0 < p by omega)
 exact low_unique hp (lowR_leq hp hx) (lowR_leq hp hy) ((((lowR_pm q p _ hx).trans (PM.mod p x)).trans h).trans (((lowR_pm q p _ hy).trans (PM.mod p y)).symm))
theorem pm_low {q p : Nat} (hp : 0 < p) (x : Nat) : PM p (lowR q p (x % p)) x := (lowR_pm q p _ (Nat.mod_lt x hp)).trans (PM.mod p x)
theorem pm_euler {q p a : Nat} (hpp : IsPrime p) (hp : p = 2 * q + 1) (h0 : 0 < a) (ha : a < p) : PM p (a ^ q) 1 := by
 have hnd : ¬ p ∣ a := fun h => by have := Nat.le_of_dvd h0 h; omega
 have hf := fermat hpp hnd
 rw [show p - 1 = q * 2 by omega, Nat.pow_mul] at hf
 obtain ⟨b, hb⟩ : ∃ b, a ^ q = b := ⟨_, rfl⟩
 rw [hb] at hf ⊢
 have hb0 : 0 < b := by rw [← hb]; exact Nat.pow_pos h0
 have h2 : p ∣ b ^ 2 - 1 := (mod_eq_iff_dvd_sub (Nat.pow_pos hb0)).1 hf
 have h3 : b ^ 2 - 1 = (b - 1) * (b + 1) := by
  obtain ⟨c, rfl⟩ : ∃ c, b = c + 1 := ⟨b - 1, by omega⟩
  rw [Nat.add_sub_cancel, Nat.pow_two]
  have : (c + 1) * (c + 1) = c * (c + 1 + 1) + 1 := by grind
  omega
 rw [h3] at h2
 rcases hpp.dvd_mul h2 with ⟨c, h⟩ | ⟨c, h⟩
 ·refine Or.inl ⟨c, ?_⟩
  have : ((b - 1 : Nat) : Int) = p * c := by rw [h]; simp
  omega
 ·refine Or.inr ⟨c, ?_⟩
  have : ((b + 1 : Nat) : Int) = p * c := by rw [h]; simp
  omega
end Go.Proofs.Ytdlnnkbigeiilaa
namespace Go.Proofs.Ytdlnnkbigeiilaa
open Go.RowKit
def T (G : GP) (n : Nat) : ByteArray := textS n G.size
theorem T_size (G : GP) (n : Nat) : (T G n).size = G.size := textS_size _ _
theorem T_num {G : GP} (_ok : G.Ok) {n : Nat} (h : n ≤ G.q.m) (hne : G.q.m < 256 ^ G.size) : numOf (T G n) = n := by
 unfold T
 rw [numOf_textS]
 exact Nat.mod_eq_of_lt (by omega)
theorem T_el {G : GP} (ok : G.Ok) (hne : G.q.m < 256 ^ G.size) {n : Nat} (h0 : 0 < n) (h : n ≤ G.q.m) : isEl G.q.m G.size (T G n) = true := by
 unfold isEl
 rw [T_size, T_num ok h hne]
 simp [h, h0]
theorem grp_fits (k : Nat) (h1 : 1 ≤ k) (h3 : k ≤ 3) : (grp k).q.m < 256 ^ (grp k).size := by
 obtain rfl | rfl | rfl : k = 1 ∨ k = 2 ∨ k = 3 := by omega
 all_goals decide
end Go.Proofs.Ytdlnnkbigeiilaa
namespace Go.Proofs.Ytdlnnkbigeiilaa
open Go.RowKit
def Lw (q p v : Nat) : Nat := lowR q p (v % p)
section
variable {q p : Nat} (hq : 0 < q) (hp : p = 2 * q + 1)
include hq hp
theorem Lw_eq {x y : Nat} (h : PM p x y) : Lw q p x = Lw q p y := low_eq hq hp h
omit hq in
theorem Lw_pm (x : Nat) : PM p (Lw q p x) x := pm_low (by omega) x
omit hq in
theorem Lw_le (x : Nat) : Lw q p x ≤ q := lowR_leq hp (Nat.mod_lt _ (by omega))
omit hq in
theorem Lw_fix {x : Nat} (h : x ≤ q) : Lw q p x = x := by
 unfold Lw
 rw [Nat.mod_eq_of_lt (by omega), lowR_fix h]
omit hq in
end
end Go.Proofs.Ytdlnnkbigeiilaa
namespace Go.Proofs.Ytdlnnkbigeiilaa
open Go.RowKit
section
variable {G : GP}
theorem lowN_eq (ok : G.Ok) {x y : Nat} (h : PM G.p.m x y) : lowN G x = lowN G y := low_eq ok.q.pos ok.twice h
theorem lowN_le (ok : G.Ok) (x : Nat) : lowN G x ≤ G.q.m := Lw_le ok.twice x
theorem lowN_fix (ok : G.Ok) {x : Nat} (h : x ≤ G.q.m) : lowN G x = x := Lw_fix ok.twice h
variable {aq ap : Option Addr} {cq cp : Nat}
end
end Go.Proofs.Ytdlnnkbigeiilaa
namespace Go.Proofs.Ytdlnnkbigeiilaa
open Go.RowKit
structure ClaimA where
 ab : Option Addr
 cb : Nat
 bases : List ByteArray
 ai : Option Addr
 ci : Nat
 images : List ByteArray
def ClaimA.cells (c : ClaimA) : List Value := [.slice c.ab c.bases.length c.cb, .slice c.ai c.images.length c.ci]
theorem ClaimA.cells_len (c : ClaimA) : c.cells.length = 2 := rfl
structure ClaimA.At (w : World) (c : ClaimA) : Prop where
 b : Sl w w.heap.size c.ab (c.bases.map Value.string)
 i : Sl w w.heap.size c.ai (c.images.map Value.string)
theorem ClaimA.At.up {w w' : World} {c : ClaimA} (h : c.At w) (hb : Below w.heap.size w w') : c.At w' := ⟨h.b.up hb, h.i.up hb⟩
structure ClaimsAt (w : World) (a : Option Addr) (l : List ClaimA) : Prop where
 s : Sl w w.heap.size a (l.flatMap ClaimA.cells)
 e : ∀ c ∈ l, ClaimA.At w c
theorem ClaimsAt.up {w w' : World} {a : Option Addr} {l : List ClaimA} (h : ClaimsAt w a l) (hb : Below w.heap.size w w') : ClaimsAt w' a l := ⟨h.s.up hb, fun c hc => (h.e c hc).up hb⟩
theorem ClaimsAt.one {w : World} {a : Option Addr} {l : List ClaimA} (h : ClaimsAt w a l) (i : Nat) (hi : i < l.length) : ClaimA.At w l[i] := h.e _ (List.getElem_mem hi)
def cLong (c : ClaimA) : Bool := decide (8 < c.bases.length) || decide (8 < c.images.length)
def cForm (c : ClaimA) : Bool := decide (c.bases.length = 0) || decide (c.bases.length ≠ c.images.length)
def shapeE (l : List ClaimA) : Nat := if (decide (64 < l.length) || l.any cLong) = true then 3 else if (decide (l.length = 0) || l.any cForm) = true then 2 else 0
def cElems (G : GP) (c : ClaimA) : Bool := c.bases.all (isEl G.q.m G.size) && c.images.all (isEl G.q.m G.size)
def wrongE (G : GP) (l : List ClaimA) : Nat := if shapeE l ≠ 0 then shapeE l else if l.all (cElems G) = true then 0 else 7
def scE (G : GP) (n : Nat) (l : List ByteArray) : Nat := if l.length = n then if l.all (isSc G.q.m G.size) = true then 0 else 6 else 2
theorem shape_ok {l : List ClaimA} (h : shapeE l = 0) : 0 < l.length ∧ l.length ≤ 64 ∧ ∀ c ∈ l, 0 < c.bases.length ∧ c.bases.length ≤ 8 ∧ c.images.length = c.bases.length := by
 unfold shapeE at h
 split at h
 ·cases h
 ·rename_i h1
  split at h
  ·cases h
  ·rename_i h2
   simp only [Bool.or_eq_true, decide_eq_true_eq, List.any_eq_true, not_or, not_exists, not_and] at h1 h2
   refine ⟨by omega, by omega, fun c hc => ?_⟩
   have h3 := h1.2 c hc
   have h4 := h2.2 c hc
   unfold cLong at h3
   unfold cForm at h4
   simp only [Bool.or_eq_true, decide_eq_true_eq, not_or, ne_eq, Decidable.not_not] at h3 h4
   omega
theorem wrong_ok {G : GP} {l : List ClaimA} (h : wrongE G l = 0) : shapeE l = 0 ∧ l.all (cElems G) = true := by
 unfold wrongE at h
 split at h
 ·rename_i h1; exact absurd h h1
 ·rename_i h1
  split at h
  ·rename_i h2; exact ⟨by omega, h2⟩
  ·cases h
structure RowA where
 a : Option Addr
 c : Nat
 l : List ByteArray
def RowA.cells (r : RowA) : List Value := [.slice r.a r.l.length r.c]
def RowA.Ok (r : RowA) : Prop := (r.a = none → r.c = 0) ∧ r.l.length ≤ r.c
theorem RowA.cells_len (r : RowA) : r.cells.length = 1 := rfl
def RowA.At (w : World) (r : RowA) : Prop := Sl w w.heap.size r.a (r.l.map Value.string)
structure RowsAt (w : World) (a : Option Addr) (l : List RowA) : Prop where
 s : Sl w w.heap.size a (l.flatMap RowA.cells)
 e : ∀ r ∈ l, RowA.At w r
theorem RowA.At.up {w w' : World} {r : RowA} (h : r.At w) (hb : Below w.heap.size w w') : r.At w' := Sl.up h hb
theorem RowsAt.up {w w' : World} {a : Option Addr} {l : List RowA} (h : RowsAt w a l) (hb : Below w.heap.size w w') : RowsAt w' a l := ⟨h.s.up hb, fun c hc => (h.e c hc).up hb⟩
theorem RowsAt.one {w : World} {a : Option Addr} {l : List RowA} (h : RowsAt w a l) (i : Nat) (hi : i < l.length) : RowA.At w l[i] := h.e _ (List.getElem_mem hi)
end Go.Proofs.Ytdlnnkbigeiilaa
namespace Go.Proofs.Ytdlnnkbigeiilaa
open Go.RowKit
def Gives (v : Value) (w : World) (e : Ending) (w' : World) : Prop := e = .returned v ∧ Below w.heap.size w w'
theorem all_take_true {α : Type} {f : α → Bool} {l : List α} (h : (l.take l.length).all f = true) : l.all f = true := by rwa [List.take_length] at h
theorem all_not {α : Type} {f : α → Bool} {l : List α} {i : Nat} (hi : i < l.length) (h : f l[i] = false) : l.all f = false := by
 rw [List.all_eq_false]
 exact ⟨l[i], List.getElem_mem hi, by simp [h]⟩
theorem all_snoc {α : Type} {f : α → Bool} {l : List α} {i : Nat} (hi : i < l.length) (ht : (l.take i).all f = true) (h : f l[i] = true) : (l.take (i + 1)).all f = true := by
 rw [List.take_succ_eq_append_getElem hi, List.all_append, ht]
 simp [h]
section
variable {G : GP}
end
end Go.Proofs.Ytdlnnkbigeiilaa
namespace Go.Proofs.Ytdlnnkbigeiilaa
open Go.RowKit
theorem Sl.addr {w : World} {B : Nat} {ad : Addr} {cs : List Value} (h : Sl w B (some ad) cs) : ∀ j u, cs[j]? = some u → w.cell? (ad.add j) = some u := by
 intro j u hj
 rcases h with rfl | ⟨b, off, he, _, hc⟩
 ·simp at hj
 ·simp only [Option.some.injEq] at he
  subst he
  have : (⟨b, off, none⟩ : Addr).add j = ⟨b, off + j, none⟩ := by unfold Addr.add; split <;> simp_all
  rw [this]; exact hc j u hj
theorem wpList_joinR {P : Program} (N : Nat) (w : World) (hN : N ≤ w.heap.size) {ops : Array Oper} {rest : List Oper} {o : Oper} {a : Act} {Q : Exit → Act → World → Prop} (hgd : o.guard = none) (s x : Operand) (t : TypeId)
  (ho : o.op = .call { callee := .builtin .append, args := #[s, x], argTypes := #[t, t] })
  (e : TypeId) (i : TypeInfo) (z : Value) (size bytes : Nat) (ht : P.underlying t = some (.slice e)) (hi : P.info? e = some i) (hz : i.zero = some z)
  (hsize : i.size = size) (hby : i.bytes = bytes) (hzs : z.cells.size = size) (hsz : 0 < size)
  (v : Value) (n : Nat) (xs : List Value) (hs : a.eval s = v) (hown : RowO N w e size v n xs)
  (al : Option Addr) (m c : Nat) (news : List Value) (hx : a.eval x = .slice al m c) (hl : news.length = m * size) (hS : Sl w w.heap.size al news) (h0 : al = none → c = 0) (h1 : ∀ u ∈ news, u.oneCell' = true)
  (h63 : (n + m) * bytes ≤ 140737488355328) (hn : n + m ≤ maxLen)
  (h : ∀ a' c' w', RowO N w' e size (.slice a' (n + m) c') (n + m) (xs ++ news) → w.grownBy w' v.ownBlock → wpList P ops Q rest (a.put o.dst (.slice a' (n + m) c')) w') :
  wpList P ops Q (o :: rest) a w := by
 cases al with
 | none =>
  have hc := h0 rfl
  subst hc
  have hnews : news = [] := by
   rcases hS with h9 | ⟨b, off, h9, _⟩
   ·exact h9
   ·cases h9
  subst hnews
  have hm : m = 0 := by
   rcases Nat.mul_eq_zero.1 hl.symm with h9 | h9
   ·exact h9
   ·omega
  subst hm
  obtain ⟨a', c', rfl⟩ := RowO.form hown
  refine wpList_append_own_none hgd s x t ho N e i size ht hi _ n xs hs hown hx ?_
  exact h a' c' w (by simpa using hown) ⟨rfl, rfl, rfl, Nat.le_refl _, fun _ _ _ => rfl⟩
 | some ad =>
  refine wpList_plain hgd fun K hK => ?_
  obtain ⟨v', w', hr, h2, h3, _, _⟩ := run_append_own_at (P := P) w N t o.type e i z size bytes ht hi hz hsize hby hzs hsz v n xs hown ad m c news hl hS.addr h1 hn h63 hN
  obtain ⟨a', c', rfl⟩ := RowO.form (N := N) h2
  unfold Oper.wp execOp
  simp only [ho, resolve, invoke, builtin, Sem.run_bind, Sem.run_pure, Result.andThen_ok, List.map_toArray, List.map_cons, List.map_nil, hs, hx, hr]
  exact hK _ _ (h a' c' w' h2 h3)
theorem step_pushR {P : Program} (N : Nat) (w0 : World) (hN : N ≤ w0.heap.size) {ops : Array Oper} {o : Oper} {a : Act} {K : Act → World → Prop} {Q : Exit → Act → World → Prop} {E : Prop} (hgd : o.guard = none) (s x : Operand) (t : TypeId)
  (ho : o.op = .call { callee := .builtin .append, args := #[s, x], argTypes := #[t, t] })
  (e : TypeId) (i : TypeInfo) (z : Value) (size bytes : Nat) (ht : P.underlying t = some (.slice e)) (hi : P.info? e = some i) (hz : i.zero = some z)
  (hsize : i.size = size) (hby : i.bytes = bytes) (hzs : z.cells.size = size) (hsz : 0 < size)
  (v : Value) (n : Nat) (xs : List Value) (hs : a.eval s = v) (hown : RowO N w0 e size v n xs)
  (news : Array Value) (e2 : TypeId) (b : Nat) (hb : w0.heap.size = b) (hx : a.eval x = .slice (some ⟨b, 0, none⟩) 1 1) (hl : news.size = size) (h1 : ∀ u ∈ news.toList, u.oneCell' = true)
  (h63 : (n + 1) * bytes ≤ 140737488355328) (hn : n + 1 ≤ maxLen)
  (h : ∀ g cap w', RowO N w' e size (.slice (some ⟨g, 0, none⟩) (n + 1) cap) (n + 1) (xs ++ news.toList) → w0.grownBy w' v.ownBlock → K (a.put o.dst (.slice (some ⟨g, 0, none⟩) (n + 1) cap)) w') :
  if Region.wanted o (yielded ops a.tmps) = true then Oper.wp P o a (w0.alloc (.cells news e2)) K Q else E := by
 subst hb
 refine step_append_lies _ hgd s x t ho N e i z size bytes ht hi hz hsize hby hzs hsz v n xs hs (World.ownsRow.alloc hown _) ⟨w0.heap.size, 0, none⟩ 1 1 news.toList hx (by simpa using hl)
  (World.news_of_block (heap_alloc_new w0 _)) h1 (by omega) hn h63 (by simp; omega) _ rfl ?_
 intro g cap w' hown' hg _ _
 refine h g cap w' hown' ⟨hg.os, hg.tape, hg.output, ?_, ?_⟩
 ·have := hg.size; simp at this; omega
 ·intro k hk hne
  rw [hg.block k (by simp; omega) hne]
  exact Below.heap_alloc _ _ _ hk
end Go.Proofs.Ytdlnnkbigeiilaa
