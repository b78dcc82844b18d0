/- The group of a kind: its scalars reckon. No condition. -/
import Derived.Test.YtdmldnpadojflaaCycBytes
namespace Go.Proofs.Ytdmldnpadojflaa
open Go.RowKit

theorem addM (R : RingP) (ok : R.Ok) (rb off x y : Nat) (w : World) (hR : RingAt w rb off R) :
    Calls Try.prog 110 #[.pointer (some ⟨rb, off, none⟩), limbV (mont R.m x), limbV (mont R.m y)] w fun e w' => e = .returned (limbV (mont R.m (x + y))) ∧ Below w.heap.size w w' :=
  ringAdd_any R rb off _ _ _ (by
    have h1 := mont_lt ok.pos x
    have h2 := mont_lt ok.pos y
    have h3 := ok.top
    simp only [BB] at h3
    show _ < 18446744073709551616 ^ 4
    omega) ok.lt4 (mont_add R.m x y ok.pos).symm w hR

theorem subM (R : RingP) (ok : R.Ok) (rb off x y : Nat) (hy : y ≤ R.m) (w : World) (hR : RingAt w rb off R) :
    Calls Try.prog 120 #[.pointer (some ⟨rb, off, none⟩), limbV (mont R.m x), limbV (mont R.m y)] w fun e w' => e = .returned (limbV (mont R.m (x + (R.m - y)))) ∧ Below w.heap.size w w' :=
  ringSub_any R rb off _ _ _ (mont_lt ok.pos x) (mont_lt ok.pos y) ok.lt4 (mont_sub R.m x y hy ok.pos).symm w hR

theorem outM (R : RingP) (ok : R.Ok) (rb off x : Nat) (w : World) (hR : RingAt w rb off R) :
    Calls Try.prog 107 #[.pointer (some ⟨rb, off, none⟩), limbV (mont R.m x)] w fun e w' => e = .returned (limbV (x % R.m)) ∧ Below w.heap.size w w' := by
  rw [← mont_mod]
  exact out_any R ok rb off _ (Nat.mod_lt _ ok.pos) w hR

/-- A group's numbers. -/
structure GP where
  kind : Nat
  size : Nat
  p : RingP
  q : RingP

structure GroupAt (W : World) (gb : Nat) (G : GP) : Prop where
  lt : gb < W.heap.size
  kind : W.cell? ⟨gb, 0, none⟩ = some (.int .i64 G.kind)
  size : W.cell? ⟨gb, 1, none⟩ = some (.int .i64 G.size)
  p : RingAt W gb 2 G.p
  q : RingAt W gb 15 G.q

theorem GroupAt.below {W W' : World} {gb n : Nat} {G : GP} (h : GroupAt W gb G) (hb : Below n W W') (hn : gb < n) : GroupAt W' gb G :=
  ⟨Nat.lt_of_lt_of_le h.lt hb.size, by rw [hb.cell (p := ⟨gb, 0, none⟩) hn]; exact h.kind, by rw [hb.cell (p := ⟨gb, 1, none⟩) hn]; exact h.size, h.p.below hb hn, h.q.below hb hn⟩
theorem GroupAt.up {W W' : World} {gb : Nat} {G : GP} (h : GroupAt W gb G) (hb : Below W.heap.size W W') : GroupAt W' gb G := h.below hb h.lt

structure GP.Ok (G : GP) : Prop where
  p : G.p.Ok
  q : G.q.Ok
  twice : G.p.m = 2 * G.q.m + 1
  size_le : G.size ≤ 32
  fits : G.q.m ≤ 256 ^ G.size
  odd : 256 < G.q.m

/-- Scalars and elements as values. -/
def scV (G : GP) (x : Nat) : Value := limbV (mont G.q.m x)
def elV (G : GP) (y : Nat) : Value := limbV (mont G.p.m y)

theorem limbV_small (c : Nat) (hc : c < BB) : limbV c = .agg #[.int .u64 (c : Int), .int .u64 0, .int .u64 0, .int .u64 0] := by
  have h0 : dig c 0 = c := by simp only [dig, Nat.pow_zero, Nat.div_one]; exact Nat.mod_eq_of_lt hc
  have h : ∀ i, 0 < i → dig c i = 0 := fun i hi => by
    unfold dig
    have : BB ≤ BB ^ i := by
      have := Nat.pow_le_pow_right (n := BB) (by decide) (show 1 ≤ i from hi)
      rwa [Nat.pow_one] at this
    rw [Nat.div_eq_of_lt (Nat.lt_of_lt_of_le hc this)]
    rfl
  simp only [limbV, h0, h 1 (by omega), h 2 (by omega), h 3 (by omega)]
  rfl

theorem subZ (R : RingP) (ok : R.Ok) (rb off y : Nat) (hy : y ≤ R.m) (w : World) (hR : RingAt w rb off R) :
    Calls Try.prog 120 #[.pointer (some ⟨rb, off, none⟩), .agg #[.int .u64 0, .int .u64 0, .int .u64 0, .int .u64 0], limbV (mont R.m y)] w fun e w' => e = .returned (limbV (mont R.m (R.m - y))) ∧ Below w.heap.size w w' := by
  have h := subM R ok rb off 0 y hy w hR
  rw [mont_zero, limbV_small 0 (by decide), Nat.zero_add] at h
  exact h

theorem inSmall (R : RingP) (ok : R.Ok) (rb off c : Nat) (hc : c < BB) (w : World) (hR : RingAt w rb off R) :
    Calls Try.prog 112 #[.pointer (some ⟨rb, off, none⟩), .agg #[.int .u64 (c : Int), .int .u64 0, .int .u64 0, .int .u64 0]] w fun e w' => e = .returned (limbV (mont R.m c)) ∧ Below w.heap.size w w' := by
  have h := in_any R ok rb off c (Nat.lt_trans hc (by decide)) w hR
  rwa [limbV_small c hc] at h

theorem onceSmall (R : RingP) (ok : R.Ok) (rb off c : Nat) (hc : c < 256) (h256 : 256 < R.m) (w : World) (hR : RingAt w rb off R) :
    Calls Try.prog 128 #[.pointer (some ⟨rb, off, none⟩), .agg #[.int .u64 (c : Int), .int .u64 0, .int .u64 0, .int .u64 0]] w fun e w' => e = .returned (.agg #[.int .u64 (c : Int), .int .u64 0, .int .u64 0, .int .u64 0]) ∧ Below w.heap.size w w' := by
  have hb : c < BB := Nat.lt_trans hc (by decide)
  have h := once_any R rb off c c (Nat.lt_trans hb (by decide)) ok.lt4 (by rw [if_neg (by omega)]) w hR
  rwa [limbV_small c hb] at h

set_option maxHeartbeats 1000000 in
theorem gAdd_any (G : GP) (ok : G.Ok) (gb : Nat) (x y : Nat)  (w : World) (hG : GroupAt w gb G) :
    Calls Try.prog 93 #[.pointer (some ⟨gb, 0, none⟩), scV G x, scV G y] w fun e w' => e = .returned (scV G (x + y)) ∧ Below w.heap.size w w' := by
  have OK := Lib.hid ok
  clear ok
  unfold scV limbV
  go_enter Try.func93, Try.ntmps93
  go_wp2_with fail
  obtain ⟨W0, hW0⟩ : ∃ W9 : World, (((w.alloc (Obj.cells #[.int .u64 (dig (mont G.q.m (x)) 0 : Int), .int .u64 (dig (mont G.q.m (x)) 1 : Int), .int .u64 (dig (mont G.q.m (x)) 2 : Int), .int .u64 (dig (mont G.q.m (x)) 3 : Int)] 93)).alloc (Obj.cells #[.int .u64 (dig (mont G.q.m (y)) 0 : Int), .int .u64 (dig (mont G.q.m (y)) 1 : Int), .int .u64 (dig (mont G.q.m (y)) 2 : Int), .int .u64 (dig (mont G.q.m (y)) 3 : Int)] 93)).alloc (Obj.cells #[.int .u64 0, .int .u64 0, .int .u64 0, .int .u64 0] 93)) = W9 := ⟨_, rfl⟩
  rw [hW0]
  have hX0 : Blk W0 (w.heap.size) 93 (lim (mont G.q.m (x))) := by
    rw [← hW0]
    have h := (((Blk.new w 93 (lim (mont G.q.m (x))) _ rfl).alloc (Obj.cells #[.int .u64 (dig (mont G.q.m (y)) 0 : Int), .int .u64 (dig (mont G.q.m (y)) 1 : Int), .int .u64 (dig (mont G.q.m (y)) 2 : Int), .int .u64 (dig (mont G.q.m (y)) 3 : Int)] 93)).alloc (Obj.cells #[.int .u64 0, .int .u64 0, .int .u64 0, .int .u64 0] 93))
    exact h
  have hX1 : Blk W0 (w.heap.size + 1) 93 (lim (mont G.q.m (y))) := by
    rw [← hW0]
    have h := ((Blk.new (w.alloc (Obj.cells #[.int .u64 (dig (mont G.q.m (x)) 0 : Int), .int .u64 (dig (mont G.q.m (x)) 1 : Int), .int .u64 (dig (mont G.q.m (x)) 2 : Int), .int .u64 (dig (mont G.q.m (x)) 3 : Int)] 93)) 93 (lim (mont G.q.m (y))) _ rfl).alloc (Obj.cells #[.int .u64 0, .int .u64 0, .int .u64 0, .int .u64 0] 93))
    rw [World.size_alloc] at h
    exact h
  have hC : Blk W0 (w.heap.size + 2) 93 [0, 0, 0, 0] := by
    rw [← hW0]
    have h := (Blk.new ((w.alloc (Obj.cells #[.int .u64 (dig (mont G.q.m (x)) 0 : Int), .int .u64 (dig (mont G.q.m (x)) 1 : Int), .int .u64 (dig (mont G.q.m (x)) 2 : Int), .int .u64 (dig (mont G.q.m (x)) 3 : Int)] 93)).alloc (Obj.cells #[.int .u64 (dig (mont G.q.m (y)) 0 : Int), .int .u64 (dig (mont G.q.m (y)) 1 : Int), .int .u64 (dig (mont G.q.m (y)) 2 : Int), .int .u64 (dig (mont G.q.m (y)) 3 : Int)] 93)) 93 [0, 0, 0, 0] _ rfl)
    rw [World.size_alloc, World.size_alloc] at h
    exact h
  have hBW : Below w.heap.size w W0 := by rw [← hW0]; exact ((((Below.refl w.heap.size w).alloc (Nat.le_refl _) _).alloc (by simp) _).alloc (by simp; omega) _)
  clear hW0
  have hG0 := hG.up hBW
  have hgl := hG0.lt
  have hgk := hG0.kind
  have hgs := hG0.size
  have hpm_0 : W0.cell? ⟨gb, 2, none⟩ = some (.int .u64 (dig G.p.m 0 : Int)) := hG0.p.cell 0 _ rfl
  have hpm_1 : W0.cell? ⟨gb, 3, none⟩ = some (.int .u64 (dig G.p.m 1 : Int)) := hG0.p.cell 1 _ rfl
  have hpm_2 : W0.cell? ⟨gb, 4, none⟩ = some (.int .u64 (dig G.p.m 2 : Int)) := hG0.p.cell 2 _ rfl
  have hpm_3 : W0.cell? ⟨gb, 5, none⟩ = some (.int .u64 (dig G.p.m 3 : Int)) := hG0.p.cell 3 _ rfl
  have hpo_0 : W0.cell? ⟨gb, 6, none⟩ = some (.int .u64 (dig (mont G.p.m 1) 0 : Int)) := by rw [← OK.out.p.one']; exact hG0.p.cell 4 _ rfl
  have hpo_1 : W0.cell? ⟨gb, 7, none⟩ = some (.int .u64 (dig (mont G.p.m 1) 1 : Int)) := by rw [← OK.out.p.one']; exact hG0.p.cell 5 _ rfl
  have hpo_2 : W0.cell? ⟨gb, 8, none⟩ = some (.int .u64 (dig (mont G.p.m 1) 2 : Int)) := by rw [← OK.out.p.one']; exact hG0.p.cell 6 _ rfl
  have hpo_3 : W0.cell? ⟨gb, 9, none⟩ = some (.int .u64 (dig (mont G.p.m 1) 3 : Int)) := by rw [← OK.out.p.one']; exact hG0.p.cell 7 _ rfl
  have hqm_0 : W0.cell? ⟨gb, 15, none⟩ = some (.int .u64 (dig G.q.m 0 : Int)) := hG0.q.cell 0 _ rfl
  have hqm_1 : W0.cell? ⟨gb, 16, none⟩ = some (.int .u64 (dig G.q.m 1 : Int)) := hG0.q.cell 1 _ rfl
  have hqm_2 : W0.cell? ⟨gb, 17, none⟩ = some (.int .u64 (dig G.q.m 2 : Int)) := hG0.q.cell 2 _ rfl
  have hqm_3 : W0.cell? ⟨gb, 18, none⟩ = some (.int .u64 (dig G.q.m 3 : Int)) := hG0.q.cell 3 _ rfl
  have hqo_0 : W0.cell? ⟨gb, 19, none⟩ = some (.int .u64 (dig (mont G.q.m 1) 0 : Int)) := by rw [← OK.out.q.one']; exact hG0.q.cell 4 _ rfl
  have hqo_1 : W0.cell? ⟨gb, 20, none⟩ = some (.int .u64 (dig (mont G.q.m 1) 1 : Int)) := by rw [← OK.out.q.one']; exact hG0.q.cell 5 _ rfl
  have hqo_2 : W0.cell? ⟨gb, 21, none⟩ = some (.int .u64 (dig (mont G.q.m 1) 2 : Int)) := by rw [← OK.out.q.one']; exact hG0.q.cell 6 _ rfl
  have hqo_3 : W0.cell? ⟨gb, 22, none⟩ = some (.int .u64 (dig (mont G.q.m 1) 3 : Int)) := by rw [← OK.out.q.one']; exact hG0.q.cell 7 _ rfl
  have hx0_0 := hX0.cell (i := 0) (x := (dig (mont G.q.m (x)) 0 : Int)) rfl
  have hx0_1 := hX0.cell (i := 1) (x := (dig (mont G.q.m (x)) 1 : Int)) rfl
  have hx0_2 := hX0.cell (i := 2) (x := (dig (mont G.q.m (x)) 2 : Int)) rfl
  have hx0_3 := hX0.cell (i := 3) (x := (dig (mont G.q.m (x)) 3 : Int)) rfl
  have hl0 := hX0.lt
  have hx1_0 := hX1.cell (i := 0) (x := (dig (mont G.q.m (y)) 0 : Int)) rfl
  have hx1_1 := hX1.cell (i := 1) (x := (dig (mont G.q.m (y)) 1 : Int)) rfl
  have hx1_2 := hX1.cell (i := 2) (x := (dig (mont G.q.m (y)) 2 : Int)) rfl
  have hx1_3 := hX1.cell (i := 3) (x := (dig (mont G.q.m (y)) 3 : Int)) rfl
  have hl1 := hX1.lt
  have HC := Lib.hid hC
  have HBW := Lib.hid hBW
  clear hC hBW hG hX0 hX1
  refine wp_region_otail 9 (by kernel_rfl) (by kernel_rfl) ?_
  simp only [List.take_succ_cons, List.take_zero, List.drop_succ_cons, List.drop_zero]
  have hovg := fun (E : Over W0) o => E.cell (b := gb) o hgl
  have hov0 := fun (E : Over W0) o => E.cell (b := w.heap.size) o hl0
  have hov1 := fun (E : Over W0) o => E.cell (b := w.heap.size + 1) o hl1
  repeat (go_big_quiet_step (first | (go_at_call 110; exact calls_over (addM G.q OK.out.q gb 15 x y _ (hG0.up (Over.h _)).q))))
  all_goals (try unfold limbV)
  repeat (go_big_quiet_step (first | (go_at_call 110; exact calls_over (addM G.q OK.out.q gb 15 x y _ (hG0.up (Over.h _)).q))))
  all_goals (try unfold limbV)
  repeat (go_big_quiet_step (first | (go_at_call 110; exact calls_over (addM G.q OK.out.q gb 15 x y _ (hG0.up (Over.h _)).q))))
  refine wpQuiet_nil ?_
  rintro _ ⟨E, rfl⟩
  have HZ := Lib.hid (HC.out.below E.h HC.out.lt)
  have HBB := Lib.hid (below_up HBW.out E.h)
  clear hovg hov0 hov1
  generalize E.w = w3 at *
  have HB5 := Lib.hid (below_fill (n := mont G.q.m (x + y)) (b := w.heap.size + 2) HBB.out (by omega))
  have HS5 := Lib.hid (HZ.out.fill rfl (mont G.q.m (x + y)))
  have hz_0 := HZ.out.cell (i := 0) (x := 0) rfl
  have hz_1 := HZ.out.cell (i := 1) (x := 0) rfl
  have hz_2 := HZ.out.cell (i := 2) (x := 0) rfl
  have hz_3 := HZ.out.cell (i := 3) (x := 0) rfl
  have hzf_0 := HZ.out.frozen 0
  have hzf_1 := HZ.out.frozen 1
  have hzf_2 := HZ.out.frozen 2
  have hzf_3 := HZ.out.frozen 3
  go_wp2_with fail
  generalize (((((w3).setCell ⟨w.heap.size + 2, 0, none⟩ (.int .u64 (dig (mont G.q.m (x + y)) 0 : Int))).setCell ⟨w.heap.size + 2, 1, none⟩ (.int .u64 (dig (mont G.q.m (x + y)) 1 : Int))).setCell ⟨w.heap.size + 2, 2, none⟩ (.int .u64 (dig (mont G.q.m (x + y)) 2 : Int))).setCell ⟨w.heap.size + 2, 3, none⟩ (.int .u64 (dig (mont G.q.m (x + y)) 3 : Int))) = w5 at *
  clear hz_0 hz_1 hz_2 hz_3
  have hg_0 := HS5.out.cell (i := 0) (x := (dig (mont G.q.m (x + y)) 0 : Int)) rfl
  have hg_1 := HS5.out.cell (i := 1) (x := (dig (mont G.q.m (x + y)) 1 : Int)) rfl
  have hg_2 := HS5.out.cell (i := 2) (x := (dig (mont G.q.m (x + y)) 2 : Int)) rfl
  have hg_3 := HS5.out.cell (i := 3) (x := (dig (mont G.q.m (x + y)) 3 : Int)) rfl
  simp [bodyPost, results, Try.results93, go_sem, hg_0, hg_1, hg_2, hg_3]
  exact HB5.out

set_option maxHeartbeats 1000000 in
theorem gSub_any (G : GP) (ok : G.Ok) (gb : Nat) (x y : Nat) (hy : y ≤ G.q.m) (w : World) (hG : GroupAt w gb G) :
    Calls Try.prog 94 #[.pointer (some ⟨gb, 0, none⟩), scV G x, scV G y] w fun e w' => e = .returned (scV G (x + (G.q.m - y))) ∧ Below w.heap.size w w' := by
  have OK := Lib.hid ok
  clear ok
  unfold scV limbV
  go_enter Try.func94, Try.ntmps94
  go_wp2_with fail
  obtain ⟨W0, hW0⟩ : ∃ W9 : World, (((w.alloc (Obj.cells #[.int .u64 (dig (mont G.q.m (x)) 0 : Int), .int .u64 (dig (mont G.q.m (x)) 1 : Int), .int .u64 (dig (mont G.q.m (x)) 2 : Int), .int .u64 (dig (mont G.q.m (x)) 3 : Int)] 93)).alloc (Obj.cells #[.int .u64 (dig (mont G.q.m (y)) 0 : Int), .int .u64 (dig (mont G.q.m (y)) 1 : Int), .int .u64 (dig (mont G.q.m (y)) 2 : Int), .int .u64 (dig (mont G.q.m (y)) 3 : Int)] 93)).alloc (Obj.cells #[.int .u64 0, .int .u64 0, .int .u64 0, .int .u64 0] 93)) = W9 := ⟨_, rfl⟩
  rw [hW0]
  have hX0 : Blk W0 (w.heap.size) 93 (lim (mont G.q.m (x))) := by
    rw [← hW0]
    have h := (((Blk.new w 93 (lim (mont G.q.m (x))) _ rfl).alloc (Obj.cells #[.int .u64 (dig (mont G.q.m (y)) 0 : Int), .int .u64 (dig (mont G.q.m (y)) 1 : Int), .int .u64 (dig (mont G.q.m (y)) 2 : Int), .int .u64 (dig (mont G.q.m (y)) 3 : Int)] 93)).alloc (Obj.cells #[.int .u64 0, .int .u64 0, .int .u64 0, .int .u64 0] 93))
    exact h
  have hX1 : Blk W0 (w.heap.size + 1) 93 (lim (mont G.q.m (y))) := by
    rw [← hW0]
    have h := ((Blk.new (w.alloc (Obj.cells #[.int .u64 (dig (mont G.q.m (x)) 0 : Int), .int .u64 (dig (mont G.q.m (x)) 1 : Int), .int .u64 (dig (mont G.q.m (x)) 2 : Int), .int .u64 (dig (mont G.q.m (x)) 3 : Int)] 93)) 93 (lim (mont G.q.m (y))) _ rfl).alloc (Obj.cells #[.int .u64 0, .int .u64 0, .int .u64 0, .int .u64 0] 93))
    rw [World.size_alloc] at h
    exact h
  have hC : Blk W0 (w.heap.size + 2) 93 [0, 0, 0, 0] := by
    rw [← hW0]
    have h := (Blk.new ((w.alloc (Obj.cells #[.int .u64 (dig (mont G.q.m (x)) 0 : Int), .int .u64 (dig (mont G.q.m (x)) 1 : Int), .int .u64 (dig (mont G.q.m (x)) 2 : Int), .int .u64 (dig (mont G.q.m (x)) 3 : Int)] 93)).alloc (Obj.cells #[.int .u64 (dig (mont G.q.m (y)) 0 : Int), .int .u64 (dig (mont G.q.m (y)) 1 : Int), .int .u64 (dig (mont G.q.m (y)) 2 : Int), .int .u64 (dig (mont G.q.m (y)) 3 : Int)] 93)) 93 [0, 0, 0, 0] _ rfl)
    rw [World.size_alloc, World.size_alloc] at h
    exact h
  have hBW : Below w.heap.size w W0 := by rw [← hW0]; exact ((((Below.refl w.heap.size w).alloc (Nat.le_refl _) _).alloc (by simp) _).alloc (by simp; omega) _)
  clear hW0
  have hG0 := hG.up hBW
  have hgl := hG0.lt
  have hgk := hG0.kind
  have hgs := hG0.size
  have hpm_0 : W0.cell? ⟨gb, 2, none⟩ = some (.int .u64 (dig G.p.m 0 : Int)) := hG0.p.cell 0 _ rfl
  have hpm_1 : W0.cell? ⟨gb, 3, none⟩ = some (.int .u64 (dig G.p.m 1 : Int)) := hG0.p.cell 1 _ rfl
  have hpm_2 : W0.cell? ⟨gb, 4, none⟩ = some (.int .u64 (dig G.p.m 2 : Int)) := hG0.p.cell 2 _ rfl
  have hpm_3 : W0.cell? ⟨gb, 5, none⟩ = some (.int .u64 (dig G.p.m 3 : Int)) := hG0.p.cell 3 _ rfl
  have hpo_0 : W0.cell? ⟨gb, 6, none⟩ = some (.int .u64 (dig (mont G.p.m 1) 0 : Int)) := by rw [← OK.out.p.one']; exact hG0.p.cell 4 _ rfl
  have hpo_1 : W0.cell? ⟨gb, 7, none⟩ = some (.int .u64 (dig (mont G.p.m 1) 1 : Int)) := by rw [← OK.out.p.one']; exact hG0.p.cell 5 _ rfl
  have hpo_2 : W0.cell? ⟨gb, 8, none⟩ = some (.int .u64 (dig (mont G.p.m 1) 2 : Int)) := by rw [← OK.out.p.one']; exact hG0.p.cell 6 _ rfl
  have hpo_3 : W0.cell? ⟨gb, 9, none⟩ = some (.int .u64 (dig (mont G.p.m 1) 3 : Int)) := by rw [← OK.out.p.one']; exact hG0.p.cell 7 _ rfl
  have hqm_0 : W0.cell? ⟨gb, 15, none⟩ = some (.int .u64 (dig G.q.m 0 : Int)) := hG0.q.cell 0 _ rfl
  have hqm_1 : W0.cell? ⟨gb, 16, none⟩ = some (.int .u64 (dig G.q.m 1 : Int)) := hG0.q.cell 1 _ rfl
  have hqm_2 : W0.cell? ⟨gb, 17, none⟩ = some (.int .u64 (dig G.q.m 2 : Int)) := hG0.q.cell 2 _ rfl
  have hqm_3 : W0.cell? ⟨gb, 18, none⟩ = some (.int .u64 (dig G.q.m 3 : Int)) := hG0.q.cell 3 _ rfl
  have hqo_0 : W0.cell? ⟨gb, 19, none⟩ = some (.int .u64 (dig (mont G.q.m 1) 0 : Int)) := by rw [← OK.out.q.one']; exact hG0.q.cell 4 _ rfl
  have hqo_1 : W0.cell? ⟨gb, 20, none⟩ = some (.int .u64 (dig (mont G.q.m 1) 1 : Int)) := by rw [← OK.out.q.one']; exact hG0.q.cell 5 _ rfl
  have hqo_2 : W0.cell? ⟨gb, 21, none⟩ = some (.int .u64 (dig (mont G.q.m 1) 2 : Int)) := by rw [← OK.out.q.one']; exact hG0.q.cell 6 _ rfl
  have hqo_3 : W0.cell? ⟨gb, 22, none⟩ = some (.int .u64 (dig (mont G.q.m 1) 3 : Int)) := by rw [← OK.out.q.one']; exact hG0.q.cell 7 _ rfl
  have hx0_0 := hX0.cell (i := 0) (x := (dig (mont G.q.m (x)) 0 : Int)) rfl
  have hx0_1 := hX0.cell (i := 1) (x := (dig (mont G.q.m (x)) 1 : Int)) rfl
  have hx0_2 := hX0.cell (i := 2) (x := (dig (mont G.q.m (x)) 2 : Int)) rfl
  have hx0_3 := hX0.cell (i := 3) (x := (dig (mont G.q.m (x)) 3 : Int)) rfl
  have hl0 := hX0.lt
  have hx1_0 := hX1.cell (i := 0) (x := (dig (mont G.q.m (y)) 0 : Int)) rfl
  have hx1_1 := hX1.cell (i := 1) (x := (dig (mont G.q.m (y)) 1 : Int)) rfl
  have hx1_2 := hX1.cell (i := 2) (x := (dig (mont G.q.m (y)) 2 : Int)) rfl
  have hx1_3 := hX1.cell (i := 3) (x := (dig (mont G.q.m (y)) 3 : Int)) rfl
  have hl1 := hX1.lt
  have HC := Lib.hid hC
  have HBW := Lib.hid hBW
  clear hC hBW hG hX0 hX1
  refine wp_region_otail 9 (by kernel_rfl) (by kernel_rfl) ?_
  simp only [List.take_succ_cons, List.take_zero, List.drop_succ_cons, List.drop_zero]
  have hovg := fun (E : Over W0) o => E.cell (b := gb) o hgl
  have hov0 := fun (E : Over W0) o => E.cell (b := w.heap.size) o hl0
  have hov1 := fun (E : Over W0) o => E.cell (b := w.heap.size + 1) o hl1
  repeat (go_big_quiet_step (first | (go_at_call 120; exact calls_over (subM G.q OK.out.q gb 15 x y hy _ (hG0.up (Over.h _)).q))))
  all_goals (try unfold limbV)
  repeat (go_big_quiet_step (first | (go_at_call 120; exact calls_over (subM G.q OK.out.q gb 15 x y hy _ (hG0.up (Over.h _)).q))))
  all_goals (try unfold limbV)
  repeat (go_big_quiet_step (first | (go_at_call 120; exact calls_over (subM G.q OK.out.q gb 15 x y hy _ (hG0.up (Over.h _)).q))))
  refine wpQuiet_nil ?_
  rintro _ ⟨E, rfl⟩
  have HZ := Lib.hid (HC.out.below E.h HC.out.lt)
  have HBB := Lib.hid (below_up HBW.out E.h)
  clear hovg hov0 hov1
  generalize E.w = w3 at *
  have HB5 := Lib.hid (below_fill (n := mont G.q.m (x + (G.q.m - y))) (b := w.heap.size + 2) HBB.out (by omega))
  have HS5 := Lib.hid (HZ.out.fill rfl (mont G.q.m (x + (G.q.m - y))))
  have hz_0 := HZ.out.cell (i := 0) (x := 0) rfl
  have hz_1 := HZ.out.cell (i := 1) (x := 0) rfl
  have hz_2 := HZ.out.cell (i := 2) (x := 0) rfl
  have hz_3 := HZ.out.cell (i := 3) (x := 0) rfl
  have hzf_0 := HZ.out.frozen 0
  have hzf_1 := HZ.out.frozen 1
  have hzf_2 := HZ.out.frozen 2
  have hzf_3 := HZ.out.frozen 3
  go_wp2_with fail
  generalize (((((w3).setCell ⟨w.heap.size + 2, 0, none⟩ (.int .u64 (dig (mont G.q.m (x + (G.q.m - y))) 0 : Int))).setCell ⟨w.heap.size + 2, 1, none⟩ (.int .u64 (dig (mont G.q.m (x + (G.q.m - y))) 1 : Int))).setCell ⟨w.heap.size + 2, 2, none⟩ (.int .u64 (dig (mont G.q.m (x + (G.q.m - y))) 2 : Int))).setCell ⟨w.heap.size + 2, 3, none⟩ (.int .u64 (dig (mont G.q.m (x + (G.q.m - y))) 3 : Int))) = w5 at *
  clear hz_0 hz_1 hz_2 hz_3
  have hg_0 := HS5.out.cell (i := 0) (x := (dig (mont G.q.m (x + (G.q.m - y))) 0 : Int)) rfl
  have hg_1 := HS5.out.cell (i := 1) (x := (dig (mont G.q.m (x + (G.q.m - y))) 1 : Int)) rfl
  have hg_2 := HS5.out.cell (i := 2) (x := (dig (mont G.q.m (x + (G.q.m - y))) 2 : Int)) rfl
  have hg_3 := HS5.out.cell (i := 3) (x := (dig (mont G.q.m (x + (G.q.m - y))) 3 : Int)) rfl
  simp [bodyPost, results, Try.results94, go_sem, hg_0, hg_1, hg_2, hg_3]
  exact HB5.out

set_option maxHeartbeats 1000000 in
theorem gMul_any (G : GP) (ok : G.Ok) (gb : Nat) (x y : Nat)  (w : World) (hG : GroupAt w gb G) :
    Calls Try.prog 95 #[.pointer (some ⟨gb, 0, none⟩), scV G x, scV G y] w fun e w' => e = .returned (scV G (x * y)) ∧ Below w.heap.size w w' := by
  have OK := Lib.hid ok
  clear ok
  unfold scV limbV
  go_enter Try.func95, Try.ntmps95
  go_wp2_with fail
  obtain ⟨W0, hW0⟩ : ∃ W9 : World, (((w.alloc (Obj.cells #[.int .u64 (dig (mont G.q.m (x)) 0 : Int), .int .u64 (dig (mont G.q.m (x)) 1 : Int), .int .u64 (dig (mont G.q.m (x)) 2 : Int), .int .u64 (dig (mont G.q.m (x)) 3 : Int)] 93)).alloc (Obj.cells #[.int .u64 (dig (mont G.q.m (y)) 0 : Int), .int .u64 (dig (mont G.q.m (y)) 1 : Int), .int .u64 (dig (mont G.q.m (y)) 2 : Int), .int .u64 (dig (mont G.q.m (y)) 3 : Int)] 93)).alloc (Obj.cells #[.int .u64 0, .int .u64 0, .int .u64 0, .int .u64 0] 93)) = W9 := ⟨_, rfl⟩
  rw [hW0]
  have hX0 : Blk W0 (w.heap.size) 93 (lim (mont G.q.m (x))) := by
    rw [← hW0]
    have h := (((Blk.new w 93 (lim (mont G.q.m (x))) _ rfl).alloc (Obj.cells #[.int .u64 (dig (mont G.q.m (y)) 0 : Int), .int .u64 (dig (mont G.q.m (y)) 1 : Int), .int .u64 (dig (mont G.q.m (y)) 2 : Int), .int .u64 (dig (mont G.q.m (y)) 3 : Int)] 93)).alloc (Obj.cells #[.int .u64 0, .int .u64 0, .int .u64 0, .int .u64 0] 93))
    exact h
  have hX1 : Blk W0 (w.heap.size + 1) 93 (lim (mont G.q.m (y))) := by
    rw [← hW0]
    have h := ((Blk.new (w.alloc (Obj.cells #[.int .u64 (dig (mont G.q.m (x)) 0 : Int), .int .u64 (dig (mont G.q.m (x)) 1 : Int), .int .u64 (dig (mont G.q.m (x)) 2 : Int), .int .u64 (dig (mont G.q.m (x)) 3 : Int)] 93)) 93 (lim (mont G.q.m (y))) _ rfl).alloc (Obj.cells #[.int .u64 0, .int .u64 0, .int .u64 0, .int .u64 0] 93))
    rw [World.size_alloc] at h
    exact h
  have hC : Blk W0 (w.heap.size + 2) 93 [0, 0, 0, 0] := by
    rw [← hW0]
    have h := (Blk.new ((w.alloc (Obj.cells #[.int .u64 (dig (mont G.q.m (x)) 0 : Int), .int .u64 (dig (mont G.q.m (x)) 1 : Int), .int .u64 (dig (mont G.q.m (x)) 2 : Int), .int .u64 (dig (mont G.q.m (x)) 3 : Int)] 93)).alloc (Obj.cells #[.int .u64 (dig (mont G.q.m (y)) 0 : Int), .int .u64 (dig (mont G.q.m (y)) 1 : Int), .int .u64 (dig (mont G.q.m (y)) 2 : Int), .int .u64 (dig (mont G.q.m (y)) 3 : Int)] 93)) 93 [0, 0, 0, 0] _ rfl)
    rw [World.size_alloc, World.size_alloc] at h
    exact h
  have hBW : Below w.heap.size w W0 := by rw [← hW0]; exact ((((Below.refl w.heap.size w).alloc (Nat.le_refl _) _).alloc (by simp) _).alloc (by simp; omega) _)
  clear hW0
  have hG0 := hG.up hBW
  have hgl := hG0.lt
  have hgk := hG0.kind
  have hgs := hG0.size
  have hpm_0 : W0.cell? ⟨gb, 2, none⟩ = some (.int .u64 (dig G.p.m 0 : Int)) := hG0.p.cell 0 _ rfl
  have hpm_1 : W0.cell? ⟨gb, 3, none⟩ = some (.int .u64 (dig G.p.m 1 : Int)) := hG0.p.cell 1 _ rfl
  have hpm_2 : W0.cell? ⟨gb, 4, none⟩ = some (.int .u64 (dig G.p.m 2 : Int)) := hG0.p.cell 2 _ rfl
  have hpm_3 : W0.cell? ⟨gb, 5, none⟩ = some (.int .u64 (dig G.p.m 3 : Int)) := hG0.p.cell 3 _ rfl
  have hpo_0 : W0.cell? ⟨gb, 6, none⟩ = some (.int .u64 (dig (mont G.p.m 1) 0 : Int)) := by rw [← OK.out.p.one']; exact hG0.p.cell 4 _ rfl
  have hpo_1 : W0.cell? ⟨gb, 7, none⟩ = some (.int .u64 (dig (mont G.p.m 1) 1 : Int)) := by rw [← OK.out.p.one']; exact hG0.p.cell 5 _ rfl
  have hpo_2 : W0.cell? ⟨gb, 8, none⟩ = some (.int .u64 (dig (mont G.p.m 1) 2 : Int)) := by rw [← OK.out.p.one']; exact hG0.p.cell 6 _ rfl
  have hpo_3 : W0.cell? ⟨gb, 9, none⟩ = some (.int .u64 (dig (mont G.p.m 1) 3 : Int)) := by rw [← OK.out.p.one']; exact hG0.p.cell 7 _ rfl
  have hqm_0 : W0.cell? ⟨gb, 15, none⟩ = some (.int .u64 (dig G.q.m 0 : Int)) := hG0.q.cell 0 _ rfl
  have hqm_1 : W0.cell? ⟨gb, 16, none⟩ = some (.int .u64 (dig G.q.m 1 : Int)) := hG0.q.cell 1 _ rfl
  have hqm_2 : W0.cell? ⟨gb, 17, none⟩ = some (.int .u64 (dig G.q.m 2 : Int)) := hG0.q.cell 2 _ rfl
  have hqm_3 : W0.cell? ⟨gb, 18, none⟩ = some (.int .u64 (dig G.q.m 3 : Int)) := hG0.q.cell 3 _ rfl
  have hqo_0 : W0.cell? ⟨gb, 19, none⟩ = some (.int .u64 (dig (mont G.q.m 1) 0 : Int)) := by rw [← OK.out.q.one']; exact hG0.q.cell 4 _ rfl
  have hqo_1 : W0.cell? ⟨gb, 20, none⟩ = some (.int .u64 (dig (mont G.q.m 1) 1 : Int)) := by rw [← OK.out.q.one']; exact hG0.q.cell 5 _ rfl
  have hqo_2 : W0.cell? ⟨gb, 21, none⟩ = some (.int .u64 (dig (mont G.q.m 1) 2 : Int)) := by rw [← OK.out.q.one']; exact hG0.q.cell 6 _ rfl
  have hqo_3 : W0.cell? ⟨gb, 22, none⟩ = some (.int .u64 (dig (mont G.q.m 1) 3 : Int)) := by rw [← OK.out.q.one']; exact hG0.q.cell 7 _ rfl
  have hx0_0 := hX0.cell (i := 0) (x := (dig (mont G.q.m (x)) 0 : Int)) rfl
  have hx0_1 := hX0.cell (i := 1) (x := (dig (mont G.q.m (x)) 1 : Int)) rfl
  have hx0_2 := hX0.cell (i := 2) (x := (dig (mont G.q.m (x)) 2 : Int)) rfl
  have hx0_3 := hX0.cell (i := 3) (x := (dig (mont G.q.m (x)) 3 : Int)) rfl
  have hl0 := hX0.lt
  have hx1_0 := hX1.cell (i := 0) (x := (dig (mont G.q.m (y)) 0 : Int)) rfl
  have hx1_1 := hX1.cell (i := 1) (x := (dig (mont G.q.m (y)) 1 : Int)) rfl
  have hx1_2 := hX1.cell (i := 2) (x := (dig (mont G.q.m (y)) 2 : Int)) rfl
  have hx1_3 := hX1.cell (i := 3) (x := (dig (mont G.q.m (y)) 3 : Int)) rfl
  have hl1 := hX1.lt
  have HC := Lib.hid hC
  have HBW := Lib.hid hBW
  clear hC hBW hG hX0 hX1
  refine wp_region_otail 9 (by kernel_rfl) (by kernel_rfl) ?_
  simp only [List.take_succ_cons, List.take_zero, List.drop_succ_cons, List.drop_zero]
  have hovg := fun (E : Over W0) o => E.cell (b := gb) o hgl
  have hov0 := fun (E : Over W0) o => E.cell (b := w.heap.size) o hl0
  have hov1 := fun (E : Over W0) o => E.cell (b := w.heap.size + 1) o hl1
  repeat (go_big_quiet_step (first | (go_at_call 113; exact calls_over (mulM G.q OK.out.q gb 15 x y _ (hG0.up (Over.h _)).q))))
  all_goals (try unfold limbV)
  repeat (go_big_quiet_step (first | (go_at_call 113; exact calls_over (mulM G.q OK.out.q gb 15 x y _ (hG0.up (Over.h _)).q))))
  all_goals (try unfold limbV)
  repeat (go_big_quiet_step (first | (go_at_call 113; exact calls_over (mulM G.q OK.out.q gb 15 x y _ (hG0.up (Over.h _)).q))))
  refine wpQuiet_nil ?_
  rintro _ ⟨E, rfl⟩
  have HZ := Lib.hid (HC.out.below E.h HC.out.lt)
  have HBB := Lib.hid (below_up HBW.out E.h)
  clear hovg hov0 hov1
  generalize E.w = w3 at *
  have HB5 := Lib.hid (below_fill (n := mont G.q.m (x * y)) (b := w.heap.size + 2) HBB.out (by omega))
  have HS5 := Lib.hid (HZ.out.fill rfl (mont G.q.m (x * y)))
  have hz_0 := HZ.out.cell (i := 0) (x := 0) rfl
  have hz_1 := HZ.out.cell (i := 1) (x := 0) rfl
  have hz_2 := HZ.out.cell (i := 2) (x := 0) rfl
  have hz_3 := HZ.out.cell (i := 3) (x := 0) rfl
  have hzf_0 := HZ.out.frozen 0
  have hzf_1 := HZ.out.frozen 1
  have hzf_2 := HZ.out.frozen 2
  have hzf_3 := HZ.out.frozen 3
  go_wp2_with fail
  generalize (((((w3).setCell ⟨w.heap.size + 2, 0, none⟩ (.int .u64 (dig (mont G.q.m (x * y)) 0 : Int))).setCell ⟨w.heap.size + 2, 1, none⟩ (.int .u64 (dig (mont G.q.m (x * y)) 1 : Int))).setCell ⟨w.heap.size + 2, 2, none⟩ (.int .u64 (dig (mont G.q.m (x * y)) 2 : Int))).setCell ⟨w.heap.size + 2, 3, none⟩ (.int .u64 (dig (mont G.q.m (x * y)) 3 : Int))) = w5 at *
  clear hz_0 hz_1 hz_2 hz_3
  have hg_0 := HS5.out.cell (i := 0) (x := (dig (mont G.q.m (x * y)) 0 : Int)) rfl
  have hg_1 := HS5.out.cell (i := 1) (x := (dig (mont G.q.m (x * y)) 1 : Int)) rfl
  have hg_2 := HS5.out.cell (i := 2) (x := (dig (mont G.q.m (x * y)) 2 : Int)) rfl
  have hg_3 := HS5.out.cell (i := 3) (x := (dig (mont G.q.m (x * y)) 3 : Int)) rfl
  simp [bodyPost, results, Try.results95, go_sem, hg_0, hg_1, hg_2, hg_3]
  exact HB5.out

set_option maxHeartbeats 1000000 in
theorem gNeg_any (G : GP) (ok : G.Ok) (gb : Nat) (y : Nat) (hy : y ≤ G.q.m) (w : World) (hG : GroupAt w gb G) :
    Calls Try.prog 116 #[.pointer (some ⟨gb, 0, none⟩), scV G y] w fun e w' => e = .returned (scV G (G.q.m - y)) ∧ Below w.heap.size w w' := by
  have OK := Lib.hid ok
  clear ok
  unfold scV limbV
  go_enter Try.func116, Try.ntmps116
  go_wp2_with fail
  obtain ⟨W0, hW0⟩ : ∃ W9 : World, ((w.alloc (Obj.cells #[.int .u64 (dig (mont G.q.m (y)) 0 : Int), .int .u64 (dig (mont G.q.m (y)) 1 : Int), .int .u64 (dig (mont G.q.m (y)) 2 : Int), .int .u64 (dig (mont G.q.m (y)) 3 : Int)] 93)).alloc (Obj.cells #[.int .u64 0, .int .u64 0, .int .u64 0, .int .u64 0] 93)) = W9 := ⟨_, rfl⟩
  rw [hW0]
  have hX0 : Blk W0 (w.heap.size) 93 (lim (mont G.q.m (y))) := by
    rw [← hW0]
    have h := ((Blk.new w 93 (lim (mont G.q.m (y))) _ rfl).alloc (Obj.cells #[.int .u64 0, .int .u64 0, .int .u64 0, .int .u64 0] 93))
    exact h
  have hC : Blk W0 (w.heap.size + 1) 93 [0, 0, 0, 0] := by
    rw [← hW0]
    have h := (Blk.new (w.alloc (Obj.cells #[.int .u64 (dig (mont G.q.m (y)) 0 : Int), .int .u64 (dig (mont G.q.m (y)) 1 : Int), .int .u64 (dig (mont G.q.m (y)) 2 : Int), .int .u64 (dig (mont G.q.m (y)) 3 : Int)] 93)) 93 [0, 0, 0, 0] _ rfl)
    rw [World.size_alloc] at h
    exact h
  have hBW : Below w.heap.size w W0 := by rw [← hW0]; exact (((Below.refl w.heap.size w).alloc (Nat.le_refl _) _).alloc (by simp) _)
  clear hW0
  have hG0 := hG.up hBW
  have hgl := hG0.lt
  have hgk := hG0.kind
  have hgs := hG0.size
  have hpm_0 : W0.cell? ⟨gb, 2, none⟩ = some (.int .u64 (dig G.p.m 0 : Int)) := hG0.p.cell 0 _ rfl
  have hpm_1 : W0.cell? ⟨gb, 3, none⟩ = some (.int .u64 (dig G.p.m 1 : Int)) := hG0.p.cell 1 _ rfl
  have hpm_2 : W0.cell? ⟨gb, 4, none⟩ = some (.int .u64 (dig G.p.m 2 : Int)) := hG0.p.cell 2 _ rfl
  have hpm_3 : W0.cell? ⟨gb, 5, none⟩ = some (.int .u64 (dig G.p.m 3 : Int)) := hG0.p.cell 3 _ rfl
  have hpo_0 : W0.cell? ⟨gb, 6, none⟩ = some (.int .u64 (dig (mont G.p.m 1) 0 : Int)) := by rw [← OK.out.p.one']; exact hG0.p.cell 4 _ rfl
  have hpo_1 : W0.cell? ⟨gb, 7, none⟩ = some (.int .u64 (dig (mont G.p.m 1) 1 : Int)) := by rw [← OK.out.p.one']; exact hG0.p.cell 5 _ rfl
  have hpo_2 : W0.cell? ⟨gb, 8, none⟩ = some (.int .u64 (dig (mont G.p.m 1) 2 : Int)) := by rw [← OK.out.p.one']; exact hG0.p.cell 6 _ rfl
  have hpo_3 : W0.cell? ⟨gb, 9, none⟩ = some (.int .u64 (dig (mont G.p.m 1) 3 : Int)) := by rw [← OK.out.p.one']; exact hG0.p.cell 7 _ rfl
  have hqm_0 : W0.cell? ⟨gb, 15, none⟩ = some (.int .u64 (dig G.q.m 0 : Int)) := hG0.q.cell 0 _ rfl
  have hqm_1 : W0.cell? ⟨gb, 16, none⟩ = some (.int .u64 (dig G.q.m 1 : Int)) := hG0.q.cell 1 _ rfl
  have hqm_2 : W0.cell? ⟨gb, 17, none⟩ = some (.int .u64 (dig G.q.m 2 : Int)) := hG0.q.cell 2 _ rfl
  have hqm_3 : W0.cell? ⟨gb, 18, none⟩ = some (.int .u64 (dig G.q.m 3 : Int)) := hG0.q.cell 3 _ rfl
  have hqo_0 : W0.cell? ⟨gb, 19, none⟩ = some (.int .u64 (dig (mont G.q.m 1) 0 : Int)) := by rw [← OK.out.q.one']; exact hG0.q.cell 4 _ rfl
  have hqo_1 : W0.cell? ⟨gb, 20, none⟩ = some (.int .u64 (dig (mont G.q.m 1) 1 : Int)) := by rw [← OK.out.q.one']; exact hG0.q.cell 5 _ rfl
  have hqo_2 : W0.cell? ⟨gb, 21, none⟩ = some (.int .u64 (dig (mont G.q.m 1) 2 : Int)) := by rw [← OK.out.q.one']; exact hG0.q.cell 6 _ rfl
  have hqo_3 : W0.cell? ⟨gb, 22, none⟩ = some (.int .u64 (dig (mont G.q.m 1) 3 : Int)) := by rw [← OK.out.q.one']; exact hG0.q.cell 7 _ rfl
  have hx0_0 := hX0.cell (i := 0) (x := (dig (mont G.q.m (y)) 0 : Int)) rfl
  have hx0_1 := hX0.cell (i := 1) (x := (dig (mont G.q.m (y)) 1 : Int)) rfl
  have hx0_2 := hX0.cell (i := 2) (x := (dig (mont G.q.m (y)) 2 : Int)) rfl
  have hx0_3 := hX0.cell (i := 3) (x := (dig (mont G.q.m (y)) 3 : Int)) rfl
  have hl0 := hX0.lt
  have HC := Lib.hid hC
  have HBW := Lib.hid hBW
  clear hC hBW hG hX0
  refine wp_region_otail 8 (by kernel_rfl) (by kernel_rfl) ?_
  simp only [List.take_succ_cons, List.take_zero, List.drop_succ_cons, List.drop_zero]
  have hovg := fun (E : Over W0) o => E.cell (b := gb) o hgl
  have hov0 := fun (E : Over W0) o => E.cell (b := w.heap.size) o hl0
  repeat (go_big_quiet_step (first | (go_at_call 120; exact calls_over (subZ G.q OK.out.q gb 15 y hy _ (hG0.up (Over.h _)).q))))
  all_goals (try unfold limbV)
  repeat (go_big_quiet_step (first | (go_at_call 120; exact calls_over (subZ G.q OK.out.q gb 15 y hy _ (hG0.up (Over.h _)).q))))
  all_goals (try unfold limbV)
  repeat (go_big_quiet_step (first | (go_at_call 120; exact calls_over (subZ G.q OK.out.q gb 15 y hy _ (hG0.up (Over.h _)).q))))
  refine wpQuiet_nil ?_
  rintro _ ⟨E, rfl⟩
  have HZ := Lib.hid (HC.out.below E.h HC.out.lt)
  have HBB := Lib.hid (below_up HBW.out E.h)
  clear hovg hov0
  generalize E.w = w3 at *
  have HB5 := Lib.hid (below_fill (n := mont G.q.m (G.q.m - y)) (b := w.heap.size + 1) HBB.out (by omega))
  have HS5 := Lib.hid (HZ.out.fill rfl (mont G.q.m (G.q.m - y)))
  have hz_0 := HZ.out.cell (i := 0) (x := 0) rfl
  have hz_1 := HZ.out.cell (i := 1) (x := 0) rfl
  have hz_2 := HZ.out.cell (i := 2) (x := 0) rfl
  have hz_3 := HZ.out.cell (i := 3) (x := 0) rfl
  have hzf_0 := HZ.out.frozen 0
  have hzf_1 := HZ.out.frozen 1
  have hzf_2 := HZ.out.frozen 2
  have hzf_3 := HZ.out.frozen 3
  go_wp2_with fail
  generalize (((((w3).setCell ⟨w.heap.size + 1, 0, none⟩ (.int .u64 (dig (mont G.q.m (G.q.m - y)) 0 : Int))).setCell ⟨w.heap.size + 1, 1, none⟩ (.int .u64 (dig (mont G.q.m (G.q.m - y)) 1 : Int))).setCell ⟨w.heap.size + 1, 2, none⟩ (.int .u64 (dig (mont G.q.m (G.q.m - y)) 2 : Int))).setCell ⟨w.heap.size + 1, 3, none⟩ (.int .u64 (dig (mont G.q.m (G.q.m - y)) 3 : Int))) = w5 at *
  clear hz_0 hz_1 hz_2 hz_3
  have hg_0 := HS5.out.cell (i := 0) (x := (dig (mont G.q.m (G.q.m - y)) 0 : Int)) rfl
  have hg_1 := HS5.out.cell (i := 1) (x := (dig (mont G.q.m (G.q.m - y)) 1 : Int)) rfl
  have hg_2 := HS5.out.cell (i := 2) (x := (dig (mont G.q.m (G.q.m - y)) 2 : Int)) rfl
  have hg_3 := HS5.out.cell (i := 3) (x := (dig (mont G.q.m (G.q.m - y)) 3 : Int)) rfl
  simp [bodyPost, results, Try.results116, go_sem, hg_0, hg_1, hg_2, hg_3]
  exact HB5.out

set_option maxHeartbeats 1000000 in
theorem gPlusOne_any (G : GP) (ok : G.Ok) (gb : Nat) (x : Nat)  (w : World) (hG : GroupAt w gb G) :
    Calls Try.prog 117 #[scV G x, .pointer (some ⟨gb, 0, none⟩)] w fun e w' => e = .returned (scV G (x + 1)) ∧ Below w.heap.size w w' := by
  have OK := Lib.hid ok
  clear ok
  unfold scV limbV
  go_enter Try.func117, Try.ntmps117
  go_wp2_with fail
  obtain ⟨W0, hW0⟩ : ∃ W9 : World, ((w.alloc (Obj.cells #[.int .u64 (dig (mont G.q.m (x)) 0 : Int), .int .u64 (dig (mont G.q.m (x)) 1 : Int), .int .u64 (dig (mont G.q.m (x)) 2 : Int), .int .u64 (dig (mont G.q.m (x)) 3 : Int)] 93)).alloc (Obj.cells #[.int .u64 0, .int .u64 0, .int .u64 0, .int .u64 0] 93)) = W9 := ⟨_, rfl⟩
  rw [hW0]
  have hX0 : Blk W0 (w.heap.size) 93 (lim (mont G.q.m (x))) := by
    rw [← hW0]
    have h := ((Blk.new w 93 (lim (mont G.q.m (x))) _ rfl).alloc (Obj.cells #[.int .u64 0, .int .u64 0, .int .u64 0, .int .u64 0] 93))
    exact h
  have hC : Blk W0 (w.heap.size + 1) 93 [0, 0, 0, 0] := by
    rw [← hW0]
    have h := (Blk.new (w.alloc (Obj.cells #[.int .u64 (dig (mont G.q.m (x)) 0 : Int), .int .u64 (dig (mont G.q.m (x)) 1 : Int), .int .u64 (dig (mont G.q.m (x)) 2 : Int), .int .u64 (dig (mont G.q.m (x)) 3 : Int)] 93)) 93 [0, 0, 0, 0] _ rfl)
    rw [World.size_alloc] at h
    exact h
  have hBW : Below w.heap.size w W0 := by rw [← hW0]; exact (((Below.refl w.heap.size w).alloc (Nat.le_refl _) _).alloc (by simp) _)
  clear hW0
  have hG0 := hG.up hBW
  have hgl := hG0.lt
  have hgk := hG0.kind
  have hgs := hG0.size
  have hpm_0 : W0.cell? ⟨gb, 2, none⟩ = some (.int .u64 (dig G.p.m 0 : Int)) := hG0.p.cell 0 _ rfl
  have hpm_1 : W0.cell? ⟨gb, 3, none⟩ = some (.int .u64 (dig G.p.m 1 : Int)) := hG0.p.cell 1 _ rfl
  have hpm_2 : W0.cell? ⟨gb, 4, none⟩ = some (.int .u64 (dig G.p.m 2 : Int)) := hG0.p.cell 2 _ rfl
  have hpm_3 : W0.cell? ⟨gb, 5, none⟩ = some (.int .u64 (dig G.p.m 3 : Int)) := hG0.p.cell 3 _ rfl
  have hpo_0 : W0.cell? ⟨gb, 6, none⟩ = some (.int .u64 (dig (mont G.p.m 1) 0 : Int)) := by rw [← OK.out.p.one']; exact hG0.p.cell 4 _ rfl
  have hpo_1 : W0.cell? ⟨gb, 7, none⟩ = some (.int .u64 (dig (mont G.p.m 1) 1 : Int)) := by rw [← OK.out.p.one']; exact hG0.p.cell 5 _ rfl
  have hpo_2 : W0.cell? ⟨gb, 8, none⟩ = some (.int .u64 (dig (mont G.p.m 1) 2 : Int)) := by rw [← OK.out.p.one']; exact hG0.p.cell 6 _ rfl
  have hpo_3 : W0.cell? ⟨gb, 9, none⟩ = some (.int .u64 (dig (mont G.p.m 1) 3 : Int)) := by rw [← OK.out.p.one']; exact hG0.p.cell 7 _ rfl
  have hqm_0 : W0.cell? ⟨gb, 15, none⟩ = some (.int .u64 (dig G.q.m 0 : Int)) := hG0.q.cell 0 _ rfl
  have hqm_1 : W0.cell? ⟨gb, 16, none⟩ = some (.int .u64 (dig G.q.m 1 : Int)) := hG0.q.cell 1 _ rfl
  have hqm_2 : W0.cell? ⟨gb, 17, none⟩ = some (.int .u64 (dig G.q.m 2 : Int)) := hG0.q.cell 2 _ rfl
  have hqm_3 : W0.cell? ⟨gb, 18, none⟩ = some (.int .u64 (dig G.q.m 3 : Int)) := hG0.q.cell 3 _ rfl
  have hqo_0 : W0.cell? ⟨gb, 19, none⟩ = some (.int .u64 (dig (mont G.q.m 1) 0 : Int)) := by rw [← OK.out.q.one']; exact hG0.q.cell 4 _ rfl
  have hqo_1 : W0.cell? ⟨gb, 20, none⟩ = some (.int .u64 (dig (mont G.q.m 1) 1 : Int)) := by rw [← OK.out.q.one']; exact hG0.q.cell 5 _ rfl
  have hqo_2 : W0.cell? ⟨gb, 21, none⟩ = some (.int .u64 (dig (mont G.q.m 1) 2 : Int)) := by rw [← OK.out.q.one']; exact hG0.q.cell 6 _ rfl
  have hqo_3 : W0.cell? ⟨gb, 22, none⟩ = some (.int .u64 (dig (mont G.q.m 1) 3 : Int)) := by rw [← OK.out.q.one']; exact hG0.q.cell 7 _ rfl
  have hx0_0 := hX0.cell (i := 0) (x := (dig (mont G.q.m (x)) 0 : Int)) rfl
  have hx0_1 := hX0.cell (i := 1) (x := (dig (mont G.q.m (x)) 1 : Int)) rfl
  have hx0_2 := hX0.cell (i := 2) (x := (dig (mont G.q.m (x)) 2 : Int)) rfl
  have hx0_3 := hX0.cell (i := 3) (x := (dig (mont G.q.m (x)) 3 : Int)) rfl
  have hl0 := hX0.lt
  have HC := Lib.hid hC
  have HBW := Lib.hid hBW
  clear hC hBW hG hX0
  refine wp_region_otail 12 (by kernel_rfl) (by kernel_rfl) ?_
  simp only [List.take_succ_cons, List.take_zero, List.drop_succ_cons, List.drop_zero]
  have hovg := fun (E : Over W0) o => E.cell (b := gb) o hgl
  have hov0 := fun (E : Over W0) o => E.cell (b := w.heap.size) o hl0
  repeat (go_big_quiet_step (first | (go_at_call 110; exact calls_over (addM G.q OK.out.q gb 15 x 1 _ (hG0.up (Over.h _)).q))))
  all_goals (try unfold limbV)
  repeat (go_big_quiet_step (first | (go_at_call 110; exact calls_over (addM G.q OK.out.q gb 15 x 1 _ (hG0.up (Over.h _)).q))))
  all_goals (try unfold limbV)
  repeat (go_big_quiet_step (first | (go_at_call 110; exact calls_over (addM G.q OK.out.q gb 15 x 1 _ (hG0.up (Over.h _)).q))))
  refine wpQuiet_nil ?_
  rintro _ ⟨E, rfl⟩
  have HZ := Lib.hid (HC.out.below E.h HC.out.lt)
  have HBB := Lib.hid (below_up HBW.out E.h)
  clear hovg hov0
  generalize E.w = w3 at *
  have HB5 := Lib.hid (below_fill (n := mont G.q.m (x + 1)) (b := w.heap.size + 1) HBB.out (by omega))
  have HS5 := Lib.hid (HZ.out.fill rfl (mont G.q.m (x + 1)))
  have hz_0 := HZ.out.cell (i := 0) (x := 0) rfl
  have hz_1 := HZ.out.cell (i := 1) (x := 0) rfl
  have hz_2 := HZ.out.cell (i := 2) (x := 0) rfl
  have hz_3 := HZ.out.cell (i := 3) (x := 0) rfl
  have hzf_0 := HZ.out.frozen 0
  have hzf_1 := HZ.out.frozen 1
  have hzf_2 := HZ.out.frozen 2
  have hzf_3 := HZ.out.frozen 3
  go_wp2_with fail
  generalize (((((w3).setCell ⟨w.heap.size + 1, 0, none⟩ (.int .u64 (dig (mont G.q.m (x + 1)) 0 : Int))).setCell ⟨w.heap.size + 1, 1, none⟩ (.int .u64 (dig (mont G.q.m (x + 1)) 1 : Int))).setCell ⟨w.heap.size + 1, 2, none⟩ (.int .u64 (dig (mont G.q.m (x + 1)) 2 : Int))).setCell ⟨w.heap.size + 1, 3, none⟩ (.int .u64 (dig (mont G.q.m (x + 1)) 3 : Int))) = w5 at *
  clear hz_0 hz_1 hz_2 hz_3
  have hg_0 := HS5.out.cell (i := 0) (x := (dig (mont G.q.m (x + 1)) 0 : Int)) rfl
  have hg_1 := HS5.out.cell (i := 1) (x := (dig (mont G.q.m (x + 1)) 1 : Int)) rfl
  have hg_2 := HS5.out.cell (i := 2) (x := (dig (mont G.q.m (x + 1)) 2 : Int)) rfl
  have hg_3 := HS5.out.cell (i := 3) (x := (dig (mont G.q.m (x + 1)) 3 : Int)) rfl
  simp [bodyPost, results, Try.results117, go_sem, hg_0, hg_1, hg_2, hg_3]
  exact HB5.out

set_option maxHeartbeats 1000000 in
theorem gTimes_any (G : GP) (ok : G.Ok) (gb : Nat) (x y : Nat)  (w : World) (hG : GroupAt w gb G) :
    Calls Try.prog 75 #[.pointer (some ⟨gb, 0, none⟩), elV G x, elV G y] w fun e w' => e = .returned (elV G (x * y)) ∧ Below w.heap.size w w' := by
  have OK := Lib.hid ok
  clear ok
  unfold elV limbV
  go_enter Try.func75, Try.ntmps75
  go_wp2_with fail
  obtain ⟨W0, hW0⟩ : ∃ W9 : World, (((w.alloc (Obj.cells #[.int .u64 (dig (mont G.p.m (x)) 0 : Int), .int .u64 (dig (mont G.p.m (x)) 1 : Int), .int .u64 (dig (mont G.p.m (x)) 2 : Int), .int .u64 (dig (mont G.p.m (x)) 3 : Int)] 88)).alloc (Obj.cells #[.int .u64 (dig (mont G.p.m (y)) 0 : Int), .int .u64 (dig (mont G.p.m (y)) 1 : Int), .int .u64 (dig (mont G.p.m (y)) 2 : Int), .int .u64 (dig (mont G.p.m (y)) 3 : Int)] 88)).alloc (Obj.cells #[.int .u64 0, .int .u64 0, .int .u64 0, .int .u64 0] 88)) = W9 := ⟨_, rfl⟩
  rw [hW0]
  have hX0 : Blk W0 (w.heap.size) 88 (lim (mont G.p.m (x))) := by
    rw [← hW0]
    have h := (((Blk.new w 88 (lim (mont G.p.m (x))) _ rfl).alloc (Obj.cells #[.int .u64 (dig (mont G.p.m (y)) 0 : Int), .int .u64 (dig (mont G.p.m (y)) 1 : Int), .int .u64 (dig (mont G.p.m (y)) 2 : Int), .int .u64 (dig (mont G.p.m (y)) 3 : Int)] 88)).alloc (Obj.cells #[.int .u64 0, .int .u64 0, .int .u64 0, .int .u64 0] 88))
    exact h
  have hX1 : Blk W0 (w.heap.size + 1) 88 (lim (mont G.p.m (y))) := by
    rw [← hW0]
    have h := ((Blk.new (w.alloc (Obj.cells #[.int .u64 (dig (mont G.p.m (x)) 0 : Int), .int .u64 (dig (mont G.p.m (x)) 1 : Int), .int .u64 (dig (mont G.p.m (x)) 2 : Int), .int .u64 (dig (mont G.p.m (x)) 3 : Int)] 88)) 88 (lim (mont G.p.m (y))) _ rfl).alloc (Obj.cells #[.int .u64 0, .int .u64 0, .int .u64 0, .int .u64 0] 88))
    rw [World.size_alloc] at h
    exact h
  have hC : Blk W0 (w.heap.size + 2) 88 [0, 0, 0, 0] := by
    rw [← hW0]
    have h := (Blk.new ((w.alloc (Obj.cells #[.int .u64 (dig (mont G.p.m (x)) 0 : Int), .int .u64 (dig (mont G.p.m (x)) 1 : Int), .int .u64 (dig (mont G.p.m (x)) 2 : Int), .int .u64 (dig (mont G.p.m (x)) 3 : Int)] 88)).alloc (Obj.cells #[.int .u64 (dig (mont G.p.m (y)) 0 : Int), .int .u64 (dig (mont G.p.m (y)) 1 : Int), .int .u64 (dig (mont G.p.m (y)) 2 : Int), .int .u64 (dig (mont G.p.m (y)) 3 : Int)] 88)) 88 [0, 0, 0, 0] _ rfl)
    rw [World.size_alloc, World.size_alloc] at h
    exact h
  have hBW : Below w.heap.size w W0 := by rw [← hW0]; exact ((((Below.refl w.heap.size w).alloc (Nat.le_refl _) _).alloc (by simp) _).alloc (by simp; omega) _)
  clear hW0
  have hG0 := hG.up hBW
  have hgl := hG0.lt
  have hgk := hG0.kind
  have hgs := hG0.size
  have hpm_0 : W0.cell? ⟨gb, 2, none⟩ = some (.int .u64 (dig G.p.m 0 : Int)) := hG0.p.cell 0 _ rfl
  have hpm_1 : W0.cell? ⟨gb, 3, none⟩ = some (.int .u64 (dig G.p.m 1 : Int)) := hG0.p.cell 1 _ rfl
  have hpm_2 : W0.cell? ⟨gb, 4, none⟩ = some (.int .u64 (dig G.p.m 2 : Int)) := hG0.p.cell 2 _ rfl
  have hpm_3 : W0.cell? ⟨gb, 5, none⟩ = some (.int .u64 (dig G.p.m 3 : Int)) := hG0.p.cell 3 _ rfl
  have hpo_0 : W0.cell? ⟨gb, 6, none⟩ = some (.int .u64 (dig (mont G.p.m 1) 0 : Int)) := by rw [← OK.out.p.one']; exact hG0.p.cell 4 _ rfl
  have hpo_1 : W0.cell? ⟨gb, 7, none⟩ = some (.int .u64 (dig (mont G.p.m 1) 1 : Int)) := by rw [← OK.out.p.one']; exact hG0.p.cell 5 _ rfl
  have hpo_2 : W0.cell? ⟨gb, 8, none⟩ = some (.int .u64 (dig (mont G.p.m 1) 2 : Int)) := by rw [← OK.out.p.one']; exact hG0.p.cell 6 _ rfl
  have hpo_3 : W0.cell? ⟨gb, 9, none⟩ = some (.int .u64 (dig (mont G.p.m 1) 3 : Int)) := by rw [← OK.out.p.one']; exact hG0.p.cell 7 _ rfl
  have hqm_0 : W0.cell? ⟨gb, 15, none⟩ = some (.int .u64 (dig G.q.m 0 : Int)) := hG0.q.cell 0 _ rfl
  have hqm_1 : W0.cell? ⟨gb, 16, none⟩ = some (.int .u64 (dig G.q.m 1 : Int)) := hG0.q.cell 1 _ rfl
  have hqm_2 : W0.cell? ⟨gb, 17, none⟩ = some (.int .u64 (dig G.q.m 2 : Int)) := hG0.q.cell 2 _ rfl
  have hqm_3 : W0.cell? ⟨gb, 18, none⟩ = some (.int .u64 (dig G.q.m 3 : Int)) := hG0.q.cell 3 _ rfl
  have hqo_0 : W0.cell? ⟨gb, 19, none⟩ = some (.int .u64 (dig (mont G.q.m 1) 0 : Int)) := by rw [← OK.out.q.one']; exact hG0.q.cell 4 _ rfl
  have hqo_1 : W0.cell? ⟨gb, 20, none⟩ = some (.int .u64 (dig (mont G.q.m 1) 1 : Int)) := by rw [← OK.out.q.one']; exact hG0.q.cell 5 _ rfl
  have hqo_2 : W0.cell? ⟨gb, 21, none⟩ = some (.int .u64 (dig (mont G.q.m 1) 2 : Int)) := by rw [← OK.out.q.one']; exact hG0.q.cell 6 _ rfl
  have hqo_3 : W0.cell? ⟨gb, 22, none⟩ = some (.int .u64 (dig (mont G.q.m 1) 3 : Int)) := by rw [← OK.out.q.one']; exact hG0.q.cell 7 _ rfl
  have hx0_0 := hX0.cell (i := 0) (x := (dig (mont G.p.m (x)) 0 : Int)) rfl
  have hx0_1 := hX0.cell (i := 1) (x := (dig (mont G.p.m (x)) 1 : Int)) rfl
  have hx0_2 := hX0.cell (i := 2) (x := (dig (mont G.p.m (x)) 2 : Int)) rfl
  have hx0_3 := hX0.cell (i := 3) (x := (dig (mont G.p.m (x)) 3 : Int)) rfl
  have hl0 := hX0.lt
  have hx1_0 := hX1.cell (i := 0) (x := (dig (mont G.p.m (y)) 0 : Int)) rfl
  have hx1_1 := hX1.cell (i := 1) (x := (dig (mont G.p.m (y)) 1 : Int)) rfl
  have hx1_2 := hX1.cell (i := 2) (x := (dig (mont G.p.m (y)) 2 : Int)) rfl
  have hx1_3 := hX1.cell (i := 3) (x := (dig (mont G.p.m (y)) 3 : Int)) rfl
  have hl1 := hX1.lt
  have HC := Lib.hid hC
  have HBW := Lib.hid hBW
  clear hC hBW hG hX0 hX1
  refine wp_region_otail 9 (by kernel_rfl) (by kernel_rfl) ?_
  simp only [List.take_succ_cons, List.take_zero, List.drop_succ_cons, List.drop_zero]
  have hovg := fun (E : Over W0) o => E.cell (b := gb) o hgl
  have hov0 := fun (E : Over W0) o => E.cell (b := w.heap.size) o hl0
  have hov1 := fun (E : Over W0) o => E.cell (b := w.heap.size + 1) o hl1
  repeat (go_big_quiet_step (first | (go_at_call 113; exact calls_over (mulM G.p OK.out.p gb 2 x y _ (hG0.up (Over.h _)).p))))
  all_goals (try unfold limbV)
  repeat (go_big_quiet_step (first | (go_at_call 113; exact calls_over (mulM G.p OK.out.p gb 2 x y _ (hG0.up (Over.h _)).p))))
  all_goals (try unfold limbV)
  repeat (go_big_quiet_step (first | (go_at_call 113; exact calls_over (mulM G.p OK.out.p gb 2 x y _ (hG0.up (Over.h _)).p))))
  refine wpQuiet_nil ?_
  rintro _ ⟨E, rfl⟩
  have HZ := Lib.hid (HC.out.below E.h HC.out.lt)
  have HBB := Lib.hid (below_up HBW.out E.h)
  clear hovg hov0 hov1
  generalize E.w = w3 at *
  have HB5 := Lib.hid (below_fill (n := mont G.p.m (x * y)) (b := w.heap.size + 2) HBB.out (by omega))
  have HS5 := Lib.hid (HZ.out.fill rfl (mont G.p.m (x * y)))
  have hz_0 := HZ.out.cell (i := 0) (x := 0) rfl
  have hz_1 := HZ.out.cell (i := 1) (x := 0) rfl
  have hz_2 := HZ.out.cell (i := 2) (x := 0) rfl
  have hz_3 := HZ.out.cell (i := 3) (x := 0) rfl
  have hzf_0 := HZ.out.frozen 0
  have hzf_1 := HZ.out.frozen 1
  have hzf_2 := HZ.out.frozen 2
  have hzf_3 := HZ.out.frozen 3
  go_wp2_with fail
  generalize (((((w3).setCell ⟨w.heap.size + 2, 0, none⟩ (.int .u64 (dig (mont G.p.m (x * y)) 0 : Int))).setCell ⟨w.heap.size + 2, 1, none⟩ (.int .u64 (dig (mont G.p.m (x * y)) 1 : Int))).setCell ⟨w.heap.size + 2, 2, none⟩ (.int .u64 (dig (mont G.p.m (x * y)) 2 : Int))).setCell ⟨w.heap.size + 2, 3, none⟩ (.int .u64 (dig (mont G.p.m (x * y)) 3 : Int))) = w5 at *
  clear hz_0 hz_1 hz_2 hz_3
  have hg_0 := HS5.out.cell (i := 0) (x := (dig (mont G.p.m (x * y)) 0 : Int)) rfl
  have hg_1 := HS5.out.cell (i := 1) (x := (dig (mont G.p.m (x * y)) 1 : Int)) rfl
  have hg_2 := HS5.out.cell (i := 2) (x := (dig (mont G.p.m (x * y)) 2 : Int)) rfl
  have hg_3 := HS5.out.cell (i := 3) (x := (dig (mont G.p.m (x * y)) 3 : Int)) rfl
  simp [bodyPost, results, Try.results75, go_sem, hg_0, hg_1, hg_2, hg_3]
  exact HB5.out

set_option maxHeartbeats 1000000 in
theorem gPower_any (G : GP) (ok : G.Ok) (gb : Nat) (x n : Nat)  (w : World) (hG : GroupAt w gb G) :
    Calls Try.prog 76 #[.pointer (some ⟨gb, 0, none⟩), elV G x, scV G n] w fun e w' => e = .returned (elV G (x ^ (n % G.q.m))) ∧ Below w.heap.size w w' := by
  have OK := Lib.hid ok
  clear ok
  unfold elV scV limbV
  go_enter Try.func76, Try.ntmps76
  go_wp2_with fail
  obtain ⟨W0, hW0⟩ : ∃ W9 : World, (((w.alloc (Obj.cells #[.int .u64 (dig (mont G.p.m (x)) 0 : Int), .int .u64 (dig (mont G.p.m (x)) 1 : Int), .int .u64 (dig (mont G.p.m (x)) 2 : Int), .int .u64 (dig (mont G.p.m (x)) 3 : Int)] 88)).alloc (Obj.cells #[.int .u64 (dig (mont G.q.m (n)) 0 : Int), .int .u64 (dig (mont G.q.m (n)) 1 : Int), .int .u64 (dig (mont G.q.m (n)) 2 : Int), .int .u64 (dig (mont G.q.m (n)) 3 : Int)] 93)).alloc (Obj.cells #[.int .u64 0, .int .u64 0, .int .u64 0, .int .u64 0] 88)) = W9 := ⟨_, rfl⟩
  rw [hW0]
  have hX0 : Blk W0 (w.heap.size) 88 (lim (mont G.p.m (x))) := by
    rw [← hW0]
    have h := (((Blk.new w 88 (lim (mont G.p.m (x))) _ rfl).alloc (Obj.cells #[.int .u64 (dig (mont G.q.m (n)) 0 : Int), .int .u64 (dig (mont G.q.m (n)) 1 : Int), .int .u64 (dig (mont G.q.m (n)) 2 : Int), .int .u64 (dig (mont G.q.m (n)) 3 : Int)] 93)).alloc (Obj.cells #[.int .u64 0, .int .u64 0, .int .u64 0, .int .u64 0] 88))
    exact h
  have hX1 : Blk W0 (w.heap.size + 1) 93 (lim (mont G.q.m (n))) := by
    rw [← hW0]
    have h := ((Blk.new (w.alloc (Obj.cells #[.int .u64 (dig (mont G.p.m (x)) 0 : Int), .int .u64 (dig (mont G.p.m (x)) 1 : Int), .int .u64 (dig (mont G.p.m (x)) 2 : Int), .int .u64 (dig (mont G.p.m (x)) 3 : Int)] 88)) 93 (lim (mont G.q.m (n))) _ rfl).alloc (Obj.cells #[.int .u64 0, .int .u64 0, .int .u64 0, .int .u64 0] 88))
    rw [World.size_alloc] at h
    exact h
  have hC : Blk W0 (w.heap.size + 2) 88 [0, 0, 0, 0] := by
    rw [← hW0]
    have h := (Blk.new ((w.alloc (Obj.cells #[.int .u64 (dig (mont G.p.m (x)) 0 : Int), .int .u64 (dig (mont G.p.m (x)) 1 : Int), .int .u64 (dig (mont G.p.m (x)) 2 : Int), .int .u64 (dig (mont G.p.m (x)) 3 : Int)] 88)).alloc (Obj.cells #[.int .u64 (dig (mont G.q.m (n)) 0 : Int), .int .u64 (dig (mont G.q.m (n)) 1 : Int), .int .u64 (dig (mont G.q.m (n)) 2 : Int), .int .u64 (dig (mont G.q.m (n)) 3 : Int)] 93)) 88 [0, 0, 0, 0] _ rfl)
    rw [World.size_alloc, World.size_alloc] at h
    exact h
  have hBW : Below w.heap.size w W0 := by rw [← hW0]; exact ((((Below.refl w.heap.size w).alloc (Nat.le_refl _) _).alloc (by simp) _).alloc (by simp; omega) _)
  clear hW0
  have hG0 := hG.up hBW
  have hgl := hG0.lt
  have hgk := hG0.kind
  have hgs := hG0.size
  have hpm_0 : W0.cell? ⟨gb, 2, none⟩ = some (.int .u64 (dig G.p.m 0 : Int)) := hG0.p.cell 0 _ rfl
  have hpm_1 : W0.cell? ⟨gb, 3, none⟩ = some (.int .u64 (dig G.p.m 1 : Int)) := hG0.p.cell 1 _ rfl
  have hpm_2 : W0.cell? ⟨gb, 4, none⟩ = some (.int .u64 (dig G.p.m 2 : Int)) := hG0.p.cell 2 _ rfl
  have hpm_3 : W0.cell? ⟨gb, 5, none⟩ = some (.int .u64 (dig G.p.m 3 : Int)) := hG0.p.cell 3 _ rfl
  have hpo_0 : W0.cell? ⟨gb, 6, none⟩ = some (.int .u64 (dig (mont G.p.m 1) 0 : Int)) := by rw [← OK.out.p.one']; exact hG0.p.cell 4 _ rfl
  have hpo_1 : W0.cell? ⟨gb, 7, none⟩ = some (.int .u64 (dig (mont G.p.m 1) 1 : Int)) := by rw [← OK.out.p.one']; exact hG0.p.cell 5 _ rfl
  have hpo_2 : W0.cell? ⟨gb, 8, none⟩ = some (.int .u64 (dig (mont G.p.m 1) 2 : Int)) := by rw [← OK.out.p.one']; exact hG0.p.cell 6 _ rfl
  have hpo_3 : W0.cell? ⟨gb, 9, none⟩ = some (.int .u64 (dig (mont G.p.m 1) 3 : Int)) := by rw [← OK.out.p.one']; exact hG0.p.cell 7 _ rfl
  have hqm_0 : W0.cell? ⟨gb, 15, none⟩ = some (.int .u64 (dig G.q.m 0 : Int)) := hG0.q.cell 0 _ rfl
  have hqm_1 : W0.cell? ⟨gb, 16, none⟩ = some (.int .u64 (dig G.q.m 1 : Int)) := hG0.q.cell 1 _ rfl
  have hqm_2 : W0.cell? ⟨gb, 17, none⟩ = some (.int .u64 (dig G.q.m 2 : Int)) := hG0.q.cell 2 _ rfl
  have hqm_3 : W0.cell? ⟨gb, 18, none⟩ = some (.int .u64 (dig G.q.m 3 : Int)) := hG0.q.cell 3 _ rfl
  have hqo_0 : W0.cell? ⟨gb, 19, none⟩ = some (.int .u64 (dig (mont G.q.m 1) 0 : Int)) := by rw [← OK.out.q.one']; exact hG0.q.cell 4 _ rfl
  have hqo_1 : W0.cell? ⟨gb, 20, none⟩ = some (.int .u64 (dig (mont G.q.m 1) 1 : Int)) := by rw [← OK.out.q.one']; exact hG0.q.cell 5 _ rfl
  have hqo_2 : W0.cell? ⟨gb, 21, none⟩ = some (.int .u64 (dig (mont G.q.m 1) 2 : Int)) := by rw [← OK.out.q.one']; exact hG0.q.cell 6 _ rfl
  have hqo_3 : W0.cell? ⟨gb, 22, none⟩ = some (.int .u64 (dig (mont G.q.m 1) 3 : Int)) := by rw [← OK.out.q.one']; exact hG0.q.cell 7 _ rfl
  have hx0_0 := hX0.cell (i := 0) (x := (dig (mont G.p.m (x)) 0 : Int)) rfl
  have hx0_1 := hX0.cell (i := 1) (x := (dig (mont G.p.m (x)) 1 : Int)) rfl
  have hx0_2 := hX0.cell (i := 2) (x := (dig (mont G.p.m (x)) 2 : Int)) rfl
  have hx0_3 := hX0.cell (i := 3) (x := (dig (mont G.p.m (x)) 3 : Int)) rfl
  have hl0 := hX0.lt
  have hx1_0 := hX1.cell (i := 0) (x := (dig (mont G.q.m (n)) 0 : Int)) rfl
  have hx1_1 := hX1.cell (i := 1) (x := (dig (mont G.q.m (n)) 1 : Int)) rfl
  have hx1_2 := hX1.cell (i := 2) (x := (dig (mont G.q.m (n)) 2 : Int)) rfl
  have hx1_3 := hX1.cell (i := 3) (x := (dig (mont G.q.m (n)) 3 : Int)) rfl
  have hl1 := hX1.lt
  have HC := Lib.hid hC
  have HBW := Lib.hid hBW
  clear hC hBW hG hX0 hX1
  refine wp_region_otail 13 (by kernel_rfl) (by kernel_rfl) ?_
  simp only [List.take_succ_cons, List.take_zero, List.drop_succ_cons, List.drop_zero]
  have hovg := fun (E : Over W0) o => E.cell (b := gb) o hgl
  have hov0 := fun (E : Over W0) o => E.cell (b := w.heap.size) o hl0
  have hov1 := fun (E : Over W0) o => E.cell (b := w.heap.size + 1) o hl1
  repeat (go_big_quiet_step (first | (go_at_call 107; exact calls_over (outM G.q OK.out.q gb 15 n _ (hG0.up (Over.h _)).q)) | (go_at_call 114; exact calls_over (pow_any G.p OK.out.p gb 2 x (n % G.q.m) (Nat.lt_trans (Nat.mod_lt _ OK.out.q.pos) OK.out.q.lt4) _ (hG0.up (Over.h _)).p))))
  all_goals (try unfold limbV)
  repeat (go_big_quiet_step (first | (go_at_call 107; exact calls_over (outM G.q OK.out.q gb 15 n _ (hG0.up (Over.h _)).q)) | (go_at_call 114; exact calls_over (pow_any G.p OK.out.p gb 2 x (n % G.q.m) (Nat.lt_trans (Nat.mod_lt _ OK.out.q.pos) OK.out.q.lt4) _ (hG0.up (Over.h _)).p))))
  all_goals (try unfold limbV)
  repeat (go_big_quiet_step (first | (go_at_call 107; exact calls_over (outM G.q OK.out.q gb 15 n _ (hG0.up (Over.h _)).q)) | (go_at_call 114; exact calls_over (pow_any G.p OK.out.p gb 2 x (n % G.q.m) (Nat.lt_trans (Nat.mod_lt _ OK.out.q.pos) OK.out.q.lt4) _ (hG0.up (Over.h _)).p))))
  refine wpQuiet_nil ?_
  rintro _ ⟨E, rfl⟩
  have HZ := Lib.hid (HC.out.below E.h HC.out.lt)
  have HBB := Lib.hid (below_up HBW.out E.h)
  clear hovg hov0 hov1
  generalize E.w = w3 at *
  have HB5 := Lib.hid (below_fill (n := mont G.p.m (x ^ (n % G.q.m))) (b := w.heap.size + 2) HBB.out (by omega))
  have HS5 := Lib.hid (HZ.out.fill rfl (mont G.p.m (x ^ (n % G.q.m))))
  have hz_0 := HZ.out.cell (i := 0) (x := 0) rfl
  have hz_1 := HZ.out.cell (i := 1) (x := 0) rfl
  have hz_2 := HZ.out.cell (i := 2) (x := 0) rfl
  have hz_3 := HZ.out.cell (i := 3) (x := 0) rfl
  have hzf_0 := HZ.out.frozen 0
  have hzf_1 := HZ.out.frozen 1
  have hzf_2 := HZ.out.frozen 2
  have hzf_3 := HZ.out.frozen 3
  go_wp2_with fail
  generalize (((((w3).setCell ⟨w.heap.size + 2, 0, none⟩ (.int .u64 (dig (mont G.p.m (x ^ (n % G.q.m))) 0 : Int))).setCell ⟨w.heap.size + 2, 1, none⟩ (.int .u64 (dig (mont G.p.m (x ^ (n % G.q.m))) 1 : Int))).setCell ⟨w.heap.size + 2, 2, none⟩ (.int .u64 (dig (mont G.p.m (x ^ (n % G.q.m))) 2 : Int))).setCell ⟨w.heap.size + 2, 3, none⟩ (.int .u64 (dig (mont G.p.m (x ^ (n % G.q.m))) 3 : Int))) = w5 at *
  clear hz_0 hz_1 hz_2 hz_3
  have hg_0 := HS5.out.cell (i := 0) (x := (dig (mont G.p.m (x ^ (n % G.q.m))) 0 : Int)) rfl
  have hg_1 := HS5.out.cell (i := 1) (x := (dig (mont G.p.m (x ^ (n % G.q.m))) 1 : Int)) rfl
  have hg_2 := HS5.out.cell (i := 2) (x := (dig (mont G.p.m (x ^ (n % G.q.m))) 2 : Int)) rfl
  have hg_3 := HS5.out.cell (i := 3) (x := (dig (mont G.p.m (x ^ (n % G.q.m))) 3 : Int)) rfl
  simp [bodyPost, results, Try.results76, go_sem, hg_0, hg_1, hg_2, hg_3]
  exact HB5.out

set_option maxHeartbeats 1000000 in
theorem gBase_any (G : GP) (ok : G.Ok) (gb : Nat)  (w : World) (hG : GroupAt w gb G) :
    Calls Try.prog 69 #[.pointer (some ⟨gb, 0, none⟩)] w fun e w' => e = .returned (elV G (2)) ∧ Below w.heap.size w w' := by
  have OK := Lib.hid ok
  clear ok
  unfold elV limbV
  go_enter Try.func69, Try.ntmps69
  go_wp2_with fail
  obtain ⟨W0, hW0⟩ : ∃ W9 : World, (w.alloc (Obj.cells #[.int .u64 0, .int .u64 0, .int .u64 0, .int .u64 0] 88)) = W9 := ⟨_, rfl⟩
  rw [hW0]
  have hC : Blk W0 (w.heap.size) 88 [0, 0, 0, 0] := by
    rw [← hW0]
    have h := (Blk.new w 88 [0, 0, 0, 0] _ rfl)
    exact h
  have hBW : Below w.heap.size w W0 := by rw [← hW0]; exact ((Below.refl w.heap.size w).alloc (Nat.le_refl _) _)
  clear hW0
  have hG0 := hG.up hBW
  have hgl := hG0.lt
  have hgk := hG0.kind
  have hgs := hG0.size
  have hpm_0 : W0.cell? ⟨gb, 2, none⟩ = some (.int .u64 (dig G.p.m 0 : Int)) := hG0.p.cell 0 _ rfl
  have hpm_1 : W0.cell? ⟨gb, 3, none⟩ = some (.int .u64 (dig G.p.m 1 : Int)) := hG0.p.cell 1 _ rfl
  have hpm_2 : W0.cell? ⟨gb, 4, none⟩ = some (.int .u64 (dig G.p.m 2 : Int)) := hG0.p.cell 2 _ rfl
  have hpm_3 : W0.cell? ⟨gb, 5, none⟩ = some (.int .u64 (dig G.p.m 3 : Int)) := hG0.p.cell 3 _ rfl
  have hpo_0 : W0.cell? ⟨gb, 6, none⟩ = some (.int .u64 (dig (mont G.p.m 1) 0 : Int)) := by rw [← OK.out.p.one']; exact hG0.p.cell 4 _ rfl
  have hpo_1 : W0.cell? ⟨gb, 7, none⟩ = some (.int .u64 (dig (mont G.p.m 1) 1 : Int)) := by rw [← OK.out.p.one']; exact hG0.p.cell 5 _ rfl
  have hpo_2 : W0.cell? ⟨gb, 8, none⟩ = some (.int .u64 (dig (mont G.p.m 1) 2 : Int)) := by rw [← OK.out.p.one']; exact hG0.p.cell 6 _ rfl
  have hpo_3 : W0.cell? ⟨gb, 9, none⟩ = some (.int .u64 (dig (mont G.p.m 1) 3 : Int)) := by rw [← OK.out.p.one']; exact hG0.p.cell 7 _ rfl
  have hqm_0 : W0.cell? ⟨gb, 15, none⟩ = some (.int .u64 (dig G.q.m 0 : Int)) := hG0.q.cell 0 _ rfl
  have hqm_1 : W0.cell? ⟨gb, 16, none⟩ = some (.int .u64 (dig G.q.m 1 : Int)) := hG0.q.cell 1 _ rfl
  have hqm_2 : W0.cell? ⟨gb, 17, none⟩ = some (.int .u64 (dig G.q.m 2 : Int)) := hG0.q.cell 2 _ rfl
  have hqm_3 : W0.cell? ⟨gb, 18, none⟩ = some (.int .u64 (dig G.q.m 3 : Int)) := hG0.q.cell 3 _ rfl
  have hqo_0 : W0.cell? ⟨gb, 19, none⟩ = some (.int .u64 (dig (mont G.q.m 1) 0 : Int)) := by rw [← OK.out.q.one']; exact hG0.q.cell 4 _ rfl
  have hqo_1 : W0.cell? ⟨gb, 20, none⟩ = some (.int .u64 (dig (mont G.q.m 1) 1 : Int)) := by rw [← OK.out.q.one']; exact hG0.q.cell 5 _ rfl
  have hqo_2 : W0.cell? ⟨gb, 21, none⟩ = some (.int .u64 (dig (mont G.q.m 1) 2 : Int)) := by rw [← OK.out.q.one']; exact hG0.q.cell 6 _ rfl
  have hqo_3 : W0.cell? ⟨gb, 22, none⟩ = some (.int .u64 (dig (mont G.q.m 1) 3 : Int)) := by rw [← OK.out.q.one']; exact hG0.q.cell 7 _ rfl
  have HC := Lib.hid hC
  have HBW := Lib.hid hBW
  clear hC hBW hG 
  refine wp_region_otail 15 (by kernel_rfl) (by kernel_rfl) ?_
  simp only [List.take_succ_cons, List.take_zero, List.drop_succ_cons, List.drop_zero]
  have hovg := fun (E : Over W0) o => E.cell (b := gb) o hgl
  repeat (go_big_quiet_step (first | (go_at_call 110; exact calls_over (addM G.p OK.out.p gb 2 1 1 _ (hG0.up (Over.h _)).p))))
  all_goals (try unfold limbV)
  repeat (go_big_quiet_step (first | (go_at_call 110; exact calls_over (addM G.p OK.out.p gb 2 1 1 _ (hG0.up (Over.h _)).p))))
  all_goals (try unfold limbV)
  repeat (go_big_quiet_step (first | (go_at_call 110; exact calls_over (addM G.p OK.out.p gb 2 1 1 _ (hG0.up (Over.h _)).p))))
  refine wpQuiet_nil ?_
  rintro _ ⟨E, rfl⟩
  have HZ := Lib.hid (HC.out.below E.h HC.out.lt)
  have HBB := Lib.hid (below_up HBW.out E.h)
  clear hovg 
  generalize E.w = w3 at *
  have HB5 := Lib.hid (below_fill (n := mont G.p.m (2)) (b := w.heap.size) HBB.out (by omega))
  have HS5 := Lib.hid (HZ.out.fill rfl (mont G.p.m (2)))
  have hz_0 := HZ.out.cell (i := 0) (x := 0) rfl
  have hz_1 := HZ.out.cell (i := 1) (x := 0) rfl
  have hz_2 := HZ.out.cell (i := 2) (x := 0) rfl
  have hz_3 := HZ.out.cell (i := 3) (x := 0) rfl
  have hzf_0 := HZ.out.frozen 0
  have hzf_1 := HZ.out.frozen 1
  have hzf_2 := HZ.out.frozen 2
  have hzf_3 := HZ.out.frozen 3
  go_wp2_with fail
  generalize (((((w3).setCell ⟨w.heap.size, 0, none⟩ (.int .u64 (dig (mont G.p.m (2)) 0 : Int))).setCell ⟨w.heap.size, 1, none⟩ (.int .u64 (dig (mont G.p.m (2)) 1 : Int))).setCell ⟨w.heap.size, 2, none⟩ (.int .u64 (dig (mont G.p.m (2)) 2 : Int))).setCell ⟨w.heap.size, 3, none⟩ (.int .u64 (dig (mont G.p.m (2)) 3 : Int))) = w5 at *
  clear hz_0 hz_1 hz_2 hz_3
  have hg_0 := HS5.out.cell (i := 0) (x := (dig (mont G.p.m (2)) 0 : Int)) rfl
  have hg_1 := HS5.out.cell (i := 1) (x := (dig (mont G.p.m (2)) 1 : Int)) rfl
  have hg_2 := HS5.out.cell (i := 2) (x := (dig (mont G.p.m (2)) 2 : Int)) rfl
  have hg_3 := HS5.out.cell (i := 3) (x := (dig (mont G.p.m (2)) 3 : Int)) rfl
  simp [bodyPost, results, Try.results69, go_sem, hg_0, hg_1, hg_2, hg_3]
  exact HB5.out

set_option maxHeartbeats 1000000 in
theorem gOne_any (G : GP) (ok : G.Ok) (gb : Nat) (w : World) (hG : GroupAt w gb G) :
    Calls Try.prog 72 #[.pointer (some ⟨gb, 0, none⟩)] w fun e w' => e = .returned (elV G 1) ∧ Below w.heap.size w w' := by
  have OK := Lib.hid ok
  clear ok
  unfold elV limbV
  have hG0 := hG
  have hgl := hG0.lt
  have hgk := hG0.kind
  have hgs := hG0.size
  have hpm_0 : w.cell? ⟨gb, 2, none⟩ = some (.int .u64 (dig G.p.m 0 : Int)) := hG0.p.cell 0 _ rfl
  have hpm_1 : w.cell? ⟨gb, 3, none⟩ = some (.int .u64 (dig G.p.m 1 : Int)) := hG0.p.cell 1 _ rfl
  have hpm_2 : w.cell? ⟨gb, 4, none⟩ = some (.int .u64 (dig G.p.m 2 : Int)) := hG0.p.cell 2 _ rfl
  have hpm_3 : w.cell? ⟨gb, 5, none⟩ = some (.int .u64 (dig G.p.m 3 : Int)) := hG0.p.cell 3 _ rfl
  have hpo_0 : w.cell? ⟨gb, 6, none⟩ = some (.int .u64 (dig (mont G.p.m 1) 0 : Int)) := by rw [← OK.out.p.one']; exact hG0.p.cell 4 _ rfl
  have hpo_1 : w.cell? ⟨gb, 7, none⟩ = some (.int .u64 (dig (mont G.p.m 1) 1 : Int)) := by rw [← OK.out.p.one']; exact hG0.p.cell 5 _ rfl
  have hpo_2 : w.cell? ⟨gb, 8, none⟩ = some (.int .u64 (dig (mont G.p.m 1) 2 : Int)) := by rw [← OK.out.p.one']; exact hG0.p.cell 6 _ rfl
  have hpo_3 : w.cell? ⟨gb, 9, none⟩ = some (.int .u64 (dig (mont G.p.m 1) 3 : Int)) := by rw [← OK.out.p.one']; exact hG0.p.cell 7 _ rfl
  have hqm_0 : w.cell? ⟨gb, 15, none⟩ = some (.int .u64 (dig G.q.m 0 : Int)) := hG0.q.cell 0 _ rfl
  have hqm_1 : w.cell? ⟨gb, 16, none⟩ = some (.int .u64 (dig G.q.m 1 : Int)) := hG0.q.cell 1 _ rfl
  have hqm_2 : w.cell? ⟨gb, 17, none⟩ = some (.int .u64 (dig G.q.m 2 : Int)) := hG0.q.cell 2 _ rfl
  have hqm_3 : w.cell? ⟨gb, 18, none⟩ = some (.int .u64 (dig G.q.m 3 : Int)) := hG0.q.cell 3 _ rfl
  have hqo_0 : w.cell? ⟨gb, 19, none⟩ = some (.int .u64 (dig (mont G.q.m 1) 0 : Int)) := by rw [← OK.out.q.one']; exact hG0.q.cell 4 _ rfl
  have hqo_1 : w.cell? ⟨gb, 20, none⟩ = some (.int .u64 (dig (mont G.q.m 1) 1 : Int)) := by rw [← OK.out.q.one']; exact hG0.q.cell 5 _ rfl
  have hqo_2 : w.cell? ⟨gb, 21, none⟩ = some (.int .u64 (dig (mont G.q.m 1) 2 : Int)) := by rw [← OK.out.q.one']; exact hG0.q.cell 6 _ rfl
  have hqo_3 : w.cell? ⟨gb, 22, none⟩ = some (.int .u64 (dig (mont G.q.m 1) 3 : Int)) := by rw [← OK.out.q.one']; exact hG0.q.cell 7 _ rfl
  go_enter Try.func72, Try.ntmps72
  go_wp2_with fail
  simp [bodyPost, results, Try.results72, go_sem]
  exact (Below.refl _ _).alloc (Nat.le_refl _) _

end Go.Proofs.Ytdmldnpadojflaa
