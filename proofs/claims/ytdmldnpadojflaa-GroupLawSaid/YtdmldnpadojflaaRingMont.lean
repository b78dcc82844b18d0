/- A ring's numbers in Montgomery form: mul, in, out. No condition. -/
import Derived.Test.YtdmldnpadojflaaMulWalk
import Derived.Test.YtdmldnpadojflaaCycPlain
import Derived.Test.YtdmldnpadojflaaQTail
namespace Go.Proofs.Ytdmldnpadojflaa
open Go.RowKit

/-- A right ring. -/
structure RingP.Ok (R : RingP) : Prop where
  top : R.m < BB ^ 3 * 4611686018427387904
  low_lt : R.low < BB
  low : (R.low * R.m + 1) % BB = 0
  up : R.up = BB ^ 8 % R.m
  one : R.one = BB ^ 4 % R.m
  big : 1 < R.m

theorem RingP.Ok.lt4 {R : RingP} (h : R.Ok) : R.m < BB ^ 4 := Nat.lt_trans h.top (by decide)
theorem RingP.Ok.pos {R : RingP} (h : R.Ok) : 0 < R.m := Nat.lt_trans (by decide) h.big
theorem RingP.Ok.mont {R : RingP} (h : R.Ok) (x : Nat) : mont R.m x < BB ^ 4 := Nat.lt_trans (mont_lt h.pos x) h.lt4
theorem RingP.Ok.one' {R : RingP} (h : R.Ok) : R.one = Go.Proofs.Ytdmldnpadojflaa.mont R.m 1 := by rw [h.one]; simp [Go.Proofs.Ytdmldnpadojflaa.mont]

theorem mulM (R : RingP) (ok : R.Ok) (rb off x y : Nat) (w : World) (hR : RingAt w rb off R) :
    Calls Try.prog 113 #[.pointer (some ⟨rb, off, none⟩), limbV (mont R.m x), limbV (mont R.m y)] w fun e w' => e = .returned (limbV (mont R.m (x * y))) ∧ Below w.heap.size w w' := by
  refine (mul_any R rb off _ _ (ok.mont x) (mont_lt ok.pos y) ok.top ok.low_lt ok.low w hR).mono ?_
  rintro e w' ⟨⟨r, rfl, h1, h2⟩, hb⟩
  rw [mont_mul ok.low h1 h2]
  exact ⟨rfl, hb⟩

theorem mulIn (R : RingP) (ok : R.Ok) (rb off a : Nat) (ha : a < BB ^ 4) (w : World) (hR : RingAt w rb off R) :
    Calls Try.prog 113 #[.pointer (some ⟨rb, off, none⟩), limbV a, limbV R.up] w fun e w' => e = .returned (limbV (mont R.m a)) ∧ Below w.heap.size w w' := by
  refine (mul_any R rb off _ _ ha (by rw [ok.up]; exact Nat.mod_lt _ ok.pos) ok.top ok.low_lt ok.low w hR).mono ?_
  rintro e w' ⟨⟨r, rfl, h1, h2⟩, hb⟩
  rw [mont_in ok.low h1 ok.up h2]
  exact ⟨rfl, hb⟩

theorem mulOut (R : RingP) (ok : R.Ok) (rb off x : Nat) (hx : x < R.m) (w : World) (hR : RingAt w rb off R) :
    Calls Try.prog 113 #[.pointer (some ⟨rb, off, none⟩), limbV (mont R.m x), limbV 1] w fun e w' => e = .returned (limbV x) ∧ Below w.heap.size w w' := by
  refine (mul_any R rb off _ _ (ok.mont x) ok.big ok.top ok.low_lt ok.low w hR).mono ?_
  rintro e w' ⟨⟨r, rfl, h1, h2⟩, hb⟩
  rw [mont_out ok.low h1 hx h2]
  exact ⟨rfl, hb⟩

set_option maxHeartbeats 1000000 in
theorem in_any (R : RingP) (ok : R.Ok) (rb off a : Nat) (ha : a < BB ^ 4) (w : World) (hR : RingAt w rb off R) :
    Calls Try.prog 112 #[.pointer (some ⟨rb, off, none⟩), limbV a] w fun e w' => e = .returned (limbV (mont R.m a)) ∧ Below w.heap.size w w' := by
  have HA := Lib.hid ha
  have OK := Lib.hid ok
  clear ha ok
  unfold limbV
  go_enter Try.func112, Try.ntmps112
  go_wp2_with fail
  generalize hW0 : (w.alloc (Obj.cells #[.int .u64 (dig (a) 0 : Int), .int .u64 (dig (a) 1 : Int), .int .u64 (dig (a) 2 : Int), .int .u64 (dig (a) 3 : Int)] 76)).alloc (Obj.cells #[.int .u64 0, .int .u64 0, .int .u64 0, .int .u64 0] 76) = W0 at *
  have hA : Blk W0 w.heap.size 76 (lim (a)) := by rw [← hW0]; exact (Blk.new w _ (lim (a)) _ rfl).alloc _
  have hC : Blk W0 (w.heap.size + 1) 76 [0, 0, 0, 0] := by
    rw [← hW0]
    have h := Blk.new (w.alloc (Obj.cells #[.int .u64 (dig (a) 0 : Int), .int .u64 (dig (a) 1 : Int), .int .u64 (dig (a) 2 : Int), .int .u64 (dig (a) 3 : Int)] 76)) 76 [0, 0, 0, 0] _ rfl
    rw [World.size_alloc] at h
    exact h
  have hBW : Below w.heap.size w W0 := by rw [← hW0]; exact ((Below.refl _ _).alloc (Nat.le_refl _) _).alloc (by simp) _
  clear hW0
  have hR0 := hR.up hBW
  have hrl := hR0.lt
  have h0 := hR0.cell 8 (dig R.up 0 : Int) rfl
  have h1 := hR0.cell 9 (dig R.up 1 : Int) rfl
  have h2 := hR0.cell 10 (dig R.up 2 : Int) rfl
  have h3 := hR0.cell 11 (dig R.up 3 : Int) rfl
  have hx_0 := hA.cell (i := 0) (x := (dig (a) 0 : Int)) rfl
  have hx_1 := hA.cell (i := 1) (x := (dig (a) 1 : Int)) rfl
  have hx_2 := hA.cell (i := 2) (x := (dig (a) 2 : Int)) rfl
  have hx_3 := hA.cell (i := 3) (x := (dig (a) 3 : Int)) rfl
  have HC := Lib.hid hC
  have HBW := Lib.hid hBW
  have hal := hA.lt
  clear hA hC hBW hR
  refine wp_region_otail 7 (by kernel_rfl) (by kernel_rfl) ?_
  simp only [List.take_succ_cons, List.take_zero, List.drop_succ_cons, List.drop_zero]
  have hov := fun (E : Over W0) o => E.cell (b := rb) o hrl
  have hov2 := fun (E : Over W0) o => E.cell (b := w.heap.size) o hal
  repeat (go_big_quiet_step (first | (go_at_call 113; exact calls_over (mulIn R OK.out rb off a HA.out _ (hR0.up (Over.h _))))))
  refine wpQuiet_nil ?_
  rintro _ ⟨E, rfl⟩
  have HZ := Lib.hid (HC.out.below E.h HC.out.lt)
  have HBB := Lib.hid (below_up HBW.out E.h)
  clear hov hov2
  unfold limbV
  generalize E.w = w3 at *
  have HB5 := Lib.hid (below_fill (n := mont R.m a) (b := w.heap.size + 1) HBB.out (by omega))
  have HS5 := Lib.hid (HZ.out.fill rfl (mont R.m a))
  have hz_0 := HZ.out.cell (i := 0) (x := 0) rfl
  have hz_1 := HZ.out.cell (i := 1) (x := 0) rfl
  have hz_2 := HZ.out.cell (i := 2) (x := 0) rfl
  have hz_3 := HZ.out.cell (i := 3) (x := 0) rfl
  have hzf_0 := HZ.out.frozen 0
  have hzf_1 := HZ.out.frozen 1
  have hzf_2 := HZ.out.frozen 2
  have hzf_3 := HZ.out.frozen 3
  go_wp2_with fail
  generalize (((((w3).setCell ⟨w.heap.size + 1, 0, none⟩ (.int .u64 (dig (mont R.m a) 0 : Int))).setCell ⟨w.heap.size + 1, 1, none⟩ (.int .u64 (dig (mont R.m a) 1 : Int))).setCell ⟨w.heap.size + 1, 2, none⟩ (.int .u64 (dig (mont R.m a) 2 : Int))).setCell ⟨w.heap.size + 1, 3, none⟩ (.int .u64 (dig (mont R.m a) 3 : Int))) = w5 at *
  clear hz_0 hz_1 hz_2 hz_3
  have hg_0 := HS5.out.cell (i := 0) (x := (dig (mont R.m a) 0 : Int)) rfl
  have hg_1 := HS5.out.cell (i := 1) (x := (dig (mont R.m a) 1 : Int)) rfl
  have hg_2 := HS5.out.cell (i := 2) (x := (dig (mont R.m a) 2 : Int)) rfl
  have hg_3 := HS5.out.cell (i := 3) (x := (dig (mont R.m a) 3 : Int)) rfl
  simp [bodyPost, results, Try.results112, go_sem, hg_0, hg_1, hg_2, hg_3]
  exact HB5.out

set_option maxHeartbeats 1000000 in
theorem out_any (R : RingP) (ok : R.Ok) (rb off x : Nat) (hx : x < R.m) (w : World) (hR : RingAt w rb off R) :
    Calls Try.prog 107 #[.pointer (some ⟨rb, off, none⟩), limbV (mont R.m x)] w fun e w' => e = .returned (limbV x) ∧ Below w.heap.size w w' := by
  have HA := Lib.hid hx
  have OK := Lib.hid ok
  clear hx ok
  generalize hM : mont R.m x = M
  have HM := Lib.hid hM
  clear hM
  unfold limbV
  go_enter Try.func107, Try.ntmps107
  go_wp2_with fail
  generalize hW0 : (w.alloc (Obj.cells #[.int .u64 (dig (M) 0 : Int), .int .u64 (dig (M) 1 : Int), .int .u64 (dig (M) 2 : Int), .int .u64 (dig (M) 3 : Int)] 76)).alloc (Obj.cells #[.int .u64 0, .int .u64 0, .int .u64 0, .int .u64 0] 76) = W0 at *
  have hA : Blk W0 w.heap.size 76 (lim (M)) := by rw [← hW0]; exact (Blk.new w _ (lim (M)) _ rfl).alloc _
  have hC : Blk W0 (w.heap.size + 1) 76 [0, 0, 0, 0] := by
    rw [← hW0]
    have h := Blk.new (w.alloc (Obj.cells #[.int .u64 (dig (M) 0 : Int), .int .u64 (dig (M) 1 : Int), .int .u64 (dig (M) 2 : Int), .int .u64 (dig (M) 3 : Int)] 76)) 76 [0, 0, 0, 0] _ rfl
    rw [World.size_alloc] at h
    exact h
  have hBW : Below w.heap.size w W0 := by rw [← hW0]; exact ((Below.refl _ _).alloc (Nat.le_refl _) _).alloc (by simp) _
  clear hW0
  have hR0 := hR.up hBW
  have HC := Lib.hid hC
  have HBW := Lib.hid hBW
  clear hA hC hBW hR
  have h := mulOut R OK.out rb off x HA.out W0 hR0
  rw [HM.out] at h
  refine h.mono ?_
  rintro e w2 ⟨rfl, hb2⟩
  clear h hR0
  unfold limbV
  have HZ := Lib.hid (HC.out.below hb2 HC.out.lt)
  have HBB := Lib.hid (below_up HBW.out hb2)
  clear hb2
  have HB5 := Lib.hid (below_fill (n := x) (b := w.heap.size + 1) HBB.out (by omega))
  have HS5 := Lib.hid (HZ.out.fill rfl (x))
  have hz_0 := HZ.out.cell (i := 0) (x := 0) rfl
  have hz_1 := HZ.out.cell (i := 1) (x := 0) rfl
  have hz_2 := HZ.out.cell (i := 2) (x := 0) rfl
  have hz_3 := HZ.out.cell (i := 3) (x := 0) rfl
  have hzf_0 := HZ.out.frozen 0
  have hzf_1 := HZ.out.frozen 1
  have hzf_2 := HZ.out.frozen 2
  have hzf_3 := HZ.out.frozen 3
  go_wp2_with fail
  generalize (((((w2).setCell ⟨w.heap.size + 1, 0, none⟩ (.int .u64 (dig (x) 0 : Int))).setCell ⟨w.heap.size + 1, 1, none⟩ (.int .u64 (dig (x) 1 : Int))).setCell ⟨w.heap.size + 1, 2, none⟩ (.int .u64 (dig (x) 2 : Int))).setCell ⟨w.heap.size + 1, 3, none⟩ (.int .u64 (dig (x) 3 : Int))) = w5 at *
  clear hz_0 hz_1 hz_2 hz_3
  have hg_0 := HS5.out.cell (i := 0) (x := (dig (x) 0 : Int)) rfl
  have hg_1 := HS5.out.cell (i := 1) (x := (dig (x) 1 : Int)) rfl
  have hg_2 := HS5.out.cell (i := 2) (x := (dig (x) 2 : Int)) rfl
  have hg_3 := HS5.out.cell (i := 3) (x := (dig (x) 3 : Int)) rfl
  simp [bodyPost, results, Try.results107, go_sem, hg_0, hg_1, hg_2, hg_3]
  exact HB5.out

end Go.Proofs.Ytdmldnpadojflaa
