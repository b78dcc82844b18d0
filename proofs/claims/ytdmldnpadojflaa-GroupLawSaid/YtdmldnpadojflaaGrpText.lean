/- The group of a kind: small numbers, an element's bytes, and the groups themselves. No condition. -/
import Derived.Test.YtdmldnpadojflaaGrpNum
import Derived.Deep.CutRange
import Derived.IntWalk
namespace Go.Proofs.Ytdmldnpadojflaa
open Go.RowKit

theorem text8 (n : Nat) (hn : n < BB) (w : World) : Calls Try.prog 106 #[.agg #[.int .u64 (n : Int), .int .u64 0, .int .u64 0, .int .u64 0], .int .i64 8] w fun e w' => e = .returned (.string (textS n 8)) ∧ Below w.heap.size w w' := by
  have h := text_any n 8 (by decide) w
  rwa [limbV_small n hn] at h

set_option maxHeartbeats 1000000 in
theorem gNumber_pos (G : GP) (ok : G.Ok) (gb n : Nat) (hn : n ≤ 9223372036854775807) (w : World) (hG : GroupAt w gb G) :
    Calls Try.prog 83 #[.pointer (some ⟨gb, 0, none⟩), .int .i64 (n : Int)] w fun e w' => e = .returned (scV G n) ∧ Below w.heap.size w w' := by
  have OK := Lib.hid ok
  clear ok
  have hn2 : (n : Int) < 18446744073709551616 := by omega
  have hneg : ¬ (n : Int) < 0 := by omega
  have HNUM : Hid (numOf (textS n 8) = n) := by
    show _ = _
    rw [numOf_textS]
    exact Nat.mod_eq_of_lt (by omega)
  have hw : IntKind.u64.wrap (n : Int) = (n : Int) := wraps_u64 _ (by omega) (by omega)
  unfold scV limbV
  go_enter Try.func83, Try.ntmps83
  go_wp2_with fail
  obtain ⟨W0, hW0⟩ : ∃ W9 : World, (w.alloc (Obj.cells #[.int .u64 0, .int .u64 0, .int .u64 0, .int .u64 0] 93)) = W9 := ⟨_, rfl⟩
  rw [hW0]
  have hC : Blk W0 (w.heap.size) 93 [0, 0, 0, 0] := by
    rw [← hW0]
    have h := (Blk.new w 93 [0, 0, 0, 0] _ rfl)
    exact h
  have hBW : Below w.heap.size w W0 := by rw [← hW0]; exact ((Below.refl w.heap.size w).alloc (Nat.le_refl _) _)
  clear hW0
  have HG := Lib.hid hG
  have HC := Lib.hid hC
  have HBW := Lib.hid hBW
  clear hG hC hBW
  refine (text8 n (by simp only [BB]; omega) W0).mono ?_
  rintro e w2 ⟨rfl, hb2⟩
  have HB2 := Lib.hid (below_up HBW.out hb2)
  have HC2 := Lib.hid (HC.out.below hb2 HC.out.lt)
  clear hb2 HC HBW
  go_wp2_with fail
  refine (gReduce_any G OK.out gb (textS n 8) (by rw [textS_size]; unfold maxLen; omega) w2 (HG.out.below HB2.out HG.out.lt)).mono ?_
  rintro e w3 ⟨rfl, hb3⟩
  have HBB := Lib.hid (HB2.out.trans (hb3.mono HB2.out.size))
  have HZ := Lib.hid (HC2.out.below hb3 HC2.out.lt)
  clear hb3 HC2 HB2
  rw [HNUM.out]
  unfold scV limbV
  have HB5 := Lib.hid (below_fill (n := mont G.q.m n) (b := w.heap.size) HBB.out (by omega))
  have HS5 := Lib.hid (HZ.out.fill rfl (mont G.q.m n))
  have hz_0 := HZ.out.cell (i := 0) (x := 0) rfl
  have hz_1 := HZ.out.cell (i := 1) (x := 0) rfl
  have hz_2 := HZ.out.cell (i := 2) (x := 0) rfl
  have hz_3 := HZ.out.cell (i := 3) (x := 0) rfl
  have hzf_0 := HZ.out.frozen 0
  have hzf_1 := HZ.out.frozen 1
  have hzf_2 := HZ.out.frozen 2
  have hzf_3 := HZ.out.frozen 3
  go_wp2_with fail
  generalize (((((w3).setCell ⟨w.heap.size, 0, none⟩ (.int .u64 (dig (mont G.q.m n) 0 : Int))).setCell ⟨w.heap.size, 1, none⟩ (.int .u64 (dig (mont G.q.m n) 1 : Int))).setCell ⟨w.heap.size, 2, none⟩ (.int .u64 (dig (mont G.q.m n) 2 : Int))).setCell ⟨w.heap.size, 3, none⟩ (.int .u64 (dig (mont G.q.m n) 3 : Int))) = w5 at *
  clear hz_0 hz_1 hz_2 hz_3
  have hg_0 := HS5.out.cell (i := 0) (x := (dig (mont G.q.m n) 0 : Int)) rfl
  have hg_1 := HS5.out.cell (i := 1) (x := (dig (mont G.q.m n) 1 : Int)) rfl
  have hg_2 := HS5.out.cell (i := 2) (x := (dig (mont G.q.m n) 2 : Int)) rfl
  have hg_3 := HS5.out.cell (i := 3) (x := (dig (mont G.q.m n) 3 : Int)) rfl
  simp [bodyPost, results, Try.results83, go_sem, hg_0, hg_1, hg_2, hg_3]
  exact HB5.out

/-- A number modulo the order. -/
def modI (q : Nat) (n : Int) : Nat := (n % (q : Int)).toNat

theorem modI_lt (q : Nat) (hq : 0 < q) (n : Int) : modI q n < q := by
  have h1 := Int.emod_nonneg n (show (q : Int) ≠ 0 by omega)
  have h2 := Int.emod_lt_of_pos n (show (0 : Int) < q by omega)
  unfold modI; omega
theorem modI_pos (q n : Nat) : modI q (n : Int) = n % q := by
  unfold modI; rw [← Int.natCast_emod]; rfl
theorem modI_neg (q m : Nat) (hq : 0 < q) : (q - (m + 1) % q) % q = modI q (-(m : Int) - 1) := by
  unfold modI
  have hr := Nat.mod_lt (m + 1) hq
  have hd := Nat.div_add_mod (m + 1) q
  generalize (m + 1) % q = r at *
  generalize (m + 1) / q = d at *
  have e : (-(m : Int) - 1) = ((q - r : Nat) : Int) + (q : Int) * (-(d : Int) - 1) := by
    rw [Int.mul_sub, Int.mul_one, Int.mul_neg]
    have : (q : Int) * (d : Int) = ((q * d : Nat) : Int) := by simp
    rw [this]; omega
  rw [e, Int.add_mul_emod_self_left, ← Int.natCast_emod]
  rfl

set_option maxHeartbeats 1000000 in
theorem gNumber_neg (G : GP) (ok : G.Ok) (gb m : Nat) (hm : m ≤ 9223372036854775807) (w : World) (hG : GroupAt w gb G) :
    Calls Try.prog 83 #[.pointer (some ⟨gb, 0, none⟩), .int .i64 (-(m : Int) - 1)] w fun e w' => e = .returned (scV G (modI G.q.m (-(m : Int) - 1))) ∧ Below w.heap.size w w' := by
  have OK := Lib.hid ok
  clear ok
  obtain ⟨n, hn⟩ : ∃ n : Int, n = -(m : Int) - 1 := ⟨_, rfl⟩
  rw [← hn]
  have hneg : n < 0 := by omega
  have e1 : IntKind.i64.wrap (n + 1) = n + 1 := IntWalk.i64_in _ (by omega)
  have e2 : IntKind.i64.wrap (-(n + 1)) = (m : Int) := by rw [IntWalk.i64_in _ (by omega)]; omega
  have HRES : Hid (scV G (modI G.q.m n) = scV G (G.q.m - (m + 1) % G.q.m)) := scV_eq G (by
    rw [hn, ← modI_neg _ _ OK.out.q.pos, Nat.mod_mod])
  have HM := Lib.hid hn
  clear hn
  rw [HRES.out]
  unfold scV limbV
  go_enter Try.func83, Try.ntmps83
  go_wp2_with fail
  obtain ⟨W0, hW0⟩ : ∃ W9 : World, (w.alloc (Obj.cells #[.int .u64 0, .int .u64 0, .int .u64 0, .int .u64 0] 93)) = W9 := ⟨_, rfl⟩
  rw [hW0]
  have hC : Blk W0 (w.heap.size) 93 [0, 0, 0, 0] := by
    rw [← hW0]
    have h := (Blk.new w 93 [0, 0, 0, 0] _ rfl)
    exact h
  have hBW : Below w.heap.size w W0 := by rw [← hW0]; exact ((Below.refl w.heap.size w).alloc (Nat.le_refl _) _)
  clear hW0
  have HG := Lib.hid hG
  have HC := Lib.hid hC
  have HBW := Lib.hid hBW
  clear hG hC hBW
  refine (gNumber_pos G OK.out gb m hm W0 (HG.out.below HBW.out HG.out.lt)).mono ?_
  rintro e w2 ⟨rfl, hb2⟩
  have HB2 := Lib.hid (below_up HBW.out hb2)
  have HC2 := Lib.hid (HC.out.below hb2 HC.out.lt)
  clear hb2 HC HBW
  go_wp2_with fail
  refine (gPlusOne_any G OK.out gb m w2 (HG.out.below HB2.out HG.out.lt)).mono ?_
  rintro e w3 ⟨rfl, hb3⟩
  have HB3 := Lib.hid (HB2.out.trans (hb3.mono HB2.out.size))
  have HC3 := Lib.hid (HC2.out.below hb3 HC2.out.lt)
  clear hb3 HC2 HB2
  rw [← scV_mod G (m + 1)]
  go_wp2_with fail
  refine (gNeg_any G OK.out gb ((m + 1) % G.q.m) (Nat.le_of_lt (Nat.mod_lt _ OK.out.q.pos)) w3 (HG.out.below HB3.out HG.out.lt)).mono ?_
  rintro e w4 ⟨rfl, hb4⟩
  have HBB := Lib.hid (HB3.out.trans (hb4.mono HB3.out.size))
  have HZ := Lib.hid (HC3.out.below hb4 HC3.out.lt)
  clear hb4 HC3 HB3
  unfold scV limbV
  have HB5 := Lib.hid (below_fill (n := mont G.q.m (G.q.m - (m + 1) % G.q.m)) (b := w.heap.size) HBB.out (by omega))
  have HS5 := Lib.hid (HZ.out.fill rfl (mont G.q.m (G.q.m - (m + 1) % G.q.m)))
  have hz_0 := HZ.out.cell (i := 0) (x := 0) rfl
  have hz_1 := HZ.out.cell (i := 1) (x := 0) rfl
  have hz_2 := HZ.out.cell (i := 2) (x := 0) rfl
  have hz_3 := HZ.out.cell (i := 3) (x := 0) rfl
  have hzf_0 := HZ.out.frozen 0
  have hzf_1 := HZ.out.frozen 1
  have hzf_2 := HZ.out.frozen 2
  have hzf_3 := HZ.out.frozen 3
  go_wp2_with fail
  generalize (((((w4).setCell ⟨w.heap.size, 0, none⟩ (.int .u64 (dig (mont G.q.m (G.q.m - (m + 1) % G.q.m)) 0 : Int))).setCell ⟨w.heap.size, 1, none⟩ (.int .u64 (dig (mont G.q.m (G.q.m - (m + 1) % G.q.m)) 1 : Int))).setCell ⟨w.heap.size, 2, none⟩ (.int .u64 (dig (mont G.q.m (G.q.m - (m + 1) % G.q.m)) 2 : Int))).setCell ⟨w.heap.size, 3, none⟩ (.int .u64 (dig (mont G.q.m (G.q.m - (m + 1) % G.q.m)) 3 : Int))) = w5 at *
  clear hz_0 hz_1 hz_2 hz_3
  have hg_0 := HS5.out.cell (i := 0) (x := (dig (mont G.q.m (G.q.m - (m + 1) % G.q.m)) 0 : Int)) rfl
  have hg_1 := HS5.out.cell (i := 1) (x := (dig (mont G.q.m (G.q.m - (m + 1) % G.q.m)) 1 : Int)) rfl
  have hg_2 := HS5.out.cell (i := 2) (x := (dig (mont G.q.m (G.q.m - (m + 1) % G.q.m)) 2 : Int)) rfl
  have hg_3 := HS5.out.cell (i := 3) (x := (dig (mont G.q.m (G.q.m - (m + 1) % G.q.m)) 3 : Int)) rfl
  simp [bodyPost, results, Try.results83, go_sem, hg_0, hg_1, hg_2, hg_3]
  exact HB5.out

theorem gNumber_any (G : GP) (ok : G.Ok) (gb : Nat) (n : Int) (h1 : -9223372036854775808 ≤ n) (h2 : n ≤ 9223372036854775807) (w : World) (hG : GroupAt w gb G) :
    Calls Try.prog 83 #[.pointer (some ⟨gb, 0, none⟩), .int .i64 n] w fun e w' => e = .returned (scV G (modI G.q.m n)) ∧ Below w.heap.size w w' := by
  rcases Int.lt_or_le n 0 with h | h
  · obtain ⟨m, hm⟩ : ∃ m : Nat, n = -(m : Int) - 1 := ⟨(-n - 1).toNat, by omega⟩
    subst hm
    exact gNumber_neg G ok gb m (by omega) w hG
  · obtain ⟨m, rfl⟩ := Int.eq_ofNat_of_zero_le h
    rw [modI_pos, scV_mod]
    exact gNumber_pos G ok gb m (by omega) w hG

theorem zeroLimbs (w : World) : (zeroValue 76).run Try.prog w = .ok (.agg #[.int .u64 0, .int .u64 0, .int .u64 0, .int .u64 0]) w := by kernel_rfl
theorem allocLimbs (ρ : Operand → Value) (o : Oper) (ho : o.op = .alloc 76) (w : World) : (execOp ρ o).run Try.prog w = .ok (.value (.pointer (some ⟨w.heap.size, 0, none⟩))) (w.alloc (Obj.cells #[.int .u64 0, .int .u64 0, .int .u64 0, .int .u64 0] 76)) := by
  unfold execOp
  rw [ho]
  simp only [Instr.alloc, Sem.run_bind, zeroLimbs, Result.andThen_ok]
  rfl

theorem newLimbs (W0 : World) : Blk (W0.alloc (Obj.cells #[.int .u64 0, .int .u64 0, .int .u64 0, .int .u64 0] 76)).drew W0.heap.size 76 [0, 0, 0, 0] := Blk.new W0 _ [0, 0, 0, 0] _ rfl

/-- Of a number and what is missing of it the one that is not above the order. -/
def lowN (G : GP) (y : Nat) : Nat := if G.q.m < y % G.p.m then G.p.m - y % G.p.m else y % G.p.m

theorem minusLow (a b : Nat) (ha : a < BB ^ 4) (h : b ≤ a) (w : World) : Calls Try.prog 109 #[limbV a, limbV b] w fun e w' => e = .returned (.tuple #[limbV (a - b), .int .u64 0]) ∧ Below w.heap.size w w' := by
  have h1 := minus_any a b (by omega) w
  rw [sub256_ok a b ha h, under_four a b ha (by omega), if_neg (by omega)] at h1
  exact h1



set_option maxRecDepth 10000 in
set_option maxHeartbeats 1000000 in
theorem gText_any (G : GP) (ok : G.Ok) (gb y : Nat) (w : World) (hG : GroupAt w gb G) :
    Calls Try.prog 68 #[.pointer (some ⟨gb, 0, none⟩), elV G y] w fun e w' => e = .returned (.string (textS (lowN G y) G.size)) ∧ Below w.heap.size w w' := by
  have OK := Lib.hid ok
  clear ok
  have HGW := Lib.hid hG.lt
  obtain ⟨N, hN⟩ : ∃ N, y % G.p.m = N := ⟨_, rfl⟩
  have HLOW : Hid (lowN G y = if G.q.m < N then G.p.m - N else N) := by show _ = _; unfold lowN; rw [hN]
  have hNp : N < G.p.m := by rw [← hN]; exact Nat.mod_lt _ OK.out.p.pos
  have HN := Lib.hid hN
  have HNP := Lib.hid hNp
  clear hN hNp
  unfold elV limbV
  go_enter Try.func68, Try.ntmps68
  go_wp2_with fail
  obtain ⟨W0, hW0⟩ : ∃ W9 : World, (w.alloc (Obj.cells #[.int .u64 (dig (mont G.p.m y) 0 : Int), .int .u64 (dig (mont G.p.m y) 1 : Int), .int .u64 (dig (mont G.p.m y) 2 : Int), .int .u64 (dig (mont G.p.m y) 3 : Int)] 88)) = W9 := ⟨_, rfl⟩
  rw [hW0]
  have hX : Blk W0 (w.heap.size) 88 (lim (mont G.p.m y)) := by
    rw [← hW0]
    have h := (Blk.new w 88 (lim (mont G.p.m y)) _ rfl)
    exact h
  have hBW : Below w.heap.size w W0 := by rw [← hW0]; exact ((Below.refl w.heap.size w).alloc (Nat.le_refl _) _)
  clear hW0
  have hG0 := hG.up hBW
  have hx_0 := hX.cell (i := 0) (x := (dig (mont G.p.m y) 0 : Int)) rfl
  have hx_1 := hX.cell (i := 1) (x := (dig (mont G.p.m y) 1 : Int)) rfl
  have hx_2 := hX.cell (i := 2) (x := (dig (mont G.p.m y) 2 : Int)) rfl
  have hx_3 := hX.cell (i := 3) (x := (dig (mont G.p.m y) 3 : Int)) rfl
  have hlx := hX.lt
  have HBW := Lib.hid hBW
  clear hX hBW hG
  go_cut [5] from 6 to 11 (fun v w2 => ∃ b, v = .pointer (some ⟨b, 0, none⟩) ∧ Hid (W0.heap.size ≤ b) ∧ Hid (Blk w2 b 76 (lim N)) ∧ Hid (Below W0.heap.size W0 w2))
  case first =>
    refine wp_region_tree (fun w' => ∃ E : Over W0, w' = E.w) (.qs [0, 1, 2, 3, 4] (.two 5 (.a 6 (.a 7 .done)) 6 (.a 5 (.a 7 .done)))) (by kernel_rfl) (by kernel_rfl) (fun _ _ d _ _ h => by cases d <;> exact h) ?_ ?_
    · exact ⟨⟨_, (Below.refl _ _).drew⟩, rfl⟩
    have hov := fun (E : Over W0) o => E.cell (b := w.heap.size) o (by omega)
    simp only [Tree.qs]
    repeat (refine tree_q rfl rfl ?_; go_big_quiet_step (fail); refine wpQuiet_nil ?_)
    refine tree_two rfl rfl ?call ?alloc
    case call =>
      intro K hK
      go_simp
      refine (outM G.p OK.out.p gb 2 y _ (hG0.up (Below.refl _ _).drew).p).mono ?_
      rintro e w2 ⟨rfl, hb2⟩
      rw [HN.out]
      unfold limbV
      have hb2' : Below W0.heap.size W0 w2 := (Below.refl _ _).drew.trans hb2
      have HB2 := Lib.hid hb2'
      refine hK _ _ ⟨⟨⟨w2, hb2'⟩, rfl⟩, ?_⟩
      clear hK K hb2 hb2'
      refine tree_a rfl (fun K hK => ?_)
      go_simp
      refine hK _ _ ⟨⟨⟨_, HB2.out.alloc HB2.out.size _⟩, rfl⟩, ?_⟩
      clear hK K
      refine tree_a rfl (fun K hK => ?_)
      go_simp
      refine hK _ _ ⟨⟨⟨_, HB2.out.alloc HB2.out.size _⟩, rfl⟩, ?_⟩
      clear hK K
      refine tree_end ?_
      go_wp2_with fail
      go_meet
      case rel => exact ⟨_, rfl, HB2.out.size, Blk.new w2 _ _ _ rfl, HB2.out.alloc HB2.out.size _⟩
    case alloc =>
      intro K hK
      refine if_wanted rfl ?_
      refine oper_value (allocLimbs _ _ rfl _) ?_
      simp only [Act.put, List.setIfInBounds_toArray, List.set_cons_succ, List.set_cons_zero]
      have hal : Below W0.heap.size W0 (W0.alloc (Obj.cells #[.int .u64 0, .int .u64 0, .int .u64 0, .int .u64 0] 76)).drew := ((Below.refl _ _).alloc (Nat.le_refl _) _).drew
      have hnew := newLimbs W0
      refine hK _ _ ⟨⟨⟨_, hal⟩, rfl⟩, ?_⟩
      clear hK K
      refine tree_a rfl (fun K hK => ?_)
      go_simp
      refine (outM G.p OK.out.p gb 2 y _ (hG0.up hal).p).mono ?_
      rintro e w2 ⟨rfl, hb2⟩
      rw [HN.out]
      unfold limbV
      have HB2 := Lib.hid (below_up hal hb2)
      have HN2 := Lib.hid (hnew.below hb2 hnew.lt)
      refine hK _ _ ⟨⟨⟨w2, HB2.out⟩, rfl⟩, ?_⟩
      clear hK K hb2 hal hnew
      refine tree_a rfl (fun K hK => ?_)
      have hy_0 := HN2.out.cell (i := 0) (x := 0) rfl
      have hy_1 := HN2.out.cell (i := 1) (x := 0) rfl
      have hy_2 := HN2.out.cell (i := 2) (x := 0) rfl
      have hy_3 := HN2.out.cell (i := 3) (x := 0) rfl
      have hyf_0 := HN2.out.frozen 0
      have hyf_1 := HN2.out.frozen 1
      have hyf_2 := HN2.out.frozen 2
      have hyf_3 := HN2.out.frozen 3
      go_simp
      have h4 := Lib.hid (below_fill (n := N) HB2.out (Nat.le_refl W0.heap.size))
      refine hK _ _ ⟨⟨⟨_, h4.out⟩, rfl⟩, ?_⟩
      clear hK K
      refine tree_end ?_
      have HF := Lib.hid (HN2.out.fill rfl N)
      go_wp2_with fail
      go_meet
      case rel => exact ⟨_, rfl, Nat.le_refl _, HF.out, h4.out⟩
  case rest =>
    obtain ⟨b, rfl, HB, HNB, HBC⟩ := hcut
    have hb := HB.out
    have hwb := HBW.out.size
    have hbl := HNB.out.lt
    have hG1 := hG0.up HBC.out
    have HBW1 := Lib.hid (below_up HBW.out HBC.out)
    clear hG0 hx_0 hx_1 hx_2 hx_3 hlx HB
    have hgl := hG1.lt
    have hgk := hG1.kind
    have hgs := hG1.size
    have hpm_0 : wc.cell? ⟨gb, 2, none⟩ = some (.int .u64 (dig G.p.m 0 : Int)) := hG1.p.cell 0 _ rfl
    have hpm_1 : wc.cell? ⟨gb, 3, none⟩ = some (.int .u64 (dig G.p.m 1 : Int)) := hG1.p.cell 1 _ rfl
    have hpm_2 : wc.cell? ⟨gb, 4, none⟩ = some (.int .u64 (dig G.p.m 2 : Int)) := hG1.p.cell 2 _ rfl
    have hpm_3 : wc.cell? ⟨gb, 5, none⟩ = some (.int .u64 (dig G.p.m 3 : Int)) := hG1.p.cell 3 _ rfl
    have hqm_0 : wc.cell? ⟨gb, 15, none⟩ = some (.int .u64 (dig G.q.m 0 : Int)) := hG1.q.cell 0 _ rfl
    have hqm_1 : wc.cell? ⟨gb, 16, none⟩ = some (.int .u64 (dig G.q.m 1 : Int)) := hG1.q.cell 1 _ rfl
    have hqm_2 : wc.cell? ⟨gb, 17, none⟩ = some (.int .u64 (dig G.q.m 2 : Int)) := hG1.q.cell 2 _ rfl
    have hqm_3 : wc.cell? ⟨gb, 18, none⟩ = some (.int .u64 (dig G.q.m 3 : Int)) := hG1.q.cell 3 _ rfl
    have hn_0 := HNB.out.cell (i := 0) (x := (dig (N) 0 : Int)) rfl
    have hn_1 := HNB.out.cell (i := 1) (x := (dig (N) 1 : Int)) rfl
    have hn_2 := HNB.out.cell (i := 2) (x := (dig (N) 2 : Int)) rfl
    have hn_3 := HNB.out.cell (i := 3) (x := (dig (N) 3 : Int)) rfl
    by_cases hlow : G.q.m < N
    · have HCI : Hid (cmpI N G.q.m = 1) := by show _ = _; unfold cmpI; rw [if_neg (by omega), if_pos hlow]
      have HL2 : Hid (lowN G y = G.p.m - N) := by show _ = _; rw [HLOW.out, if_pos hlow]
      clear hlow
      go_wp2_with fail
      have hovg := fun (E : Over wc) o => E.cell (b := gb) o hgl
      have hovn := fun (E : Over wc) o => E.cell (b := b) o hbl
      refine wp_region_over (by kernel_rfl) (by kernel_rfl) ?_
      repeat (go_big_quiet_step (first | (go_at_call 108; exact calls_over (cmp_is N G.q.m 1 (Nat.lt_trans HNP.out OK.out.p.lt4) OK.out.q.lt4 HCI.out _))))
      refine wpQuiet_nil ?_
      rintro _ ⟨E, rfl⟩
      have hG2 := hG1.up E.h
      have HNB2 := Lib.hid (HNB.out.below E.h hbl)
      have HBW2 := Lib.hid (below_up HBW1.out E.h)
      clear hovg hovn hn_0 hn_1 hn_2 hn_3 hbl hgl hgk hgs hpm_0 hpm_1 hpm_2 hpm_3 hqm_0 hqm_1 hqm_2 hqm_3 hG1 HNB HBW1
      obtain ⟨w2, hw2⟩ : ∃ W9 : World, E.w = W9 := ⟨_, rfl⟩
      rw [hw2] at hG2 HNB2 HBW2 ⊢
      clear hw2 E
      have hgl := hG2.lt
      have hgk := hG2.kind
      have hgs := hG2.size
      have hpm_0 : w2.cell? ⟨gb, 2, none⟩ = some (.int .u64 (dig G.p.m 0 : Int)) := hG2.p.cell 0 _ rfl
      have hpm_1 : w2.cell? ⟨gb, 3, none⟩ = some (.int .u64 (dig G.p.m 1 : Int)) := hG2.p.cell 1 _ rfl
      have hpm_2 : w2.cell? ⟨gb, 4, none⟩ = some (.int .u64 (dig G.p.m 2 : Int)) := hG2.p.cell 2 _ rfl
      have hpm_3 : w2.cell? ⟨gb, 5, none⟩ = some (.int .u64 (dig G.p.m 3 : Int)) := hG2.p.cell 3 _ rfl
      have hqm_0 : w2.cell? ⟨gb, 15, none⟩ = some (.int .u64 (dig G.q.m 0 : Int)) := hG2.q.cell 0 _ rfl
      have hqm_1 : w2.cell? ⟨gb, 16, none⟩ = some (.int .u64 (dig G.q.m 1 : Int)) := hG2.q.cell 1 _ rfl
      have hqm_2 : w2.cell? ⟨gb, 17, none⟩ = some (.int .u64 (dig G.q.m 2 : Int)) := hG2.q.cell 2 _ rfl
      have hqm_3 : w2.cell? ⟨gb, 18, none⟩ = some (.int .u64 (dig G.q.m 3 : Int)) := hG2.q.cell 3 _ rfl
      have hn_0 := HNB2.out.cell (i := 0) (x := (dig (N) 0 : Int)) rfl
      have hn_1 := HNB2.out.cell (i := 1) (x := (dig (N) 1 : Int)) rfl
      have hn_2 := HNB2.out.cell (i := 2) (x := (dig (N) 2 : Int)) rfl
      have hn_3 := HNB2.out.cell (i := 3) (x := (dig (N) 3 : Int)) rfl
      have hbl := HNB2.out.lt
      go_wp2_with fail
      refine wp_region_otree 6 (.a 6 (.qs [7, 8, 9] (.a 10 .done))) (by kernel_rfl) (by kernel_rfl) (fun _ _ d _ _ h => by cases d <;> exact h) ?_
      simp only [List.take_succ_cons, List.take_zero]
      have hovg := fun (E : Over w2) o => E.cell (b := gb) o hgl
      have hovn := fun (E : Over w2) o => E.cell (b := b) o hbl
      repeat (go_big_quiet_step (fail))
      refine wpQuiet_nil ?_
      rintro _ ⟨E, rfl⟩
      have hG3 := hG2.up E.h
      have HNB3 := Lib.hid (HNB2.out.below E.h hbl)
      have HBW3 := Lib.hid (below_up HBW2.out E.h)
      clear hovg hovn hn_0 hn_1 hn_2 hn_3 hbl hgl hgk hgs hpm_0 hpm_1 hpm_2 hpm_3 hqm_0 hqm_1 hqm_2 hqm_3 hG2 HNB2 HBW2
      obtain ⟨w3, hw3⟩ : ∃ W9 : World, E.w = W9 := ⟨_, rfl⟩
      rw [hw3] at hG3 HNB3 HBW3 ⊢
      clear hw3 E
      refine tree_a rfl (fun K hK => ?_)
      go_simp
      refine (minusLow G.p.m N OK.out.p.lt4 (Nat.le_of_lt HNP.out) _).mono ?_
      rintro e w4 ⟨rfl, hb4⟩
      have hG4 := hG3.up hb4
      have HNB4 := Lib.hid (HNB3.out.below hb4 HNB3.out.lt)
      have HBW4 := Lib.hid (below_up HBW3.out hb4)
      clear hG3 HNB3 HBW3 hb4
      unfold limbV
      refine hK _ _ ⟨trivial, ?_⟩
      clear hK K
      simp only [Tree.qs]
      repeat (refine tree_q rfl rfl ?_; go_big_quiet_step (fail); refine wpQuiet_nil ?_)
      have hn_0 := HNB4.out.cell (i := 0) (x := (dig (N) 0 : Int)) rfl
      have hn_1 := HNB4.out.cell (i := 1) (x := (dig (N) 1 : Int)) rfl
      have hn_2 := HNB4.out.cell (i := 2) (x := (dig (N) 2 : Int)) rfl
      have hn_3 := HNB4.out.cell (i := 3) (x := (dig (N) 3 : Int)) rfl
      have hnf_0 := HNB4.out.frozen 0
      have hnf_1 := HNB4.out.frozen 1
      have hnf_2 := HNB4.out.frozen 2
      have hnf_3 := HNB4.out.frozen 3
      refine tree_a rfl (fun K hK => ?_)
      go_simp
      refine hK _ _ ⟨trivial, ?_⟩
      clear hK K
      refine tree_end ?_
      have HS5 := Lib.hid (HNB4.out.fill rfl (G.p.m - N))
      have HB5 := Lib.hid (below_fill (n := G.p.m - N) (b := b) HBW4.out (by omega))
      have hG5 := hG4.below (below_four (o := 0) (Below.refl w.heap.size w4) (show w.heap.size ≤ b by omega) (.int .u64 (dig (G.p.m - N) 0 : Int)) (.int .u64 (dig (G.p.m - N) 1 : Int)) (.int .u64 (dig (G.p.m - N) 2 : Int)) (.int .u64 (dig (G.p.m - N) 3 : Int))) HGW.out
      obtain ⟨w5, hw5⟩ : ∃ W9 : World, (((((w4).setCell ⟨b, 0, none⟩ (.int .u64 (dig (G.p.m - N) 0 : Int))).setCell ⟨b, 1, none⟩ (.int .u64 (dig (G.p.m - N) 1 : Int))).setCell ⟨b, 2, none⟩ (.int .u64 (dig (G.p.m - N) 2 : Int))).setCell ⟨b, 3, none⟩ (.int .u64 (dig (G.p.m - N) 3 : Int))) = W9 := ⟨_, rfl⟩
      clear hn_0 hn_1 hn_2 hn_3 hnf_0 hnf_1 hnf_2 hnf_3 HNB4 HBW4 hG4
      rw [hw5] at HS5 HB5 ⊢
      have hG6 : GroupAt w5 gb G := by rw [← hw5]; exact hG5
      clear hw5 hG5
      go_wp2_with fail
      have hgl4 := hG6.lt
      have hgs4 := hG6.size
      have hm_0 := HS5.out.cell (i := 0) (x := (dig (G.p.m - N) 0 : Int)) rfl
      have hm_1 := HS5.out.cell (i := 1) (x := (dig (G.p.m - N) 1 : Int)) rfl
      have hm_2 := HS5.out.cell (i := 2) (x := (dig (G.p.m - N) 2 : Int)) rfl
      have hm_3 := HS5.out.cell (i := 3) (x := (dig (G.p.m - N) 3 : Int)) rfl
      have hml := HS5.out.lt
      refine wp_region_over (by kernel_rfl) (by kernel_rfl) ?_
      have hovg4 := fun (E : Over w5) o => E.cell (b := gb) o hgl4
      have hovn4 := fun (E : Over w5) o => E.cell (b := b) o hml
      repeat (go_big_quiet_step (first | (go_at_call 106; exact calls_over (text_any (G.p.m - N) G.size OK.out.size_le _))))
      refine wpQuiet_nil ?_
      rintro _ ⟨E, rfl⟩
      have HB9 := Lib.hid (below_up HB5.out E.h)
      clear hovg4 hovn4 hm_0 hm_1 hm_2 hm_3
      obtain ⟨w9, hw9⟩ : ∃ W9 : World, E.w = W9 := ⟨_, rfl⟩
      rw [hw9] at HB9 ⊢
      clear hw9 E
      go_wp2_with fail
      go_ret
      exact ⟨by rw [HL2.out]; rfl, HB9.out⟩
    · have HL2 : Hid (lowN G y = N) := by show _ = _; rw [HLOW.out, if_neg hlow]
      by_cases heq : N = G.q.m
      · have HCI : Hid (cmpI N G.q.m = 0) := by show _ = _; unfold cmpI; rw [if_neg (by omega), if_neg (by omega)]
        clear hlow heq
        go_wp2_with fail
        have hovg := fun (E : Over wc) o => E.cell (b := gb) o hgl
        have hovn := fun (E : Over wc) o => E.cell (b := b) o hbl
        refine wp_region_over (by kernel_rfl) (by kernel_rfl) ?_
        repeat (go_big_quiet_step (first | (go_at_call 108; exact calls_over (cmp_is N G.q.m 0 (Nat.lt_trans HNP.out OK.out.p.lt4) OK.out.q.lt4 HCI.out _))))
        refine wpQuiet_nil ?_
        rintro _ ⟨E, rfl⟩
        have hG2 := hG1.up E.h
        have HNB2 := Lib.hid (HNB.out.below E.h hbl)
        have HBW2 := Lib.hid (below_up HBW1.out E.h)
        clear hovg hovn hn_0 hn_1 hn_2 hn_3 hbl hgl hgk hgs hpm_0 hpm_1 hpm_2 hpm_3 hqm_0 hqm_1 hqm_2 hqm_3 hG1 HNB HBW1
        obtain ⟨w2, hw2⟩ : ∃ W9 : World, E.w = W9 := ⟨_, rfl⟩
        rw [hw2] at hG2 HNB2 HBW2 ⊢
        clear hw2 E
        go_wp2_with fail
        have hgl4 := hG2.lt
        have hgs4 := hG2.size
        have hm_0 := HNB2.out.cell (i := 0) (x := (dig (N) 0 : Int)) rfl
        have hm_1 := HNB2.out.cell (i := 1) (x := (dig (N) 1 : Int)) rfl
        have hm_2 := HNB2.out.cell (i := 2) (x := (dig (N) 2 : Int)) rfl
        have hm_3 := HNB2.out.cell (i := 3) (x := (dig (N) 3 : Int)) rfl
        have hml := HNB2.out.lt
        refine wp_region_over (by kernel_rfl) (by kernel_rfl) ?_
        have hovg4 := fun (E : Over w2) o => E.cell (b := gb) o hgl4
        have hovn4 := fun (E : Over w2) o => E.cell (b := b) o hml
        repeat (go_big_quiet_step (first | (go_at_call 106; exact calls_over (text_any (N) G.size OK.out.size_le _))))
        refine wpQuiet_nil ?_
        rintro _ ⟨E, rfl⟩
        have HB9 := Lib.hid (below_up HBW2.out E.h)
        clear hovg4 hovn4 hm_0 hm_1 hm_2 hm_3
        obtain ⟨w9, hw9⟩ : ∃ W9 : World, E.w = W9 := ⟨_, rfl⟩
        rw [hw9] at HB9 ⊢
        clear hw9 E
        go_wp2_with fail
        go_ret
        exact ⟨by rw [HL2.out]; rfl, HB9.out⟩
      · have HCI : Hid (cmpI N G.q.m = -1) := by show _ = _; unfold cmpI; rw [if_pos (by omega)]
        clear hlow heq
        go_wp2_with fail
        have hovg := fun (E : Over wc) o => E.cell (b := gb) o hgl
        have hovn := fun (E : Over wc) o => E.cell (b := b) o hbl
        refine wp_region_over (by kernel_rfl) (by kernel_rfl) ?_
        repeat (go_big_quiet_step (first | (go_at_call 108; exact calls_over (cmp_is N G.q.m (-1) (Nat.lt_trans HNP.out OK.out.p.lt4) OK.out.q.lt4 HCI.out _))))
        refine wpQuiet_nil ?_
        rintro _ ⟨E, rfl⟩
        have hG2 := hG1.up E.h
        have HNB2 := Lib.hid (HNB.out.below E.h hbl)
        have HBW2 := Lib.hid (below_up HBW1.out E.h)
        clear hovg hovn hn_0 hn_1 hn_2 hn_3 hbl hgl hgk hgs hpm_0 hpm_1 hpm_2 hpm_3 hqm_0 hqm_1 hqm_2 hqm_3 hG1 HNB HBW1
        obtain ⟨w2, hw2⟩ : ∃ W9 : World, E.w = W9 := ⟨_, rfl⟩
        rw [hw2] at hG2 HNB2 HBW2 ⊢
        clear hw2 E
        go_wp2_with fail
        have hgl4 := hG2.lt
        have hgs4 := hG2.size
        have hm_0 := HNB2.out.cell (i := 0) (x := (dig (N) 0 : Int)) rfl
        have hm_1 := HNB2.out.cell (i := 1) (x := (dig (N) 1 : Int)) rfl
        have hm_2 := HNB2.out.cell (i := 2) (x := (dig (N) 2 : Int)) rfl
        have hm_3 := HNB2.out.cell (i := 3) (x := (dig (N) 3 : Int)) rfl
        have hml := HNB2.out.lt
        refine wp_region_over (by kernel_rfl) (by kernel_rfl) ?_
        have hovg4 := fun (E : Over w2) o => E.cell (b := gb) o hgl4
        have hovn4 := fun (E : Over w2) o => E.cell (b := b) o hml
        repeat (go_big_quiet_step (first | (go_at_call 106; exact calls_over (text_any (N) G.size OK.out.size_le _))))
        refine wpQuiet_nil ?_
        rintro _ ⟨E, rfl⟩
        have HB9 := Lib.hid (below_up HBW2.out E.h)
        clear hovg4 hovn4 hm_0 hm_1 hm_2 hm_3
        obtain ⟨w9, hw9⟩ : ∃ W9 : World, E.w = W9 := ⟨_, rfl⟩
        rw [hw9] at HB9 ⊢
        clear hw9 E
        go_wp2_with fail
        go_ret
        exact ⟨by rw [HL2.out]; rfl, HB9.out⟩

end Go.Proofs.Ytdmldnpadojflaa
