/- The group of a kind: what is read and written, inverses. No condition. -/
import Derived.Test.YtdmldnpadojflaaGrpBase
import Derived.Test.YtdmldnpadojflaaEq4
import Derived.Deep.Cut
namespace Go.Proofs.Ytdmldnpadojflaa
open Go.RowKit

theorem minus2 (m : Nat) (h2 : 2 ≤ m) (hm : m < BB ^ 4) (w : World) : Calls Try.prog 109 #[limbV m, .agg #[.int .u64 2, .int .u64 0, .int .u64 0, .int .u64 0]] w fun e w' => e = .returned (.tuple #[limbV (m - 2), .int .u64 0]) ∧ Below w.heap.size w w' := by
  have h := minus_any m 2 (by decide) w
  rw [limbV_small 2 (by decide), sub256_ok m 2 hm h2, under_four m 2 hm (by decide), if_neg (by omega)] at h
  exact h

set_option maxHeartbeats 1000000 in
theorem gInv_any (G : GP) (ok : G.Ok) (gb x : Nat) (w : World) (hG : GroupAt w gb G) :
    Calls Try.prog 90 #[.pointer (some ⟨gb, 0, none⟩), scV G x] w fun e w' => e = .returned (scV G (x ^ (G.q.m - 2))) ∧ Below w.heap.size w w' := by
  have OK := Lib.hid ok
  clear ok
  unfold scV limbV
  have hG0 := hG
  have hgl := hG0.lt
  have hgk := hG0.kind
  have hgs := hG0.size
  have hpm_0 : w.cell? ⟨gb, 2, none⟩ = some (.int .u64 (dig G.p.m 0 : Int)) := hG0.p.cell 0 _ rfl
  have hpm_1 : w.cell? ⟨gb, 3, none⟩ = some (.int .u64 (dig G.p.m 1 : Int)) := hG0.p.cell 1 _ rfl
  have hpm_2 : w.cell? ⟨gb, 4, none⟩ = some (.int .u64 (dig G.p.m 2 : Int)) := hG0.p.cell 2 _ rfl
  have hpm_3 : w.cell? ⟨gb, 5, none⟩ = some (.int .u64 (dig G.p.m 3 : Int)) := hG0.p.cell 3 _ rfl
  have hpo_0 : w.cell? ⟨gb, 6, none⟩ = some (.int .u64 (dig (mont G.p.m 1) 0 : Int)) := by rw [← OK.out.p.one']; exact hG0.p.cell 4 _ rfl
  have hpo_1 : w.cell? ⟨gb, 7, none⟩ = some (.int .u64 (dig (mont G.p.m 1) 1 : Int)) := by rw [← OK.out.p.one']; exact hG0.p.cell 5 _ rfl
  have hpo_2 : w.cell? ⟨gb, 8, none⟩ = some (.int .u64 (dig (mont G.p.m 1) 2 : Int)) := by rw [← OK.out.p.one']; exact hG0.p.cell 6 _ rfl
  have hpo_3 : w.cell? ⟨gb, 9, none⟩ = some (.int .u64 (dig (mont G.p.m 1) 3 : Int)) := by rw [← OK.out.p.one']; exact hG0.p.cell 7 _ rfl
  have hqm_0 : w.cell? ⟨gb, 15, none⟩ = some (.int .u64 (dig G.q.m 0 : Int)) := hG0.q.cell 0 _ rfl
  have hqm_1 : w.cell? ⟨gb, 16, none⟩ = some (.int .u64 (dig G.q.m 1 : Int)) := hG0.q.cell 1 _ rfl
  have hqm_2 : w.cell? ⟨gb, 17, none⟩ = some (.int .u64 (dig G.q.m 2 : Int)) := hG0.q.cell 2 _ rfl
  have hqm_3 : w.cell? ⟨gb, 18, none⟩ = some (.int .u64 (dig G.q.m 3 : Int)) := hG0.q.cell 3 _ rfl
  have hqo_0 : w.cell? ⟨gb, 19, none⟩ = some (.int .u64 (dig (mont G.q.m 1) 0 : Int)) := by rw [← OK.out.q.one']; exact hG0.q.cell 4 _ rfl
  have hqo_1 : w.cell? ⟨gb, 20, none⟩ = some (.int .u64 (dig (mont G.q.m 1) 1 : Int)) := by rw [← OK.out.q.one']; exact hG0.q.cell 5 _ rfl
  have hqo_2 : w.cell? ⟨gb, 21, none⟩ = some (.int .u64 (dig (mont G.q.m 1) 2 : Int)) := by rw [← OK.out.q.one']; exact hG0.q.cell 6 _ rfl
  have hqo_3 : w.cell? ⟨gb, 22, none⟩ = some (.int .u64 (dig (mont G.q.m 1) 3 : Int)) := by rw [← OK.out.q.one']; exact hG0.q.cell 7 _ rfl
  have hgl1 : gb < w.heap.size + 1 := by omega
  clear hG0
  go_enter Try.func90, Try.ntmps90
  go_wp2_with fail
  clear hgl1 hgk hgs hpm_0 hpm_1 hpm_2 hpm_3 hpo_0 hpo_1 hpo_2 hpo_3 hqm_0 hqm_1 hqm_2 hqm_3 hqo_0 hqo_1 hqo_2 hqo_3
  obtain ⟨W0, hW0⟩ : ∃ W9 : World, ((w.alloc (Obj.cells #[.int .u64 (dig (mont G.q.m x) 0 : Int), .int .u64 (dig (mont G.q.m x) 1 : Int), .int .u64 (dig (mont G.q.m x) 2 : Int), .int .u64 (dig (mont G.q.m x) 3 : Int)] 93)).alloc (Obj.cells #[.int .u64 0, .int .u64 0, .int .u64 0, .int .u64 0] 93)) = W9 := ⟨_, rfl⟩
  rw [hW0]
  have hX : Blk W0 (w.heap.size) 93 (lim (mont G.q.m x)) := by
    rw [← hW0]
    have h := ((Blk.new w 93 (lim (mont G.q.m x)) _ rfl).alloc (Obj.cells #[.int .u64 0, .int .u64 0, .int .u64 0, .int .u64 0] 93))
    exact h
  have hC : Blk W0 (w.heap.size + 1) 93 [0, 0, 0, 0] := by
    rw [← hW0]
    have h := (Blk.new (w.alloc (Obj.cells #[.int .u64 (dig (mont G.q.m x) 0 : Int), .int .u64 (dig (mont G.q.m x) 1 : Int), .int .u64 (dig (mont G.q.m x) 2 : Int), .int .u64 (dig (mont G.q.m x) 3 : Int)] 93)) 93 [0, 0, 0, 0] _ rfl)
    rw [World.size_alloc] at h
    exact h
  have hBW : Below w.heap.size w W0 := by rw [← hW0]; exact (((Below.refl w.heap.size w).alloc (Nat.le_refl _) _).alloc (by simp) _)
  clear hW0
  have HG0 := Lib.hid (hG.up hBW)
  have HX := Lib.hid hX
  have HC := Lib.hid hC
  have HBW := Lib.hid hBW
  have hcl := hC.lt
  clear hG hX hC hBW
  refine (minus2 G.q.m (by have := OK.out.q.big; omega) OK.out.q.lt4 W0).mono ?_
  rintro e w2 ⟨rfl, hb2⟩
  have hz2 := hb2.size
  have HN : Hid (Blk (w2.alloc (Obj.cells #[.int .u64 (dig (G.q.m - 2) 0 : Int), .int .u64 (dig (G.q.m - 2) 1 : Int), .int .u64 (dig (G.q.m - 2) 2 : Int), .int .u64 (dig (G.q.m - 2) 3 : Int)] 76)) w2.heap.size 76 (lim (G.q.m - 2))) := Blk.new w2 _ _ _ rfl
  have HB3 := Lib.hid (hb2.alloc hz2 (Obj.cells #[.int .u64 (dig (G.q.m - 2) 0 : Int), .int .u64 (dig (G.q.m - 2) 1 : Int), .int .u64 (dig (G.q.m - 2) 2 : Int), .int .u64 (dig (G.q.m - 2) 3 : Int)] 76))
  clear hb2
  unfold limbV
  go_wp2_with fail
  generalize w2.alloc (Obj.cells #[.int .u64 (dig (G.q.m - 2) 0 : Int), .int .u64 (dig (G.q.m - 2) 1 : Int), .int .u64 (dig (G.q.m - 2) 2 : Int), .int .u64 (dig (G.q.m - 2) 3 : Int)] 76) = W3 at *
  have hX3 := HX.out.below HB3.out HX.out.lt
  have hG3 := HG0.out.up HB3.out
  have hx_0 := hX3.cell (i := 0) (x := (dig (mont G.q.m x) 0 : Int)) rfl
  have hx_1 := hX3.cell (i := 1) (x := (dig (mont G.q.m x) 1 : Int)) rfl
  have hx_2 := hX3.cell (i := 2) (x := (dig (mont G.q.m x) 2 : Int)) rfl
  have hx_3 := hX3.cell (i := 3) (x := (dig (mont G.q.m x) 3 : Int)) rfl
  have hn_0 := HN.out.cell (i := 0) (x := (dig (G.q.m - 2) 0 : Int)) rfl
  have hn_1 := HN.out.cell (i := 1) (x := (dig (G.q.m - 2) 1 : Int)) rfl
  have hn_2 := HN.out.cell (i := 2) (x := (dig (G.q.m - 2) 2 : Int)) rfl
  have hn_3 := HN.out.cell (i := 3) (x := (dig (G.q.m - 2) 3 : Int)) rfl
  have hlx := hX3.lt
  have hln := HN.out.lt
  clear hX3
  refine wp_region_otail 8 (by kernel_rfl) (by kernel_rfl) ?_
  simp only [List.take_succ_cons, List.take_zero, List.drop_succ_cons, List.drop_zero]
  have hov0 := fun (E : Over W3) o => E.cell (b := w.heap.size) o hlx
  have hov1 := fun (E : Over W3) o => E.cell (b := w2.heap.size) o hln
  repeat (go_big_quiet_step (first | (go_at_call 114; exact calls_over (pow_any G.q OK.out.q gb 15 x (G.q.m - 2) (Nat.lt_of_le_of_lt (Nat.sub_le _ _) OK.out.q.lt4) _ (hG3.up (Over.h _)).q))))
  all_goals (try unfold limbV)
  repeat (go_big_quiet_step (first | (go_at_call 114; exact calls_over (pow_any G.q OK.out.q gb 15 x (G.q.m - 2) (Nat.lt_of_le_of_lt (Nat.sub_le _ _) OK.out.q.lt4) _ (hG3.up (Over.h _)).q))))
  all_goals (try unfold limbV)
  repeat (go_big_quiet_step (first | (go_at_call 114; exact calls_over (pow_any G.q OK.out.q gb 15 x (G.q.m - 2) (Nat.lt_of_le_of_lt (Nat.sub_le _ _) OK.out.q.lt4) _ (hG3.up (Over.h _)).q))))
  refine wpQuiet_nil ?_
  rintro _ ⟨E, rfl⟩
  have HZ := Lib.hid ((HC.out.below HB3.out HC.out.lt).below E.h (by have := HB3.out.size; omega))
  have HBB := Lib.hid (below_up (below_up HBW.out HB3.out) E.h)
  clear hov0 hov1
  generalize E.w = w3 at *
  have HB5 := Lib.hid (below_fill (n := mont G.q.m (x ^ (G.q.m - 2))) (b := w.heap.size + 1) HBB.out (by omega))
  have HS5 := Lib.hid (HZ.out.fill rfl (mont G.q.m (x ^ (G.q.m - 2))))
  have hz_0 := HZ.out.cell (i := 0) (x := 0) rfl
  have hz_1 := HZ.out.cell (i := 1) (x := 0) rfl
  have hz_2 := HZ.out.cell (i := 2) (x := 0) rfl
  have hz_3 := HZ.out.cell (i := 3) (x := 0) rfl
  have hzf_0 := HZ.out.frozen 0
  have hzf_1 := HZ.out.frozen 1
  have hzf_2 := HZ.out.frozen 2
  have hzf_3 := HZ.out.frozen 3
  go_wp2_with fail
  generalize (((((w3).setCell ⟨w.heap.size + 1, 0, none⟩ (.int .u64 (dig (mont G.q.m (x ^ (G.q.m - 2))) 0 : Int))).setCell ⟨w.heap.size + 1, 1, none⟩ (.int .u64 (dig (mont G.q.m (x ^ (G.q.m - 2))) 1 : Int))).setCell ⟨w.heap.size + 1, 2, none⟩ (.int .u64 (dig (mont G.q.m (x ^ (G.q.m - 2))) 2 : Int))).setCell ⟨w.heap.size + 1, 3, none⟩ (.int .u64 (dig (mont G.q.m (x ^ (G.q.m - 2))) 3 : Int))) = w5 at *
  clear hz_0 hz_1 hz_2 hz_3
  have hg_0 := HS5.out.cell (i := 0) (x := (dig (mont G.q.m (x ^ (G.q.m - 2))) 0 : Int)) rfl
  have hg_1 := HS5.out.cell (i := 1) (x := (dig (mont G.q.m (x ^ (G.q.m - 2))) 1 : Int)) rfl
  have hg_2 := HS5.out.cell (i := 2) (x := (dig (mont G.q.m (x ^ (G.q.m - 2))) 2 : Int)) rfl
  have hg_3 := HS5.out.cell (i := 3) (x := (dig (mont G.q.m (x ^ (G.q.m - 2))) 3 : Int)) rfl
  simp [bodyPost, results, Try.results90, go_sem, hg_0, hg_1, hg_2, hg_3]
  exact HB5.out

set_option maxHeartbeats 1000000 in
theorem gUnder_any (G : GP) (ok : G.Ok) (gb x : Nat) (w : World) (hG : GroupAt w gb G) :
    Calls Try.prog 100 #[.pointer (some ⟨gb, 0, none⟩), elV G x] w fun e w' => e = .returned (elV G (x ^ (G.p.m - 2))) ∧ Below w.heap.size w w' := by
  have OK := Lib.hid ok
  clear ok
  unfold elV limbV
  have hG0 := hG
  have hgl := hG0.lt
  have hgk := hG0.kind
  have hgs := hG0.size
  have hpm_0 : w.cell? ⟨gb, 2, none⟩ = some (.int .u64 (dig G.p.m 0 : Int)) := hG0.p.cell 0 _ rfl
  have hpm_1 : w.cell? ⟨gb, 3, none⟩ = some (.int .u64 (dig G.p.m 1 : Int)) := hG0.p.cell 1 _ rfl
  have hpm_2 : w.cell? ⟨gb, 4, none⟩ = some (.int .u64 (dig G.p.m 2 : Int)) := hG0.p.cell 2 _ rfl
  have hpm_3 : w.cell? ⟨gb, 5, none⟩ = some (.int .u64 (dig G.p.m 3 : Int)) := hG0.p.cell 3 _ rfl
  have hpo_0 : w.cell? ⟨gb, 6, none⟩ = some (.int .u64 (dig (mont G.p.m 1) 0 : Int)) := by rw [← OK.out.p.one']; exact hG0.p.cell 4 _ rfl
  have hpo_1 : w.cell? ⟨gb, 7, none⟩ = some (.int .u64 (dig (mont G.p.m 1) 1 : Int)) := by rw [← OK.out.p.one']; exact hG0.p.cell 5 _ rfl
  have hpo_2 : w.cell? ⟨gb, 8, none⟩ = some (.int .u64 (dig (mont G.p.m 1) 2 : Int)) := by rw [← OK.out.p.one']; exact hG0.p.cell 6 _ rfl
  have hpo_3 : w.cell? ⟨gb, 9, none⟩ = some (.int .u64 (dig (mont G.p.m 1) 3 : Int)) := by rw [← OK.out.p.one']; exact hG0.p.cell 7 _ rfl
  have hqm_0 : w.cell? ⟨gb, 15, none⟩ = some (.int .u64 (dig G.q.m 0 : Int)) := hG0.q.cell 0 _ rfl
  have hqm_1 : w.cell? ⟨gb, 16, none⟩ = some (.int .u64 (dig G.q.m 1 : Int)) := hG0.q.cell 1 _ rfl
  have hqm_2 : w.cell? ⟨gb, 17, none⟩ = some (.int .u64 (dig G.q.m 2 : Int)) := hG0.q.cell 2 _ rfl
  have hqm_3 : w.cell? ⟨gb, 18, none⟩ = some (.int .u64 (dig G.q.m 3 : Int)) := hG0.q.cell 3 _ rfl
  have hqo_0 : w.cell? ⟨gb, 19, none⟩ = some (.int .u64 (dig (mont G.q.m 1) 0 : Int)) := by rw [← OK.out.q.one']; exact hG0.q.cell 4 _ rfl
  have hqo_1 : w.cell? ⟨gb, 20, none⟩ = some (.int .u64 (dig (mont G.q.m 1) 1 : Int)) := by rw [← OK.out.q.one']; exact hG0.q.cell 5 _ rfl
  have hqo_2 : w.cell? ⟨gb, 21, none⟩ = some (.int .u64 (dig (mont G.q.m 1) 2 : Int)) := by rw [← OK.out.q.one']; exact hG0.q.cell 6 _ rfl
  have hqo_3 : w.cell? ⟨gb, 22, none⟩ = some (.int .u64 (dig (mont G.q.m 1) 3 : Int)) := by rw [← OK.out.q.one']; exact hG0.q.cell 7 _ rfl
  have hgl1 : gb < w.heap.size + 1 := by omega
  clear hG0
  go_enter Try.func100, Try.ntmps100
  go_wp2_with fail
  clear hgl1 hgk hgs hpm_0 hpm_1 hpm_2 hpm_3 hpo_0 hpo_1 hpo_2 hpo_3 hqm_0 hqm_1 hqm_2 hqm_3 hqo_0 hqo_1 hqo_2 hqo_3
  obtain ⟨W0, hW0⟩ : ∃ W9 : World, ((w.alloc (Obj.cells #[.int .u64 (dig (mont G.p.m x) 0 : Int), .int .u64 (dig (mont G.p.m x) 1 : Int), .int .u64 (dig (mont G.p.m x) 2 : Int), .int .u64 (dig (mont G.p.m x) 3 : Int)] 88)).alloc (Obj.cells #[.int .u64 0, .int .u64 0, .int .u64 0, .int .u64 0] 88)) = W9 := ⟨_, rfl⟩
  rw [hW0]
  have hX : Blk W0 (w.heap.size) 88 (lim (mont G.p.m x)) := by
    rw [← hW0]
    have h := ((Blk.new w 88 (lim (mont G.p.m x)) _ rfl).alloc (Obj.cells #[.int .u64 0, .int .u64 0, .int .u64 0, .int .u64 0] 88))
    exact h
  have hC : Blk W0 (w.heap.size + 1) 88 [0, 0, 0, 0] := by
    rw [← hW0]
    have h := (Blk.new (w.alloc (Obj.cells #[.int .u64 (dig (mont G.p.m x) 0 : Int), .int .u64 (dig (mont G.p.m x) 1 : Int), .int .u64 (dig (mont G.p.m x) 2 : Int), .int .u64 (dig (mont G.p.m x) 3 : Int)] 88)) 88 [0, 0, 0, 0] _ rfl)
    rw [World.size_alloc] at h
    exact h
  have hBW : Below w.heap.size w W0 := by rw [← hW0]; exact (((Below.refl w.heap.size w).alloc (Nat.le_refl _) _).alloc (by simp) _)
  clear hW0
  have HG0 := Lib.hid (hG.up hBW)
  have HX := Lib.hid hX
  have HC := Lib.hid hC
  have HBW := Lib.hid hBW
  have hcl := hC.lt
  clear hG hX hC hBW
  refine (minus2 G.p.m (by have := OK.out.p.big; omega) OK.out.p.lt4 W0).mono ?_
  rintro e w2 ⟨rfl, hb2⟩
  have hz2 := hb2.size
  have HN : Hid (Blk (w2.alloc (Obj.cells #[.int .u64 (dig (G.p.m - 2) 0 : Int), .int .u64 (dig (G.p.m - 2) 1 : Int), .int .u64 (dig (G.p.m - 2) 2 : Int), .int .u64 (dig (G.p.m - 2) 3 : Int)] 76)) w2.heap.size 76 (lim (G.p.m - 2))) := Blk.new w2 _ _ _ rfl
  have HB3 := Lib.hid (hb2.alloc hz2 (Obj.cells #[.int .u64 (dig (G.p.m - 2) 0 : Int), .int .u64 (dig (G.p.m - 2) 1 : Int), .int .u64 (dig (G.p.m - 2) 2 : Int), .int .u64 (dig (G.p.m - 2) 3 : Int)] 76))
  clear hb2
  unfold limbV
  go_wp2_with fail
  generalize w2.alloc (Obj.cells #[.int .u64 (dig (G.p.m - 2) 0 : Int), .int .u64 (dig (G.p.m - 2) 1 : Int), .int .u64 (dig (G.p.m - 2) 2 : Int), .int .u64 (dig (G.p.m - 2) 3 : Int)] 76) = W3 at *
  have hX3 := HX.out.below HB3.out HX.out.lt
  have hG3 := HG0.out.up HB3.out
  have hx_0 := hX3.cell (i := 0) (x := (dig (mont G.p.m x) 0 : Int)) rfl
  have hx_1 := hX3.cell (i := 1) (x := (dig (mont G.p.m x) 1 : Int)) rfl
  have hx_2 := hX3.cell (i := 2) (x := (dig (mont G.p.m x) 2 : Int)) rfl
  have hx_3 := hX3.cell (i := 3) (x := (dig (mont G.p.m x) 3 : Int)) rfl
  have hn_0 := HN.out.cell (i := 0) (x := (dig (G.p.m - 2) 0 : Int)) rfl
  have hn_1 := HN.out.cell (i := 1) (x := (dig (G.p.m - 2) 1 : Int)) rfl
  have hn_2 := HN.out.cell (i := 2) (x := (dig (G.p.m - 2) 2 : Int)) rfl
  have hn_3 := HN.out.cell (i := 3) (x := (dig (G.p.m - 2) 3 : Int)) rfl
  have hlx := hX3.lt
  have hln := HN.out.lt
  clear hX3
  refine wp_region_otail 8 (by kernel_rfl) (by kernel_rfl) ?_
  simp only [List.take_succ_cons, List.take_zero, List.drop_succ_cons, List.drop_zero]
  have hov0 := fun (E : Over W3) o => E.cell (b := w.heap.size) o hlx
  have hov1 := fun (E : Over W3) o => E.cell (b := w2.heap.size) o hln
  repeat (go_big_quiet_step (first | (go_at_call 114; exact calls_over (pow_any G.p OK.out.p gb 2 x (G.p.m - 2) (Nat.lt_of_le_of_lt (Nat.sub_le _ _) OK.out.p.lt4) _ (hG3.up (Over.h _)).p))))
  all_goals (try unfold limbV)
  repeat (go_big_quiet_step (first | (go_at_call 114; exact calls_over (pow_any G.p OK.out.p gb 2 x (G.p.m - 2) (Nat.lt_of_le_of_lt (Nat.sub_le _ _) OK.out.p.lt4) _ (hG3.up (Over.h _)).p))))
  all_goals (try unfold limbV)
  repeat (go_big_quiet_step (first | (go_at_call 114; exact calls_over (pow_any G.p OK.out.p gb 2 x (G.p.m - 2) (Nat.lt_of_le_of_lt (Nat.sub_le _ _) OK.out.p.lt4) _ (hG3.up (Over.h _)).p))))
  refine wpQuiet_nil ?_
  rintro _ ⟨E, rfl⟩
  have HZ := Lib.hid ((HC.out.below HB3.out HC.out.lt).below E.h (by have := HB3.out.size; omega))
  have HBB := Lib.hid (below_up (below_up HBW.out HB3.out) E.h)
  clear hov0 hov1
  generalize E.w = w3 at *
  have HB5 := Lib.hid (below_fill (n := mont G.p.m (x ^ (G.p.m - 2))) (b := w.heap.size + 1) HBB.out (by omega))
  have HS5 := Lib.hid (HZ.out.fill rfl (mont G.p.m (x ^ (G.p.m - 2))))
  have hz_0 := HZ.out.cell (i := 0) (x := 0) rfl
  have hz_1 := HZ.out.cell (i := 1) (x := 0) rfl
  have hz_2 := HZ.out.cell (i := 2) (x := 0) rfl
  have hz_3 := HZ.out.cell (i := 3) (x := 0) rfl
  have hzf_0 := HZ.out.frozen 0
  have hzf_1 := HZ.out.frozen 1
  have hzf_2 := HZ.out.frozen 2
  have hzf_3 := HZ.out.frozen 3
  go_wp2_with fail
  generalize (((((w3).setCell ⟨w.heap.size + 1, 0, none⟩ (.int .u64 (dig (mont G.p.m (x ^ (G.p.m - 2))) 0 : Int))).setCell ⟨w.heap.size + 1, 1, none⟩ (.int .u64 (dig (mont G.p.m (x ^ (G.p.m - 2))) 1 : Int))).setCell ⟨w.heap.size + 1, 2, none⟩ (.int .u64 (dig (mont G.p.m (x ^ (G.p.m - 2))) 2 : Int))).setCell ⟨w.heap.size + 1, 3, none⟩ (.int .u64 (dig (mont G.p.m (x ^ (G.p.m - 2))) 3 : Int))) = w5 at *
  clear hz_0 hz_1 hz_2 hz_3
  have hg_0 := HS5.out.cell (i := 0) (x := (dig (mont G.p.m (x ^ (G.p.m - 2))) 0 : Int)) rfl
  have hg_1 := HS5.out.cell (i := 1) (x := (dig (mont G.p.m (x ^ (G.p.m - 2))) 1 : Int)) rfl
  have hg_2 := HS5.out.cell (i := 2) (x := (dig (mont G.p.m (x ^ (G.p.m - 2))) 2 : Int)) rfl
  have hg_3 := HS5.out.cell (i := 3) (x := (dig (mont G.p.m (x ^ (G.p.m - 2))) 3 : Int)) rfl
  simp [bodyPost, results, Try.results100, go_sem, hg_0, hg_1, hg_2, hg_3]
  exact HB5.out

theorem lim_eq (x y : Nat) (hx : x < BB ^ 4) (hy : y < BB ^ 4) (h0 : dig x 0 = dig y 0) (h1 : dig x 1 = dig y 1) (h2 : dig x 2 = dig y 2) (h3 : dig x 3 = dig y 3) : x = y := by
  have e : ∀ z, z < BB ^ 4 → z = dig z 0 + BB * dig z 1 + BB ^ 2 * dig z 2 + BB ^ 3 * dig z 3 := fun z hz => by
    have a3 := mod_succ z 3
    have a2 := mod_succ z 2
    have a1 := mod_succ z 1
    have a0 := mod_succ z 0
    rw [Nat.mod_eq_of_lt hz] at a3
    simp only [Nat.pow_zero, Nat.mod_one, Nat.zero_add, Nat.pow_one, Nat.one_mul] at a0 a1
    simp only [Nat.reduceAdd] at a1 a2
    omega
  have ex := e x hx
  have ey := e y hy
  rw [h0, h1, h2, h3] at ex
  generalize hs : dig y 0 + BB * dig y 1 + BB ^ 2 * dig y 2 + BB ^ 3 * dig y 3 = s at *
  omega

theorem infoU64 : (Try.prog.info? 74).isSome = true := by kernel_rfl
theorem cellsU64 : Try.prog.cellsOf 74 = 1 := by kernel_rfl
theorem plainU64 : Try.prog.plainKey 74 = true := by kernel_rfl

/-- Two numbers' limbs, compared. -/
theorem eqLimbs (x y : Nat) (hx : x < BB ^ 4) (hy : y < BB ^ 4) (w : World) (b : Bool) (hb : b = decide (x = y)) :
    (Op.equalIn 10000 76 (.agg #[.int .u64 (dig x 0 : Int), .int .u64 (dig x 1 : Int), .int .u64 (dig x 2 : Int), .int .u64 (dig x 3 : Int)]) (.agg #[.int .u64 (dig y 0 : Int), .int .u64 (dig y 1 : Int), .int .u64 (dig y 2 : Int), .int .u64 (dig y 3 : Int)])).run Try.prog w = .ok b w := by
  obtain ⟨i, hi⟩ := Option.isSome_iff_exists.1 infoU64
  rw [run_equalIn_four w 9998 _ _ Try.underlying76 Try.underlying74 i hi cellsU64 plainU64, hb]
  refine congrArg (fun b => Result.ok b w) ?_
  rw [Bool.eq_iff_iff]
  simp only [Bool.and_eq_true, beq_iff_eq, Int.natCast_inj, decide_eq_true_eq]
  exact ⟨fun ⟨h0, h1, h2, h3⟩ => lim_eq x y hx hy h0 h1 h2 h3, fun e => by rw [e]; exact ⟨rfl, rfl, rfl, rfl⟩⟩

theorem guardLimbs (op : BinOp) (x y : Operand) (xs ys : Array Value) (w : World) : (eqGuard op 76 x y (.agg xs) (.agg ys)).run Try.prog w = .ok () w := run_eqGuard_agg w op _ x y xs ys (by kernel_rfl)
theorem binLimbs {xs ys : Array Value} {b : Bool} {w : World} (h : (Op.equalIn 10000 76 (.agg xs) (.agg ys)).run Try.prog w = .ok b w) : (binOp .eql 76 (.agg xs) (.agg ys)).run Try.prog w = .ok (.bool b) w := by
  rw [run_eql_struct, h]
  rfl

theorem eqZero (x : Nat) (hx : x < BB ^ 4) (w : World) (b : Bool) (hb : b = decide (x = 0)) :
    (Op.equalIn 10000 76 (.agg #[.int .u64 (dig x 0 : Int), .int .u64 (dig x 1 : Int), .int .u64 (dig x 2 : Int), .int .u64 (dig x 3 : Int)]) (.agg #[.int .u64 0, .int .u64 0, .int .u64 0, .int .u64 0])).run Try.prog w = .ok b w := by
  have h := eqLimbs x 0 hx (by decide) w b hb
  simpa [dig] using h

set_option maxHeartbeats 1000000 in
theorem gPut_any (G : GP) (ok : G.Ok) (gb x : Nat) (w : World) (hG : GroupAt w gb G) :
    Calls Try.prog 82 #[.pointer (some ⟨gb, 0, none⟩), scV G x] w fun e w' => e = .returned (.string (textS (x % G.q.m) G.size)) ∧ Below w.heap.size w w' := by
  have OK := Lib.hid ok
  clear ok
  unfold scV limbV
  go_enter Try.func82, Try.ntmps82
  go_wp2_with fail
  obtain ⟨W0, hW0⟩ : ∃ W9 : World, (w.alloc (Obj.cells #[.int .u64 (dig (mont G.q.m x) 0 : Int), .int .u64 (dig (mont G.q.m x) 1 : Int), .int .u64 (dig (mont G.q.m x) 2 : Int), .int .u64 (dig (mont G.q.m x) 3 : Int)] 93)) = W9 := ⟨_, rfl⟩
  rw [hW0]
  have hX : Blk W0 (w.heap.size) 93 (lim (mont G.q.m x)) := by
    rw [← hW0]
    have h := (Blk.new w 93 (lim (mont G.q.m x)) _ rfl)
    exact h
  have hBW : Below w.heap.size w W0 := by rw [← hW0]; exact ((Below.refl w.heap.size w).alloc (Nat.le_refl _) _)
  clear hW0
  have hG0 := hG.up hBW
  have hgl := hG0.lt
  have hgk := hG0.kind
  have hgs := hG0.size
  have hpm_0 : W0.cell? ⟨gb, 2, none⟩ = some (.int .u64 (dig G.p.m 0 : Int)) := hG0.p.cell 0 _ rfl
  have hpm_1 : W0.cell? ⟨gb, 3, none⟩ = some (.int .u64 (dig G.p.m 1 : Int)) := hG0.p.cell 1 _ rfl
  have hpm_2 : W0.cell? ⟨gb, 4, none⟩ = some (.int .u64 (dig G.p.m 2 : Int)) := hG0.p.cell 2 _ rfl
  have hpm_3 : W0.cell? ⟨gb, 5, none⟩ = some (.int .u64 (dig G.p.m 3 : Int)) := hG0.p.cell 3 _ rfl
  have hpo_0 : W0.cell? ⟨gb, 6, none⟩ = some (.int .u64 (dig (mont G.p.m 1) 0 : Int)) := by rw [← OK.out.p.one']; exact hG0.p.cell 4 _ rfl
  have hpo_1 : W0.cell? ⟨gb, 7, none⟩ = some (.int .u64 (dig (mont G.p.m 1) 1 : Int)) := by rw [← OK.out.p.one']; exact hG0.p.cell 5 _ rfl
  have hpo_2 : W0.cell? ⟨gb, 8, none⟩ = some (.int .u64 (dig (mont G.p.m 1) 2 : Int)) := by rw [← OK.out.p.one']; exact hG0.p.cell 6 _ rfl
  have hpo_3 : W0.cell? ⟨gb, 9, none⟩ = some (.int .u64 (dig (mont G.p.m 1) 3 : Int)) := by rw [← OK.out.p.one']; exact hG0.p.cell 7 _ rfl
  have hqm_0 : W0.cell? ⟨gb, 15, none⟩ = some (.int .u64 (dig G.q.m 0 : Int)) := hG0.q.cell 0 _ rfl
  have hqm_1 : W0.cell? ⟨gb, 16, none⟩ = some (.int .u64 (dig G.q.m 1 : Int)) := hG0.q.cell 1 _ rfl
  have hqm_2 : W0.cell? ⟨gb, 17, none⟩ = some (.int .u64 (dig G.q.m 2 : Int)) := hG0.q.cell 2 _ rfl
  have hqm_3 : W0.cell? ⟨gb, 18, none⟩ = some (.int .u64 (dig G.q.m 3 : Int)) := hG0.q.cell 3 _ rfl
  have hqo_0 : W0.cell? ⟨gb, 19, none⟩ = some (.int .u64 (dig (mont G.q.m 1) 0 : Int)) := by rw [← OK.out.q.one']; exact hG0.q.cell 4 _ rfl
  have hqo_1 : W0.cell? ⟨gb, 20, none⟩ = some (.int .u64 (dig (mont G.q.m 1) 1 : Int)) := by rw [← OK.out.q.one']; exact hG0.q.cell 5 _ rfl
  have hqo_2 : W0.cell? ⟨gb, 21, none⟩ = some (.int .u64 (dig (mont G.q.m 1) 2 : Int)) := by rw [← OK.out.q.one']; exact hG0.q.cell 6 _ rfl
  have hqo_3 : W0.cell? ⟨gb, 22, none⟩ = some (.int .u64 (dig (mont G.q.m 1) 3 : Int)) := by rw [← OK.out.q.one']; exact hG0.q.cell 7 _ rfl
  have hx_0 := hX.cell (i := 0) (x := (dig (mont G.q.m x) 0 : Int)) rfl
  have hx_1 := hX.cell (i := 1) (x := (dig (mont G.q.m x) 1 : Int)) rfl
  have hx_2 := hX.cell (i := 2) (x := (dig (mont G.q.m x) 2 : Int)) rfl
  have hx_3 := hX.cell (i := 3) (x := (dig (mont G.q.m x) 3 : Int)) rfl
  have hlx := hX.lt
  have HBW := Lib.hid hBW
  clear hX hBW hG
  refine wp_region_over (by kernel_rfl) (by kernel_rfl) ?_
  have hovg := fun (E : Over W0) o => E.cell (b := gb) o hgl
  have hov0 := fun (E : Over W0) o => E.cell (b := w.heap.size) o hlx
  repeat (go_big_quiet_step (first | (go_at_call 107; exact calls_over (outM G.q OK.out.q gb 15 x _ (hG0.up (Over.h _)).q)) | (go_at_call 106; exact calls_over (text_any (x % G.q.m) G.size OK.out.size_le _))))
  refine wpQuiet_nil ?_
  rintro _ ⟨E, rfl⟩
  have HBB := Lib.hid (below_up HBW.out E.h)
  clear hovg hov0
  generalize E.w = w3 at *
  go_wp2_with fail
  go_ret
  exact ⟨rfl, HBB.out⟩

set_option maxHeartbeats 1000000 in
theorem gOrder_any (G : GP) (ok : G.Ok) (gb : Nat) (w : World) (hG : GroupAt w gb G) :
    Calls Try.prog 65 #[.pointer (some ⟨gb, 0, none⟩)] w fun e w' => e = .returned (.string (textS G.q.m G.size)) ∧ Below w.heap.size w w' := by
  have OK := Lib.hid ok
  clear ok
  have hG0 := hG
  have hgl := hG0.lt
  have hgk := hG0.kind
  have hgs := hG0.size
  have hpm_0 : w.cell? ⟨gb, 2, none⟩ = some (.int .u64 (dig G.p.m 0 : Int)) := hG0.p.cell 0 _ rfl
  have hpm_1 : w.cell? ⟨gb, 3, none⟩ = some (.int .u64 (dig G.p.m 1 : Int)) := hG0.p.cell 1 _ rfl
  have hpm_2 : w.cell? ⟨gb, 4, none⟩ = some (.int .u64 (dig G.p.m 2 : Int)) := hG0.p.cell 2 _ rfl
  have hpm_3 : w.cell? ⟨gb, 5, none⟩ = some (.int .u64 (dig G.p.m 3 : Int)) := hG0.p.cell 3 _ rfl
  have hpo_0 : w.cell? ⟨gb, 6, none⟩ = some (.int .u64 (dig (mont G.p.m 1) 0 : Int)) := by rw [← OK.out.p.one']; exact hG0.p.cell 4 _ rfl
  have hpo_1 : w.cell? ⟨gb, 7, none⟩ = some (.int .u64 (dig (mont G.p.m 1) 1 : Int)) := by rw [← OK.out.p.one']; exact hG0.p.cell 5 _ rfl
  have hpo_2 : w.cell? ⟨gb, 8, none⟩ = some (.int .u64 (dig (mont G.p.m 1) 2 : Int)) := by rw [← OK.out.p.one']; exact hG0.p.cell 6 _ rfl
  have hpo_3 : w.cell? ⟨gb, 9, none⟩ = some (.int .u64 (dig (mont G.p.m 1) 3 : Int)) := by rw [← OK.out.p.one']; exact hG0.p.cell 7 _ rfl
  have hqm_0 : w.cell? ⟨gb, 15, none⟩ = some (.int .u64 (dig G.q.m 0 : Int)) := hG0.q.cell 0 _ rfl
  have hqm_1 : w.cell? ⟨gb, 16, none⟩ = some (.int .u64 (dig G.q.m 1 : Int)) := hG0.q.cell 1 _ rfl
  have hqm_2 : w.cell? ⟨gb, 17, none⟩ = some (.int .u64 (dig G.q.m 2 : Int)) := hG0.q.cell 2 _ rfl
  have hqm_3 : w.cell? ⟨gb, 18, none⟩ = some (.int .u64 (dig G.q.m 3 : Int)) := hG0.q.cell 3 _ rfl
  have hqo_0 : w.cell? ⟨gb, 19, none⟩ = some (.int .u64 (dig (mont G.q.m 1) 0 : Int)) := by rw [← OK.out.q.one']; exact hG0.q.cell 4 _ rfl
  have hqo_1 : w.cell? ⟨gb, 20, none⟩ = some (.int .u64 (dig (mont G.q.m 1) 1 : Int)) := by rw [← OK.out.q.one']; exact hG0.q.cell 5 _ rfl
  have hqo_2 : w.cell? ⟨gb, 21, none⟩ = some (.int .u64 (dig (mont G.q.m 1) 2 : Int)) := by rw [← OK.out.q.one']; exact hG0.q.cell 6 _ rfl
  have hqo_3 : w.cell? ⟨gb, 22, none⟩ = some (.int .u64 (dig (mont G.q.m 1) 3 : Int)) := by rw [← OK.out.q.one']; exact hG0.q.cell 7 _ rfl
  clear hG0
  go_enter Try.func65, Try.ntmps65
  go_wp2_with fail
  refine wp_region_over (by kernel_rfl) (by kernel_rfl) ?_
  have hovg := fun (E : Over w) o => E.cell (b := gb) o hgl
  repeat (go_big_quiet_step (first | (go_at_call 106; exact calls_over (text_any G.q.m G.size OK.out.size_le _))))
  refine wpQuiet_nil ?_
  rintro _ ⟨E, rfl⟩
  have HBB := Lib.hid E.h
  clear hovg
  generalize E.w = w3 at *
  go_wp2_with fail
  go_ret
  exact ⟨rfl, HBB.out⟩

set_option maxHeartbeats 1000000 in
theorem gPrime_any (G : GP) (ok : G.Ok) (gb : Nat) (w : World) (hG : GroupAt w gb G) :
    Calls Try.prog 66 #[.pointer (some ⟨gb, 0, none⟩)] w fun e w' => e = .returned (.string (textS G.p.m G.size)) ∧ Below w.heap.size w w' := by
  have OK := Lib.hid ok
  clear ok
  have hG0 := hG
  have hgl := hG0.lt
  have hgk := hG0.kind
  have hgs := hG0.size
  have hpm_0 : w.cell? ⟨gb, 2, none⟩ = some (.int .u64 (dig G.p.m 0 : Int)) := hG0.p.cell 0 _ rfl
  have hpm_1 : w.cell? ⟨gb, 3, none⟩ = some (.int .u64 (dig G.p.m 1 : Int)) := hG0.p.cell 1 _ rfl
  have hpm_2 : w.cell? ⟨gb, 4, none⟩ = some (.int .u64 (dig G.p.m 2 : Int)) := hG0.p.cell 2 _ rfl
  have hpm_3 : w.cell? ⟨gb, 5, none⟩ = some (.int .u64 (dig G.p.m 3 : Int)) := hG0.p.cell 3 _ rfl
  have hpo_0 : w.cell? ⟨gb, 6, none⟩ = some (.int .u64 (dig (mont G.p.m 1) 0 : Int)) := by rw [← OK.out.p.one']; exact hG0.p.cell 4 _ rfl
  have hpo_1 : w.cell? ⟨gb, 7, none⟩ = some (.int .u64 (dig (mont G.p.m 1) 1 : Int)) := by rw [← OK.out.p.one']; exact hG0.p.cell 5 _ rfl
  have hpo_2 : w.cell? ⟨gb, 8, none⟩ = some (.int .u64 (dig (mont G.p.m 1) 2 : Int)) := by rw [← OK.out.p.one']; exact hG0.p.cell 6 _ rfl
  have hpo_3 : w.cell? ⟨gb, 9, none⟩ = some (.int .u64 (dig (mont G.p.m 1) 3 : Int)) := by rw [← OK.out.p.one']; exact hG0.p.cell 7 _ rfl
  have hqm_0 : w.cell? ⟨gb, 15, none⟩ = some (.int .u64 (dig G.q.m 0 : Int)) := hG0.q.cell 0 _ rfl
  have hqm_1 : w.cell? ⟨gb, 16, none⟩ = some (.int .u64 (dig G.q.m 1 : Int)) := hG0.q.cell 1 _ rfl
  have hqm_2 : w.cell? ⟨gb, 17, none⟩ = some (.int .u64 (dig G.q.m 2 : Int)) := hG0.q.cell 2 _ rfl
  have hqm_3 : w.cell? ⟨gb, 18, none⟩ = some (.int .u64 (dig G.q.m 3 : Int)) := hG0.q.cell 3 _ rfl
  have hqo_0 : w.cell? ⟨gb, 19, none⟩ = some (.int .u64 (dig (mont G.q.m 1) 0 : Int)) := by rw [← OK.out.q.one']; exact hG0.q.cell 4 _ rfl
  have hqo_1 : w.cell? ⟨gb, 20, none⟩ = some (.int .u64 (dig (mont G.q.m 1) 1 : Int)) := by rw [← OK.out.q.one']; exact hG0.q.cell 5 _ rfl
  have hqo_2 : w.cell? ⟨gb, 21, none⟩ = some (.int .u64 (dig (mont G.q.m 1) 2 : Int)) := by rw [← OK.out.q.one']; exact hG0.q.cell 6 _ rfl
  have hqo_3 : w.cell? ⟨gb, 22, none⟩ = some (.int .u64 (dig (mont G.q.m 1) 3 : Int)) := by rw [← OK.out.q.one']; exact hG0.q.cell 7 _ rfl
  clear hG0
  go_enter Try.func66, Try.ntmps66
  go_wp2_with fail
  refine wp_region_over (by kernel_rfl) (by kernel_rfl) ?_
  have hovg := fun (E : Over w) o => E.cell (b := gb) o hgl
  repeat (go_big_quiet_step (first | (go_at_call 106; exact calls_over (text_any G.p.m G.size OK.out.size_le _))))
  refine wpQuiet_nil ?_
  rintro _ ⟨E, rfl⟩
  have HBB := Lib.hid E.h
  clear hovg
  generalize E.w = w3 at *
  go_wp2_with fail
  go_ret
  exact ⟨rfl, HBB.out⟩

set_option maxRecDepth 10000 in
theorem gZero_b (M : Nat) (b : Bool) (hz : ∀ W, (binOp .eql 76 (.agg #[.int .u64 (dig M 0 : Int), .int .u64 (dig M 1 : Int), .int .u64 (dig M 2 : Int), .int .u64 (dig M 3 : Int)]) (.agg #[.int .u64 0, .int .u64 0, .int .u64 0, .int .u64 0])).run Try.prog W = .ok (.bool b) W) (w : World) :
    Calls Try.prog 89 #[limbV M] w fun e w' => e = .returned (.bool b) ∧ Below w.heap.size w w' := by
  unfold limbV
  have HZ := Lib.hid hz
  clear hz
  go_enter Try.func89, Try.ntmps89
  go_upto_region 1 with (fail)
  go_wp2_with (refine wpList_value _ rfl .eql _ _ 76 _ rfl _ _ (.bool b) rfl rfl ?g ?b ?_; exact guardLimbs _ _ _ _ _ _; exact HZ.out _; skip)
  go_ret
  exact ⟨rfl, (Below.refl _ _).alloc (Nat.le_refl _) _⟩

theorem gZero_any (G : GP) (ok : G.Ok) (x : Nat) (w : World) :
    Calls Try.prog 89 #[scV G x] w fun e w' => e = .returned (.bool (decide (x % G.q.m = 0))) ∧ Below w.heap.size w w' := by
  refine gZero_b _ _ (fun W => binLimbs (eqZero (mont G.q.m x) (ok.q.mont x) W _ ?_)) w
  refine decide_eq_decide.2 ?_
  rw [← mont_mod]
  exact (mont_eq_zero ok.q.low (Nat.mod_lt _ ok.q.pos)).symm

end Go.Proofs.Ytdmldnpadojflaa
