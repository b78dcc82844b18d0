/- Texts of this seat, one behind the other: what BallotHides leans on. No condition beyond those that each names. -/
import Derived.Test.YtipgjookfdkciaaZBallotHides6
import Derived.Test.YtipgjookfdkciaaRows
import Derived.ProofKit
import Derived.SizedLaws
import Derived.Lib.SmallJoins
import Derived.Deep.Slices
import Derived.Deep.Fields

/- The document's ciphers. No condition. -/
namespace Go.Proofs.Ytipgjookfdkciaa
open Go.RowKit

section
variable {G : GP} {aq ap : Option Addr} {cq cp : Nat}


set_option maxRecDepth 100000 in
set_option maxHeartbeats 1000000 in
theorem rRaise (ok : G.Ok) {n : Nat} {an : Option Addr} {cn : Nat} (hn : dl n ≤ 65536) (w : World) (hG : RG w G aq ap) (hN : NumAt w an n) :
    Calls Try.prog 146 #[.agg #[.int .i64 (G.size : Int), .slice aq (dl G.q.m) cq, .slice ap (dl G.p.m) cp], .slice an (dl n) cn] w fun e w' => NumR w e w' (lowN G (2 ^ n)) := by
  have OK := Lib.hid ok
  have HG := Lib.hid hG
  have HN := Lib.hid hN
  clear ok hG hN
  go_enter Try.func146, Try.ntmps146
  go_wp2_with fail
  have hb9 : Below w.heap.size w (w.alloc (Obj.cells #[.int .i64 (G.size : Int), .slice aq (dl G.q.m) cq, .slice ap (dl G.p.m) cp] 98)) := ((Below.refl _ _).alloc (Nat.le_refl _) _)
  have hx90 : Bx (w.alloc (Obj.cells #[.int .i64 (G.size : Int), .slice aq (dl G.q.m) cq, .slice ap (dl G.p.m) cp] 98)) (w.heap.size) 98 [.int .i64 (G.size : Int), .slice aq (dl G.q.m) cq, .slice ap (dl G.p.m) cp] := by
    have h := (Bx.new w 98 [.int .i64 (G.size : Int), .slice aq (dl G.q.m) cq, .slice ap (dl G.p.m) cp] _ rfl)
    exact h
  have hz9 : (w.alloc (Obj.cells #[.int .i64 (G.size : Int), .slice aq (dl G.q.m) cq, .slice ap (dl G.p.m) cp] 98)).heap.size = w.heap.size + 1 := by simp
  obtain ⟨w1, hq1⟩ : ∃ W9 : World, (w.alloc (Obj.cells #[.int .i64 (G.size : Int), .slice aq (dl G.q.m) cq, .slice ap (dl G.p.m) cp] 98)) = W9 := ⟨_, rfl⟩
  rw [hq1] at hb9 hz9 hx90
  rw [hq1]
  clear hq1
  have HB := Lib.hid hb9
  have Hs1 := Lib.hid hz9
  have Hbg := Lib.hid hx90
  clear hb9 hz9 hx90
  have bg_0 := Hbg.out.cell (i := 0) rfl
  have bg_1 := Hbg.out.cell (i := 1) rfl
  have bg_2 := Hbg.out.cell (i := 2) rfl
  go_wp2_with fail
  have HT := Lib.hid (show Below w1.heap.size w1 w1.drew from (Below.refl _ _).drew)
  have hl_bg := Hbg.out.lt
  refine wp_region_tree (fun w9 => ∃ E : Over w1, w9 = E.w) ((.qs [0, 2] (.a 1 (.a 3 (.qs [4] .done))))) (by kernel_rfl) (by kernel_rfl) (fun _ _ d _ _ h => by cases d <;> exact h) ⟨⟨_, HT.out⟩, rfl⟩ ?_
  have hov_bg := fun (E : Over w1) o => E.cell (b := w.heap.size) o hl_bg
  simp only [Tree.qs]
  repeat (refine tree_q rfl rfl ?_; go_big_quiet_step (fail); refine wpQuiet_nil ?_)
  refine tree_a rfl (fun K hK => ?_)
  go_simp
  refine (refOf_any 2 (by omega) _).mono ?_
  rintro e w2 ⟨a4, c4, rfl, hn9, hb9⟩
  replace HT := Lib.hid (below_up HT.out hb9)
  have Hs2 := Lib.hid (show w1.heap.size ≤ w2.heap.size from HT.out.size)
  clear hb9
  have HN4 := Lib.hid hn9
  clear hn9
  refine hK _ _ ⟨⟨⟨w2, HT.out⟩, rfl⟩, ?_⟩
  clear hK K
  repeat (refine tree_q rfl rfl ?_; go_big_quiet_step (fail); refine wpQuiet_nil ?_)
  refine tree_a rfl (fun K hK => ?_)
  go_simp
  refine (rPow OK.out (by decide) hn _ (HG.out.up (below_up HB.out HT.out)) HN4.out (HN.out.up (below_up HB.out HT.out))).mono ?_
  rintro e w3 ⟨a5, c5, rfl, hn9, hb9⟩
  replace HN4 := Lib.hid (HN4.out.up hb9)
  replace HT := Lib.hid (below_up HT.out hb9)
  have Hs3 := Lib.hid (show w1.heap.size ≤ w3.heap.size from HT.out.size)
  clear hb9
  have HN5 := Lib.hid hn9
  clear hn9
  refine hK _ _ ⟨⟨⟨w3, HT.out⟩, rfl⟩, ?_⟩
  clear hK K
  repeat (refine tree_q rfl rfl ?_; go_big_quiet_step (fail); refine wpQuiet_nil ?_)
  refine tree_end ?_
  clear hov_bg hl_bg
  clear bg_0 bg_1 bg_2
  replace Hbg := Lib.hid (Hbg.out.up HT.out)
  replace HB := Lib.hid (below_up HB.out HT.out)
  have Hs3 := Lib.hid (show w1.heap.size ≤ w3.heap.size from HT.out.size)
  clear HT
  have bg_0 := Hbg.out.cell (i := 0) rfl
  have bg_1 := Hbg.out.cell (i := 1) rfl
  have bg_2 := Hbg.out.cell (i := 2) rfl
  go_wp2_with fail
  go_ret
  exact ⟨a5, c5, rfl, HN5.out, HB.out⟩

theorem rProd2 (ok : G.Ok) {x y : Nat} {aa ab : Option Addr} {ca cb : Nat} (w : World) (hG : RG w G aq ap) (hA : NumAt w aa (lowN G x)) (hB : NumAt w ab (lowN G y)) :
    Calls Try.prog 110 #[.agg #[.int .i64 (G.size : Int), .slice aq (dl G.q.m) cq, .slice ap (dl G.p.m) cp], .slice aa (dl (lowN G x)) ca, .slice ab (dl (lowN G y)) cb] w fun e w' => NumR w e w' (lowN G (x * y)) := by
  have h := rProd (cq := cq) (cp := cp) (ca := ca) (cb := cb) ok (lowN_16 ok x) (lowN_16 ok y) w hG hA hB
  rwa [lowN_mul ok] at h
theorem rProdR (ok : G.Ok) {x y : Nat} (hx : x < DD ^ 16) {aa ab : Option Addr} {ca cb : Nat} (w : World) (hG : RG w G aq ap) (hA : NumAt w aa x) (hB : NumAt w ab (lowN G y)) :
    Calls Try.prog 110 #[.agg #[.int .i64 (G.size : Int), .slice aq (dl G.q.m) cq, .slice ap (dl G.p.m) cp], .slice aa (dl x) ca, .slice ab (dl (lowN G y)) cb] w fun e w' => NumR w e w' (lowN G (x * y)) := by
  have h := rProd (cq := cq) (cp := cp) (ca := ca) (cb := cb) ok hx (lowN_16 ok y) w hG hA hB
  rwa [lowN_mulR ok] at h
theorem rUnder2 (ok : G.Ok) {x : Nat} {aa : Option Addr} {ca : Nat} (w : World) (hG : RG w G aq ap) (hA : NumAt w aa (lowN G x)) :
    Calls Try.prog 148 #[.agg #[.int .i64 (G.size : Int), .slice aq (dl G.q.m) cq, .slice ap (dl G.p.m) cp], .slice aa (dl (lowN G x)) ca] w fun e w' => NumR w e w' (lowN G (x ^ (G.q.m - 1))) := by
  have h := rUnder (cq := cq) (cp := cp) (ca := ca) ok (lowN_16 ok x) w hG hA
  rwa [lowN_pow ok] at h
theorem rText2 (ok : G.Ok) {x : Nat} {an : Option Addr} {cn : Nat} (w : World) (hN : NumAt w an (lowN G x)) :
    Calls Try.prog 70 #[.slice an (dl (lowN G x)) cn, .int .i64 (G.size : Int)] w fun e w' => e = .returned (.string (textS (lowN G x) G.size)) ∧ Below w.heap.size w w' :=
  rText ok (lowN_16 ok x) w hN
theorem isEl_size {q n : Nat} {s : ByteArray} (h : isEl q n s = true) : s.size = n := by
  unfold isEl at h
  simp only [Bool.and_eq_true, decide_eq_true_eq] at h
  exact h.1.1
theorem isSc_size {q n : Nat} {s : ByteArray} (h : isSc q n s = true) : s.size = n := by
  unfold isSc at h
  simp only [Bool.and_eq_true, decide_eq_true_eq] at h
  exact h.1

set_option maxRecDepth 100000 in
set_option maxHeartbeats 1000000 in
theorem rHide (ok : G.Ok) (key : ByteArray) (hk : key.size ≤ 32) {x n : Nat} {ax an : Option Addr} {cx cn : Nat} (hx : dl x ≤ 65536) (hn : dl n ≤ 65536) (w : World) (hG : RG w G aq ap) (hX : NumAt w ax x) (hN : NumAt w an n) :
    Calls Try.prog 80 #[.agg #[.int .i64 (G.size : Int), .slice aq (dl G.q.m) cq, .slice ap (dl G.p.m) cp], .string key, .slice ax (dl x) cx, .slice an (dl n) cn] w (Gives (ciphV (textS (lowN G (2 ^ n)) G.size) (textS (lowN G (2 ^ x * numOf key ^ n)) G.size)) w) := by
  have OK := Lib.hid ok
  have HG := Lib.hid hG
  have HX := Lib.hid hX
  have HN := Lib.hid hN
  clear ok hG hN hX
  unfold Gives ciphV
  go_enter Try.func80, Try.ntmps80
  go_wp2_with fail
  have hb9 : Below w.heap.size w ((w.alloc (Obj.cells #[.int .i64 (G.size : Int), .slice aq (dl G.q.m) cq, .slice ap (dl G.p.m) cp] 98)).alloc (Obj.cells #[.string ⟨#[]⟩, .string ⟨#[]⟩] 41)) := (((Below.refl _ _).alloc (Nat.le_refl _) _).alloc (by simp) _)
  have hx90 : Bx ((w.alloc (Obj.cells #[.int .i64 (G.size : Int), .slice aq (dl G.q.m) cq, .slice ap (dl G.p.m) cp] 98)).alloc (Obj.cells #[.string ⟨#[]⟩, .string ⟨#[]⟩] 41)) (w.heap.size) 98 [.int .i64 (G.size : Int), .slice aq (dl G.q.m) cq, .slice ap (dl G.p.m) cp] := by
    have h := ((Bx.new w 98 [.int .i64 (G.size : Int), .slice aq (dl G.q.m) cq, .slice ap (dl G.p.m) cp] _ rfl).alloc (Obj.cells #[.string ⟨#[]⟩, .string ⟨#[]⟩] 41))
    exact h
  have hx91 : Bx ((w.alloc (Obj.cells #[.int .i64 (G.size : Int), .slice aq (dl G.q.m) cq, .slice ap (dl G.p.m) cp] 98)).alloc (Obj.cells #[.string ⟨#[]⟩, .string ⟨#[]⟩] 41)) (w.heap.size + 1) 41 [.string ⟨#[]⟩, .string ⟨#[]⟩] := by
    have h := (Bx.new (w.alloc (Obj.cells #[.int .i64 (G.size : Int), .slice aq (dl G.q.m) cq, .slice ap (dl G.p.m) cp] 98)) 41 [.string ⟨#[]⟩, .string ⟨#[]⟩] _ rfl)
    rw [World.size_alloc] at h
    exact h
  have hz9 : ((w.alloc (Obj.cells #[.int .i64 (G.size : Int), .slice aq (dl G.q.m) cq, .slice ap (dl G.p.m) cp] 98)).alloc (Obj.cells #[.string ⟨#[]⟩, .string ⟨#[]⟩] 41)).heap.size = w.heap.size + 2 := by simp
  obtain ⟨w1, hq1⟩ : ∃ W9 : World, ((w.alloc (Obj.cells #[.int .i64 (G.size : Int), .slice aq (dl G.q.m) cq, .slice ap (dl G.p.m) cp] 98)).alloc (Obj.cells #[.string ⟨#[]⟩, .string ⟨#[]⟩] 41)) = W9 := ⟨_, rfl⟩
  rw [hq1] at hb9 hz9 hx90 hx91
  rw [hq1]
  clear hq1
  have HB := Lib.hid hb9
  have Hs1 := Lib.hid hz9
  have Hbg := Lib.hid hx90
  have Hbc := Lib.hid hx91
  clear hb9 hz9 hx90 hx91
  have bg_0 := Hbg.out.cell (i := 0) rfl
  have bg_1 := Hbg.out.cell (i := 1) rfl
  have bg_2 := Hbg.out.cell (i := 2) rfl
  have bc_0 := Hbc.out.cell (i := 0) rfl
  have bc_1 := Hbc.out.cell (i := 1) rfl
  go_wp2_with fail
  have HT := Lib.hid (show Below w1.heap.size w1 w1.drew from (Below.refl _ _).drew)
  have hl_bg := Hbg.out.lt
  have hl_bc := Hbc.out.lt
  refine wp_region_tree (fun w9 => ∃ E : Over w1, w9 = E.w) ((.qs [0, 1, 2, 4, 5, 7] (.a 3 (.a 6 (.a 8 (.a 9 (.qs [10] .done))))))) (by kernel_rfl) (by kernel_rfl) (fun _ _ d _ _ h => by cases d <;> exact h) ⟨⟨_, HT.out⟩, rfl⟩ ?_
  have hov_bg := fun (E : Over w1) o => E.cell (b := w.heap.size) o hl_bg
  have hov_bc := fun (E : Over w1) o => E.cell (b := w.heap.size + 1) o hl_bc
  simp only [Tree.qs]
  repeat (refine tree_q rfl rfl ?_; go_big_quiet_step (fail); refine wpQuiet_nil ?_)
  refine tree_a rfl (fun K hK => ?_)
  go_simp
  refine (rRaise OK.out hx _ (HG.out.up (below_up HB.out HT.out)) (HX.out.up (below_up HB.out HT.out))).mono ?_
  rintro e w2 ⟨a4, c4, rfl, hn9, hb9⟩
  replace HT := Lib.hid (below_up HT.out hb9)
  have Hs2 := Lib.hid (show w1.heap.size ≤ w2.heap.size from HT.out.size)
  clear hb9
  have HN4 := Lib.hid hn9
  clear hn9
  refine hK _ _ ⟨⟨⟨w2, HT.out⟩, rfl⟩, ?_⟩
  clear hK K
  repeat (refine tree_q rfl rfl ?_; go_big_quiet_step (fail); refine wpQuiet_nil ?_)
  refine tree_a rfl (fun K hK => ?_)
  go_simp
  refine (refRead_any key (by omega) _).mono ?_
  rintro e w3 ⟨a5, c5, rfl, hn9, hb9⟩
  replace HN4 := Lib.hid (HN4.out.up hb9)
  replace HT := Lib.hid (below_up HT.out hb9)
  have Hs3 := Lib.hid (show w1.heap.size ≤ w3.heap.size from HT.out.size)
  clear hb9
  have HN5 := Lib.hid hn9
  clear hn9
  refine hK _ _ ⟨⟨⟨w3, HT.out⟩, rfl⟩, ?_⟩
  clear hK K
  repeat (refine tree_q rfl rfl ?_; go_big_quiet_step (fail); refine wpQuiet_nil ?_)
  refine tree_a rfl (fun K hK => ?_)
  go_simp
  refine (rPow OK.out (numOf_16 key hk) hn _ (HG.out.up (below_up HB.out HT.out)) HN5.out (HN.out.up (below_up HB.out HT.out))).mono ?_
  rintro e w4 ⟨a6, c6, rfl, hn9, hb9⟩
  replace HN4 := Lib.hid (HN4.out.up hb9)
  replace HN5 := Lib.hid (HN5.out.up hb9)
  replace HT := Lib.hid (below_up HT.out hb9)
  have Hs4 := Lib.hid (show w1.heap.size ≤ w4.heap.size from HT.out.size)
  clear hb9
  have HN6 := Lib.hid hn9
  clear hn9
  refine hK _ _ ⟨⟨⟨w4, HT.out⟩, rfl⟩, ?_⟩
  clear hK K
  repeat (refine tree_q rfl rfl ?_; go_big_quiet_step (fail); refine wpQuiet_nil ?_)
  refine tree_a rfl (fun K hK => ?_)
  go_simp
  refine (rProd2 OK.out _ (HG.out.up (below_up HB.out HT.out)) HN4.out HN6.out).mono ?_
  rintro e w5 ⟨a7, c7, rfl, hn9, hb9⟩
  replace HN4 := Lib.hid (HN4.out.up hb9)
  replace HN5 := Lib.hid (HN5.out.up hb9)
  replace HN6 := Lib.hid (HN6.out.up hb9)
  replace HT := Lib.hid (below_up HT.out hb9)
  have Hs5 := Lib.hid (show w1.heap.size ≤ w5.heap.size from HT.out.size)
  clear hb9
  have HN7 := Lib.hid hn9
  clear hn9
  refine hK _ _ ⟨⟨⟨w5, HT.out⟩, rfl⟩, ?_⟩
  clear hK K
  repeat (refine tree_q rfl rfl ?_; go_big_quiet_step (fail); refine wpQuiet_nil ?_)
  refine tree_end ?_
  clear hov_bg hl_bg hov_bc hl_bc
  clear bg_0 bg_1 bg_2
  replace Hbg := Lib.hid (Hbg.out.up HT.out)
  clear bc_0 bc_1
  replace Hbc := Lib.hid (Hbc.out.up HT.out)
  replace HB := Lib.hid (below_up HB.out HT.out)
  have Hs5 := Lib.hid (show w1.heap.size ≤ w5.heap.size from HT.out.size)
  clear HT
  have bg_0 := Hbg.out.cell (i := 0) rfl
  have bg_1 := Hbg.out.cell (i := 1) rfl
  have bg_2 := Hbg.out.cell (i := 2) rfl
  have bc_0 := Hbc.out.cell (i := 0) rfl
  have bc_1 := Hbc.out.cell (i := 1) rfl
  go_wp2_with fail
  have HT := Lib.hid (show Below w5.heap.size w5 w5.drew from (Below.refl _ _).drew)
  have hl_bg := Hbg.out.lt
  refine wp_region_tree (fun w9 => ∃ E : But w5 (some (w.heap.size + 1)), w9 = E.w) ((.qs [0, 1, 3, 4, 6, 7, 8] (.a 2 (.a 5 (.a 9 (.qs [10] (.a 11 .done))))))) (by kernel_rfl) (by kernel_rfl) (fun _ _ d _ _ h => by cases d <;> exact h) ⟨⟨_, ((below_grown HT.out).but _)⟩, rfl⟩ ?_
  have hov_bg := fun (E : But w5 (some (w.heap.size + 1))) o => E.cell (b := w.heap.size) o hl_bg (by intro e9; have a0 := Option.some.inj e9; have g0 := Hs1.out; have g1 := Hs2.out; have g2 := Hs3.out; have g3 := Hs4.out; have g4 := Hs5.out; have g5 := Hs5.out; omega)
  simp only [Tree.qs]
  repeat (refine tree_q rfl rfl ?_; go_big_quiet_step (fail); refine wpQuiet_nil ?_)
  refine tree_a rfl (fun K hK => ?_)
  go_simp
  refine (rRaise OK.out hn _ (HG.out.up (below_up HB.out HT.out)) (HN.out.up (below_up HB.out HT.out))).mono ?_
  rintro e w6 ⟨a8, c8, rfl, hn9, hb9⟩
  replace HT := Lib.hid (below_up HT.out hb9)
  have Hs6 := Lib.hid (show w5.heap.size ≤ w6.heap.size from HT.out.size)
  clear hb9
  have HN8 := Lib.hid hn9
  clear hn9
  refine hK _ _ ⟨⟨⟨w6, ((below_grown HT.out).but _)⟩, rfl⟩, ?_⟩
  clear hK K
  repeat (refine tree_q rfl rfl ?_; go_big_quiet_step (fail); refine wpQuiet_nil ?_)
  refine tree_a rfl (fun K hK => ?_)
  go_simp
  refine (rText2 OK.out _ HN8.out).mono ?_
  rintro e w7 ⟨rfl, hb9⟩
  replace HN8 := Lib.hid (HN8.out.up hb9)
  replace HT := Lib.hid (below_up HT.out hb9)
  have Hs7 := Lib.hid (show w5.heap.size ≤ w7.heap.size from HT.out.size)
  clear hb9
  refine hK _ _ ⟨⟨⟨w7, ((below_grown HT.out).but _)⟩, rfl⟩, ?_⟩
  clear hK K
  repeat (refine tree_q rfl rfl ?_; go_big_quiet_step (fail); refine wpQuiet_nil ?_)
  refine tree_a rfl (fun K hK => ?_)
  go_simp
  refine (rText2 OK.out _ (HN7.out.up HT.out)).mono ?_
  rintro e w8 ⟨rfl, hb9⟩
  replace HN8 := Lib.hid (HN8.out.up hb9)
  replace HT := Lib.hid (below_up HT.out hb9)
  have Hs8 := Lib.hid (show w5.heap.size ≤ w8.heap.size from HT.out.size)
  clear hb9
  refine hK _ _ ⟨⟨⟨w8, ((below_grown HT.out).but _)⟩, rfl⟩, ?_⟩
  clear hK K
  repeat (refine tree_q rfl rfl ?_; go_big_quiet_step (fail); refine wpQuiet_nil ?_)
  clear hov_bg hl_bg
  refine tree_a rfl (fun K hK => ?_)
  clear bg_0 bg_1 bg_2
  replace Hbg := Lib.hid (Hbg.out.up HT.out)
  clear bc_0 bc_1
  replace Hbc := Lib.hid (Hbc.out.up HT.out)
  replace HN4 := Lib.hid (HN4.out.up HT.out)
  replace HN5 := Lib.hid (HN5.out.up HT.out)
  replace HN6 := Lib.hid (HN6.out.up HT.out)
  replace HN7 := Lib.hid (HN7.out.up HT.out)
  replace HB := Lib.hid (below_up HB.out HT.out)
  have Hs8 := Lib.hid (show w5.heap.size ≤ w8.heap.size from HT.out.size)
  have bg_0 := Hbg.out.cell (i := 0) rfl
  have bg_1 := Hbg.out.cell (i := 1) rfl
  have bg_2 := Hbg.out.cell (i := 2) rfl
  have bc_0 := Hbc.out.cell (i := 0) rfl
  have bc_1 := Hbc.out.cell (i := 1) rfl
  have hgr9 : w5.grownBy ((w8.setCell ⟨w.heap.size + 1, 0, none⟩ (.string (textS (lowN G (2 ^ n)) G.size))).setCell ⟨w.heap.size + 1, 1, none⟩ (.string (textS (lowN G (2 ^ x * numOf key ^ n)) G.size))) (some (w.heap.size + 1)) := (((below_grown HT.out).but (some (w.heap.size + 1))).trans (grown_set w8 (w.heap.size + 1) 0 (.string (textS (lowN G (2 ^ n)) G.size)))).trans (grown_set (w8.setCell ⟨w.heap.size + 1, 0, none⟩ (.string (textS (lowN G (2 ^ n)) G.size))) (w.heap.size + 1) 1 (.string (textS (lowN G (2 ^ x * numOf key ^ n)) G.size)))
  have HGR := Lib.hid hgr9
  clear hgr9 HT
  clear HN8
  have f9_bc_0 := Hbc.out.frozen 0
  have f9_bc_1 := Hbc.out.frozen 1
  have o9_bg_0 := bg_0; clear bg_0
  have o9_bg_1 := bg_1; clear bg_1
  have o9_bg_2 := bg_2; clear bg_2
  have o9_bc_0 := bc_0; clear bc_0
  have o9_bc_1 := bc_1; clear bc_1
  have hx9 : Bx ((w8.setCell ⟨w.heap.size + 1, 0, none⟩ (.string (textS (lowN G (2 ^ n)) G.size))).setCell ⟨w.heap.size + 1, 1, none⟩ (.string (textS (lowN G (2 ^ x * numOf key ^ n)) G.size))) (w.heap.size + 1) 41 [.string (textS (lowN G (2 ^ n)) G.size), .string (textS (lowN G (2 ^ x * numOf key ^ n)) G.size)] := ((Hbc.out.set 0 (.string (textS (lowN G (2 ^ n)) G.size))).set 1 (.string (textS (lowN G (2 ^ x * numOf key ^ n)) G.size)))
  have hb9 : Below w.heap.size w ((w8.setCell ⟨w.heap.size + 1, 0, none⟩ (.string (textS (lowN G (2 ^ n)) G.size))).setCell ⟨w.heap.size + 1, 1, none⟩ (.string (textS (lowN G (2 ^ x * numOf key ^ n)) G.size))) := ((HB.out.setCell (show w.heap.size ≤ w.heap.size + 1 by have g0 := Hs1.out; have g1 := Hs2.out; have g2 := Hs3.out; have g3 := Hs4.out; have g4 := Hs5.out; have g5 := Hs5.out; have g6 := Hs6.out; have g7 := Hs7.out; have g8 := Hs8.out; have g9 := Hs8.out; omega) _).setCell (show w.heap.size ≤ w.heap.size + 1 by have g0 := Hs1.out; have g1 := Hs2.out; have g2 := Hs3.out; have g3 := Hs4.out; have g4 := Hs5.out; have g5 := Hs5.out; have g6 := Hs6.out; have g7 := Hs7.out; have g8 := Hs8.out; have g9 := Hs8.out; omega) _)
  have hz9 : ((w8.setCell ⟨w.heap.size + 1, 0, none⟩ (.string (textS (lowN G (2 ^ n)) G.size))).setCell ⟨w.heap.size + 1, 1, none⟩ (.string (textS (lowN G (2 ^ x * numOf key ^ n)) G.size))).heap.size = w8.heap.size := by simp [World.setCell]
  have ho9Hbg := ((Hbg.out.other (show _ ≠ w.heap.size + 1 by have g0 := Hs1.out; have g1 := Hs2.out; have g2 := Hs3.out; have g3 := Hs4.out; have g4 := Hs5.out; have g5 := Hs5.out; have g6 := Hs6.out; have g7 := Hs7.out; have g8 := Hs8.out; have g9 := Hs8.out; omega) 0 (.string (textS (lowN G (2 ^ n)) G.size))).other (show _ ≠ w.heap.size + 1 by have g0 := Hs1.out; have g1 := Hs2.out; have g2 := Hs3.out; have g3 := Hs4.out; have g4 := Hs5.out; have g5 := Hs5.out; have g6 := Hs6.out; have g7 := Hs7.out; have g8 := Hs8.out; have g9 := Hs8.out; omega) 1 (.string (textS (lowN G (2 ^ x * numOf key ^ n)) G.size)))
  clear HN4 HN5 HN6 HN7
  obtain ⟨w9, hq9⟩ : ∃ W9 : World, ((w8.setCell ⟨w.heap.size + 1, 0, none⟩ (.string (textS (lowN G (2 ^ n)) G.size))).setCell ⟨w.heap.size + 1, 1, none⟩ (.string (textS (lowN G (2 ^ x * numOf key ^ n)) G.size))) = W9 := ⟨_, rfl⟩
  rw [hq9] at hx9 hb9 hz9 ho9Hbg
  clear Hbc HB
  have Hbc := Lib.hid hx9
  have HB := Lib.hid hb9
  have Hs9 := Lib.hid hz9
  replace Hbg := Lib.hid ho9Hbg
  clear hx9 hb9 hz9 ho9Hbg
  have bg_0 := Hbg.out.cell (i := 0) rfl
  have bg_1 := Hbg.out.cell (i := 1) rfl
  have bg_2 := Hbg.out.cell (i := 2) rfl
  have bc_0 := Hbc.out.cell (i := 0) rfl
  have bc_1 := Hbc.out.cell (i := 1) rfl
  replace HGR := Lib.hid (by have h9 := HGR.out; rw [hq9] at h9; exact h9)
  go_simp
  try rw [hq9]
  refine hK _ _ ⟨⟨⟨w9, HGR.out⟩, rfl⟩, ?_⟩
  clear hK K HGR
  clear hq9 o9_bc_1 o9_bc_0 o9_bg_2 o9_bg_1 o9_bg_0 f9_bc_1 f9_bc_0
  repeat (refine tree_q rfl rfl ?_; go_big_quiet_step (fail); refine wpQuiet_nil ?_)
  refine tree_end ?_
  go_wp2_with fail
  simp [bodyPost, results, Try.results80, go_sem, bc_0, bc_1]
  exact HB.out

set_option maxRecDepth 100000 in
set_option maxHeartbeats 1000000 in
theorem rElems (ok : G.Ok) (c : ByteArray × ByteArray) (w : World) (hG : RG w G aq ap) :
    Calls Try.prog 84 #[.agg #[.int .i64 (G.size : Int), .slice aq (dl G.q.m) cq, .slice ap (dl G.p.m) cp], ciphV c.1 c.2] w (Gives (.bool (cipOk G c)) w) := by
  obtain ⟨ba, hba⟩ : ∃ x, isEl G.q.m G.size c.1 = x := ⟨_, rfl⟩
  obtain ⟨bb, hbb⟩ : ∃ x, isEl G.q.m G.size c.2 = x := ⟨_, rfl⟩
  have hea := fun W h => rIsEl (cq := cq) (cp := cp) (aq := aq) (ap := ap) (G := G) ok c.1 W h
  have heb := fun W h => rIsEl (cq := cq) (cp := cp) (aq := aq) (ap := ap) (G := G) ok c.2 W h
  rw [hba] at hea
  rw [hbb] at heb
  have HG := Lib.hid hG
  have HEA := Lib.hid hea
  have HEB := Lib.hid heb
  have HR : Hid (cipOk G c = (ba && bb)) := by show _ = _; unfold cipOk; rw [hba, hbb]
  clear hba hbb hea heb hG ok
  rw [HR.out]
  clear HR
  unfold Gives ciphV
  go_enter Try.func84, Try.ntmps84
  go_wp2_with fail
  have hb9 : Below w.heap.size w ((w.alloc (Obj.cells #[.int .i64 (G.size : Int), .slice aq (dl G.q.m) cq, .slice ap (dl G.p.m) cp] 98)).alloc (Obj.cells #[.string c.1, .string c.2] 41)) := (((Below.refl _ _).alloc (Nat.le_refl _) _).alloc (by simp) _)
  have hx90 : Bx ((w.alloc (Obj.cells #[.int .i64 (G.size : Int), .slice aq (dl G.q.m) cq, .slice ap (dl G.p.m) cp] 98)).alloc (Obj.cells #[.string c.1, .string c.2] 41)) (w.heap.size) 98 [.int .i64 (G.size : Int), .slice aq (dl G.q.m) cq, .slice ap (dl G.p.m) cp] := by
    have h := ((Bx.new w 98 [.int .i64 (G.size : Int), .slice aq (dl G.q.m) cq, .slice ap (dl G.p.m) cp] _ rfl).alloc (Obj.cells #[.string c.1, .string c.2] 41))
    exact h
  have hx91 : Bx ((w.alloc (Obj.cells #[.int .i64 (G.size : Int), .slice aq (dl G.q.m) cq, .slice ap (dl G.p.m) cp] 98)).alloc (Obj.cells #[.string c.1, .string c.2] 41)) (w.heap.size + 1) 41 [.string c.1, .string c.2] := by
    have h := (Bx.new (w.alloc (Obj.cells #[.int .i64 (G.size : Int), .slice aq (dl G.q.m) cq, .slice ap (dl G.p.m) cp] 98)) 41 [.string c.1, .string c.2] _ rfl)
    rw [World.size_alloc] at h
    exact h
  have hz9 : ((w.alloc (Obj.cells #[.int .i64 (G.size : Int), .slice aq (dl G.q.m) cq, .slice ap (dl G.p.m) cp] 98)).alloc (Obj.cells #[.string c.1, .string c.2] 41)).heap.size = w.heap.size + 2 := by simp
  obtain ⟨w1, hq1⟩ : ∃ W9 : World, ((w.alloc (Obj.cells #[.int .i64 (G.size : Int), .slice aq (dl G.q.m) cq, .slice ap (dl G.p.m) cp] 98)).alloc (Obj.cells #[.string c.1, .string c.2] 41)) = W9 := ⟨_, rfl⟩
  rw [hq1] at hb9 hz9 hx90 hx91
  rw [hq1]
  clear hq1
  have HB := Lib.hid hb9
  have Hs1 := Lib.hid hz9
  have Hbg := Lib.hid hx90
  have Hbc := Lib.hid hx91
  clear hb9 hz9 hx90 hx91
  have bg_0 := Hbg.out.cell (i := 0) rfl
  have bg_1 := Hbg.out.cell (i := 1) rfl
  have bg_2 := Hbg.out.cell (i := 2) rfl
  have bc_0 := Hbc.out.cell (i := 0) rfl
  have bc_1 := Hbc.out.cell (i := 1) rfl
  go_wp2_with fail
  refine (HEA.out w1 (HG.out.up HB.out)).mono ?_
  rintro e w2 ⟨rfl, hb9⟩
  clear bg_0 bg_1 bg_2
  replace Hbg := Lib.hid (Hbg.out.up hb9)
  clear bc_0 bc_1
  replace Hbc := Lib.hid (Hbc.out.up hb9)
  replace HB := Lib.hid (below_up HB.out hb9)
  have Hs2 := Lib.hid (show w1.heap.size ≤ w2.heap.size from hb9.size)
  clear hb9
  have bg_0 := Hbg.out.cell (i := 0) rfl
  have bg_1 := Hbg.out.cell (i := 1) rfl
  have bg_2 := Hbg.out.cell (i := 2) rfl
  have bc_0 := Hbc.out.cell (i := 0) rfl
  have bc_1 := Hbc.out.cell (i := 1) rfl
  cases ba
  · go_wp2_with fail
    go_ret
    exact ⟨rfl, HB.out⟩
  · go_wp2_with fail
    refine (HEB.out w2 (HG.out.up HB.out)).mono ?_
    rintro e w3 ⟨rfl, hb9⟩
    clear bg_0 bg_1 bg_2
    replace Hbg := Lib.hid (Hbg.out.up hb9)
    clear bc_0 bc_1
    replace Hbc := Lib.hid (Hbc.out.up hb9)
    replace HB := Lib.hid (below_up HB.out hb9)
    have Hs3 := Lib.hid (show w2.heap.size ≤ w3.heap.size from hb9.size)
    clear hb9
    have bg_0 := Hbg.out.cell (i := 0) rfl
    have bg_1 := Hbg.out.cell (i := 1) rfl
    have bg_2 := Hbg.out.cell (i := 2) rfl
    have bc_0 := Hbc.out.cell (i := 0) rfl
    have bc_1 := Hbc.out.cell (i := 1) rfl
    go_wp2_with fail
    go_ret
    exact ⟨rfl, HB.out⟩

set_option maxRecDepth 100000 in
set_option maxHeartbeats 1000000 in
theorem rBoth (ok : G.Ok) (a b : ByteArray × ByteArray) (h1 : a.1.size ≤ 32) (h2 : a.2.size ≤ 32) (h3 : b.1.size ≤ 32) (h4 : b.2.size ≤ 32) (w : World) (hG : RG w G aq ap) :
    Calls Try.prog 85 #[.agg #[.int .i64 (G.size : Int), .slice aq (dl G.q.m) cq, .slice ap (dl G.p.m) cp], ciphV a.1 a.2, ciphV b.1 b.2] w (Gives (ciphV (textS (lowN G (numOf a.1 * numOf b.1)) G.size) (textS (lowN G (numOf a.2 * numOf b.2)) G.size)) w) := by
  have OK := Lib.hid ok
  have HG := Lib.hid hG
  clear ok hG
  unfold Gives ciphV
  go_enter Try.func85, Try.ntmps85
  go_wp2_with fail
  have hb9 : Below w.heap.size w ((((w.alloc (Obj.cells #[.int .i64 (G.size : Int), .slice aq (dl G.q.m) cq, .slice ap (dl G.p.m) cp] 98)).alloc (Obj.cells #[.string a.1, .string a.2] 41)).alloc (Obj.cells #[.string b.1, .string b.2] 41)).alloc (Obj.cells #[.string ⟨#[]⟩, .string ⟨#[]⟩] 41)) := (((((Below.refl _ _).alloc (Nat.le_refl _) _).alloc (by simp) _).alloc (by simp; omega) _).alloc (by simp; omega) _)
  have hx90 : Bx ((((w.alloc (Obj.cells #[.int .i64 (G.size : Int), .slice aq (dl G.q.m) cq, .slice ap (dl G.p.m) cp] 98)).alloc (Obj.cells #[.string a.1, .string a.2] 41)).alloc (Obj.cells #[.string b.1, .string b.2] 41)).alloc (Obj.cells #[.string ⟨#[]⟩, .string ⟨#[]⟩] 41)) (w.heap.size) 98 [.int .i64 (G.size : Int), .slice aq (dl G.q.m) cq, .slice ap (dl G.p.m) cp] := by
    have h := ((((Bx.new w 98 [.int .i64 (G.size : Int), .slice aq (dl G.q.m) cq, .slice ap (dl G.p.m) cp] _ rfl).alloc (Obj.cells #[.string a.1, .string a.2] 41)).alloc (Obj.cells #[.string b.1, .string b.2] 41)).alloc (Obj.cells #[.string ⟨#[]⟩, .string ⟨#[]⟩] 41))
    exact h
  have hx91 : Bx ((((w.alloc (Obj.cells #[.int .i64 (G.size : Int), .slice aq (dl G.q.m) cq, .slice ap (dl G.p.m) cp] 98)).alloc (Obj.cells #[.string a.1, .string a.2] 41)).alloc (Obj.cells #[.string b.1, .string b.2] 41)).alloc (Obj.cells #[.string ⟨#[]⟩, .string ⟨#[]⟩] 41)) (w.heap.size + 1) 41 [.string a.1, .string a.2] := by
    have h := (((Bx.new (w.alloc (Obj.cells #[.int .i64 (G.size : Int), .slice aq (dl G.q.m) cq, .slice ap (dl G.p.m) cp] 98)) 41 [.string a.1, .string a.2] _ rfl).alloc (Obj.cells #[.string b.1, .string b.2] 41)).alloc (Obj.cells #[.string ⟨#[]⟩, .string ⟨#[]⟩] 41))
    rw [World.size_alloc] at h
    exact h
  have hx92 : Bx ((((w.alloc (Obj.cells #[.int .i64 (G.size : Int), .slice aq (dl G.q.m) cq, .slice ap (dl G.p.m) cp] 98)).alloc (Obj.cells #[.string a.1, .string a.2] 41)).alloc (Obj.cells #[.string b.1, .string b.2] 41)).alloc (Obj.cells #[.string ⟨#[]⟩, .string ⟨#[]⟩] 41)) (w.heap.size + 2) 41 [.string b.1, .string b.2] := by
    have h := ((Bx.new ((w.alloc (Obj.cells #[.int .i64 (G.size : Int), .slice aq (dl G.q.m) cq, .slice ap (dl G.p.m) cp] 98)).alloc (Obj.cells #[.string a.1, .string a.2] 41)) 41 [.string b.1, .string b.2] _ rfl).alloc (Obj.cells #[.string ⟨#[]⟩, .string ⟨#[]⟩] 41))
    rw [World.size_alloc, World.size_alloc] at h
    exact h
  have hx93 : Bx ((((w.alloc (Obj.cells #[.int .i64 (G.size : Int), .slice aq (dl G.q.m) cq, .slice ap (dl G.p.m) cp] 98)).alloc (Obj.cells #[.string a.1, .string a.2] 41)).alloc (Obj.cells #[.string b.1, .string b.2] 41)).alloc (Obj.cells #[.string ⟨#[]⟩, .string ⟨#[]⟩] 41)) (w.heap.size + 3) 41 [.string ⟨#[]⟩, .string ⟨#[]⟩] := by
    have h := (Bx.new (((w.alloc (Obj.cells #[.int .i64 (G.size : Int), .slice aq (dl G.q.m) cq, .slice ap (dl G.p.m) cp] 98)).alloc (Obj.cells #[.string a.1, .string a.2] 41)).alloc (Obj.cells #[.string b.1, .string b.2] 41)) 41 [.string ⟨#[]⟩, .string ⟨#[]⟩] _ rfl)
    rw [World.size_alloc, World.size_alloc, World.size_alloc] at h
    exact h
  have hz9 : ((((w.alloc (Obj.cells #[.int .i64 (G.size : Int), .slice aq (dl G.q.m) cq, .slice ap (dl G.p.m) cp] 98)).alloc (Obj.cells #[.string a.1, .string a.2] 41)).alloc (Obj.cells #[.string b.1, .string b.2] 41)).alloc (Obj.cells #[.string ⟨#[]⟩, .string ⟨#[]⟩] 41)).heap.size = w.heap.size + 4 := by simp
  obtain ⟨w1, hq1⟩ : ∃ W9 : World, ((((w.alloc (Obj.cells #[.int .i64 (G.size : Int), .slice aq (dl G.q.m) cq, .slice ap (dl G.p.m) cp] 98)).alloc (Obj.cells #[.string a.1, .string a.2] 41)).alloc (Obj.cells #[.string b.1, .string b.2] 41)).alloc (Obj.cells #[.string ⟨#[]⟩, .string ⟨#[]⟩] 41)) = W9 := ⟨_, rfl⟩
  rw [hq1] at hb9 hz9 hx90 hx91 hx92 hx93
  rw [hq1]
  clear hq1
  have HB := Lib.hid hb9
  have Hs1 := Lib.hid hz9
  have Hbg := Lib.hid hx90
  have Hba := Lib.hid hx91
  have Hbb := Lib.hid hx92
  have Hbc := Lib.hid hx93
  clear hb9 hz9 hx90 hx91 hx92 hx93
  have bg_0 := Hbg.out.cell (i := 0) rfl
  have bg_1 := Hbg.out.cell (i := 1) rfl
  have bg_2 := Hbg.out.cell (i := 2) rfl
  have ba_0 := Hba.out.cell (i := 0) rfl
  have ba_1 := Hba.out.cell (i := 1) rfl
  have bb_0 := Hbb.out.cell (i := 0) rfl
  have bb_1 := Hbb.out.cell (i := 1) rfl
  have bc_0 := Hbc.out.cell (i := 0) rfl
  have bc_1 := Hbc.out.cell (i := 1) rfl
  go_wp2_with fail
  have HT := Lib.hid (show Below w1.heap.size w1 w1.drew from (Below.refl _ _).drew)
  have hl_bg := Hbg.out.lt
  have hl_ba := Hba.out.lt
  have hl_bb := Hbb.out.lt
  refine wp_region_tree (fun w9 => ∃ E : But w1 (some (w.heap.size + 3)), w9 = E.w) ((.qs [0, 1, 2, 4, 5, 8, 9, 11, 12, 13, 15, 16, 19, 20] (.a 3 (.a 6 (.a 7 (.a 10 (.a 14 (.a 17 (.a 18 (.a 21 (.qs [22] (.a 23 .done)))))))))))) (by kernel_rfl) (by kernel_rfl) (fun _ _ d _ _ h => by cases d <;> exact h) ⟨⟨_, ((below_grown HT.out).but _)⟩, rfl⟩ ?_
  have hov_bg := fun (E : But w1 (some (w.heap.size + 3))) o => E.cell (b := w.heap.size) o hl_bg (by intro e9; have a0 := Option.some.inj e9; have g0 := Hs1.out; omega)
  have hov_ba := fun (E : But w1 (some (w.heap.size + 3))) o => E.cell (b := w.heap.size + 1) o hl_ba (by intro e9; have a0 := Option.some.inj e9; have g0 := Hs1.out; omega)
  have hov_bb := fun (E : But w1 (some (w.heap.size + 3))) o => E.cell (b := w.heap.size + 2) o hl_bb (by intro e9; have a0 := Option.some.inj e9; have g0 := Hs1.out; omega)
  simp only [Tree.qs]
  repeat (refine tree_q rfl rfl ?_; go_big_quiet_step (fail); refine wpQuiet_nil ?_)
  refine tree_a rfl (fun K hK => ?_)
  go_simp
  refine (refRead_any a.1 (by omega) _).mono ?_
  rintro e w2 ⟨a4, c4, rfl, hn9, hb9⟩
  replace HT := Lib.hid (below_up HT.out hb9)
  have Hs2 := Lib.hid (show w1.heap.size ≤ w2.heap.size from HT.out.size)
  clear hb9
  have HN4 := Lib.hid hn9
  clear hn9
  refine hK _ _ ⟨⟨⟨w2, ((below_grown HT.out).but _)⟩, rfl⟩, ?_⟩
  clear hK K
  repeat (refine tree_q rfl rfl ?_; go_big_quiet_step (fail); refine wpQuiet_nil ?_)
  refine tree_a rfl (fun K hK => ?_)
  go_simp
  refine (refRead_any b.1 (by omega) _).mono ?_
  rintro e w3 ⟨a5, c5, rfl, hn9, hb9⟩
  replace HN4 := Lib.hid (HN4.out.up hb9)
  replace HT := Lib.hid (below_up HT.out hb9)
  have Hs3 := Lib.hid (show w1.heap.size ≤ w3.heap.size from HT.out.size)
  clear hb9
  have HN5 := Lib.hid hn9
  clear hn9
  refine hK _ _ ⟨⟨⟨w3, ((below_grown HT.out).but _)⟩, rfl⟩, ?_⟩
  clear hK K
  repeat (refine tree_q rfl rfl ?_; go_big_quiet_step (fail); refine wpQuiet_nil ?_)
  refine tree_a rfl (fun K hK => ?_)
  go_simp
  refine (rProd OK.out (numOf_16 a.1 h1) (numOf_16 b.1 h3) _ (HG.out.up (below_up HB.out HT.out)) HN4.out HN5.out).mono ?_
  rintro e w4 ⟨a6, c6, rfl, hn9, hb9⟩
  replace HN4 := Lib.hid (HN4.out.up hb9)
  replace HN5 := Lib.hid (HN5.out.up hb9)
  replace HT := Lib.hid (below_up HT.out hb9)
  have Hs4 := Lib.hid (show w1.heap.size ≤ w4.heap.size from HT.out.size)
  clear hb9
  have HN6 := Lib.hid hn9
  clear hn9
  refine hK _ _ ⟨⟨⟨w4, ((below_grown HT.out).but _)⟩, rfl⟩, ?_⟩
  clear hK K
  repeat (refine tree_q rfl rfl ?_; go_big_quiet_step (fail); refine wpQuiet_nil ?_)
  refine tree_a rfl (fun K hK => ?_)
  go_simp
  refine (rText2 OK.out _ HN6.out).mono ?_
  rintro e w5 ⟨rfl, hb9⟩
  replace HN4 := Lib.hid (HN4.out.up hb9)
  replace HN5 := Lib.hid (HN5.out.up hb9)
  replace HN6 := Lib.hid (HN6.out.up hb9)
  replace HT := Lib.hid (below_up HT.out hb9)
  have Hs5 := Lib.hid (show w1.heap.size ≤ w5.heap.size from HT.out.size)
  clear hb9
  refine hK _ _ ⟨⟨⟨w5, ((below_grown HT.out).but _)⟩, rfl⟩, ?_⟩
  clear hK K
  repeat (refine tree_q rfl rfl ?_; go_big_quiet_step (fail); refine wpQuiet_nil ?_)
  refine tree_a rfl (fun K hK => ?_)
  go_simp
  refine (refRead_any a.2 (by omega) _).mono ?_
  rintro e w6 ⟨a7, c7, rfl, hn9, hb9⟩
  replace HN4 := Lib.hid (HN4.out.up hb9)
  replace HN5 := Lib.hid (HN5.out.up hb9)
  replace HN6 := Lib.hid (HN6.out.up hb9)
  replace HT := Lib.hid (below_up HT.out hb9)
  have Hs6 := Lib.hid (show w1.heap.size ≤ w6.heap.size from HT.out.size)
  clear hb9
  have HN7 := Lib.hid hn9
  clear hn9
  refine hK _ _ ⟨⟨⟨w6, ((below_grown HT.out).but _)⟩, rfl⟩, ?_⟩
  clear hK K
  repeat (refine tree_q rfl rfl ?_; go_big_quiet_step (fail); refine wpQuiet_nil ?_)
  refine tree_a rfl (fun K hK => ?_)
  go_simp
  refine (refRead_any b.2 (by omega) _).mono ?_
  rintro e w7 ⟨a8, c8, rfl, hn9, hb9⟩
  replace HN4 := Lib.hid (HN4.out.up hb9)
  replace HN5 := Lib.hid (HN5.out.up hb9)
  replace HN6 := Lib.hid (HN6.out.up hb9)
  replace HN7 := Lib.hid (HN7.out.up hb9)
  replace HT := Lib.hid (below_up HT.out hb9)
  have Hs7 := Lib.hid (show w1.heap.size ≤ w7.heap.size from HT.out.size)
  clear hb9
  have HN8 := Lib.hid hn9
  clear hn9
  refine hK _ _ ⟨⟨⟨w7, ((below_grown HT.out).but _)⟩, rfl⟩, ?_⟩
  clear hK K
  repeat (refine tree_q rfl rfl ?_; go_big_quiet_step (fail); refine wpQuiet_nil ?_)
  refine tree_a rfl (fun K hK => ?_)
  go_simp
  refine (rProd OK.out (numOf_16 a.2 h2) (numOf_16 b.2 h4) _ (HG.out.up (below_up HB.out HT.out)) HN7.out HN8.out).mono ?_
  rintro e w8 ⟨a9, c9, rfl, hn9, hb9⟩
  replace HN4 := Lib.hid (HN4.out.up hb9)
  replace HN5 := Lib.hid (HN5.out.up hb9)
  replace HN6 := Lib.hid (HN6.out.up hb9)
  replace HN7 := Lib.hid (HN7.out.up hb9)
  replace HN8 := Lib.hid (HN8.out.up hb9)
  replace HT := Lib.hid (below_up HT.out hb9)
  have Hs8 := Lib.hid (show w1.heap.size ≤ w8.heap.size from HT.out.size)
  clear hb9
  have HN9 := Lib.hid hn9
  clear hn9
  refine hK _ _ ⟨⟨⟨w8, ((below_grown HT.out).but _)⟩, rfl⟩, ?_⟩
  clear hK K
  repeat (refine tree_q rfl rfl ?_; go_big_quiet_step (fail); refine wpQuiet_nil ?_)
  refine tree_a rfl (fun K hK => ?_)
  go_simp
  refine (rText2 OK.out _ HN9.out).mono ?_
  rintro e w9 ⟨rfl, hb9⟩
  replace HN4 := Lib.hid (HN4.out.up hb9)
  replace HN5 := Lib.hid (HN5.out.up hb9)
  replace HN6 := Lib.hid (HN6.out.up hb9)
  replace HN7 := Lib.hid (HN7.out.up hb9)
  replace HN8 := Lib.hid (HN8.out.up hb9)
  replace HN9 := Lib.hid (HN9.out.up hb9)
  replace HT := Lib.hid (below_up HT.out hb9)
  have Hs9 := Lib.hid (show w1.heap.size ≤ w9.heap.size from HT.out.size)
  clear hb9
  refine hK _ _ ⟨⟨⟨w9, ((below_grown HT.out).but _)⟩, rfl⟩, ?_⟩
  clear hK K
  repeat (refine tree_q rfl rfl ?_; go_big_quiet_step (fail); refine wpQuiet_nil ?_)
  clear hov_bg hl_bg hov_ba hl_ba hov_bb hl_bb
  refine tree_a rfl (fun K hK => ?_)
  clear bg_0 bg_1 bg_2
  replace Hbg := Lib.hid (Hbg.out.up HT.out)
  clear ba_0 ba_1
  replace Hba := Lib.hid (Hba.out.up HT.out)
  clear bb_0 bb_1
  replace Hbb := Lib.hid (Hbb.out.up HT.out)
  clear bc_0 bc_1
  replace Hbc := Lib.hid (Hbc.out.up HT.out)
  replace HB := Lib.hid (below_up HB.out HT.out)
  have Hs9 := Lib.hid (show w1.heap.size ≤ w9.heap.size from HT.out.size)
  have bg_0 := Hbg.out.cell (i := 0) rfl
  have bg_1 := Hbg.out.cell (i := 1) rfl
  have bg_2 := Hbg.out.cell (i := 2) rfl
  have ba_0 := Hba.out.cell (i := 0) rfl
  have ba_1 := Hba.out.cell (i := 1) rfl
  have bb_0 := Hbb.out.cell (i := 0) rfl
  have bb_1 := Hbb.out.cell (i := 1) rfl
  have bc_0 := Hbc.out.cell (i := 0) rfl
  have bc_1 := Hbc.out.cell (i := 1) rfl
  have hgr9 : w1.grownBy ((w9.setCell ⟨w.heap.size + 3, 0, none⟩ (.string (textS (lowN G (numOf a.1 * numOf b.1)) G.size))).setCell ⟨w.heap.size + 3, 1, none⟩ (.string (textS (lowN G (numOf a.2 * numOf b.2)) G.size))) (some (w.heap.size + 3)) := (((below_grown HT.out).but (some (w.heap.size + 3))).trans (grown_set w9 (w.heap.size + 3) 0 (.string (textS (lowN G (numOf a.1 * numOf b.1)) G.size)))).trans (grown_set (w9.setCell ⟨w.heap.size + 3, 0, none⟩ (.string (textS (lowN G (numOf a.1 * numOf b.1)) G.size))) (w.heap.size + 3) 1 (.string (textS (lowN G (numOf a.2 * numOf b.2)) G.size)))
  have HGR := Lib.hid hgr9
  clear hgr9 HT
  clear HN4 HN5 HN6 HN7 HN8 HN9
  have f10_bc_0 := Hbc.out.frozen 0
  have f10_bc_1 := Hbc.out.frozen 1
  have o10_bg_0 := bg_0; clear bg_0
  have o10_bg_1 := bg_1; clear bg_1
  have o10_bg_2 := bg_2; clear bg_2
  have o10_ba_0 := ba_0; clear ba_0
  have o10_ba_1 := ba_1; clear ba_1
  have o10_bb_0 := bb_0; clear bb_0
  have o10_bb_1 := bb_1; clear bb_1
  have o10_bc_0 := bc_0; clear bc_0
  have o10_bc_1 := bc_1; clear bc_1
  have hx9 : Bx ((w9.setCell ⟨w.heap.size + 3, 0, none⟩ (.string (textS (lowN G (numOf a.1 * numOf b.1)) G.size))).setCell ⟨w.heap.size + 3, 1, none⟩ (.string (textS (lowN G (numOf a.2 * numOf b.2)) G.size))) (w.heap.size + 3) 41 [.string (textS (lowN G (numOf a.1 * numOf b.1)) G.size), .string (textS (lowN G (numOf a.2 * numOf b.2)) G.size)] := ((Hbc.out.set 0 (.string (textS (lowN G (numOf a.1 * numOf b.1)) G.size))).set 1 (.string (textS (lowN G (numOf a.2 * numOf b.2)) G.size)))
  have hb9 : Below w.heap.size w ((w9.setCell ⟨w.heap.size + 3, 0, none⟩ (.string (textS (lowN G (numOf a.1 * numOf b.1)) G.size))).setCell ⟨w.heap.size + 3, 1, none⟩ (.string (textS (lowN G (numOf a.2 * numOf b.2)) G.size))) := ((HB.out.setCell (show w.heap.size ≤ w.heap.size + 3 by have g0 := Hs1.out; have g1 := Hs2.out; have g2 := Hs3.out; have g3 := Hs4.out; have g4 := Hs5.out; have g5 := Hs6.out; have g6 := Hs7.out; have g7 := Hs8.out; have g8 := Hs9.out; have g9 := Hs9.out; omega) _).setCell (show w.heap.size ≤ w.heap.size + 3 by have g0 := Hs1.out; have g1 := Hs2.out; have g2 := Hs3.out; have g3 := Hs4.out; have g4 := Hs5.out; have g5 := Hs6.out; have g6 := Hs7.out; have g7 := Hs8.out; have g8 := Hs9.out; have g9 := Hs9.out; omega) _)
  have hz9 : ((w9.setCell ⟨w.heap.size + 3, 0, none⟩ (.string (textS (lowN G (numOf a.1 * numOf b.1)) G.size))).setCell ⟨w.heap.size + 3, 1, none⟩ (.string (textS (lowN G (numOf a.2 * numOf b.2)) G.size))).heap.size = w9.heap.size := by simp [World.setCell]
  have ho9Hbg := ((Hbg.out.other (show _ ≠ w.heap.size + 3 by have g0 := Hs1.out; have g1 := Hs2.out; have g2 := Hs3.out; have g3 := Hs4.out; have g4 := Hs5.out; have g5 := Hs6.out; have g6 := Hs7.out; have g7 := Hs8.out; have g8 := Hs9.out; have g9 := Hs9.out; omega) 0 (.string (textS (lowN G (numOf a.1 * numOf b.1)) G.size))).other (show _ ≠ w.heap.size + 3 by have g0 := Hs1.out; have g1 := Hs2.out; have g2 := Hs3.out; have g3 := Hs4.out; have g4 := Hs5.out; have g5 := Hs6.out; have g6 := Hs7.out; have g7 := Hs8.out; have g8 := Hs9.out; have g9 := Hs9.out; omega) 1 (.string (textS (lowN G (numOf a.2 * numOf b.2)) G.size)))
  have ho9Hba := ((Hba.out.other (show _ ≠ w.heap.size + 3 by have g0 := Hs1.out; have g1 := Hs2.out; have g2 := Hs3.out; have g3 := Hs4.out; have g4 := Hs5.out; have g5 := Hs6.out; have g6 := Hs7.out; have g7 := Hs8.out; have g8 := Hs9.out; have g9 := Hs9.out; omega) 0 (.string (textS (lowN G (numOf a.1 * numOf b.1)) G.size))).other (show _ ≠ w.heap.size + 3 by have g0 := Hs1.out; have g1 := Hs2.out; have g2 := Hs3.out; have g3 := Hs4.out; have g4 := Hs5.out; have g5 := Hs6.out; have g6 := Hs7.out; have g7 := Hs8.out; have g8 := Hs9.out; have g9 := Hs9.out; omega) 1 (.string (textS (lowN G (numOf a.2 * numOf b.2)) G.size)))
  have ho9Hbb := ((Hbb.out.other (show _ ≠ w.heap.size + 3 by have g0 := Hs1.out; have g1 := Hs2.out; have g2 := Hs3.out; have g3 := Hs4.out; have g4 := Hs5.out; have g5 := Hs6.out; have g6 := Hs7.out; have g7 := Hs8.out; have g8 := Hs9.out; have g9 := Hs9.out; omega) 0 (.string (textS (lowN G (numOf a.1 * numOf b.1)) G.size))).other (show _ ≠ w.heap.size + 3 by have g0 := Hs1.out; have g1 := Hs2.out; have g2 := Hs3.out; have g3 := Hs4.out; have g4 := Hs5.out; have g5 := Hs6.out; have g6 := Hs7.out; have g7 := Hs8.out; have g8 := Hs9.out; have g9 := Hs9.out; omega) 1 (.string (textS (lowN G (numOf a.2 * numOf b.2)) G.size)))
  obtain ⟨w10, hq10⟩ : ∃ W9 : World, ((w9.setCell ⟨w.heap.size + 3, 0, none⟩ (.string (textS (lowN G (numOf a.1 * numOf b.1)) G.size))).setCell ⟨w.heap.size + 3, 1, none⟩ (.string (textS (lowN G (numOf a.2 * numOf b.2)) G.size))) = W9 := ⟨_, rfl⟩
  rw [hq10] at hx9 hb9 hz9 ho9Hbg ho9Hba ho9Hbb
  clear Hbc HB
  have Hbc := Lib.hid hx9
  have HB := Lib.hid hb9
  have Hs10 := Lib.hid hz9
  replace Hbg := Lib.hid ho9Hbg
  replace Hba := Lib.hid ho9Hba
  replace Hbb := Lib.hid ho9Hbb
  clear hx9 hb9 hz9 ho9Hbg ho9Hba ho9Hbb
  have bg_0 := Hbg.out.cell (i := 0) rfl
  have bg_1 := Hbg.out.cell (i := 1) rfl
  have bg_2 := Hbg.out.cell (i := 2) rfl
  have ba_0 := Hba.out.cell (i := 0) rfl
  have ba_1 := Hba.out.cell (i := 1) rfl
  have bb_0 := Hbb.out.cell (i := 0) rfl
  have bb_1 := Hbb.out.cell (i := 1) rfl
  have bc_0 := Hbc.out.cell (i := 0) rfl
  have bc_1 := Hbc.out.cell (i := 1) rfl
  replace HGR := Lib.hid (by have h9 := HGR.out; rw [hq10] at h9; exact h9)
  go_simp
  try rw [hq10]
  refine hK _ _ ⟨⟨⟨w10, HGR.out⟩, rfl⟩, ?_⟩
  clear hK K HGR
  clear hq10 o10_bc_1 o10_bc_0 o10_bb_1 o10_bb_0 o10_ba_1 o10_ba_0 o10_bg_2 o10_bg_1 o10_bg_0 f10_bc_1 f10_bc_0
  repeat (refine tree_q rfl rfl ?_; go_big_quiet_step (fail); refine wpQuiet_nil ?_)
  refine tree_end ?_
  go_wp2_with fail
  simp [bodyPost, results, Try.results85, go_sem, bc_0, bc_1]
  exact HB.out

set_option maxRecDepth 100000 in
set_option maxHeartbeats 1000000 in
theorem rShown (ok : G.Ok) (x : ByteArray) (c : ByteArray × ByteArray) (hx : x.size ≤ 32) (h1 : c.1.size ≤ 32) (h2 : c.2.size ≤ 32) (w : World) (hG : RG w G aq ap) :
    Calls Try.prog 91 #[.agg #[.int .i64 (G.size : Int), .slice aq (dl G.q.m) cq, .slice ap (dl G.p.m) cp], .string x, ciphV c.1 c.2] w fun e w' => NumR w e w' (lowN G (numOf c.2 * (numOf c.1 ^ numOf x) ^ (G.q.m - 1))) := by
  have OK := Lib.hid ok
  have HG := Lib.hid hG
  clear ok hG
  unfold ciphV
  go_enter Try.func91, Try.ntmps91
  go_wp2_with fail
  have hb9 : Below w.heap.size w ((w.alloc (Obj.cells #[.int .i64 (G.size : Int), .slice aq (dl G.q.m) cq, .slice ap (dl G.p.m) cp] 98)).alloc (Obj.cells #[.string c.1, .string c.2] 41)) := (((Below.refl _ _).alloc (Nat.le_refl _) _).alloc (by simp) _)
  have hx90 : Bx ((w.alloc (Obj.cells #[.int .i64 (G.size : Int), .slice aq (dl G.q.m) cq, .slice ap (dl G.p.m) cp] 98)).alloc (Obj.cells #[.string c.1, .string c.2] 41)) (w.heap.size) 98 [.int .i64 (G.size : Int), .slice aq (dl G.q.m) cq, .slice ap (dl G.p.m) cp] := by
    have h := ((Bx.new w 98 [.int .i64 (G.size : Int), .slice aq (dl G.q.m) cq, .slice ap (dl G.p.m) cp] _ rfl).alloc (Obj.cells #[.string c.1, .string c.2] 41))
    exact h
  have hx91 : Bx ((w.alloc (Obj.cells #[.int .i64 (G.size : Int), .slice aq (dl G.q.m) cq, .slice ap (dl G.p.m) cp] 98)).alloc (Obj.cells #[.string c.1, .string c.2] 41)) (w.heap.size + 1) 41 [.string c.1, .string c.2] := by
    have h := (Bx.new (w.alloc (Obj.cells #[.int .i64 (G.size : Int), .slice aq (dl G.q.m) cq, .slice ap (dl G.p.m) cp] 98)) 41 [.string c.1, .string c.2] _ rfl)
    rw [World.size_alloc] at h
    exact h
  have hz9 : ((w.alloc (Obj.cells #[.int .i64 (G.size : Int), .slice aq (dl G.q.m) cq, .slice ap (dl G.p.m) cp] 98)).alloc (Obj.cells #[.string c.1, .string c.2] 41)).heap.size = w.heap.size + 2 := by simp
  obtain ⟨w1, hq1⟩ : ∃ W9 : World, ((w.alloc (Obj.cells #[.int .i64 (G.size : Int), .slice aq (dl G.q.m) cq, .slice ap (dl G.p.m) cp] 98)).alloc (Obj.cells #[.string c.1, .string c.2] 41)) = W9 := ⟨_, rfl⟩
  rw [hq1] at hb9 hz9 hx90 hx91
  rw [hq1]
  clear hq1
  have HB := Lib.hid hb9
  have Hs1 := Lib.hid hz9
  have Hbg := Lib.hid hx90
  have Hbb := Lib.hid hx91
  clear hb9 hz9 hx90 hx91
  have bg_0 := Hbg.out.cell (i := 0) rfl
  have bg_1 := Hbg.out.cell (i := 1) rfl
  have bg_2 := Hbg.out.cell (i := 2) rfl
  have bb_0 := Hbb.out.cell (i := 0) rfl
  have bb_1 := Hbb.out.cell (i := 1) rfl
  go_wp2_with fail
  have HT := Lib.hid (show Below w1.heap.size w1 w1.drew from (Below.refl _ _).drew)
  have hl_bg := Hbg.out.lt
  have hl_bb := Hbb.out.lt
  refine wp_region_tree (fun w9 => ∃ E : Over w1, w9 = E.w) ((.qs [0, 1, 2, 4, 5, 6, 7, 9] (.a 3 (.a 8 (.a 10 (.a 11 (.a 12 (.a 13 (.qs [14] .done))))))))) (by kernel_rfl) (by kernel_rfl) (fun _ _ d _ _ h => by cases d <;> exact h) ⟨⟨_, HT.out⟩, rfl⟩ ?_
  have hov_bg := fun (E : Over w1) o => E.cell (b := w.heap.size) o hl_bg
  have hov_bb := fun (E : Over w1) o => E.cell (b := w.heap.size + 1) o hl_bb
  simp only [Tree.qs]
  repeat (refine tree_q rfl rfl ?_; go_big_quiet_step (fail); refine wpQuiet_nil ?_)
  refine tree_a rfl (fun K hK => ?_)
  go_simp
  refine (refRead_any c.2 (by omega) _).mono ?_
  rintro e w2 ⟨a4, c4, rfl, hn9, hb9⟩
  replace HT := Lib.hid (below_up HT.out hb9)
  have Hs2 := Lib.hid (show w1.heap.size ≤ w2.heap.size from HT.out.size)
  clear hb9
  have HN4 := Lib.hid hn9
  clear hn9
  refine hK _ _ ⟨⟨⟨w2, HT.out⟩, rfl⟩, ?_⟩
  clear hK K
  repeat (refine tree_q rfl rfl ?_; go_big_quiet_step (fail); refine wpQuiet_nil ?_)
  refine tree_a rfl (fun K hK => ?_)
  go_simp
  refine (refRead_any c.1 (by omega) _).mono ?_
  rintro e w3 ⟨a5, c5, rfl, hn9, hb9⟩
  replace HN4 := Lib.hid (HN4.out.up hb9)
  replace HT := Lib.hid (below_up HT.out hb9)
  have Hs3 := Lib.hid (show w1.heap.size ≤ w3.heap.size from HT.out.size)
  clear hb9
  have HN5 := Lib.hid hn9
  clear hn9
  refine hK _ _ ⟨⟨⟨w3, HT.out⟩, rfl⟩, ?_⟩
  clear hK K
  repeat (refine tree_q rfl rfl ?_; go_big_quiet_step (fail); refine wpQuiet_nil ?_)
  refine tree_a rfl (fun K hK => ?_)
  go_simp
  refine (refRead_any x (by omega) _).mono ?_
  rintro e w4 ⟨a6, c6, rfl, hn9, hb9⟩
  replace HN4 := Lib.hid (HN4.out.up hb9)
  replace HN5 := Lib.hid (HN5.out.up hb9)
  replace HT := Lib.hid (below_up HT.out hb9)
  have Hs4 := Lib.hid (show w1.heap.size ≤ w4.heap.size from HT.out.size)
  clear hb9
  have HN6 := Lib.hid hn9
  clear hn9
  refine hK _ _ ⟨⟨⟨w4, HT.out⟩, rfl⟩, ?_⟩
  clear hK K
  repeat (refine tree_q rfl rfl ?_; go_big_quiet_step (fail); refine wpQuiet_nil ?_)
  refine tree_a rfl (fun K hK => ?_)
  go_simp
  refine (rPow OK.out (numOf_16 c.1 h1) (Nat.le_trans (dl_of_lt _ 16 (numOf_16 x hx)) (by decide)) _ (HG.out.up (below_up HB.out HT.out)) HN5.out HN6.out).mono ?_
  rintro e w5 ⟨a7, c7, rfl, hn9, hb9⟩
  replace HN4 := Lib.hid (HN4.out.up hb9)
  replace HN5 := Lib.hid (HN5.out.up hb9)
  replace HN6 := Lib.hid (HN6.out.up hb9)
  replace HT := Lib.hid (below_up HT.out hb9)
  have Hs5 := Lib.hid (show w1.heap.size ≤ w5.heap.size from HT.out.size)
  clear hb9
  have HN7 := Lib.hid hn9
  clear hn9
  refine hK _ _ ⟨⟨⟨w5, HT.out⟩, rfl⟩, ?_⟩
  clear hK K
  repeat (refine tree_q rfl rfl ?_; go_big_quiet_step (fail); refine wpQuiet_nil ?_)
  refine tree_a rfl (fun K hK => ?_)
  go_simp
  refine (rUnder2 OK.out _ (HG.out.up (below_up HB.out HT.out)) HN7.out).mono ?_
  rintro e w6 ⟨a8, c8, rfl, hn9, hb9⟩
  replace HN4 := Lib.hid (HN4.out.up hb9)
  replace HN5 := Lib.hid (HN5.out.up hb9)
  replace HN6 := Lib.hid (HN6.out.up hb9)
  replace HN7 := Lib.hid (HN7.out.up hb9)
  replace HT := Lib.hid (below_up HT.out hb9)
  have Hs6 := Lib.hid (show w1.heap.size ≤ w6.heap.size from HT.out.size)
  clear hb9
  have HN8 := Lib.hid hn9
  clear hn9
  refine hK _ _ ⟨⟨⟨w6, HT.out⟩, rfl⟩, ?_⟩
  clear hK K
  repeat (refine tree_q rfl rfl ?_; go_big_quiet_step (fail); refine wpQuiet_nil ?_)
  refine tree_a rfl (fun K hK => ?_)
  go_simp
  refine (rProdR OK.out (numOf_16 c.2 h2) _ (HG.out.up (below_up HB.out HT.out)) HN4.out HN8.out).mono ?_
  rintro e w7 ⟨a9, c9, rfl, hn9, hb9⟩
  replace HN4 := Lib.hid (HN4.out.up hb9)
  replace HN5 := Lib.hid (HN5.out.up hb9)
  replace HN6 := Lib.hid (HN6.out.up hb9)
  replace HN7 := Lib.hid (HN7.out.up hb9)
  replace HN8 := Lib.hid (HN8.out.up hb9)
  replace HT := Lib.hid (below_up HT.out hb9)
  have Hs7 := Lib.hid (show w1.heap.size ≤ w7.heap.size from HT.out.size)
  clear hb9
  have HN9 := Lib.hid hn9
  clear hn9
  refine hK _ _ ⟨⟨⟨w7, HT.out⟩, rfl⟩, ?_⟩
  clear hK K
  repeat (refine tree_q rfl rfl ?_; go_big_quiet_step (fail); refine wpQuiet_nil ?_)
  refine tree_end ?_
  clear hov_bg hl_bg hov_bb hl_bb
  clear bg_0 bg_1 bg_2
  replace Hbg := Lib.hid (Hbg.out.up HT.out)
  clear bb_0 bb_1
  replace Hbb := Lib.hid (Hbb.out.up HT.out)
  replace HB := Lib.hid (below_up HB.out HT.out)
  have Hs7 := Lib.hid (show w1.heap.size ≤ w7.heap.size from HT.out.size)
  clear HT
  have bg_0 := Hbg.out.cell (i := 0) rfl
  have bg_1 := Hbg.out.cell (i := 1) rfl
  have bg_2 := Hbg.out.cell (i := 2) rfl
  have bb_0 := Hbb.out.cell (i := 0) rfl
  have bb_1 := Hbb.out.cell (i := 1) rfl
  go_wp2_with fail
  go_ret
  exact ⟨a9, c9, rfl, HN9.out, HB.out⟩

end
end Go.Proofs.Ytipgjookfdkciaa

/- The document's Encrypt, Sum, Renew, Decrypt. No condition but lists that memory can hold. -/
namespace Go.Proofs.Ytipgjookfdkciaa
open Go.RowKit

theorem size_not0 (k : Nat) (h1 : 1 ≤ k) (h3 : k ≤ 3) : (((grp k).size : Int) == 0) = false := by
  obtain rfl | rfl | rfl : k = 1 ∨ k = 2 ∨ k = 3 := by omega
  all_goals rfl

theorem numOf_text (k : Nat) (h1 : 1 ≤ k) (h3 : k ≤ 3) (x : Nat) : numOf (textS (lowN (grp k) x) (grp k).size) = lowN (grp k) x := by
  rw [numOf_textS]
  have := lowN_le (grp_ok k h1 h3) x
  have := grp_fits k h1 h3
  exact Nat.mod_eq_of_lt (by omega)
theorem rHide0 {G : GP} {aq ap : Option Addr} {cq cp : Nat} (ok : G.Ok) (key : ByteArray) (hk : key.size ≤ 32) {n : Nat} {ax an : Option Addr} {cx cn : Nat} (hn : dl n ≤ 65536) (w : World) (hG : RG w G aq ap) (hX : NumAt w ax 0) (hN : NumAt w an n) :
    Calls Try.prog 80 #[.agg #[.int .i64 (G.size : Int), .slice aq (dl G.q.m) cq, .slice ap (dl G.p.m) cp], .string key, .slice ax (dl 0) cx, .slice an (dl n) cn] w (Gives (ciphV (textS (lowN G (2 ^ n)) G.size) (textS (lowN G (numOf key ^ n)) G.size)) w) := by
  have h := rHide (cq := cq) (cp := cp) (cx := cx) (cn := cn) ok key hk (x := 0) (by decide) hn w hG hX hN
  rwa [Nat.pow_zero, Nat.one_mul] at h

/-- Both, where the second cipher has just been written down. -/
theorem rBoth2 (k : Nat) (h1 : 1 ≤ k) (h3 : k ≤ 3) {aq ap : Option Addr} {cq cp : Nat} (a : ByteArray × ByteArray) (x y : Nat) (ha1 : a.1.size ≤ 32) (ha2 : a.2.size ≤ 32) (w : World) (hG : RG w (grp k) aq ap) :
    Calls Try.prog 85 #[.agg #[.int .i64 ((grp k).size : Int), .slice aq (dl (grp k).q.m) cq, .slice ap (dl (grp k).p.m) cp], ciphV a.1 a.2, ciphV (textS (lowN (grp k) x) (grp k).size) (textS (lowN (grp k) y) (grp k).size)] w (Gives (ciphV (textS (lowN (grp k) (numOf a.1 * x)) (grp k).size) (textS (lowN (grp k) (numOf a.2 * y)) (grp k).size)) w) := by
  have ok := grp_ok k h1 h3
  have h := rBoth (cq := cq) (cp := cp) ok a (textS (lowN (grp k) x) (grp k).size, textS (lowN (grp k) y) (grp k).size) ha1 ha2 (by show (textS _ _).size ≤ 32; rw [textS_size]; exact ok.size_le) (by show (textS _ _).size ≤ 32; rw [textS_size]; exact ok.size_le) w hG
  simp only at h
  rw [numOf_text k h1 h3, numOf_text k h1 h3, lowN_mulR ok, lowN_mulR ok] at h
  exact h

set_option maxRecDepth 100000 in
set_option maxHeartbeats 1000000 in
theorem rEnc_none (k : Int) (hk : ¬ (1 ≤ k ∧ k ≤ 3)) (key x n : ByteArray) (w : World) : Calls Try.prog 22 #[.int .i64 k, .string key, .string x, .string n] w (Gives (cipE 1) w) := by
  unfold Gives cipE ciphV
  go_enter Try.func22, Try.ntmps22
  go_wp2_with fail
  have hb9 : Below w.heap.size w (w.alloc (Obj.cells #[.string ⟨#[]⟩, .string ⟨#[]⟩] 41)) := ((Below.refl _ _).alloc (Nat.le_refl _) _)
  have hx90 : Bx (w.alloc (Obj.cells #[.string ⟨#[]⟩, .string ⟨#[]⟩] 41)) (w.heap.size) 41 [.string ⟨#[]⟩, .string ⟨#[]⟩] := by
    have h := (Bx.new w 41 [.string ⟨#[]⟩, .string ⟨#[]⟩] _ rfl)
    exact h
  have hz9 : (w.alloc (Obj.cells #[.string ⟨#[]⟩, .string ⟨#[]⟩] 41)).heap.size = w.heap.size + 1 := by simp
  obtain ⟨w1, hq1⟩ : ∃ W9 : World, (w.alloc (Obj.cells #[.string ⟨#[]⟩, .string ⟨#[]⟩] 41)) = W9 := ⟨_, rfl⟩
  rw [hq1] at hb9 hz9 hx90
  rw [hq1]
  clear hq1
  have HB := Lib.hid hb9
  have Hs1 := Lib.hid hz9
  have Hbc := Lib.hid hx90
  clear hb9 hz9 hx90
  have bc_0 := Hbc.out.cell (i := 0) rfl
  have bc_1 := Hbc.out.cell (i := 1) rfl
  go_wp2_with fail
  refine (refKind_none k hk w1).mono ?_
  rintro e w2 ⟨rfl, hb9⟩
  clear bc_0 bc_1
  replace Hbc := Lib.hid (Hbc.out.up hb9)
  replace HB := Lib.hid (below_up HB.out hb9)
  have Hs2 := Lib.hid (show w1.heap.size ≤ w2.heap.size from hb9.size)
  clear hb9
  have bc_0 := Hbc.out.cell (i := 0) rfl
  have bc_1 := Hbc.out.cell (i := 1) rfl
  clear bc_0 bc_1
  have hb9 : Below w2.heap.size w2 (w2.alloc (Obj.cells #[.int .i64 0, .slice none 0 0, .slice none 0 0] 98)) := ((Below.refl _ _).alloc (Nat.le_refl _) _)
  have hx90 : Bx (w2.alloc (Obj.cells #[.int .i64 0, .slice none 0 0, .slice none 0 0] 98)) (w2.heap.size) 98 [.int .i64 0, .slice none 0 0, .slice none 0 0] := by
    have h := (Bx.new w2 98 [.int .i64 0, .slice none 0 0, .slice none 0 0] _ rfl)
    exact h
  have hz9 : (w2.alloc (Obj.cells #[.int .i64 0, .slice none 0 0, .slice none 0 0] 98)).heap.size = w2.heap.size + 1 := by simp
  obtain ⟨w3, hq3⟩ : ∃ W9 : World, (w2.alloc (Obj.cells #[.int .i64 0, .slice none 0 0, .slice none 0 0] 98)) = W9 := ⟨_, rfl⟩
  rw [hq3] at hb9 hz9 hx90
  replace Hbc := Lib.hid (Hbc.out.up hb9)
  replace HB := Lib.hid (below_up HB.out hb9)
  have Hs3 := Lib.hid hz9
  have Hbg := Lib.hid hx90
  clear hb9 hz9 hx90
  have bc_0 := Hbc.out.cell (i := 0) rfl
  have bc_1 := Hbc.out.cell (i := 1) rfl
  have bg_0 := Hbg.out.cell (i := 0) rfl
  have bg_1 := Hbg.out.cell (i := 1) rfl
  have bg_2 := Hbg.out.cell (i := 2) rfl
  have f4_bg_0 := Hbg.out.frozen 0
  have f4_bg_1 := Hbg.out.frozen 1
  have f4_bg_2 := Hbg.out.frozen 2
  have o4_bc_0 := bc_0; clear bc_0
  have o4_bc_1 := bc_1; clear bc_1
  have o4_bg_0 := bg_0; clear bg_0
  have o4_bg_1 := bg_1; clear bg_1
  have o4_bg_2 := bg_2; clear bg_2
  have hx9 : Bx (((w3.setCell ⟨w2.heap.size, 0, none⟩ (.int .i64 0)).setCell ⟨w2.heap.size, 1, none⟩ (.slice none 0 0)).setCell ⟨w2.heap.size, 2, none⟩ (.slice none 0 0)) (w2.heap.size) 98 [.int .i64 0, .slice none 0 0, .slice none 0 0] := (((Hbg.out.set 0 (.int .i64 0)).set 1 (.slice none 0 0)).set 2 (.slice none 0 0))
  have hb9 : Below w.heap.size w (((w3.setCell ⟨w2.heap.size, 0, none⟩ (.int .i64 0)).setCell ⟨w2.heap.size, 1, none⟩ (.slice none 0 0)).setCell ⟨w2.heap.size, 2, none⟩ (.slice none 0 0)) := (((HB.out.setCell (show w.heap.size ≤ w2.heap.size by have g0 := Hs1.out; have g1 := Hs2.out; have g2 := Hs3.out; omega) _).setCell (show w.heap.size ≤ w2.heap.size by have g0 := Hs1.out; have g1 := Hs2.out; have g2 := Hs3.out; omega) _).setCell (show w.heap.size ≤ w2.heap.size by have g0 := Hs1.out; have g1 := Hs2.out; have g2 := Hs3.out; omega) _)
  have hz9 : (((w3.setCell ⟨w2.heap.size, 0, none⟩ (.int .i64 0)).setCell ⟨w2.heap.size, 1, none⟩ (.slice none 0 0)).setCell ⟨w2.heap.size, 2, none⟩ (.slice none 0 0)).heap.size = w3.heap.size := by simp [World.setCell]
  have ho9Hbc := (((Hbc.out.other (show _ ≠ w2.heap.size by have g0 := Hs1.out; have g1 := Hs2.out; have g2 := Hs3.out; omega) 0 (.int .i64 0)).other (show _ ≠ w2.heap.size by have g0 := Hs1.out; have g1 := Hs2.out; have g2 := Hs3.out; omega) 1 (.slice none 0 0)).other (show _ ≠ w2.heap.size by have g0 := Hs1.out; have g1 := Hs2.out; have g2 := Hs3.out; omega) 2 (.slice none 0 0))
  obtain ⟨w4, hq4⟩ : ∃ W9 : World, (((w3.setCell ⟨w2.heap.size, 0, none⟩ (.int .i64 0)).setCell ⟨w2.heap.size, 1, none⟩ (.slice none 0 0)).setCell ⟨w2.heap.size, 2, none⟩ (.slice none 0 0)) = W9 := ⟨_, rfl⟩
  rw [hq4] at hx9 hb9 hz9 ho9Hbc
  clear Hbg HB
  have Hbg := Lib.hid hx9
  have HB := Lib.hid hb9
  have Hs4 := Lib.hid hz9
  replace Hbc := Lib.hid ho9Hbc
  clear hx9 hb9 hz9 ho9Hbc
  have bc_0 := Hbc.out.cell (i := 0) rfl
  have bc_1 := Hbc.out.cell (i := 1) rfl
  have bg_0 := Hbg.out.cell (i := 0) rfl
  have bg_1 := Hbg.out.cell (i := 1) rfl
  have bg_2 := Hbg.out.cell (i := 2) rfl
  have f5_bc_0 := Hbc.out.frozen 0
  have f5_bc_1 := Hbc.out.frozen 1
  have o5_bc_0 := bc_0; clear bc_0
  have o5_bc_1 := bc_1; clear bc_1
  have o5_bg_0 := bg_0; clear bg_0
  have o5_bg_1 := bg_1; clear bg_1
  have o5_bg_2 := bg_2; clear bg_2
  have hx9 : Bx ((w4.setCell ⟨w.heap.size, 0, none⟩ (.string ⟨#[]⟩)).setCell ⟨w.heap.size, 1, none⟩ (.string ⟨#[]⟩)) (w.heap.size) 41 [.string ⟨#[]⟩, .string ⟨#[]⟩] := ((Hbc.out.set 0 (.string ⟨#[]⟩)).set 1 (.string ⟨#[]⟩))
  have hb9 : Below w.heap.size w ((w4.setCell ⟨w.heap.size, 0, none⟩ (.string ⟨#[]⟩)).setCell ⟨w.heap.size, 1, none⟩ (.string ⟨#[]⟩)) := ((HB.out.setCell (show w.heap.size ≤ w.heap.size by have g0 := Hs1.out; have g1 := Hs2.out; have g2 := Hs3.out; have g3 := Hs4.out; omega) _).setCell (show w.heap.size ≤ w.heap.size by have g0 := Hs1.out; have g1 := Hs2.out; have g2 := Hs3.out; have g3 := Hs4.out; omega) _)
  have hz9 : ((w4.setCell ⟨w.heap.size, 0, none⟩ (.string ⟨#[]⟩)).setCell ⟨w.heap.size, 1, none⟩ (.string ⟨#[]⟩)).heap.size = w4.heap.size := by simp [World.setCell]
  have ho9Hbg := ((Hbg.out.other (show _ ≠ w.heap.size by have g0 := Hs1.out; have g1 := Hs2.out; have g2 := Hs3.out; have g3 := Hs4.out; omega) 0 (.string ⟨#[]⟩)).other (show _ ≠ w.heap.size by have g0 := Hs1.out; have g1 := Hs2.out; have g2 := Hs3.out; have g3 := Hs4.out; omega) 1 (.string ⟨#[]⟩))
  obtain ⟨w5, hq5⟩ : ∃ W9 : World, ((w4.setCell ⟨w.heap.size, 0, none⟩ (.string ⟨#[]⟩)).setCell ⟨w.heap.size, 1, none⟩ (.string ⟨#[]⟩)) = W9 := ⟨_, rfl⟩
  rw [hq5] at hx9 hb9 hz9 ho9Hbg
  clear Hbc HB
  have Hbc := Lib.hid hx9
  have HB := Lib.hid hb9
  have Hs5 := Lib.hid hz9
  replace Hbg := Lib.hid ho9Hbg
  clear hx9 hb9 hz9 ho9Hbg
  have bc_0 := Hbc.out.cell (i := 0) rfl
  have bc_1 := Hbc.out.cell (i := 1) rfl
  have bg_0 := Hbg.out.cell (i := 0) rfl
  have bg_1 := Hbg.out.cell (i := 1) rfl
  have bg_2 := Hbg.out.cell (i := 2) rfl
  go_wp2_with fail
  clear hq5 o5_bg_2 o5_bg_1 o5_bg_0 o5_bc_1 o5_bc_0 f5_bc_1 f5_bc_0 hq4 o4_bg_2 o4_bg_1 o4_bg_0 o4_bc_1 o4_bc_0 f4_bg_2 f4_bg_1 f4_bg_0 hq3
  simp [bodyPost, results, Try.results22, go_sem, bc_0, bc_1]
  exact HB.out

set_option maxRecDepth 100000 in
set_option maxHeartbeats 1000000 in
theorem rEnc_some (k : Nat) (h1 : 1 ≤ k) (h3 : k ≤ 3) (key x n : ByteArray) (bk bx bn : Bool) (hk : isEl (grp k).q.m (grp k).size key = bk) (hx : isSc (grp k).q.m (grp k).size x = bx) (hn : isSc (grp k).q.m (grp k).size n = bn) (w : World) :
    Calls Try.prog 22 #[.int .i64 (k : Int), .string key, .string x, .string n] w (Gives (if bk then if bx && bn then .tuple #[ciphV (textS (lowN (grp k) (2 ^ numOf n)) (grp k).size) (textS (lowN (grp k) (2 ^ numOf x * numOf key ^ numOf n)) (grp k).size), .int .i64 0] else cipE 6 else cipE 7) w) := by
  have OK := Lib.hid (grp_ok k h1 h3)
  have hs0 := size_not0 k h1 h3
  have hsz : (grp k).size ≤ 32 := OK.out.size_le
  have hsk : bk = true → key.size ≤ 32 := fun h => by have := isEl_size (hk.trans h); omega
  have hsx : bx = true → x.size ≤ 32 := fun h => by have := isSc_size (hx.trans h); omega
  have hsn : bn = true → n.size ≤ 32 := fun h => by have := isSc_size (hn.trans h); omega
  have hek := fun aq ap cq cp W h => rIsEl (cq := cq) (cp := cp) (aq := aq) (ap := ap) (G := grp k) OK.out key W h
  have hex := fun aq ap cq cp W h => rIsSc (cq := cq) (cp := cp) (aq := aq) (ap := ap) (G := grp k) OK.out x W h
  have hen := fun aq ap cq cp W h => rIsSc (cq := cq) (cp := cp) (aq := aq) (ap := ap) (G := grp k) OK.out n W h
  rw [hk] at hek
  rw [hx] at hex
  rw [hn] at hen
  have HEK := Lib.hid hek
  have HEX := Lib.hid hex
  have HEN := Lib.hid hen
  have HSK := Lib.hid hsk
  have HSX := Lib.hid hsx
  have HSN := Lib.hid hsn
  clear hek hex hen hk hx hn hsk hsx hsn hsz
  unfold Gives cipE ciphV
  go_enter Try.func22, Try.ntmps22
  go_wp2_with fail
  have hb9 : Below w.heap.size w (w.alloc (Obj.cells #[.string ⟨#[]⟩, .string ⟨#[]⟩] 41)) := ((Below.refl _ _).alloc (Nat.le_refl _) _)
  have hx90 : Bx (w.alloc (Obj.cells #[.string ⟨#[]⟩, .string ⟨#[]⟩] 41)) (w.heap.size) 41 [.string ⟨#[]⟩, .string ⟨#[]⟩] := by
    have h := (Bx.new w 41 [.string ⟨#[]⟩, .string ⟨#[]⟩] _ rfl)
    exact h
  have hz9 : (w.alloc (Obj.cells #[.string ⟨#[]⟩, .string ⟨#[]⟩] 41)).heap.size = w.heap.size + 1 := by simp
  obtain ⟨w1, hq1⟩ : ∃ W9 : World, (w.alloc (Obj.cells #[.string ⟨#[]⟩, .string ⟨#[]⟩] 41)) = W9 := ⟨_, rfl⟩
  rw [hq1] at hb9 hz9 hx90
  rw [hq1]
  clear hq1
  have HB := Lib.hid hb9
  have Hs1 := Lib.hid hz9
  have Hbc := Lib.hid hx90
  clear hb9 hz9 hx90
  have bc_0 := Hbc.out.cell (i := 0) rfl
  have bc_1 := Hbc.out.cell (i := 1) rfl
  go_wp2_with fail
  refine (refKind_some k h1 h3 w1).mono ?_
  rintro e w2 ⟨aq, cq, ap, cp, rfl, hq9, hp9, hb9⟩
  clear bc_0 bc_1
  replace Hbc := Lib.hid (Hbc.out.up hb9)
  replace HB := Lib.hid (below_up HB.out hb9)
  have Hs2 := Lib.hid (show w1.heap.size ≤ w2.heap.size from hb9.size)
  have HRG := Lib.hid (RG.mk (G := grp k) hq9 hp9)
  clear hq9 hp9
  clear hb9
  have bc_0 := Hbc.out.cell (i := 0) rfl
  have bc_1 := Hbc.out.cell (i := 1) rfl
  have HK := Lib.hid (Below.refl w2.heap.size w2)
  clear bc_0 bc_1
  have hb9 : Below w2.heap.size w2 (w2.alloc (Obj.cells #[.int .i64 ((grp k).size : Int), .slice aq (dl (grp k).q.m) cq, .slice ap (dl (grp k).p.m) cp] 98)) := ((Below.refl _ _).alloc (Nat.le_refl _) _)
  have hx90 : Bx (w2.alloc (Obj.cells #[.int .i64 ((grp k).size : Int), .slice aq (dl (grp k).q.m) cq, .slice ap (dl (grp k).p.m) cp] 98)) (w2.heap.size) 98 [.int .i64 ((grp k).size : Int), .slice aq (dl (grp k).q.m) cq, .slice ap (dl (grp k).p.m) cp] := by
    have h := (Bx.new w2 98 [.int .i64 ((grp k).size : Int), .slice aq (dl (grp k).q.m) cq, .slice ap (dl (grp k).p.m) cp] _ rfl)
    exact h
  have hz9 : (w2.alloc (Obj.cells #[.int .i64 ((grp k).size : Int), .slice aq (dl (grp k).q.m) cq, .slice ap (dl (grp k).p.m) cp] 98)).heap.size = w2.heap.size + 1 := by simp
  obtain ⟨w3, hq3⟩ : ∃ W9 : World, (w2.alloc (Obj.cells #[.int .i64 ((grp k).size : Int), .slice aq (dl (grp k).q.m) cq, .slice ap (dl (grp k).p.m) cp] 98)) = W9 := ⟨_, rfl⟩
  rw [hq3] at hb9 hz9 hx90
  replace Hbc := Lib.hid (Hbc.out.up hb9)
  replace HK := Lib.hid (below_up HK.out hb9)
  replace HB := Lib.hid (below_up HB.out hb9)
  have Hs3 := Lib.hid hz9
  have Hbg := Lib.hid hx90
  clear hb9 hz9 hx90
  have bc_0 := Hbc.out.cell (i := 0) rfl
  have bc_1 := Hbc.out.cell (i := 1) rfl
  have bg_0 := Hbg.out.cell (i := 0) rfl
  have bg_1 := Hbg.out.cell (i := 1) rfl
  have bg_2 := Hbg.out.cell (i := 2) rfl
  go_wp2_with fail
  clear hq3
  refine (HEK.out _ _ _ _ w3 (HRG.out.up HK.out)).mono ?_
  rintro e w4 ⟨rfl, hb9⟩
  clear bc_0 bc_1
  replace Hbc := Lib.hid (Hbc.out.up hb9)
  clear bg_0 bg_1 bg_2
  replace Hbg := Lib.hid (Hbg.out.up hb9)
  replace HK := Lib.hid (below_up HK.out hb9)
  replace HB := Lib.hid (below_up HB.out hb9)
  have Hs4 := Lib.hid (show w3.heap.size ≤ w4.heap.size from hb9.size)
  clear hb9
  have bc_0 := Hbc.out.cell (i := 0) rfl
  have bc_1 := Hbc.out.cell (i := 1) rfl
  have bg_0 := Hbg.out.cell (i := 0) rfl
  have bg_1 := Hbg.out.cell (i := 1) rfl
  have bg_2 := Hbg.out.cell (i := 2) rfl
  cases bk
  · skip
    have f5_bc_0 := Hbc.out.frozen 0
    have f5_bc_1 := Hbc.out.frozen 1
    have o5_bc_0 := bc_0; clear bc_0
    have o5_bc_1 := bc_1; clear bc_1
    have o5_bg_0 := bg_0; clear bg_0
    have o5_bg_1 := bg_1; clear bg_1
    have o5_bg_2 := bg_2; clear bg_2
    have hx9 : Bx ((w4.setCell ⟨w.heap.size, 0, none⟩ (.string ⟨#[]⟩)).setCell ⟨w.heap.size, 1, none⟩ (.string ⟨#[]⟩)) (w.heap.size) 41 [.string ⟨#[]⟩, .string ⟨#[]⟩] := ((Hbc.out.set 0 (.string ⟨#[]⟩)).set 1 (.string ⟨#[]⟩))
    have hb9 : Below w.heap.size w ((w4.setCell ⟨w.heap.size, 0, none⟩ (.string ⟨#[]⟩)).setCell ⟨w.heap.size, 1, none⟩ (.string ⟨#[]⟩)) := ((HB.out.setCell (show w.heap.size ≤ w.heap.size by have g0 := Hs1.out; have g1 := Hs2.out; have g2 := Hs3.out; have g3 := Hs4.out; omega) _).setCell (show w.heap.size ≤ w.heap.size by have g0 := Hs1.out; have g1 := Hs2.out; have g2 := Hs3.out; have g3 := Hs4.out; omega) _)
    have hz9 : ((w4.setCell ⟨w.heap.size, 0, none⟩ (.string ⟨#[]⟩)).setCell ⟨w.heap.size, 1, none⟩ (.string ⟨#[]⟩)).heap.size = w4.heap.size := by simp [World.setCell]
    have ho9Hbg := ((Hbg.out.other (show _ ≠ w.heap.size by have g0 := Hs1.out; have g1 := Hs2.out; have g2 := Hs3.out; have g3 := Hs4.out; omega) 0 (.string ⟨#[]⟩)).other (show _ ≠ w.heap.size by have g0 := Hs1.out; have g1 := Hs2.out; have g2 := Hs3.out; have g3 := Hs4.out; omega) 1 (.string ⟨#[]⟩))
    obtain ⟨w5, hq5⟩ : ∃ W9 : World, ((w4.setCell ⟨w.heap.size, 0, none⟩ (.string ⟨#[]⟩)).setCell ⟨w.heap.size, 1, none⟩ (.string ⟨#[]⟩)) = W9 := ⟨_, rfl⟩
    rw [hq5] at hx9 hb9 hz9 ho9Hbg
    clear Hbc HB
    have Hbc := Lib.hid hx9
    have HB := Lib.hid hb9
    have Hs5 := Lib.hid hz9
    replace Hbg := Lib.hid ho9Hbg
    clear hx9 hb9 hz9 ho9Hbg
    have bc_0 := Hbc.out.cell (i := 0) rfl
    have bc_1 := Hbc.out.cell (i := 1) rfl
    have bg_0 := Hbg.out.cell (i := 0) rfl
    have bg_1 := Hbg.out.cell (i := 1) rfl
    have bg_2 := Hbg.out.cell (i := 2) rfl
    go_wp2_with fail
    clear hq5 o5_bg_2 o5_bg_1 o5_bg_0 o5_bc_1 o5_bc_0 f5_bc_1 f5_bc_0
    simp [bodyPost, results, Try.results22, go_sem, bc_0, bc_1]
    exact HB.out
  replace HSK := Lib.hid (HSK.out rfl)
  go_wp2_with fail
  refine (HEX.out _ _ _ _ w4 (HRG.out.up HK.out)).mono ?_
  rintro e w5 ⟨rfl, hb9⟩
  clear bc_0 bc_1
  replace Hbc := Lib.hid (Hbc.out.up hb9)
  clear bg_0 bg_1 bg_2
  replace Hbg := Lib.hid (Hbg.out.up hb9)
  replace HK := Lib.hid (below_up HK.out hb9)
  replace HB := Lib.hid (below_up HB.out hb9)
  have Hs5 := Lib.hid (show w4.heap.size ≤ w5.heap.size from hb9.size)
  clear hb9
  have bc_0 := Hbc.out.cell (i := 0) rfl
  have bc_1 := Hbc.out.cell (i := 1) rfl
  have bg_0 := Hbg.out.cell (i := 0) rfl
  have bg_1 := Hbg.out.cell (i := 1) rfl
  have bg_2 := Hbg.out.cell (i := 2) rfl
  cases bx
  · skip
    have f6_bc_0 := Hbc.out.frozen 0
    have f6_bc_1 := Hbc.out.frozen 1
    have o6_bc_0 := bc_0; clear bc_0
    have o6_bc_1 := bc_1; clear bc_1
    have o6_bg_0 := bg_0; clear bg_0
    have o6_bg_1 := bg_1; clear bg_1
    have o6_bg_2 := bg_2; clear bg_2
    have hx9 : Bx ((w5.setCell ⟨w.heap.size, 0, none⟩ (.string ⟨#[]⟩)).setCell ⟨w.heap.size, 1, none⟩ (.string ⟨#[]⟩)) (w.heap.size) 41 [.string ⟨#[]⟩, .string ⟨#[]⟩] := ((Hbc.out.set 0 (.string ⟨#[]⟩)).set 1 (.string ⟨#[]⟩))
    have hb9 : Below w.heap.size w ((w5.setCell ⟨w.heap.size, 0, none⟩ (.string ⟨#[]⟩)).setCell ⟨w.heap.size, 1, none⟩ (.string ⟨#[]⟩)) := ((HB.out.setCell (show w.heap.size ≤ w.heap.size by have g0 := Hs1.out; have g1 := Hs2.out; have g2 := Hs3.out; have g3 := Hs4.out; have g4 := Hs5.out; omega) _).setCell (show w.heap.size ≤ w.heap.size by have g0 := Hs1.out; have g1 := Hs2.out; have g2 := Hs3.out; have g3 := Hs4.out; have g4 := Hs5.out; omega) _)
    have hz9 : ((w5.setCell ⟨w.heap.size, 0, none⟩ (.string ⟨#[]⟩)).setCell ⟨w.heap.size, 1, none⟩ (.string ⟨#[]⟩)).heap.size = w5.heap.size := by simp [World.setCell]
    have ho9Hbg := ((Hbg.out.other (show _ ≠ w.heap.size by have g0 := Hs1.out; have g1 := Hs2.out; have g2 := Hs3.out; have g3 := Hs4.out; have g4 := Hs5.out; omega) 0 (.string ⟨#[]⟩)).other (show _ ≠ w.heap.size by have g0 := Hs1.out; have g1 := Hs2.out; have g2 := Hs3.out; have g3 := Hs4.out; have g4 := Hs5.out; omega) 1 (.string ⟨#[]⟩))
    obtain ⟨w6, hq6⟩ : ∃ W9 : World, ((w5.setCell ⟨w.heap.size, 0, none⟩ (.string ⟨#[]⟩)).setCell ⟨w.heap.size, 1, none⟩ (.string ⟨#[]⟩)) = W9 := ⟨_, rfl⟩
    rw [hq6] at hx9 hb9 hz9 ho9Hbg
    clear Hbc HB
    have Hbc := Lib.hid hx9
    have HB := Lib.hid hb9
    have Hs6 := Lib.hid hz9
    replace Hbg := Lib.hid ho9Hbg
    clear hx9 hb9 hz9 ho9Hbg
    have bc_0 := Hbc.out.cell (i := 0) rfl
    have bc_1 := Hbc.out.cell (i := 1) rfl
    have bg_0 := Hbg.out.cell (i := 0) rfl
    have bg_1 := Hbg.out.cell (i := 1) rfl
    have bg_2 := Hbg.out.cell (i := 2) rfl
    go_wp2_with fail
    clear hq6 o6_bg_2 o6_bg_1 o6_bg_0 o6_bc_1 o6_bc_0 f6_bc_1 f6_bc_0
    simp [bodyPost, results, Try.results22, go_sem, bc_0, bc_1]
    exact HB.out
  replace HSX := Lib.hid (HSX.out rfl)
  go_wp2_with fail
  refine (HEN.out _ _ _ _ w5 (HRG.out.up HK.out)).mono ?_
  rintro e w6 ⟨rfl, hb9⟩
  clear bc_0 bc_1
  replace Hbc := Lib.hid (Hbc.out.up hb9)
  clear bg_0 bg_1 bg_2
  replace Hbg := Lib.hid (Hbg.out.up hb9)
  replace HK := Lib.hid (below_up HK.out hb9)
  replace HB := Lib.hid (below_up HB.out hb9)
  have Hs6 := Lib.hid (show w5.heap.size ≤ w6.heap.size from hb9.size)
  clear hb9
  have bc_0 := Hbc.out.cell (i := 0) rfl
  have bc_1 := Hbc.out.cell (i := 1) rfl
  have bg_0 := Hbg.out.cell (i := 0) rfl
  have bg_1 := Hbg.out.cell (i := 1) rfl
  have bg_2 := Hbg.out.cell (i := 2) rfl
  cases bn
  · skip
    have f7_bc_0 := Hbc.out.frozen 0
    have f7_bc_1 := Hbc.out.frozen 1
    have o7_bc_0 := bc_0; clear bc_0
    have o7_bc_1 := bc_1; clear bc_1
    have o7_bg_0 := bg_0; clear bg_0
    have o7_bg_1 := bg_1; clear bg_1
    have o7_bg_2 := bg_2; clear bg_2
    have hx9 : Bx ((w6.setCell ⟨w.heap.size, 0, none⟩ (.string ⟨#[]⟩)).setCell ⟨w.heap.size, 1, none⟩ (.string ⟨#[]⟩)) (w.heap.size) 41 [.string ⟨#[]⟩, .string ⟨#[]⟩] := ((Hbc.out.set 0 (.string ⟨#[]⟩)).set 1 (.string ⟨#[]⟩))
    have hb9 : Below w.heap.size w ((w6.setCell ⟨w.heap.size, 0, none⟩ (.string ⟨#[]⟩)).setCell ⟨w.heap.size, 1, none⟩ (.string ⟨#[]⟩)) := ((HB.out.setCell (show w.heap.size ≤ w.heap.size by have g0 := Hs1.out; have g1 := Hs2.out; have g2 := Hs3.out; have g3 := Hs4.out; have g4 := Hs5.out; have g5 := Hs6.out; omega) _).setCell (show w.heap.size ≤ w.heap.size by have g0 := Hs1.out; have g1 := Hs2.out; have g2 := Hs3.out; have g3 := Hs4.out; have g4 := Hs5.out; have g5 := Hs6.out; omega) _)
    have hz9 : ((w6.setCell ⟨w.heap.size, 0, none⟩ (.string ⟨#[]⟩)).setCell ⟨w.heap.size, 1, none⟩ (.string ⟨#[]⟩)).heap.size = w6.heap.size := by simp [World.setCell]
    have ho9Hbg := ((Hbg.out.other (show _ ≠ w.heap.size by have g0 := Hs1.out; have g1 := Hs2.out; have g2 := Hs3.out; have g3 := Hs4.out; have g4 := Hs5.out; have g5 := Hs6.out; omega) 0 (.string ⟨#[]⟩)).other (show _ ≠ w.heap.size by have g0 := Hs1.out; have g1 := Hs2.out; have g2 := Hs3.out; have g3 := Hs4.out; have g4 := Hs5.out; have g5 := Hs6.out; omega) 1 (.string ⟨#[]⟩))
    obtain ⟨w7, hq7⟩ : ∃ W9 : World, ((w6.setCell ⟨w.heap.size, 0, none⟩ (.string ⟨#[]⟩)).setCell ⟨w.heap.size, 1, none⟩ (.string ⟨#[]⟩)) = W9 := ⟨_, rfl⟩
    rw [hq7] at hx9 hb9 hz9 ho9Hbg
    clear Hbc HB
    have Hbc := Lib.hid hx9
    have HB := Lib.hid hb9
    have Hs7 := Lib.hid hz9
    replace Hbg := Lib.hid ho9Hbg
    clear hx9 hb9 hz9 ho9Hbg
    have bc_0 := Hbc.out.cell (i := 0) rfl
    have bc_1 := Hbc.out.cell (i := 1) rfl
    have bg_0 := Hbg.out.cell (i := 0) rfl
    have bg_1 := Hbg.out.cell (i := 1) rfl
    have bg_2 := Hbg.out.cell (i := 2) rfl
    go_wp2_with fail
    clear hq7 o7_bg_2 o7_bg_1 o7_bg_0 o7_bc_1 o7_bc_0 f7_bc_1 f7_bc_0
    simp [bodyPost, results, Try.results22, go_sem, bc_0, bc_1]
    exact HB.out
  replace HSN := Lib.hid (HSN.out rfl)
  go_wp2_with fail
  have HT := Lib.hid (show Below w6.heap.size w6 w6.drew from (Below.refl _ _).drew)
  have hl_bg := Hbg.out.lt
  refine wp_region_tree (fun w9 => ∃ E : But w6 (some (w.heap.size)), w9 = E.w) ((.qs [0, 1, 2, 4] (.a 3 (.a 5 (.a 6 (.a 7 (.qs [8] .done))))))) (by kernel_rfl) (by kernel_rfl) (fun _ _ d _ _ h => by cases d <;> exact h) ⟨⟨_, ((below_grown HT.out).but _)⟩, rfl⟩ ?_
  have hov_bg := fun (E : But w6 (some (w.heap.size))) o => E.cell (b := w2.heap.size) o hl_bg (by intro e9; have a0 := Option.some.inj e9; have g0 := Hs1.out; have g1 := Hs2.out; have g2 := Hs3.out; have g3 := Hs4.out; have g4 := Hs5.out; have g5 := Hs6.out; omega)
  simp only [Tree.qs]
  repeat (refine tree_q rfl rfl ?_; go_big_quiet_step (fail); refine wpQuiet_nil ?_)
  refine tree_a rfl (fun K hK => ?_)
  go_simp
  refine (refRead_any x (Nat.le_trans HSX.out (by decide)) _).mono ?_
  rintro e w7 ⟨a4, c4, rfl, hn9, hb9⟩
  replace HT := Lib.hid (below_up HT.out hb9)
  have Hs7 := Lib.hid (show w6.heap.size ≤ w7.heap.size from HT.out.size)
  clear hb9
  have HN4 := Lib.hid hn9
  clear hn9
  refine hK _ _ ⟨⟨⟨w7, ((below_grown HT.out).but _)⟩, rfl⟩, ?_⟩
  clear hK K
  repeat (refine tree_q rfl rfl ?_; go_big_quiet_step (fail); refine wpQuiet_nil ?_)
  refine tree_a rfl (fun K hK => ?_)
  go_simp
  refine (refRead_any n (Nat.le_trans HSN.out (by decide)) _).mono ?_
  rintro e w8 ⟨a5, c5, rfl, hn9, hb9⟩
  replace HN4 := Lib.hid (HN4.out.up hb9)
  replace HT := Lib.hid (below_up HT.out hb9)
  have Hs8 := Lib.hid (show w6.heap.size ≤ w8.heap.size from HT.out.size)
  clear hb9
  have HN5 := Lib.hid hn9
  clear hn9
  refine hK _ _ ⟨⟨⟨w8, ((below_grown HT.out).but _)⟩, rfl⟩, ?_⟩
  clear hK K
  repeat (refine tree_q rfl rfl ?_; go_big_quiet_step (fail); refine wpQuiet_nil ?_)
  refine tree_a rfl (fun K hK => ?_)
  go_simp
  refine (rHide OK.out key HSK.out (Nat.le_trans (dl_of_lt _ 16 (numOf_16 x HSX.out)) (by decide)) (Nat.le_trans (dl_of_lt _ 16 (numOf_16 n HSN.out)) (by decide)) _ (HRG.out.up (below_up HK.out HT.out)) HN4.out HN5.out).mono ?_
  rintro e w9 ⟨rfl, hb9⟩
  replace HN4 := Lib.hid (HN4.out.up hb9)
  replace HN5 := Lib.hid (HN5.out.up hb9)
  replace HT := Lib.hid (below_up HT.out hb9)
  have Hs9 := Lib.hid (show w6.heap.size ≤ w9.heap.size from HT.out.size)
  clear hb9
  unfold ciphV
  refine hK _ _ ⟨⟨⟨w9, ((below_grown HT.out).but _)⟩, rfl⟩, ?_⟩
  clear hK K
  repeat (refine tree_q rfl rfl ?_; go_big_quiet_step (fail); refine wpQuiet_nil ?_)
  clear hov_bg hl_bg
  refine tree_a rfl (fun K hK => ?_)
  clear bc_0 bc_1
  replace Hbc := Lib.hid (Hbc.out.up HT.out)
  clear bg_0 bg_1 bg_2
  replace Hbg := Lib.hid (Hbg.out.up HT.out)
  replace HB := Lib.hid (below_up HB.out HT.out)
  have Hs9 := Lib.hid (show w6.heap.size ≤ w9.heap.size from HT.out.size)
  have bc_0 := Hbc.out.cell (i := 0) rfl
  have bc_1 := Hbc.out.cell (i := 1) rfl
  have bg_0 := Hbg.out.cell (i := 0) rfl
  have bg_1 := Hbg.out.cell (i := 1) rfl
  have bg_2 := Hbg.out.cell (i := 2) rfl
  have hgr9 : w6.grownBy ((w9.setCell ⟨w.heap.size, 0, none⟩ (.string (textS (lowN (grp k) (2 ^ numOf n)) (grp k).size))).setCell ⟨w.heap.size, 1, none⟩ (.string (textS (lowN (grp k) (2 ^ numOf x * numOf key ^ numOf n)) (grp k).size))) (some (w.heap.size)) := (((below_grown HT.out).but (some (w.heap.size))).trans (grown_set w9 (w.heap.size) 0 (.string (textS (lowN (grp k) (2 ^ numOf n)) (grp k).size)))).trans (grown_set (w9.setCell ⟨w.heap.size, 0, none⟩ (.string (textS (lowN (grp k) (2 ^ numOf n)) (grp k).size))) (w.heap.size) 1 (.string (textS (lowN (grp k) (2 ^ numOf x * numOf key ^ numOf n)) (grp k).size)))
  have HGR := Lib.hid hgr9
  clear hgr9 HT
  clear HN4 HN5
  have f10_bc_0 := Hbc.out.frozen 0
  have f10_bc_1 := Hbc.out.frozen 1
  have o10_bc_0 := bc_0; clear bc_0
  have o10_bc_1 := bc_1; clear bc_1
  have o10_bg_0 := bg_0; clear bg_0
  have o10_bg_1 := bg_1; clear bg_1
  have o10_bg_2 := bg_2; clear bg_2
  have hx9 : Bx ((w9.setCell ⟨w.heap.size, 0, none⟩ (.string (textS (lowN (grp k) (2 ^ numOf n)) (grp k).size))).setCell ⟨w.heap.size, 1, none⟩ (.string (textS (lowN (grp k) (2 ^ numOf x * numOf key ^ numOf n)) (grp k).size))) (w.heap.size) 41 [.string (textS (lowN (grp k) (2 ^ numOf n)) (grp k).size), .string (textS (lowN (grp k) (2 ^ numOf x * numOf key ^ numOf n)) (grp k).size)] := ((Hbc.out.set 0 (.string (textS (lowN (grp k) (2 ^ numOf n)) (grp k).size))).set 1 (.string (textS (lowN (grp k) (2 ^ numOf x * numOf key ^ numOf n)) (grp k).size)))
  have hb9 : Below w.heap.size w ((w9.setCell ⟨w.heap.size, 0, none⟩ (.string (textS (lowN (grp k) (2 ^ numOf n)) (grp k).size))).setCell ⟨w.heap.size, 1, none⟩ (.string (textS (lowN (grp k) (2 ^ numOf x * numOf key ^ numOf n)) (grp k).size))) := ((HB.out.setCell (show w.heap.size ≤ w.heap.size by have g0 := Hs1.out; have g1 := Hs2.out; have g2 := Hs3.out; have g3 := Hs4.out; have g4 := Hs5.out; have g5 := Hs6.out; have g6 := Hs7.out; have g7 := Hs8.out; have g8 := Hs9.out; have g9 := Hs9.out; omega) _).setCell (show w.heap.size ≤ w.heap.size by have g0 := Hs1.out; have g1 := Hs2.out; have g2 := Hs3.out; have g3 := Hs4.out; have g4 := Hs5.out; have g5 := Hs6.out; have g6 := Hs7.out; have g7 := Hs8.out; have g8 := Hs9.out; have g9 := Hs9.out; omega) _)
  have hz9 : ((w9.setCell ⟨w.heap.size, 0, none⟩ (.string (textS (lowN (grp k) (2 ^ numOf n)) (grp k).size))).setCell ⟨w.heap.size, 1, none⟩ (.string (textS (lowN (grp k) (2 ^ numOf x * numOf key ^ numOf n)) (grp k).size))).heap.size = w9.heap.size := by simp [World.setCell]
  have ho9Hbg := ((Hbg.out.other (show _ ≠ w.heap.size by have g0 := Hs1.out; have g1 := Hs2.out; have g2 := Hs3.out; have g3 := Hs4.out; have g4 := Hs5.out; have g5 := Hs6.out; have g6 := Hs7.out; have g7 := Hs8.out; have g8 := Hs9.out; have g9 := Hs9.out; omega) 0 (.string (textS (lowN (grp k) (2 ^ numOf n)) (grp k).size))).other (show _ ≠ w.heap.size by have g0 := Hs1.out; have g1 := Hs2.out; have g2 := Hs3.out; have g3 := Hs4.out; have g4 := Hs5.out; have g5 := Hs6.out; have g6 := Hs7.out; have g7 := Hs8.out; have g8 := Hs9.out; have g9 := Hs9.out; omega) 1 (.string (textS (lowN (grp k) (2 ^ numOf x * numOf key ^ numOf n)) (grp k).size)))
  obtain ⟨w10, hq10⟩ : ∃ W9 : World, ((w9.setCell ⟨w.heap.size, 0, none⟩ (.string (textS (lowN (grp k) (2 ^ numOf n)) (grp k).size))).setCell ⟨w.heap.size, 1, none⟩ (.string (textS (lowN (grp k) (2 ^ numOf x * numOf key ^ numOf n)) (grp k).size))) = W9 := ⟨_, rfl⟩
  rw [hq10] at hx9 hb9 hz9 ho9Hbg
  clear Hbc HB
  have Hbc := Lib.hid hx9
  have HB := Lib.hid hb9
  have Hs10 := Lib.hid hz9
  replace Hbg := Lib.hid ho9Hbg
  clear hx9 hb9 hz9 ho9Hbg
  have bc_0 := Hbc.out.cell (i := 0) rfl
  have bc_1 := Hbc.out.cell (i := 1) rfl
  have bg_0 := Hbg.out.cell (i := 0) rfl
  have bg_1 := Hbg.out.cell (i := 1) rfl
  have bg_2 := Hbg.out.cell (i := 2) rfl
  replace HGR := Lib.hid (by have h9 := HGR.out; rw [hq10] at h9; exact h9)
  go_simp
  try rw [hq10]
  refine hK _ _ ⟨⟨⟨w10, HGR.out⟩, rfl⟩, ?_⟩
  clear hK K HGR
  clear hq10 o10_bg_2 o10_bg_1 o10_bg_0 o10_bc_1 o10_bc_0 f10_bc_1 f10_bc_0
  repeat (refine tree_q rfl rfl ?_; go_big_quiet_step (fail); refine wpQuiet_nil ?_)
  refine tree_end ?_
  go_wp2_with fail
  simp [bodyPost, results, Try.results22, go_sem, bc_0, bc_1]
  exact HB.out

set_option maxRecDepth 100000 in
set_option maxHeartbeats 1000000 in
theorem rRenew_none (k : Int) (hk : ¬ (1 ≤ k ∧ k ≤ 3)) (key n : ByteArray) (c : ByteArray × ByteArray) (w : World) : Calls Try.prog 26 #[.int .i64 k, .string key, ciphV c.1 c.2, .string n] w (Gives (cipE 1) w) := by
  unfold Gives cipE ciphV
  go_enter Try.func26, Try.ntmps26
  go_wp2_with fail
  have hb9 : Below w.heap.size w ((w.alloc (Obj.cells #[.string c.1, .string c.2] 41)).alloc (Obj.cells #[.string ⟨#[]⟩, .string ⟨#[]⟩] 41)) := (((Below.refl _ _).alloc (Nat.le_refl _) _).alloc (by simp) _)
  have hx90 : Bx ((w.alloc (Obj.cells #[.string c.1, .string c.2] 41)).alloc (Obj.cells #[.string ⟨#[]⟩, .string ⟨#[]⟩] 41)) (w.heap.size) 41 [.string c.1, .string c.2] := by
    have h := ((Bx.new w 41 [.string c.1, .string c.2] _ rfl).alloc (Obj.cells #[.string ⟨#[]⟩, .string ⟨#[]⟩] 41))
    exact h
  have hx91 : Bx ((w.alloc (Obj.cells #[.string c.1, .string c.2] 41)).alloc (Obj.cells #[.string ⟨#[]⟩, .string ⟨#[]⟩] 41)) (w.heap.size + 1) 41 [.string ⟨#[]⟩, .string ⟨#[]⟩] := by
    have h := (Bx.new (w.alloc (Obj.cells #[.string c.1, .string c.2] 41)) 41 [.string ⟨#[]⟩, .string ⟨#[]⟩] _ rfl)
    rw [World.size_alloc] at h
    exact h
  have hz9 : ((w.alloc (Obj.cells #[.string c.1, .string c.2] 41)).alloc (Obj.cells #[.string ⟨#[]⟩, .string ⟨#[]⟩] 41)).heap.size = w.heap.size + 2 := by simp
  obtain ⟨w1, hq1⟩ : ∃ W9 : World, ((w.alloc (Obj.cells #[.string c.1, .string c.2] 41)).alloc (Obj.cells #[.string ⟨#[]⟩, .string ⟨#[]⟩] 41)) = W9 := ⟨_, rfl⟩
  rw [hq1] at hb9 hz9 hx90 hx91
  rw [hq1]
  clear hq1
  have HB := Lib.hid hb9
  have Hs1 := Lib.hid hz9
  have Hbi := Lib.hid hx90
  have Hbc := Lib.hid hx91
  clear hb9 hz9 hx90 hx91
  have bi_0 := Hbi.out.cell (i := 0) rfl
  have bi_1 := Hbi.out.cell (i := 1) rfl
  have bc_0 := Hbc.out.cell (i := 0) rfl
  have bc_1 := Hbc.out.cell (i := 1) rfl
  go_wp2_with fail
  refine (refKind_none k hk w1).mono ?_
  rintro e w2 ⟨rfl, hb9⟩
  clear bi_0 bi_1
  replace Hbi := Lib.hid (Hbi.out.up hb9)
  clear bc_0 bc_1
  replace Hbc := Lib.hid (Hbc.out.up hb9)
  replace HB := Lib.hid (below_up HB.out hb9)
  have Hs2 := Lib.hid (show w1.heap.size ≤ w2.heap.size from hb9.size)
  clear hb9
  have bi_0 := Hbi.out.cell (i := 0) rfl
  have bi_1 := Hbi.out.cell (i := 1) rfl
  have bc_0 := Hbc.out.cell (i := 0) rfl
  have bc_1 := Hbc.out.cell (i := 1) rfl
  clear bi_0 bi_1
  clear bc_0 bc_1
  have hb9 : Below w2.heap.size w2 (w2.alloc (Obj.cells #[.int .i64 0, .slice none 0 0, .slice none 0 0] 98)) := ((Below.refl _ _).alloc (Nat.le_refl _) _)
  have hx90 : Bx (w2.alloc (Obj.cells #[.int .i64 0, .slice none 0 0, .slice none 0 0] 98)) (w2.heap.size) 98 [.int .i64 0, .slice none 0 0, .slice none 0 0] := by
    have h := (Bx.new w2 98 [.int .i64 0, .slice none 0 0, .slice none 0 0] _ rfl)
    exact h
  have hz9 : (w2.alloc (Obj.cells #[.int .i64 0, .slice none 0 0, .slice none 0 0] 98)).heap.size = w2.heap.size + 1 := by simp
  obtain ⟨w3, hq3⟩ : ∃ W9 : World, (w2.alloc (Obj.cells #[.int .i64 0, .slice none 0 0, .slice none 0 0] 98)) = W9 := ⟨_, rfl⟩
  rw [hq3] at hb9 hz9 hx90
  replace Hbi := Lib.hid (Hbi.out.up hb9)
  replace Hbc := Lib.hid (Hbc.out.up hb9)
  replace HB := Lib.hid (below_up HB.out hb9)
  have Hs3 := Lib.hid hz9
  have Hbg := Lib.hid hx90
  clear hb9 hz9 hx90
  have bi_0 := Hbi.out.cell (i := 0) rfl
  have bi_1 := Hbi.out.cell (i := 1) rfl
  have bc_0 := Hbc.out.cell (i := 0) rfl
  have bc_1 := Hbc.out.cell (i := 1) rfl
  have bg_0 := Hbg.out.cell (i := 0) rfl
  have bg_1 := Hbg.out.cell (i := 1) rfl
  have bg_2 := Hbg.out.cell (i := 2) rfl
  have f4_bg_0 := Hbg.out.frozen 0
  have f4_bg_1 := Hbg.out.frozen 1
  have f4_bg_2 := Hbg.out.frozen 2
  have o4_bi_0 := bi_0; clear bi_0
  have o4_bi_1 := bi_1; clear bi_1
  have o4_bc_0 := bc_0; clear bc_0
  have o4_bc_1 := bc_1; clear bc_1
  have o4_bg_0 := bg_0; clear bg_0
  have o4_bg_1 := bg_1; clear bg_1
  have o4_bg_2 := bg_2; clear bg_2
  have hx9 : Bx (((w3.setCell ⟨w2.heap.size, 0, none⟩ (.int .i64 0)).setCell ⟨w2.heap.size, 1, none⟩ (.slice none 0 0)).setCell ⟨w2.heap.size, 2, none⟩ (.slice none 0 0)) (w2.heap.size) 98 [.int .i64 0, .slice none 0 0, .slice none 0 0] := (((Hbg.out.set 0 (.int .i64 0)).set 1 (.slice none 0 0)).set 2 (.slice none 0 0))
  have hb9 : Below w.heap.size w (((w3.setCell ⟨w2.heap.size, 0, none⟩ (.int .i64 0)).setCell ⟨w2.heap.size, 1, none⟩ (.slice none 0 0)).setCell ⟨w2.heap.size, 2, none⟩ (.slice none 0 0)) := (((HB.out.setCell (show w.heap.size ≤ w2.heap.size by have g0 := Hs1.out; have g1 := Hs2.out; have g2 := Hs3.out; omega) _).setCell (show w.heap.size ≤ w2.heap.size by have g0 := Hs1.out; have g1 := Hs2.out; have g2 := Hs3.out; omega) _).setCell (show w.heap.size ≤ w2.heap.size by have g0 := Hs1.out; have g1 := Hs2.out; have g2 := Hs3.out; omega) _)
  have hz9 : (((w3.setCell ⟨w2.heap.size, 0, none⟩ (.int .i64 0)).setCell ⟨w2.heap.size, 1, none⟩ (.slice none 0 0)).setCell ⟨w2.heap.size, 2, none⟩ (.slice none 0 0)).heap.size = w3.heap.size := by simp [World.setCell]
  have ho9Hbi := (((Hbi.out.other (show _ ≠ w2.heap.size by have g0 := Hs1.out; have g1 := Hs2.out; have g2 := Hs3.out; omega) 0 (.int .i64 0)).other (show _ ≠ w2.heap.size by have g0 := Hs1.out; have g1 := Hs2.out; have g2 := Hs3.out; omega) 1 (.slice none 0 0)).other (show _ ≠ w2.heap.size by have g0 := Hs1.out; have g1 := Hs2.out; have g2 := Hs3.out; omega) 2 (.slice none 0 0))
  have ho9Hbc := (((Hbc.out.other (show _ ≠ w2.heap.size by have g0 := Hs1.out; have g1 := Hs2.out; have g2 := Hs3.out; omega) 0 (.int .i64 0)).other (show _ ≠ w2.heap.size by have g0 := Hs1.out; have g1 := Hs2.out; have g2 := Hs3.out; omega) 1 (.slice none 0 0)).other (show _ ≠ w2.heap.size by have g0 := Hs1.out; have g1 := Hs2.out; have g2 := Hs3.out; omega) 2 (.slice none 0 0))
  obtain ⟨w4, hq4⟩ : ∃ W9 : World, (((w3.setCell ⟨w2.heap.size, 0, none⟩ (.int .i64 0)).setCell ⟨w2.heap.size, 1, none⟩ (.slice none 0 0)).setCell ⟨w2.heap.size, 2, none⟩ (.slice none 0 0)) = W9 := ⟨_, rfl⟩
  rw [hq4] at hx9 hb9 hz9 ho9Hbi ho9Hbc
  clear Hbg HB
  have Hbg := Lib.hid hx9
  have HB := Lib.hid hb9
  have Hs4 := Lib.hid hz9
  replace Hbi := Lib.hid ho9Hbi
  replace Hbc := Lib.hid ho9Hbc
  clear hx9 hb9 hz9 ho9Hbi ho9Hbc
  have bi_0 := Hbi.out.cell (i := 0) rfl
  have bi_1 := Hbi.out.cell (i := 1) rfl
  have bc_0 := Hbc.out.cell (i := 0) rfl
  have bc_1 := Hbc.out.cell (i := 1) rfl
  have bg_0 := Hbg.out.cell (i := 0) rfl
  have bg_1 := Hbg.out.cell (i := 1) rfl
  have bg_2 := Hbg.out.cell (i := 2) rfl
  have f5_bc_0 := Hbc.out.frozen 0
  have f5_bc_1 := Hbc.out.frozen 1
  have o5_bi_0 := bi_0; clear bi_0
  have o5_bi_1 := bi_1; clear bi_1
  have o5_bc_0 := bc_0; clear bc_0
  have o5_bc_1 := bc_1; clear bc_1
  have o5_bg_0 := bg_0; clear bg_0
  have o5_bg_1 := bg_1; clear bg_1
  have o5_bg_2 := bg_2; clear bg_2
  have hx9 : Bx ((w4.setCell ⟨w.heap.size + 1, 0, none⟩ (.string ⟨#[]⟩)).setCell ⟨w.heap.size + 1, 1, none⟩ (.string ⟨#[]⟩)) (w.heap.size + 1) 41 [.string ⟨#[]⟩, .string ⟨#[]⟩] := ((Hbc.out.set 0 (.string ⟨#[]⟩)).set 1 (.string ⟨#[]⟩))
  have hb9 : Below w.heap.size w ((w4.setCell ⟨w.heap.size + 1, 0, none⟩ (.string ⟨#[]⟩)).setCell ⟨w.heap.size + 1, 1, none⟩ (.string ⟨#[]⟩)) := ((HB.out.setCell (show w.heap.size ≤ w.heap.size + 1 by have g0 := Hs1.out; have g1 := Hs2.out; have g2 := Hs3.out; have g3 := Hs4.out; omega) _).setCell (show w.heap.size ≤ w.heap.size + 1 by have g0 := Hs1.out; have g1 := Hs2.out; have g2 := Hs3.out; have g3 := Hs4.out; omega) _)
  have hz9 : ((w4.setCell ⟨w.heap.size + 1, 0, none⟩ (.string ⟨#[]⟩)).setCell ⟨w.heap.size + 1, 1, none⟩ (.string ⟨#[]⟩)).heap.size = w4.heap.size := by simp [World.setCell]
  have ho9Hbi := ((Hbi.out.other (show _ ≠ w.heap.size + 1 by have g0 := Hs1.out; have g1 := Hs2.out; have g2 := Hs3.out; have g3 := Hs4.out; omega) 0 (.string ⟨#[]⟩)).other (show _ ≠ w.heap.size + 1 by have g0 := Hs1.out; have g1 := Hs2.out; have g2 := Hs3.out; have g3 := Hs4.out; omega) 1 (.string ⟨#[]⟩))
  have ho9Hbg := ((Hbg.out.other (show _ ≠ w.heap.size + 1 by have g0 := Hs1.out; have g1 := Hs2.out; have g2 := Hs3.out; have g3 := Hs4.out; omega) 0 (.string ⟨#[]⟩)).other (show _ ≠ w.heap.size + 1 by have g0 := Hs1.out; have g1 := Hs2.out; have g2 := Hs3.out; have g3 := Hs4.out; omega) 1 (.string ⟨#[]⟩))
  obtain ⟨w5, hq5⟩ : ∃ W9 : World, ((w4.setCell ⟨w.heap.size + 1, 0, none⟩ (.string ⟨#[]⟩)).setCell ⟨w.heap.size + 1, 1, none⟩ (.string ⟨#[]⟩)) = W9 := ⟨_, rfl⟩
  rw [hq5] at hx9 hb9 hz9 ho9Hbi ho9Hbg
  clear Hbc HB
  have Hbc := Lib.hid hx9
  have HB := Lib.hid hb9
  have Hs5 := Lib.hid hz9
  replace Hbi := Lib.hid ho9Hbi
  replace Hbg := Lib.hid ho9Hbg
  clear hx9 hb9 hz9 ho9Hbi ho9Hbg
  have bi_0 := Hbi.out.cell (i := 0) rfl
  have bi_1 := Hbi.out.cell (i := 1) rfl
  have bc_0 := Hbc.out.cell (i := 0) rfl
  have bc_1 := Hbc.out.cell (i := 1) rfl
  have bg_0 := Hbg.out.cell (i := 0) rfl
  have bg_1 := Hbg.out.cell (i := 1) rfl
  have bg_2 := Hbg.out.cell (i := 2) rfl
  go_wp2_with fail
  clear hq5 o5_bg_2 o5_bg_1 o5_bg_0 o5_bc_1 o5_bc_0 o5_bi_1 o5_bi_0 f5_bc_1 f5_bc_0 hq4 o4_bg_2 o4_bg_1 o4_bg_0 o4_bc_1 o4_bc_0 o4_bi_1 o4_bi_0 f4_bg_2 f4_bg_1 f4_bg_0 hq3
  simp [bodyPost, results, Try.results26, go_sem, bc_0, bc_1]
  exact HB.out

set_option maxRecDepth 100000 in
set_option maxHeartbeats 1000000 in
theorem rRenew_some (k : Nat) (h1 : 1 ≤ k) (h3 : k ≤ 3) (key n : ByteArray) (c : ByteArray × ByteArray) (bk bc bn : Bool) (hk : isEl (grp k).q.m (grp k).size key = bk) (hc : cipOk (grp k) c = bc) (hn : isSc (grp k).q.m (grp k).size n = bn) (w : World) :
    Calls Try.prog 26 #[.int .i64 (k : Int), .string key, ciphV c.1 c.2, .string n] w (Gives (if bk && bc then if bn then .tuple #[ciphV (textS (lowN (grp k) (numOf c.1 * 2 ^ numOf n)) (grp k).size) (textS (lowN (grp k) (numOf c.2 * numOf key ^ numOf n)) (grp k).size), .int .i64 0] else cipE 6 else cipE 7) w) := by
  have OK := Lib.hid (grp_ok k h1 h3)
  have hs0 := size_not0 k h1 h3
  have hsz : (grp k).size ≤ 32 := OK.out.size_le
  have hsk : bk = true → key.size ≤ 32 := fun h => by have := isEl_size (hk.trans h); omega
  have hsc : bc = true → c.1.size ≤ 32 ∧ c.2.size ≤ 32 := fun h => by
    have h := hc.trans h
    unfold cipOk at h
    simp only [Bool.and_eq_true] at h
    have := isEl_size h.1; have := isEl_size h.2; omega
  have hsn : bn = true → n.size ≤ 32 := fun h => by have := isSc_size (hn.trans h); omega
  have hek := fun aq ap cq cp W h => rIsEl (cq := cq) (cp := cp) (aq := aq) (ap := ap) (G := grp k) OK.out key W h
  have hec := fun aq ap cq cp W h => rElems (cq := cq) (cp := cp) (aq := aq) (ap := ap) (G := grp k) OK.out c W h
  have hen := fun aq ap cq cp W h => rIsSc (cq := cq) (cp := cp) (aq := aq) (ap := ap) (G := grp k) OK.out n W h
  rw [hk] at hek
  rw [hc] at hec
  rw [hn] at hen
  have HEK := Lib.hid hek
  have HEC := Lib.hid hec
  have HEN := Lib.hid hen
  have HSK := Lib.hid hsk
  have HSC := Lib.hid hsc
  have HSN := Lib.hid hsn
  clear hek hec hen hk hc hn hsk hsc hsn hsz
  unfold Gives cipE ciphV
  go_enter Try.func26, Try.ntmps26
  go_wp2_with fail
  have hb9 : Below w.heap.size w ((w.alloc (Obj.cells #[.string c.1, .string c.2] 41)).alloc (Obj.cells #[.string ⟨#[]⟩, .string ⟨#[]⟩] 41)) := (((Below.refl _ _).alloc (Nat.le_refl _) _).alloc (by simp) _)
  have hx90 : Bx ((w.alloc (Obj.cells #[.string c.1, .string c.2] 41)).alloc (Obj.cells #[.string ⟨#[]⟩, .string ⟨#[]⟩] 41)) (w.heap.size) 41 [.string c.1, .string c.2] := by
    have h := ((Bx.new w 41 [.string c.1, .string c.2] _ rfl).alloc (Obj.cells #[.string ⟨#[]⟩, .string ⟨#[]⟩] 41))
    exact h
  have hx91 : Bx ((w.alloc (Obj.cells #[.string c.1, .string c.2] 41)).alloc (Obj.cells #[.string ⟨#[]⟩, .string ⟨#[]⟩] 41)) (w.heap.size + 1) 41 [.string ⟨#[]⟩, .string ⟨#[]⟩] := by
    have h := (Bx.new (w.alloc (Obj.cells #[.string c.1, .string c.2] 41)) 41 [.string ⟨#[]⟩, .string ⟨#[]⟩] _ rfl)
    rw [World.size_alloc] at h
    exact h
  have hz9 : ((w.alloc (Obj.cells #[.string c.1, .string c.2] 41)).alloc (Obj.cells #[.string ⟨#[]⟩, .string ⟨#[]⟩] 41)).heap.size = w.heap.size + 2 := by simp
  obtain ⟨w1, hq1⟩ : ∃ W9 : World, ((w.alloc (Obj.cells #[.string c.1, .string c.2] 41)).alloc (Obj.cells #[.string ⟨#[]⟩, .string ⟨#[]⟩] 41)) = W9 := ⟨_, rfl⟩
  rw [hq1] at hb9 hz9 hx90 hx91
  rw [hq1]
  clear hq1
  have HB := Lib.hid hb9
  have Hs1 := Lib.hid hz9
  have Hbi := Lib.hid hx90
  have Hbc := Lib.hid hx91
  clear hb9 hz9 hx90 hx91
  have bi_0 := Hbi.out.cell (i := 0) rfl
  have bi_1 := Hbi.out.cell (i := 1) rfl
  have bc_0 := Hbc.out.cell (i := 0) rfl
  have bc_1 := Hbc.out.cell (i := 1) rfl
  go_wp2_with fail
  refine (refKind_some k h1 h3 w1).mono ?_
  rintro e w2 ⟨aq, cq, ap, cp, rfl, hq9, hp9, hb9⟩
  clear bi_0 bi_1
  replace Hbi := Lib.hid (Hbi.out.up hb9)
  clear bc_0 bc_1
  replace Hbc := Lib.hid (Hbc.out.up hb9)
  replace HB := Lib.hid (below_up HB.out hb9)
  have Hs2 := Lib.hid (show w1.heap.size ≤ w2.heap.size from hb9.size)
  have HRG := Lib.hid (RG.mk (G := grp k) hq9 hp9)
  clear hq9 hp9
  clear hb9
  have bi_0 := Hbi.out.cell (i := 0) rfl
  have bi_1 := Hbi.out.cell (i := 1) rfl
  have bc_0 := Hbc.out.cell (i := 0) rfl
  have bc_1 := Hbc.out.cell (i := 1) rfl
  have HK := Lib.hid (Below.refl w2.heap.size w2)
  clear bi_0 bi_1
  clear bc_0 bc_1
  have hb9 : Below w2.heap.size w2 (w2.alloc (Obj.cells #[.int .i64 ((grp k).size : Int), .slice aq (dl (grp k).q.m) cq, .slice ap (dl (grp k).p.m) cp] 98)) := ((Below.refl _ _).alloc (Nat.le_refl _) _)
  have hx90 : Bx (w2.alloc (Obj.cells #[.int .i64 ((grp k).size : Int), .slice aq (dl (grp k).q.m) cq, .slice ap (dl (grp k).p.m) cp] 98)) (w2.heap.size) 98 [.int .i64 ((grp k).size : Int), .slice aq (dl (grp k).q.m) cq, .slice ap (dl (grp k).p.m) cp] := by
    have h := (Bx.new w2 98 [.int .i64 ((grp k).size : Int), .slice aq (dl (grp k).q.m) cq, .slice ap (dl (grp k).p.m) cp] _ rfl)
    exact h
  have hz9 : (w2.alloc (Obj.cells #[.int .i64 ((grp k).size : Int), .slice aq (dl (grp k).q.m) cq, .slice ap (dl (grp k).p.m) cp] 98)).heap.size = w2.heap.size + 1 := by simp
  obtain ⟨w3, hq3⟩ : ∃ W9 : World, (w2.alloc (Obj.cells #[.int .i64 ((grp k).size : Int), .slice aq (dl (grp k).q.m) cq, .slice ap (dl (grp k).p.m) cp] 98)) = W9 := ⟨_, rfl⟩
  rw [hq3] at hb9 hz9 hx90
  replace Hbi := Lib.hid (Hbi.out.up hb9)
  replace Hbc := Lib.hid (Hbc.out.up hb9)
  replace HK := Lib.hid (below_up HK.out hb9)
  replace HB := Lib.hid (below_up HB.out hb9)
  have Hs3 := Lib.hid hz9
  have Hbg := Lib.hid hx90
  clear hb9 hz9 hx90
  have bi_0 := Hbi.out.cell (i := 0) rfl
  have bi_1 := Hbi.out.cell (i := 1) rfl
  have bc_0 := Hbc.out.cell (i := 0) rfl
  have bc_1 := Hbc.out.cell (i := 1) rfl
  have bg_0 := Hbg.out.cell (i := 0) rfl
  have bg_1 := Hbg.out.cell (i := 1) rfl
  have bg_2 := Hbg.out.cell (i := 2) rfl
  go_wp2_with fail
  clear hq3
  refine (HEK.out _ _ _ _ w3 (HRG.out.up HK.out)).mono ?_
  rintro e w4 ⟨rfl, hb9⟩
  clear bi_0 bi_1
  replace Hbi := Lib.hid (Hbi.out.up hb9)
  clear bc_0 bc_1
  replace Hbc := Lib.hid (Hbc.out.up hb9)
  clear bg_0 bg_1 bg_2
  replace Hbg := Lib.hid (Hbg.out.up hb9)
  replace HK := Lib.hid (below_up HK.out hb9)
  replace HB := Lib.hid (below_up HB.out hb9)
  have Hs4 := Lib.hid (show w3.heap.size ≤ w4.heap.size from hb9.size)
  clear hb9
  have bi_0 := Hbi.out.cell (i := 0) rfl
  have bi_1 := Hbi.out.cell (i := 1) rfl
  have bc_0 := Hbc.out.cell (i := 0) rfl
  have bc_1 := Hbc.out.cell (i := 1) rfl
  have bg_0 := Hbg.out.cell (i := 0) rfl
  have bg_1 := Hbg.out.cell (i := 1) rfl
  have bg_2 := Hbg.out.cell (i := 2) rfl
  cases bk
  · skip
    have f5_bc_0 := Hbc.out.frozen 0
    have f5_bc_1 := Hbc.out.frozen 1
    have o5_bi_0 := bi_0; clear bi_0
    have o5_bi_1 := bi_1; clear bi_1
    have o5_bc_0 := bc_0; clear bc_0
    have o5_bc_1 := bc_1; clear bc_1
    have o5_bg_0 := bg_0; clear bg_0
    have o5_bg_1 := bg_1; clear bg_1
    have o5_bg_2 := bg_2; clear bg_2
    have hx9 : Bx ((w4.setCell ⟨w.heap.size + 1, 0, none⟩ (.string ⟨#[]⟩)).setCell ⟨w.heap.size + 1, 1, none⟩ (.string ⟨#[]⟩)) (w.heap.size + 1) 41 [.string ⟨#[]⟩, .string ⟨#[]⟩] := ((Hbc.out.set 0 (.string ⟨#[]⟩)).set 1 (.string ⟨#[]⟩))
    have hb9 : Below w.heap.size w ((w4.setCell ⟨w.heap.size + 1, 0, none⟩ (.string ⟨#[]⟩)).setCell ⟨w.heap.size + 1, 1, none⟩ (.string ⟨#[]⟩)) := ((HB.out.setCell (show w.heap.size ≤ w.heap.size + 1 by have g0 := Hs1.out; have g1 := Hs2.out; have g2 := Hs3.out; have g3 := Hs4.out; omega) _).setCell (show w.heap.size ≤ w.heap.size + 1 by have g0 := Hs1.out; have g1 := Hs2.out; have g2 := Hs3.out; have g3 := Hs4.out; omega) _)
    have hz9 : ((w4.setCell ⟨w.heap.size + 1, 0, none⟩ (.string ⟨#[]⟩)).setCell ⟨w.heap.size + 1, 1, none⟩ (.string ⟨#[]⟩)).heap.size = w4.heap.size := by simp [World.setCell]
    have ho9Hbi := ((Hbi.out.other (show _ ≠ w.heap.size + 1 by have g0 := Hs1.out; have g1 := Hs2.out; have g2 := Hs3.out; have g3 := Hs4.out; omega) 0 (.string ⟨#[]⟩)).other (show _ ≠ w.heap.size + 1 by have g0 := Hs1.out; have g1 := Hs2.out; have g2 := Hs3.out; have g3 := Hs4.out; omega) 1 (.string ⟨#[]⟩))
    have ho9Hbg := ((Hbg.out.other (show _ ≠ w.heap.size + 1 by have g0 := Hs1.out; have g1 := Hs2.out; have g2 := Hs3.out; have g3 := Hs4.out; omega) 0 (.string ⟨#[]⟩)).other (show _ ≠ w.heap.size + 1 by have g0 := Hs1.out; have g1 := Hs2.out; have g2 := Hs3.out; have g3 := Hs4.out; omega) 1 (.string ⟨#[]⟩))
    obtain ⟨w5, hq5⟩ : ∃ W9 : World, ((w4.setCell ⟨w.heap.size + 1, 0, none⟩ (.string ⟨#[]⟩)).setCell ⟨w.heap.size + 1, 1, none⟩ (.string ⟨#[]⟩)) = W9 := ⟨_, rfl⟩
    rw [hq5] at hx9 hb9 hz9 ho9Hbi ho9Hbg
    clear Hbc HB
    have Hbc := Lib.hid hx9
    have HB := Lib.hid hb9
    have Hs5 := Lib.hid hz9
    replace Hbi := Lib.hid ho9Hbi
    replace Hbg := Lib.hid ho9Hbg
    clear hx9 hb9 hz9 ho9Hbi ho9Hbg
    have bi_0 := Hbi.out.cell (i := 0) rfl
    have bi_1 := Hbi.out.cell (i := 1) rfl
    have bc_0 := Hbc.out.cell (i := 0) rfl
    have bc_1 := Hbc.out.cell (i := 1) rfl
    have bg_0 := Hbg.out.cell (i := 0) rfl
    have bg_1 := Hbg.out.cell (i := 1) rfl
    have bg_2 := Hbg.out.cell (i := 2) rfl
    go_wp2_with fail
    clear hq5 o5_bg_2 o5_bg_1 o5_bg_0 o5_bc_1 o5_bc_0 o5_bi_1 o5_bi_0 f5_bc_1 f5_bc_0
    simp [bodyPost, results, Try.results26, go_sem, bc_0, bc_1]
    exact HB.out
  replace HSK := Lib.hid (HSK.out rfl)
  go_wp2_with fail
  refine (HEC.out _ _ _ _ w4 (HRG.out.up HK.out)).mono ?_
  rintro e w5 ⟨rfl, hb9⟩
  clear bi_0 bi_1
  replace Hbi := Lib.hid (Hbi.out.up hb9)
  clear bc_0 bc_1
  replace Hbc := Lib.hid (Hbc.out.up hb9)
  clear bg_0 bg_1 bg_2
  replace Hbg := Lib.hid (Hbg.out.up hb9)
  replace HK := Lib.hid (below_up HK.out hb9)
  replace HB := Lib.hid (below_up HB.out hb9)
  have Hs5 := Lib.hid (show w4.heap.size ≤ w5.heap.size from hb9.size)
  clear hb9
  have bi_0 := Hbi.out.cell (i := 0) rfl
  have bi_1 := Hbi.out.cell (i := 1) rfl
  have bc_0 := Hbc.out.cell (i := 0) rfl
  have bc_1 := Hbc.out.cell (i := 1) rfl
  have bg_0 := Hbg.out.cell (i := 0) rfl
  have bg_1 := Hbg.out.cell (i := 1) rfl
  have bg_2 := Hbg.out.cell (i := 2) rfl
  cases bc
  · skip
    have f6_bc_0 := Hbc.out.frozen 0
    have f6_bc_1 := Hbc.out.frozen 1
    have o6_bi_0 := bi_0; clear bi_0
    have o6_bi_1 := bi_1; clear bi_1
    have o6_bc_0 := bc_0; clear bc_0
    have o6_bc_1 := bc_1; clear bc_1
    have o6_bg_0 := bg_0; clear bg_0
    have o6_bg_1 := bg_1; clear bg_1
    have o6_bg_2 := bg_2; clear bg_2
    have hx9 : Bx ((w5.setCell ⟨w.heap.size + 1, 0, none⟩ (.string ⟨#[]⟩)).setCell ⟨w.heap.size + 1, 1, none⟩ (.string ⟨#[]⟩)) (w.heap.size + 1) 41 [.string ⟨#[]⟩, .string ⟨#[]⟩] := ((Hbc.out.set 0 (.string ⟨#[]⟩)).set 1 (.string ⟨#[]⟩))
    have hb9 : Below w.heap.size w ((w5.setCell ⟨w.heap.size + 1, 0, none⟩ (.string ⟨#[]⟩)).setCell ⟨w.heap.size + 1, 1, none⟩ (.string ⟨#[]⟩)) := ((HB.out.setCell (show w.heap.size ≤ w.heap.size + 1 by have g0 := Hs1.out; have g1 := Hs2.out; have g2 := Hs3.out; have g3 := Hs4.out; have g4 := Hs5.out; omega) _).setCell (show w.heap.size ≤ w.heap.size + 1 by have g0 := Hs1.out; have g1 := Hs2.out; have g2 := Hs3.out; have g3 := Hs4.out; have g4 := Hs5.out; omega) _)
    have hz9 : ((w5.setCell ⟨w.heap.size + 1, 0, none⟩ (.string ⟨#[]⟩)).setCell ⟨w.heap.size + 1, 1, none⟩ (.string ⟨#[]⟩)).heap.size = w5.heap.size := by simp [World.setCell]
    have ho9Hbi := ((Hbi.out.other (show _ ≠ w.heap.size + 1 by have g0 := Hs1.out; have g1 := Hs2.out; have g2 := Hs3.out; have g3 := Hs4.out; have g4 := Hs5.out; omega) 0 (.string ⟨#[]⟩)).other (show _ ≠ w.heap.size + 1 by have g0 := Hs1.out; have g1 := Hs2.out; have g2 := Hs3.out; have g3 := Hs4.out; have g4 := Hs5.out; omega) 1 (.string ⟨#[]⟩))
    have ho9Hbg := ((Hbg.out.other (show _ ≠ w.heap.size + 1 by have g0 := Hs1.out; have g1 := Hs2.out; have g2 := Hs3.out; have g3 := Hs4.out; have g4 := Hs5.out; omega) 0 (.string ⟨#[]⟩)).other (show _ ≠ w.heap.size + 1 by have g0 := Hs1.out; have g1 := Hs2.out; have g2 := Hs3.out; have g3 := Hs4.out; have g4 := Hs5.out; omega) 1 (.string ⟨#[]⟩))
    obtain ⟨w6, hq6⟩ : ∃ W9 : World, ((w5.setCell ⟨w.heap.size + 1, 0, none⟩ (.string ⟨#[]⟩)).setCell ⟨w.heap.size + 1, 1, none⟩ (.string ⟨#[]⟩)) = W9 := ⟨_, rfl⟩
    rw [hq6] at hx9 hb9 hz9 ho9Hbi ho9Hbg
    clear Hbc HB
    have Hbc := Lib.hid hx9
    have HB := Lib.hid hb9
    have Hs6 := Lib.hid hz9
    replace Hbi := Lib.hid ho9Hbi
    replace Hbg := Lib.hid ho9Hbg
    clear hx9 hb9 hz9 ho9Hbi ho9Hbg
    have bi_0 := Hbi.out.cell (i := 0) rfl
    have bi_1 := Hbi.out.cell (i := 1) rfl
    have bc_0 := Hbc.out.cell (i := 0) rfl
    have bc_1 := Hbc.out.cell (i := 1) rfl
    have bg_0 := Hbg.out.cell (i := 0) rfl
    have bg_1 := Hbg.out.cell (i := 1) rfl
    have bg_2 := Hbg.out.cell (i := 2) rfl
    go_wp2_with fail
    clear hq6 o6_bg_2 o6_bg_1 o6_bg_0 o6_bc_1 o6_bc_0 o6_bi_1 o6_bi_0 f6_bc_1 f6_bc_0
    simp [bodyPost, results, Try.results26, go_sem, bc_0, bc_1]
    exact HB.out
  replace HSC := Lib.hid (HSC.out rfl)
  go_wp2_with fail
  refine (HEN.out _ _ _ _ w5 (HRG.out.up HK.out)).mono ?_
  rintro e w6 ⟨rfl, hb9⟩
  clear bi_0 bi_1
  replace Hbi := Lib.hid (Hbi.out.up hb9)
  clear bc_0 bc_1
  replace Hbc := Lib.hid (Hbc.out.up hb9)
  clear bg_0 bg_1 bg_2
  replace Hbg := Lib.hid (Hbg.out.up hb9)
  replace HK := Lib.hid (below_up HK.out hb9)
  replace HB := Lib.hid (below_up HB.out hb9)
  have Hs6 := Lib.hid (show w5.heap.size ≤ w6.heap.size from hb9.size)
  clear hb9
  have bi_0 := Hbi.out.cell (i := 0) rfl
  have bi_1 := Hbi.out.cell (i := 1) rfl
  have bc_0 := Hbc.out.cell (i := 0) rfl
  have bc_1 := Hbc.out.cell (i := 1) rfl
  have bg_0 := Hbg.out.cell (i := 0) rfl
  have bg_1 := Hbg.out.cell (i := 1) rfl
  have bg_2 := Hbg.out.cell (i := 2) rfl
  cases bn
  · skip
    have f7_bc_0 := Hbc.out.frozen 0
    have f7_bc_1 := Hbc.out.frozen 1
    have o7_bi_0 := bi_0; clear bi_0
    have o7_bi_1 := bi_1; clear bi_1
    have o7_bc_0 := bc_0; clear bc_0
    have o7_bc_1 := bc_1; clear bc_1
    have o7_bg_0 := bg_0; clear bg_0
    have o7_bg_1 := bg_1; clear bg_1
    have o7_bg_2 := bg_2; clear bg_2
    have hx9 : Bx ((w6.setCell ⟨w.heap.size + 1, 0, none⟩ (.string ⟨#[]⟩)).setCell ⟨w.heap.size + 1, 1, none⟩ (.string ⟨#[]⟩)) (w.heap.size + 1) 41 [.string ⟨#[]⟩, .string ⟨#[]⟩] := ((Hbc.out.set 0 (.string ⟨#[]⟩)).set 1 (.string ⟨#[]⟩))
    have hb9 : Below w.heap.size w ((w6.setCell ⟨w.heap.size + 1, 0, none⟩ (.string ⟨#[]⟩)).setCell ⟨w.heap.size + 1, 1, none⟩ (.string ⟨#[]⟩)) := ((HB.out.setCell (show w.heap.size ≤ w.heap.size + 1 by have g0 := Hs1.out; have g1 := Hs2.out; have g2 := Hs3.out; have g3 := Hs4.out; have g4 := Hs5.out; have g5 := Hs6.out; omega) _).setCell (show w.heap.size ≤ w.heap.size + 1 by have g0 := Hs1.out; have g1 := Hs2.out; have g2 := Hs3.out; have g3 := Hs4.out; have g4 := Hs5.out; have g5 := Hs6.out; omega) _)
    have hz9 : ((w6.setCell ⟨w.heap.size + 1, 0, none⟩ (.string ⟨#[]⟩)).setCell ⟨w.heap.size + 1, 1, none⟩ (.string ⟨#[]⟩)).heap.size = w6.heap.size := by simp [World.setCell]
    have ho9Hbi := ((Hbi.out.other (show _ ≠ w.heap.size + 1 by have g0 := Hs1.out; have g1 := Hs2.out; have g2 := Hs3.out; have g3 := Hs4.out; have g4 := Hs5.out; have g5 := Hs6.out; omega) 0 (.string ⟨#[]⟩)).other (show _ ≠ w.heap.size + 1 by have g0 := Hs1.out; have g1 := Hs2.out; have g2 := Hs3.out; have g3 := Hs4.out; have g4 := Hs5.out; have g5 := Hs6.out; omega) 1 (.string ⟨#[]⟩))
    have ho9Hbg := ((Hbg.out.other (show _ ≠ w.heap.size + 1 by have g0 := Hs1.out; have g1 := Hs2.out; have g2 := Hs3.out; have g3 := Hs4.out; have g4 := Hs5.out; have g5 := Hs6.out; omega) 0 (.string ⟨#[]⟩)).other (show _ ≠ w.heap.size + 1 by have g0 := Hs1.out; have g1 := Hs2.out; have g2 := Hs3.out; have g3 := Hs4.out; have g4 := Hs5.out; have g5 := Hs6.out; omega) 1 (.string ⟨#[]⟩))
    obtain ⟨w7, hq7⟩ : ∃ W9 : World, ((w6.setCell ⟨w.heap.size + 1, 0, none⟩ (.string ⟨#[]⟩)).setCell ⟨w.heap.size + 1, 1, none⟩ (.string ⟨#[]⟩)) = W9 := ⟨_, rfl⟩
    rw [hq7] at hx9 hb9 hz9 ho9Hbi ho9Hbg
    clear Hbc HB
    have Hbc := Lib.hid hx9
    have HB := Lib.hid hb9
    have Hs7 := Lib.hid hz9
    replace Hbi := Lib.hid ho9Hbi
    replace Hbg := Lib.hid ho9Hbg
    clear hx9 hb9 hz9 ho9Hbi ho9Hbg
    have bi_0 := Hbi.out.cell (i := 0) rfl
    have bi_1 := Hbi.out.cell (i := 1) rfl
    have bc_0 := Hbc.out.cell (i := 0) rfl
    have bc_1 := Hbc.out.cell (i := 1) rfl
    have bg_0 := Hbg.out.cell (i := 0) rfl
    have bg_1 := Hbg.out.cell (i := 1) rfl
    have bg_2 := Hbg.out.cell (i := 2) rfl
    go_wp2_with fail
    clear hq7 o7_bg_2 o7_bg_1 o7_bg_0 o7_bc_1 o7_bc_0 o7_bi_1 o7_bi_0 f7_bc_1 f7_bc_0
    simp [bodyPost, results, Try.results26, go_sem, bc_0, bc_1]
    exact HB.out
  replace HSN := Lib.hid (HSN.out rfl)
  go_wp2_with fail
  have HT := Lib.hid (show Below w6.heap.size w6 w6.drew from (Below.refl _ _).drew)
  have hl_bi := Hbi.out.lt
  have hl_bg := Hbg.out.lt
  refine wp_region_tree (fun w9 => ∃ E : But w6 (some (w.heap.size + 1)), w9 = E.w) ((.qs [0, 1, 2, 3, 5] (.a 4 (.a 6 (.a 7 (.a 8 (.a 9 (.qs [10] .done)))))))) (by kernel_rfl) (by kernel_rfl) (fun _ _ d _ _ h => by cases d <;> exact h) ⟨⟨_, ((below_grown HT.out).but _)⟩, rfl⟩ ?_
  have hov_bi := fun (E : But w6 (some (w.heap.size + 1))) o => E.cell (b := w.heap.size) o hl_bi (by intro e9; have a0 := Option.some.inj e9; have g0 := Hs1.out; have g1 := Hs2.out; have g2 := Hs3.out; have g3 := Hs4.out; have g4 := Hs5.out; have g5 := Hs6.out; omega)
  have hov_bg := fun (E : But w6 (some (w.heap.size + 1))) o => E.cell (b := w2.heap.size) o hl_bg (by intro e9; have a0 := Option.some.inj e9; have g0 := Hs1.out; have g1 := Hs2.out; have g2 := Hs3.out; have g3 := Hs4.out; have g4 := Hs5.out; have g5 := Hs6.out; omega)
  simp only [Tree.qs]
  repeat (refine tree_q rfl rfl ?_; go_big_quiet_step (fail); refine wpQuiet_nil ?_)
  refine tree_a rfl (fun K hK => ?_)
  go_simp
  refine (refOf_any 0 (by omega) _).mono ?_
  rintro e w7 ⟨a4, c4, rfl, hn9, hb9⟩
  replace HT := Lib.hid (below_up HT.out hb9)
  have Hs7 := Lib.hid (show w6.heap.size ≤ w7.heap.size from HT.out.size)
  clear hb9
  have HN4 := Lib.hid hn9
  clear hn9
  refine hK _ _ ⟨⟨⟨w7, ((below_grown HT.out).but _)⟩, rfl⟩, ?_⟩
  clear hK K
  repeat (refine tree_q rfl rfl ?_; go_big_quiet_step (fail); refine wpQuiet_nil ?_)
  refine tree_a rfl (fun K hK => ?_)
  go_simp
  refine (refRead_any n (Nat.le_trans HSN.out (by decide)) _).mono ?_
  rintro e w8 ⟨a5, c5, rfl, hn9, hb9⟩
  replace HN4 := Lib.hid (HN4.out.up hb9)
  replace HT := Lib.hid (below_up HT.out hb9)
  have Hs8 := Lib.hid (show w6.heap.size ≤ w8.heap.size from HT.out.size)
  clear hb9
  have HN5 := Lib.hid hn9
  clear hn9
  refine hK _ _ ⟨⟨⟨w8, ((below_grown HT.out).but _)⟩, rfl⟩, ?_⟩
  clear hK K
  repeat (refine tree_q rfl rfl ?_; go_big_quiet_step (fail); refine wpQuiet_nil ?_)
  refine tree_a rfl (fun K hK => ?_)
  go_simp
  refine (rHide0 OK.out key HSK.out (Nat.le_trans (dl_of_lt _ 16 (numOf_16 n HSN.out)) (by decide)) _ (HRG.out.up (below_up HK.out HT.out)) HN4.out HN5.out).mono ?_
  rintro e w9 ⟨rfl, hb9⟩
  replace HN4 := Lib.hid (HN4.out.up hb9)
  replace HN5 := Lib.hid (HN5.out.up hb9)
  replace HT := Lib.hid (below_up HT.out hb9)
  have Hs9 := Lib.hid (show w6.heap.size ≤ w9.heap.size from HT.out.size)
  clear hb9
  refine hK _ _ ⟨⟨⟨w9, ((below_grown HT.out).but _)⟩, rfl⟩, ?_⟩
  clear hK K
  repeat (refine tree_q rfl rfl ?_; go_big_quiet_step (fail); refine wpQuiet_nil ?_)
  refine tree_a rfl (fun K hK => ?_)
  go_simp
  refine (rBoth2 k h1 h3 c _ _ HSC.out.1 HSC.out.2 _ (HRG.out.up (below_up HK.out HT.out))).mono ?_
  rintro e w10 ⟨rfl, hb9⟩
  replace HN4 := Lib.hid (HN4.out.up hb9)
  replace HN5 := Lib.hid (HN5.out.up hb9)
  replace HT := Lib.hid (below_up HT.out hb9)
  have Hs10 := Lib.hid (show w6.heap.size ≤ w10.heap.size from HT.out.size)
  clear hb9
  unfold ciphV
  refine hK _ _ ⟨⟨⟨w10, ((below_grown HT.out).but _)⟩, rfl⟩, ?_⟩
  clear hK K
  repeat (refine tree_q rfl rfl ?_; go_big_quiet_step (fail); refine wpQuiet_nil ?_)
  clear hov_bi hl_bi hov_bg hl_bg
  refine tree_a rfl (fun K hK => ?_)
  clear bi_0 bi_1
  replace Hbi := Lib.hid (Hbi.out.up HT.out)
  clear bc_0 bc_1
  replace Hbc := Lib.hid (Hbc.out.up HT.out)
  clear bg_0 bg_1 bg_2
  replace Hbg := Lib.hid (Hbg.out.up HT.out)
  replace HB := Lib.hid (below_up HB.out HT.out)
  have Hs10 := Lib.hid (show w6.heap.size ≤ w10.heap.size from HT.out.size)
  have bi_0 := Hbi.out.cell (i := 0) rfl
  have bi_1 := Hbi.out.cell (i := 1) rfl
  have bc_0 := Hbc.out.cell (i := 0) rfl
  have bc_1 := Hbc.out.cell (i := 1) rfl
  have bg_0 := Hbg.out.cell (i := 0) rfl
  have bg_1 := Hbg.out.cell (i := 1) rfl
  have bg_2 := Hbg.out.cell (i := 2) rfl
  have hgr9 : w6.grownBy ((w10.setCell ⟨w.heap.size + 1, 0, none⟩ (.string (textS (lowN (grp k) (numOf c.1 * 2 ^ numOf n)) (grp k).size))).setCell ⟨w.heap.size + 1, 1, none⟩ (.string (textS (lowN (grp k) (numOf c.2 * numOf key ^ numOf n)) (grp k).size))) (some (w.heap.size + 1)) := (((below_grown HT.out).but (some (w.heap.size + 1))).trans (grown_set w10 (w.heap.size + 1) 0 (.string (textS (lowN (grp k) (numOf c.1 * 2 ^ numOf n)) (grp k).size)))).trans (grown_set (w10.setCell ⟨w.heap.size + 1, 0, none⟩ (.string (textS (lowN (grp k) (numOf c.1 * 2 ^ numOf n)) (grp k).size))) (w.heap.size + 1) 1 (.string (textS (lowN (grp k) (numOf c.2 * numOf key ^ numOf n)) (grp k).size)))
  have HGR := Lib.hid hgr9
  clear hgr9 HT
  clear HN4 HN5
  have f11_bc_0 := Hbc.out.frozen 0
  have f11_bc_1 := Hbc.out.frozen 1
  have o11_bi_0 := bi_0; clear bi_0
  have o11_bi_1 := bi_1; clear bi_1
  have o11_bc_0 := bc_0; clear bc_0
  have o11_bc_1 := bc_1; clear bc_1
  have o11_bg_0 := bg_0; clear bg_0
  have o11_bg_1 := bg_1; clear bg_1
  have o11_bg_2 := bg_2; clear bg_2
  have hx9 : Bx ((w10.setCell ⟨w.heap.size + 1, 0, none⟩ (.string (textS (lowN (grp k) (numOf c.1 * 2 ^ numOf n)) (grp k).size))).setCell ⟨w.heap.size + 1, 1, none⟩ (.string (textS (lowN (grp k) (numOf c.2 * numOf key ^ numOf n)) (grp k).size))) (w.heap.size + 1) 41 [.string (textS (lowN (grp k) (numOf c.1 * 2 ^ numOf n)) (grp k).size), .string (textS (lowN (grp k) (numOf c.2 * numOf key ^ numOf n)) (grp k).size)] := ((Hbc.out.set 0 (.string (textS (lowN (grp k) (numOf c.1 * 2 ^ numOf n)) (grp k).size))).set 1 (.string (textS (lowN (grp k) (numOf c.2 * numOf key ^ numOf n)) (grp k).size)))
  have hb9 : Below w.heap.size w ((w10.setCell ⟨w.heap.size + 1, 0, none⟩ (.string (textS (lowN (grp k) (numOf c.1 * 2 ^ numOf n)) (grp k).size))).setCell ⟨w.heap.size + 1, 1, none⟩ (.string (textS (lowN (grp k) (numOf c.2 * numOf key ^ numOf n)) (grp k).size))) := ((HB.out.setCell (show w.heap.size ≤ w.heap.size + 1 by have g0 := Hs1.out; have g1 := Hs2.out; have g2 := Hs3.out; have g3 := Hs4.out; have g4 := Hs5.out; have g5 := Hs6.out; have g6 := Hs7.out; have g7 := Hs8.out; have g8 := Hs9.out; have g9 := Hs10.out; have g10 := Hs10.out; omega) _).setCell (show w.heap.size ≤ w.heap.size + 1 by have g0 := Hs1.out; have g1 := Hs2.out; have g2 := Hs3.out; have g3 := Hs4.out; have g4 := Hs5.out; have g5 := Hs6.out; have g6 := Hs7.out; have g7 := Hs8.out; have g8 := Hs9.out; have g9 := Hs10.out; have g10 := Hs10.out; omega) _)
  have hz9 : ((w10.setCell ⟨w.heap.size + 1, 0, none⟩ (.string (textS (lowN (grp k) (numOf c.1 * 2 ^ numOf n)) (grp k).size))).setCell ⟨w.heap.size + 1, 1, none⟩ (.string (textS (lowN (grp k) (numOf c.2 * numOf key ^ numOf n)) (grp k).size))).heap.size = w10.heap.size := by simp [World.setCell]
  have ho9Hbi := ((Hbi.out.other (show _ ≠ w.heap.size + 1 by have g0 := Hs1.out; have g1 := Hs2.out; have g2 := Hs3.out; have g3 := Hs4.out; have g4 := Hs5.out; have g5 := Hs6.out; have g6 := Hs7.out; have g7 := Hs8.out; have g8 := Hs9.out; have g9 := Hs10.out; have g10 := Hs10.out; omega) 0 (.string (textS (lowN (grp k) (numOf c.1 * 2 ^ numOf n)) (grp k).size))).other (show _ ≠ w.heap.size + 1 by have g0 := Hs1.out; have g1 := Hs2.out; have g2 := Hs3.out; have g3 := Hs4.out; have g4 := Hs5.out; have g5 := Hs6.out; have g6 := Hs7.out; have g7 := Hs8.out; have g8 := Hs9.out; have g9 := Hs10.out; have g10 := Hs10.out; omega) 1 (.string (textS (lowN (grp k) (numOf c.2 * numOf key ^ numOf n)) (grp k).size)))
  have ho9Hbg := ((Hbg.out.other (show _ ≠ w.heap.size + 1 by have g0 := Hs1.out; have g1 := Hs2.out; have g2 := Hs3.out; have g3 := Hs4.out; have g4 := Hs5.out; have g5 := Hs6.out; have g6 := Hs7.out; have g7 := Hs8.out; have g8 := Hs9.out; have g9 := Hs10.out; have g10 := Hs10.out; omega) 0 (.string (textS (lowN (grp k) (numOf c.1 * 2 ^ numOf n)) (grp k).size))).other (show _ ≠ w.heap.size + 1 by have g0 := Hs1.out; have g1 := Hs2.out; have g2 := Hs3.out; have g3 := Hs4.out; have g4 := Hs5.out; have g5 := Hs6.out; have g6 := Hs7.out; have g7 := Hs8.out; have g8 := Hs9.out; have g9 := Hs10.out; have g10 := Hs10.out; omega) 1 (.string (textS (lowN (grp k) (numOf c.2 * numOf key ^ numOf n)) (grp k).size)))
  obtain ⟨w11, hq11⟩ : ∃ W9 : World, ((w10.setCell ⟨w.heap.size + 1, 0, none⟩ (.string (textS (lowN (grp k) (numOf c.1 * 2 ^ numOf n)) (grp k).size))).setCell ⟨w.heap.size + 1, 1, none⟩ (.string (textS (lowN (grp k) (numOf c.2 * numOf key ^ numOf n)) (grp k).size))) = W9 := ⟨_, rfl⟩
  rw [hq11] at hx9 hb9 hz9 ho9Hbi ho9Hbg
  clear Hbc HB
  have Hbc := Lib.hid hx9
  have HB := Lib.hid hb9
  have Hs11 := Lib.hid hz9
  replace Hbi := Lib.hid ho9Hbi
  replace Hbg := Lib.hid ho9Hbg
  clear hx9 hb9 hz9 ho9Hbi ho9Hbg
  have bi_0 := Hbi.out.cell (i := 0) rfl
  have bi_1 := Hbi.out.cell (i := 1) rfl
  have bc_0 := Hbc.out.cell (i := 0) rfl
  have bc_1 := Hbc.out.cell (i := 1) rfl
  have bg_0 := Hbg.out.cell (i := 0) rfl
  have bg_1 := Hbg.out.cell (i := 1) rfl
  have bg_2 := Hbg.out.cell (i := 2) rfl
  replace HGR := Lib.hid (by have h9 := HGR.out; rw [hq11] at h9; exact h9)
  go_simp
  try rw [hq11]
  refine hK _ _ ⟨⟨⟨w11, HGR.out⟩, rfl⟩, ?_⟩
  clear hK K HGR
  clear hq11 o11_bg_2 o11_bg_1 o11_bg_0 o11_bc_1 o11_bc_0 o11_bi_1 o11_bi_0 f11_bc_1 f11_bc_0
  repeat (refine tree_q rfl rfl ?_; go_big_quiet_step (fail); refine wpQuiet_nil ?_)
  refine tree_end ?_
  go_wp2_with fail
  simp [bodyPost, results, Try.results26, go_sem, bc_0, bc_1]
  exact HB.out

set_option maxRecDepth 100000 in
set_option maxHeartbeats 1000000 in
theorem rDecr_none (k : Int) (hk : ¬ (1 ≤ k ∧ k ≤ 3)) (x : ByteArray) (c : ByteArray × ByteArray) (w : World) : Calls Try.prog 28 #[.int .i64 k, .string x, ciphV c.1 c.2] w (Gives (strE 1) w) := by
  unfold Gives strE ciphV
  go_enter Try.func28, Try.ntmps28
  go_wp2_with fail
  have hb9 : Below w.heap.size w (w.alloc (Obj.cells #[.string c.1, .string c.2] 41)) := ((Below.refl _ _).alloc (Nat.le_refl _) _)
  have hx90 : Bx (w.alloc (Obj.cells #[.string c.1, .string c.2] 41)) (w.heap.size) 41 [.string c.1, .string c.2] := by
    have h := (Bx.new w 41 [.string c.1, .string c.2] _ rfl)
    exact h
  have hz9 : (w.alloc (Obj.cells #[.string c.1, .string c.2] 41)).heap.size = w.heap.size + 1 := by simp
  obtain ⟨w1, hq1⟩ : ∃ W9 : World, (w.alloc (Obj.cells #[.string c.1, .string c.2] 41)) = W9 := ⟨_, rfl⟩
  rw [hq1] at hb9 hz9 hx90
  rw [hq1]
  clear hq1
  have HB := Lib.hid hb9
  have Hs1 := Lib.hid hz9
  have Hbi := Lib.hid hx90
  clear hb9 hz9 hx90
  have bi_0 := Hbi.out.cell (i := 0) rfl
  have bi_1 := Hbi.out.cell (i := 1) rfl
  go_wp2_with fail
  refine (refKind_none k hk w1).mono ?_
  rintro e w2 ⟨rfl, hb9⟩
  clear bi_0 bi_1
  replace Hbi := Lib.hid (Hbi.out.up hb9)
  replace HB := Lib.hid (below_up HB.out hb9)
  have Hs2 := Lib.hid (show w1.heap.size ≤ w2.heap.size from hb9.size)
  clear hb9
  have bi_0 := Hbi.out.cell (i := 0) rfl
  have bi_1 := Hbi.out.cell (i := 1) rfl
  clear bi_0 bi_1
  have hb9 : Below w2.heap.size w2 (w2.alloc (Obj.cells #[.int .i64 0, .slice none 0 0, .slice none 0 0] 98)) := ((Below.refl _ _).alloc (Nat.le_refl _) _)
  have hx90 : Bx (w2.alloc (Obj.cells #[.int .i64 0, .slice none 0 0, .slice none 0 0] 98)) (w2.heap.size) 98 [.int .i64 0, .slice none 0 0, .slice none 0 0] := by
    have h := (Bx.new w2 98 [.int .i64 0, .slice none 0 0, .slice none 0 0] _ rfl)
    exact h
  have hz9 : (w2.alloc (Obj.cells #[.int .i64 0, .slice none 0 0, .slice none 0 0] 98)).heap.size = w2.heap.size + 1 := by simp
  obtain ⟨w3, hq3⟩ : ∃ W9 : World, (w2.alloc (Obj.cells #[.int .i64 0, .slice none 0 0, .slice none 0 0] 98)) = W9 := ⟨_, rfl⟩
  rw [hq3] at hb9 hz9 hx90
  replace Hbi := Lib.hid (Hbi.out.up hb9)
  replace HB := Lib.hid (below_up HB.out hb9)
  have Hs3 := Lib.hid hz9
  have Hbg := Lib.hid hx90
  clear hb9 hz9 hx90
  have bi_0 := Hbi.out.cell (i := 0) rfl
  have bi_1 := Hbi.out.cell (i := 1) rfl
  have bg_0 := Hbg.out.cell (i := 0) rfl
  have bg_1 := Hbg.out.cell (i := 1) rfl
  have bg_2 := Hbg.out.cell (i := 2) rfl
  have f4_bg_0 := Hbg.out.frozen 0
  have f4_bg_1 := Hbg.out.frozen 1
  have f4_bg_2 := Hbg.out.frozen 2
  have o4_bi_0 := bi_0; clear bi_0
  have o4_bi_1 := bi_1; clear bi_1
  have o4_bg_0 := bg_0; clear bg_0
  have o4_bg_1 := bg_1; clear bg_1
  have o4_bg_2 := bg_2; clear bg_2
  have hx9 : Bx (((w3.setCell ⟨w2.heap.size, 0, none⟩ (.int .i64 0)).setCell ⟨w2.heap.size, 1, none⟩ (.slice none 0 0)).setCell ⟨w2.heap.size, 2, none⟩ (.slice none 0 0)) (w2.heap.size) 98 [.int .i64 0, .slice none 0 0, .slice none 0 0] := (((Hbg.out.set 0 (.int .i64 0)).set 1 (.slice none 0 0)).set 2 (.slice none 0 0))
  have hb9 : Below w.heap.size w (((w3.setCell ⟨w2.heap.size, 0, none⟩ (.int .i64 0)).setCell ⟨w2.heap.size, 1, none⟩ (.slice none 0 0)).setCell ⟨w2.heap.size, 2, none⟩ (.slice none 0 0)) := (((HB.out.setCell (show w.heap.size ≤ w2.heap.size by have g0 := Hs1.out; have g1 := Hs2.out; have g2 := Hs3.out; omega) _).setCell (show w.heap.size ≤ w2.heap.size by have g0 := Hs1.out; have g1 := Hs2.out; have g2 := Hs3.out; omega) _).setCell (show w.heap.size ≤ w2.heap.size by have g0 := Hs1.out; have g1 := Hs2.out; have g2 := Hs3.out; omega) _)
  have hz9 : (((w3.setCell ⟨w2.heap.size, 0, none⟩ (.int .i64 0)).setCell ⟨w2.heap.size, 1, none⟩ (.slice none 0 0)).setCell ⟨w2.heap.size, 2, none⟩ (.slice none 0 0)).heap.size = w3.heap.size := by simp [World.setCell]
  have ho9Hbi := (((Hbi.out.other (show _ ≠ w2.heap.size by have g0 := Hs1.out; have g1 := Hs2.out; have g2 := Hs3.out; omega) 0 (.int .i64 0)).other (show _ ≠ w2.heap.size by have g0 := Hs1.out; have g1 := Hs2.out; have g2 := Hs3.out; omega) 1 (.slice none 0 0)).other (show _ ≠ w2.heap.size by have g0 := Hs1.out; have g1 := Hs2.out; have g2 := Hs3.out; omega) 2 (.slice none 0 0))
  obtain ⟨w4, hq4⟩ : ∃ W9 : World, (((w3.setCell ⟨w2.heap.size, 0, none⟩ (.int .i64 0)).setCell ⟨w2.heap.size, 1, none⟩ (.slice none 0 0)).setCell ⟨w2.heap.size, 2, none⟩ (.slice none 0 0)) = W9 := ⟨_, rfl⟩
  rw [hq4] at hx9 hb9 hz9 ho9Hbi
  clear Hbg HB
  have Hbg := Lib.hid hx9
  have HB := Lib.hid hb9
  have Hs4 := Lib.hid hz9
  replace Hbi := Lib.hid ho9Hbi
  clear hx9 hb9 hz9 ho9Hbi
  have bi_0 := Hbi.out.cell (i := 0) rfl
  have bi_1 := Hbi.out.cell (i := 1) rfl
  have bg_0 := Hbg.out.cell (i := 0) rfl
  have bg_1 := Hbg.out.cell (i := 1) rfl
  have bg_2 := Hbg.out.cell (i := 2) rfl
  go_wp2_with fail
  clear hq4 o4_bg_2 o4_bg_1 o4_bg_0 o4_bi_1 o4_bi_0 f4_bg_2 f4_bg_1 f4_bg_0 hq3
  go_ret2
  exact ⟨rfl, HB.out⟩

set_option maxRecDepth 100000 in
set_option maxHeartbeats 1000000 in
theorem rDecr_some (k : Nat) (h1 : 1 ≤ k) (h3 : k ≤ 3) (x : ByteArray) (c : ByteArray × ByteArray) (bc bx : Bool) (hc : cipOk (grp k) c = bc) (hx : isSc (grp k).q.m (grp k).size x = bx) (w : World) :
    Calls Try.prog 28 #[.int .i64 (k : Int), .string x, ciphV c.1 c.2] w (Gives (if bx then if bc then .tuple #[.string (textS (lowN (grp k) (numOf c.2 * (numOf c.1 ^ numOf x) ^ ((grp k).q.m - 1))) (grp k).size), .int .i64 0] else strE 7 else strE 6) w) := by
  have OK := Lib.hid (grp_ok k h1 h3)
  have hs0 := size_not0 k h1 h3
  have hsz : (grp k).size ≤ 32 := OK.out.size_le
  have hsc : bc = true → c.1.size ≤ 32 ∧ c.2.size ≤ 32 := fun h => by
    have h := hc.trans h
    unfold cipOk at h
    simp only [Bool.and_eq_true] at h
    have := isEl_size h.1; have := isEl_size h.2; omega
  have hsx : bx = true → x.size ≤ 32 := fun h => by have := isSc_size (hx.trans h); omega
  have hec := fun aq ap cq cp W h => rElems (cq := cq) (cp := cp) (aq := aq) (ap := ap) (G := grp k) OK.out c W h
  have hex := fun aq ap cq cp W h => rIsSc (cq := cq) (cp := cp) (aq := aq) (ap := ap) (G := grp k) OK.out x W h
  rw [hc] at hec
  rw [hx] at hex
  have HEC := Lib.hid hec
  have HEX := Lib.hid hex
  have HSC := Lib.hid hsc
  have HSX := Lib.hid hsx
  clear hec hex hc hx hsc hsx hsz
  unfold Gives strE ciphV
  go_enter Try.func28, Try.ntmps28
  go_wp2_with fail
  have hb9 : Below w.heap.size w (w.alloc (Obj.cells #[.string c.1, .string c.2] 41)) := ((Below.refl _ _).alloc (Nat.le_refl _) _)
  have hx90 : Bx (w.alloc (Obj.cells #[.string c.1, .string c.2] 41)) (w.heap.size) 41 [.string c.1, .string c.2] := by
    have h := (Bx.new w 41 [.string c.1, .string c.2] _ rfl)
    exact h
  have hz9 : (w.alloc (Obj.cells #[.string c.1, .string c.2] 41)).heap.size = w.heap.size + 1 := by simp
  obtain ⟨w1, hq1⟩ : ∃ W9 : World, (w.alloc (Obj.cells #[.string c.1, .string c.2] 41)) = W9 := ⟨_, rfl⟩
  rw [hq1] at hb9 hz9 hx90
  rw [hq1]
  clear hq1
  have HB := Lib.hid hb9
  have Hs1 := Lib.hid hz9
  have Hbi := Lib.hid hx90
  clear hb9 hz9 hx90
  have bi_0 := Hbi.out.cell (i := 0) rfl
  have bi_1 := Hbi.out.cell (i := 1) rfl
  go_wp2_with fail
  refine (refKind_some k h1 h3 w1).mono ?_
  rintro e w2 ⟨aq, cq, ap, cp, rfl, hq9, hp9, hb9⟩
  clear bi_0 bi_1
  replace Hbi := Lib.hid (Hbi.out.up hb9)
  replace HB := Lib.hid (below_up HB.out hb9)
  have Hs2 := Lib.hid (show w1.heap.size ≤ w2.heap.size from hb9.size)
  have HRG := Lib.hid (RG.mk (G := grp k) hq9 hp9)
  clear hq9 hp9
  clear hb9
  have bi_0 := Hbi.out.cell (i := 0) rfl
  have bi_1 := Hbi.out.cell (i := 1) rfl
  have HK := Lib.hid (Below.refl w2.heap.size w2)
  clear bi_0 bi_1
  have hb9 : Below w2.heap.size w2 (w2.alloc (Obj.cells #[.int .i64 ((grp k).size : Int), .slice aq (dl (grp k).q.m) cq, .slice ap (dl (grp k).p.m) cp] 98)) := ((Below.refl _ _).alloc (Nat.le_refl _) _)
  have hx90 : Bx (w2.alloc (Obj.cells #[.int .i64 ((grp k).size : Int), .slice aq (dl (grp k).q.m) cq, .slice ap (dl (grp k).p.m) cp] 98)) (w2.heap.size) 98 [.int .i64 ((grp k).size : Int), .slice aq (dl (grp k).q.m) cq, .slice ap (dl (grp k).p.m) cp] := by
    have h := (Bx.new w2 98 [.int .i64 ((grp k).size : Int), .slice aq (dl (grp k).q.m) cq, .slice ap (dl (grp k).p.m) cp] _ rfl)
    exact h
  have hz9 : (w2.alloc (Obj.cells #[.int .i64 ((grp k).size : Int), .slice aq (dl (grp k).q.m) cq, .slice ap (dl (grp k).p.m) cp] 98)).heap.size = w2.heap.size + 1 := by simp
  obtain ⟨w3, hq3⟩ : ∃ W9 : World, (w2.alloc (Obj.cells #[.int .i64 ((grp k).size : Int), .slice aq (dl (grp k).q.m) cq, .slice ap (dl (grp k).p.m) cp] 98)) = W9 := ⟨_, rfl⟩
  rw [hq3] at hb9 hz9 hx90
  replace Hbi := Lib.hid (Hbi.out.up hb9)
  replace HK := Lib.hid (below_up HK.out hb9)
  replace HB := Lib.hid (below_up HB.out hb9)
  have Hs3 := Lib.hid hz9
  have Hbg := Lib.hid hx90
  clear hb9 hz9 hx90
  have bi_0 := Hbi.out.cell (i := 0) rfl
  have bi_1 := Hbi.out.cell (i := 1) rfl
  have bg_0 := Hbg.out.cell (i := 0) rfl
  have bg_1 := Hbg.out.cell (i := 1) rfl
  have bg_2 := Hbg.out.cell (i := 2) rfl
  go_wp2_with fail
  clear hq3
  refine (HEX.out _ _ _ _ w3 (HRG.out.up HK.out)).mono ?_
  rintro e w4 ⟨rfl, hb9⟩
  clear bi_0 bi_1
  replace Hbi := Lib.hid (Hbi.out.up hb9)
  clear bg_0 bg_1 bg_2
  replace Hbg := Lib.hid (Hbg.out.up hb9)
  replace HK := Lib.hid (below_up HK.out hb9)
  replace HB := Lib.hid (below_up HB.out hb9)
  have Hs4 := Lib.hid (show w3.heap.size ≤ w4.heap.size from hb9.size)
  clear hb9
  have bi_0 := Hbi.out.cell (i := 0) rfl
  have bi_1 := Hbi.out.cell (i := 1) rfl
  have bg_0 := Hbg.out.cell (i := 0) rfl
  have bg_1 := Hbg.out.cell (i := 1) rfl
  have bg_2 := Hbg.out.cell (i := 2) rfl
  cases bx
  · go_wp2_with fail
    go_ret2
    exact ⟨rfl, HB.out⟩
  replace HSX := Lib.hid (HSX.out rfl)
  go_wp2_with fail
  refine (HEC.out _ _ _ _ w4 (HRG.out.up HK.out)).mono ?_
  rintro e w5 ⟨rfl, hb9⟩
  clear bi_0 bi_1
  replace Hbi := Lib.hid (Hbi.out.up hb9)
  clear bg_0 bg_1 bg_2
  replace Hbg := Lib.hid (Hbg.out.up hb9)
  replace HK := Lib.hid (below_up HK.out hb9)
  replace HB := Lib.hid (below_up HB.out hb9)
  have Hs5 := Lib.hid (show w4.heap.size ≤ w5.heap.size from hb9.size)
  clear hb9
  have bi_0 := Hbi.out.cell (i := 0) rfl
  have bi_1 := Hbi.out.cell (i := 1) rfl
  have bg_0 := Hbg.out.cell (i := 0) rfl
  have bg_1 := Hbg.out.cell (i := 1) rfl
  have bg_2 := Hbg.out.cell (i := 2) rfl
  cases bc
  · go_wp2_with fail
    go_ret2
    exact ⟨rfl, HB.out⟩
  replace HSC := Lib.hid (HSC.out rfl)
  go_wp2_with fail
  have HT := Lib.hid (show Below w5.heap.size w5 w5.drew from (Below.refl _ _).drew)
  have hl_bi := Hbi.out.lt
  have hl_bg := Hbg.out.lt
  refine wp_region_tree (fun w9 => ∃ E : Over w5, w9 = E.w) ((.qs [0, 1, 2, 4, 5] (.a 3 (.a 6 (.qs [7, 8] .done))))) (by kernel_rfl) (by kernel_rfl) (fun _ _ d _ _ h => by cases d <;> exact h) ⟨⟨_, HT.out⟩, rfl⟩ ?_
  have hov_bi := fun (E : Over w5) o => E.cell (b := w.heap.size) o hl_bi
  have hov_bg := fun (E : Over w5) o => E.cell (b := w2.heap.size) o hl_bg
  simp only [Tree.qs]
  repeat (refine tree_q rfl rfl ?_; go_big_quiet_step (fail); refine wpQuiet_nil ?_)
  refine tree_a rfl (fun K hK => ?_)
  go_simp
  refine (rShown OK.out x c HSX.out HSC.out.1 HSC.out.2 _ (HRG.out.up (below_up HK.out HT.out))).mono ?_
  rintro e w6 ⟨a4, c4, rfl, hn9, hb9⟩
  replace HT := Lib.hid (below_up HT.out hb9)
  have Hs6 := Lib.hid (show w5.heap.size ≤ w6.heap.size from HT.out.size)
  clear hb9
  have HN4 := Lib.hid hn9
  clear hn9
  refine hK _ _ ⟨⟨⟨w6, HT.out⟩, rfl⟩, ?_⟩
  clear hK K
  repeat (refine tree_q rfl rfl ?_; go_big_quiet_step (fail); refine wpQuiet_nil ?_)
  refine tree_a rfl (fun K hK => ?_)
  go_simp
  refine (rText2 OK.out _ HN4.out).mono ?_
  rintro e w7 ⟨rfl, hb9⟩
  replace HN4 := Lib.hid (HN4.out.up hb9)
  replace HT := Lib.hid (below_up HT.out hb9)
  have Hs7 := Lib.hid (show w5.heap.size ≤ w7.heap.size from HT.out.size)
  clear hb9
  refine hK _ _ ⟨⟨⟨w7, HT.out⟩, rfl⟩, ?_⟩
  clear hK K
  repeat (refine tree_q rfl rfl ?_; go_big_quiet_step (fail); refine wpQuiet_nil ?_)
  refine tree_end ?_
  clear hov_bi hl_bi hov_bg hl_bg
  clear bi_0 bi_1
  replace Hbi := Lib.hid (Hbi.out.up HT.out)
  clear bg_0 bg_1 bg_2
  replace Hbg := Lib.hid (Hbg.out.up HT.out)
  replace HK := Lib.hid (below_up HK.out HT.out)
  replace HB := Lib.hid (below_up HB.out HT.out)
  have Hs7 := Lib.hid (show w5.heap.size ≤ w7.heap.size from HT.out.size)
  clear HT
  have bi_0 := Hbi.out.cell (i := 0) rfl
  have bi_1 := Hbi.out.cell (i := 1) rfl
  have bg_0 := Hbg.out.cell (i := 0) rfl
  have bg_1 := Hbg.out.cell (i := 1) rfl
  have bg_2 := Hbg.out.cell (i := 2) rfl
  go_wp2_with fail
  go_ret2
  exact ⟨rfl, HB.out⟩

end Go.Proofs.Ytipgjookfdkciaa

/- The document's Sum. Condition: the lists that memory can hold. -/
namespace Go.Proofs.Ytipgjookfdkciaa
open Go.RowKit

theorem rBoth3 (k : Nat) (h1 : 1 ≤ k) (h3 : k ≤ 3) {aq ap : Option Addr} {cq cp : Nat} (x y : Nat) (c : ByteArray × ByteArray) (hc1 : c.1.size ≤ 32) (hc2 : c.2.size ≤ 32) (w : World) (hG : RG w (grp k) aq ap) :
    Calls Try.prog 85 #[.agg #[.int .i64 ((grp k).size : Int), .slice aq (dl (grp k).q.m) cq, .slice ap (dl (grp k).p.m) cp], .agg #[.string (textS (lowN (grp k) x) (grp k).size), .string (textS (lowN (grp k) y) (grp k).size)], .agg #[.string c.1, .string c.2]] w (Gives (ciphV (textS (lowN (grp k) (x * numOf c.1)) (grp k).size) (textS (lowN (grp k) (y * numOf c.2)) (grp k).size)) w) := by
  have ok := grp_ok k h1 h3
  have h := rBoth (cq := cq) (cp := cp) ok (textS (lowN (grp k) x) (grp k).size, textS (lowN (grp k) y) (grp k).size) c (by show (textS _ _).size ≤ 32; rw [textS_size]; exact ok.size_le) (by show (textS _ _).size ≤ 32; rw [textS_size]; exact ok.size_le) hc1 hc2 w hG
  simp only at h
  rw [numOf_text k h1 h3, numOf_text k h1 h3, lowN_mulL ok, lowN_mulL ok] at h
  exact h
theorem cipOk_size {G : GP} (ok : G.Ok) {c : ByteArray × ByteArray} (h : cipOk G c = true) : c.1.size ≤ 32 ∧ c.2.size ≤ 32 := by
  unfold cipOk at h
  simp only [Bool.and_eq_true] at h
  have := isEl_size h.1; have := isEl_size h.2; have := ok.size_le; omega

set_option maxRecDepth 100000 in
set_option maxHeartbeats 1000000 in
theorem rSum_none (k : Int) (hk : ¬ (1 ≤ k ∧ k ≤ 3)) (v : Value) (w : World) : Calls Try.prog 24 #[.int .i64 k, v] w (Gives (cipE 1) w) := by
  unfold Gives cipE ciphV
  go_enter Try.func24, Try.ntmps24
  go_wp2_with fail
  have hb9 : Below w.heap.size w (w.alloc (Obj.cells #[.string ⟨#[]⟩, .string ⟨#[]⟩] 41)) := ((Below.refl _ _).alloc (Nat.le_refl _) _)
  have hx90 : Bx (w.alloc (Obj.cells #[.string ⟨#[]⟩, .string ⟨#[]⟩] 41)) (w.heap.size) 41 [.string ⟨#[]⟩, .string ⟨#[]⟩] := by
    have h := (Bx.new w 41 [.string ⟨#[]⟩, .string ⟨#[]⟩] _ rfl)
    exact h
  have hz9 : (w.alloc (Obj.cells #[.string ⟨#[]⟩, .string ⟨#[]⟩] 41)).heap.size = w.heap.size + 1 := by simp
  obtain ⟨w1, hq1⟩ : ∃ W9 : World, (w.alloc (Obj.cells #[.string ⟨#[]⟩, .string ⟨#[]⟩] 41)) = W9 := ⟨_, rfl⟩
  rw [hq1] at hb9 hz9 hx90
  rw [hq1]
  clear hq1
  have HB := Lib.hid hb9
  have Hs1 := Lib.hid hz9
  have Hbc := Lib.hid hx90
  clear hb9 hz9 hx90
  have bc_0 := Hbc.out.cell (i := 0) rfl
  have bc_1 := Hbc.out.cell (i := 1) rfl
  go_wp2_with fail
  refine (refKind_none k hk w1).mono ?_
  rintro e w2 ⟨rfl, hb9⟩
  clear bc_0 bc_1
  replace Hbc := Lib.hid (Hbc.out.up hb9)
  replace HB := Lib.hid (below_up HB.out hb9)
  have Hs2 := Lib.hid (show w1.heap.size ≤ w2.heap.size from hb9.size)
  clear hb9
  have bc_0 := Hbc.out.cell (i := 0) rfl
  have bc_1 := Hbc.out.cell (i := 1) rfl
  clear bc_0 bc_1
  have hb9 : Below w2.heap.size w2 (w2.alloc (Obj.cells #[.int .i64 0, .slice none 0 0, .slice none 0 0] 98)) := ((Below.refl _ _).alloc (Nat.le_refl _) _)
  have hx90 : Bx (w2.alloc (Obj.cells #[.int .i64 0, .slice none 0 0, .slice none 0 0] 98)) (w2.heap.size) 98 [.int .i64 0, .slice none 0 0, .slice none 0 0] := by
    have h := (Bx.new w2 98 [.int .i64 0, .slice none 0 0, .slice none 0 0] _ rfl)
    exact h
  have hz9 : (w2.alloc (Obj.cells #[.int .i64 0, .slice none 0 0, .slice none 0 0] 98)).heap.size = w2.heap.size + 1 := by simp
  obtain ⟨w3, hq3⟩ : ∃ W9 : World, (w2.alloc (Obj.cells #[.int .i64 0, .slice none 0 0, .slice none 0 0] 98)) = W9 := ⟨_, rfl⟩
  rw [hq3] at hb9 hz9 hx90
  replace Hbc := Lib.hid (Hbc.out.up hb9)
  replace HB := Lib.hid (below_up HB.out hb9)
  have Hs3 := Lib.hid hz9
  have Hbg := Lib.hid hx90
  clear hb9 hz9 hx90
  have bc_0 := Hbc.out.cell (i := 0) rfl
  have bc_1 := Hbc.out.cell (i := 1) rfl
  have bg_0 := Hbg.out.cell (i := 0) rfl
  have bg_1 := Hbg.out.cell (i := 1) rfl
  have bg_2 := Hbg.out.cell (i := 2) rfl
  have f4_bg_0 := Hbg.out.frozen 0
  have f4_bg_1 := Hbg.out.frozen 1
  have f4_bg_2 := Hbg.out.frozen 2
  have o4_bc_0 := bc_0; clear bc_0
  have o4_bc_1 := bc_1; clear bc_1
  have o4_bg_0 := bg_0; clear bg_0
  have o4_bg_1 := bg_1; clear bg_1
  have o4_bg_2 := bg_2; clear bg_2
  have hx9 : Bx (((w3.setCell ⟨w2.heap.size, 0, none⟩ (.int .i64 0)).setCell ⟨w2.heap.size, 1, none⟩ (.slice none 0 0)).setCell ⟨w2.heap.size, 2, none⟩ (.slice none 0 0)) (w2.heap.size) 98 [.int .i64 0, .slice none 0 0, .slice none 0 0] := (((Hbg.out.set 0 (.int .i64 0)).set 1 (.slice none 0 0)).set 2 (.slice none 0 0))
  have hb9 : Below w.heap.size w (((w3.setCell ⟨w2.heap.size, 0, none⟩ (.int .i64 0)).setCell ⟨w2.heap.size, 1, none⟩ (.slice none 0 0)).setCell ⟨w2.heap.size, 2, none⟩ (.slice none 0 0)) := (((HB.out.setCell (show w.heap.size ≤ w2.heap.size by have g0 := Hs1.out; have g1 := Hs2.out; have g2 := Hs3.out; omega) _).setCell (show w.heap.size ≤ w2.heap.size by have g0 := Hs1.out; have g1 := Hs2.out; have g2 := Hs3.out; omega) _).setCell (show w.heap.size ≤ w2.heap.size by have g0 := Hs1.out; have g1 := Hs2.out; have g2 := Hs3.out; omega) _)
  have hz9 : (((w3.setCell ⟨w2.heap.size, 0, none⟩ (.int .i64 0)).setCell ⟨w2.heap.size, 1, none⟩ (.slice none 0 0)).setCell ⟨w2.heap.size, 2, none⟩ (.slice none 0 0)).heap.size = w3.heap.size := by simp [World.setCell]
  have ho9Hbc := (((Hbc.out.other (show _ ≠ w2.heap.size by have g0 := Hs1.out; have g1 := Hs2.out; have g2 := Hs3.out; omega) 0 (.int .i64 0)).other (show _ ≠ w2.heap.size by have g0 := Hs1.out; have g1 := Hs2.out; have g2 := Hs3.out; omega) 1 (.slice none 0 0)).other (show _ ≠ w2.heap.size by have g0 := Hs1.out; have g1 := Hs2.out; have g2 := Hs3.out; omega) 2 (.slice none 0 0))
  obtain ⟨w4, hq4⟩ : ∃ W9 : World, (((w3.setCell ⟨w2.heap.size, 0, none⟩ (.int .i64 0)).setCell ⟨w2.heap.size, 1, none⟩ (.slice none 0 0)).setCell ⟨w2.heap.size, 2, none⟩ (.slice none 0 0)) = W9 := ⟨_, rfl⟩
  rw [hq4] at hx9 hb9 hz9 ho9Hbc
  clear Hbg HB
  have Hbg := Lib.hid hx9
  have HB := Lib.hid hb9
  have Hs4 := Lib.hid hz9
  replace Hbc := Lib.hid ho9Hbc
  clear hx9 hb9 hz9 ho9Hbc
  have bc_0 := Hbc.out.cell (i := 0) rfl
  have bc_1 := Hbc.out.cell (i := 1) rfl
  have bg_0 := Hbg.out.cell (i := 0) rfl
  have bg_1 := Hbg.out.cell (i := 1) rfl
  have bg_2 := Hbg.out.cell (i := 2) rfl
  have f5_bc_0 := Hbc.out.frozen 0
  have f5_bc_1 := Hbc.out.frozen 1
  have o5_bc_0 := bc_0; clear bc_0
  have o5_bc_1 := bc_1; clear bc_1
  have o5_bg_0 := bg_0; clear bg_0
  have o5_bg_1 := bg_1; clear bg_1
  have o5_bg_2 := bg_2; clear bg_2
  have hx9 : Bx ((w4.setCell ⟨w.heap.size, 0, none⟩ (.string ⟨#[]⟩)).setCell ⟨w.heap.size, 1, none⟩ (.string ⟨#[]⟩)) (w.heap.size) 41 [.string ⟨#[]⟩, .string ⟨#[]⟩] := ((Hbc.out.set 0 (.string ⟨#[]⟩)).set 1 (.string ⟨#[]⟩))
  have hb9 : Below w.heap.size w ((w4.setCell ⟨w.heap.size, 0, none⟩ (.string ⟨#[]⟩)).setCell ⟨w.heap.size, 1, none⟩ (.string ⟨#[]⟩)) := ((HB.out.setCell (show w.heap.size ≤ w.heap.size by have g0 := Hs1.out; have g1 := Hs2.out; have g2 := Hs3.out; have g3 := Hs4.out; omega) _).setCell (show w.heap.size ≤ w.heap.size by have g0 := Hs1.out; have g1 := Hs2.out; have g2 := Hs3.out; have g3 := Hs4.out; omega) _)
  have hz9 : ((w4.setCell ⟨w.heap.size, 0, none⟩ (.string ⟨#[]⟩)).setCell ⟨w.heap.size, 1, none⟩ (.string ⟨#[]⟩)).heap.size = w4.heap.size := by simp [World.setCell]
  have ho9Hbg := ((Hbg.out.other (show _ ≠ w.heap.size by have g0 := Hs1.out; have g1 := Hs2.out; have g2 := Hs3.out; have g3 := Hs4.out; omega) 0 (.string ⟨#[]⟩)).other (show _ ≠ w.heap.size by have g0 := Hs1.out; have g1 := Hs2.out; have g2 := Hs3.out; have g3 := Hs4.out; omega) 1 (.string ⟨#[]⟩))
  obtain ⟨w5, hq5⟩ : ∃ W9 : World, ((w4.setCell ⟨w.heap.size, 0, none⟩ (.string ⟨#[]⟩)).setCell ⟨w.heap.size, 1, none⟩ (.string ⟨#[]⟩)) = W9 := ⟨_, rfl⟩
  rw [hq5] at hx9 hb9 hz9 ho9Hbg
  clear Hbc HB
  have Hbc := Lib.hid hx9
  have HB := Lib.hid hb9
  have Hs5 := Lib.hid hz9
  replace Hbg := Lib.hid ho9Hbg
  clear hx9 hb9 hz9 ho9Hbg
  have bc_0 := Hbc.out.cell (i := 0) rfl
  have bc_1 := Hbc.out.cell (i := 1) rfl
  have bg_0 := Hbg.out.cell (i := 0) rfl
  have bg_1 := Hbg.out.cell (i := 1) rfl
  have bg_2 := Hbg.out.cell (i := 2) rfl
  go_wp2_with fail
  clear hq5 o5_bg_2 o5_bg_1 o5_bg_0 o5_bc_1 o5_bc_0 f5_bc_1 f5_bc_0 hq4 o4_bg_2 o4_bg_1 o4_bg_0 o4_bc_1 o4_bc_0 f4_bg_2 f4_bg_1 f4_bg_0 hq3
  simp [bodyPost, results, Try.results24, go_sem, bc_0, bc_1]
  exact HB.out

set_option maxRecDepth 100000 in
set_option maxHeartbeats 2000000 in
theorem rSum_some (k : Nat) (h1 : 1 ≤ k) (h3 : k ≤ 3) (l : List (ByteArray × ByteArray)) (al : Option Addr) (cl : Nat) (hl : l.length ≤ 4398046511103) (w : World) (hS : Sl w w.heap.size al (l.flatMap cipC)) :
    Calls Try.prog 24 #[.int .i64 (k : Int), .slice al l.length cl] w (Gives (sumE (grp k) l) w) := by
  have OK := Lib.hid (grp_ok k h1 h3)
  have hs0 := size_not0 k h1 h3
  have HS := Lib.hid hS
  clear hS
  unfold Gives
  go_enter Try.func24, Try.ntmps24
  go_wp2_with fail
  have hb9 : Below w.heap.size w (w.alloc (Obj.cells #[.string ⟨#[]⟩, .string ⟨#[]⟩] 41)) := ((Below.refl _ _).alloc (Nat.le_refl _) _)
  have hx90 : Bx (w.alloc (Obj.cells #[.string ⟨#[]⟩, .string ⟨#[]⟩] 41)) (w.heap.size) 41 [.string ⟨#[]⟩, .string ⟨#[]⟩] := by
    have h := (Bx.new w 41 [.string ⟨#[]⟩, .string ⟨#[]⟩] _ rfl)
    exact h
  have hz9 : (w.alloc (Obj.cells #[.string ⟨#[]⟩, .string ⟨#[]⟩] 41)).heap.size = w.heap.size + 1 := by simp
  obtain ⟨w1, hq1⟩ : ∃ W9 : World, (w.alloc (Obj.cells #[.string ⟨#[]⟩, .string ⟨#[]⟩] 41)) = W9 := ⟨_, rfl⟩
  rw [hq1] at hb9 hz9 hx90
  rw [hq1]
  clear hq1
  have HB := Lib.hid hb9
  have Hs1 := Lib.hid hz9
  have Hbc := Lib.hid hx90
  clear hb9 hz9 hx90
  have bc_0 := Hbc.out.cell (i := 0) rfl
  have bc_1 := Hbc.out.cell (i := 1) rfl
  go_wp2_with fail
  refine (refKind_some k h1 h3 w1).mono ?_
  rintro e w2 ⟨aq, cq, ap, cp, rfl, hq9, hp9, hb9⟩
  clear bc_0 bc_1
  replace Hbc := Lib.hid (Hbc.out.up hb9)
  replace HB := Lib.hid (below_up HB.out hb9)
  have Hs2 := Lib.hid (show w1.heap.size ≤ w2.heap.size from hb9.size)
  have HRG := Lib.hid (RG.mk (G := grp k) hq9 hp9)
  clear hq9 hp9
  clear hb9
  have bc_0 := Hbc.out.cell (i := 0) rfl
  have bc_1 := Hbc.out.cell (i := 1) rfl
  have HK := Lib.hid (Below.refl w2.heap.size w2)
  clear bc_0 bc_1
  have hb9 : Below w2.heap.size w2 (w2.alloc (Obj.cells #[.int .i64 ((grp k).size : Int), .slice aq (dl (grp k).q.m) cq, .slice ap (dl (grp k).p.m) cp] 98)) := ((Below.refl _ _).alloc (Nat.le_refl _) _)
  have hx90 : Bx (w2.alloc (Obj.cells #[.int .i64 ((grp k).size : Int), .slice aq (dl (grp k).q.m) cq, .slice ap (dl (grp k).p.m) cp] 98)) (w2.heap.size) 98 [.int .i64 ((grp k).size : Int), .slice aq (dl (grp k).q.m) cq, .slice ap (dl (grp k).p.m) cp] := by
    have h := (Bx.new w2 98 [.int .i64 ((grp k).size : Int), .slice aq (dl (grp k).q.m) cq, .slice ap (dl (grp k).p.m) cp] _ rfl)
    exact h
  have hz9 : (w2.alloc (Obj.cells #[.int .i64 ((grp k).size : Int), .slice aq (dl (grp k).q.m) cq, .slice ap (dl (grp k).p.m) cp] 98)).heap.size = w2.heap.size + 1 := by simp
  obtain ⟨w3, hq3⟩ : ∃ W9 : World, (w2.alloc (Obj.cells #[.int .i64 ((grp k).size : Int), .slice aq (dl (grp k).q.m) cq, .slice ap (dl (grp k).p.m) cp] 98)) = W9 := ⟨_, rfl⟩
  rw [hq3] at hb9 hz9 hx90
  replace Hbc := Lib.hid (Hbc.out.up hb9)
  replace HK := Lib.hid (below_up HK.out hb9)
  replace HB := Lib.hid (below_up HB.out hb9)
  have Hs3 := Lib.hid hz9
  have Hbg := Lib.hid hx90
  clear hb9 hz9 hx90
  have bc_0 := Hbc.out.cell (i := 0) rfl
  have bc_1 := Hbc.out.cell (i := 1) rfl
  have bg_0 := Hbg.out.cell (i := 0) rfl
  have bg_1 := Hbg.out.cell (i := 1) rfl
  have bg_2 := Hbg.out.cell (i := 2) rfl
  go_wp2_with fail
  clear hq3
  have HT := Lib.hid (show Below w3.heap.size w3 w3.drew from (Below.refl _ _).drew)
  have hl_bc := Hbc.out.lt
  have hl_bg := Hbg.out.lt
  refine wp_region_tree (fun w9 => ∃ E : Over w3, w9 = E.w) ((.qs [1, 2] (.a 0 (.a 3 (.qs [4] .done))))) (by kernel_rfl) (by kernel_rfl) (fun _ _ d _ _ h => by cases d <;> exact h) ⟨⟨_, HT.out⟩, rfl⟩ ?_
  have hov_bc := fun (E : Over w3) o => E.cell (b := w.heap.size) o hl_bc
  have hov_bg := fun (E : Over w3) o => E.cell (b := w2.heap.size) o hl_bg
  simp only [Tree.qs]
  repeat (refine tree_q rfl rfl ?_; go_big_quiet_step (fail); refine wpQuiet_nil ?_)
  refine tree_a rfl (fun K hK => ?_)
  go_simp
  refine (refOf_any 1 (by omega) _).mono ?_
  rintro e w4 ⟨a4, c4, rfl, hn9, hb9⟩
  replace HT := Lib.hid (below_up HT.out hb9)
  have Hs4 := Lib.hid (show w3.heap.size ≤ w4.heap.size from HT.out.size)
  clear hb9
  have HN4 := Lib.hid hn9
  clear hn9
  refine hK _ _ ⟨⟨⟨w4, HT.out⟩, rfl⟩, ?_⟩
  clear hK K
  repeat (refine tree_q rfl rfl ?_; go_big_quiet_step (fail); refine wpQuiet_nil ?_)
  refine tree_a rfl (fun K hK => ?_)
  go_simp
  refine (rText OK.out (by decide) _ HN4.out).mono ?_
  rintro e w5 ⟨rfl, hb9⟩
  replace HN4 := Lib.hid (HN4.out.up hb9)
  replace HT := Lib.hid (below_up HT.out hb9)
  have Hs5 := Lib.hid (show w3.heap.size ≤ w5.heap.size from HT.out.size)
  clear hb9
  refine hK _ _ ⟨⟨⟨w5, HT.out⟩, rfl⟩, ?_⟩
  clear hK K
  repeat (refine tree_q rfl rfl ?_; go_big_quiet_step (fail); refine wpQuiet_nil ?_)
  refine tree_end ?_
  clear hov_bc hl_bc hov_bg hl_bg
  clear bc_0 bc_1
  replace Hbc := Lib.hid (Hbc.out.up HT.out)
  clear bg_0 bg_1 bg_2
  replace Hbg := Lib.hid (Hbg.out.up HT.out)
  replace HK := Lib.hid (below_up HK.out HT.out)
  replace HB := Lib.hid (below_up HB.out HT.out)
  have Hs5 := Lib.hid (show w3.heap.size ≤ w5.heap.size from HT.out.size)
  clear HT
  have bc_0 := Hbc.out.cell (i := 0) rfl
  have bc_1 := Hbc.out.cell (i := 1) rfl
  have bg_0 := Hbg.out.cell (i := 0) rfl
  have bg_1 := Hbg.out.cell (i := 1) rfl
  have bg_2 := Hbg.out.cell (i := 2) rfl
  have HT1 : Hid (textS 1 (grp k).size = textS (lowN (grp k) (mulA (l.take 0))) (grp k).size ∧ textS 1 (grp k).size = textS (lowN (grp k) (mulB (l.take 0))) (grp k).size) := by
    have h := lowN_fix OK.out (x := 1) OK.out.q.pos
    show _ ∧ _
    rw [List.take_zero]
    show textS 1 _ = textS (lowN (grp k) 1) _ ∧ textS 1 _ = textS (lowN (grp k) 1) _
    rw [h]
    exact ⟨rfl, rfl⟩
  clear bc_0 bc_1
  clear bg_0 bg_1 bg_2
  have hb9 : Below w5.heap.size w5 (w5.alloc (Obj.cells #[.string (textS 1 (grp k).size), .string (textS 1 (grp k).size)] 41)) := ((Below.refl _ _).alloc (Nat.le_refl _) _)
  have hx90 : Bx (w5.alloc (Obj.cells #[.string (textS 1 (grp k).size), .string (textS 1 (grp k).size)] 41)) (w5.heap.size) 41 [.string (textS 1 (grp k).size), .string (textS 1 (grp k).size)] := by
    have h := (Bx.new w5 41 [.string (textS 1 (grp k).size), .string (textS 1 (grp k).size)] _ rfl)
    exact h
  have hz9 : (w5.alloc (Obj.cells #[.string (textS 1 (grp k).size), .string (textS 1 (grp k).size)] 41)).heap.size = w5.heap.size + 1 := by simp
  obtain ⟨w6, hq6⟩ : ∃ W9 : World, (w5.alloc (Obj.cells #[.string (textS 1 (grp k).size), .string (textS 1 (grp k).size)] 41)) = W9 := ⟨_, rfl⟩
  rw [hq6] at hb9 hz9 hx90
  replace Hbc := Lib.hid (Hbc.out.up hb9)
  replace Hbg := Lib.hid (Hbg.out.up hb9)
  replace HN4 := Lib.hid (HN4.out.up hb9)
  replace HK := Lib.hid (below_up HK.out hb9)
  replace HB := Lib.hid (below_up HB.out hb9)
  have Hs6 := Lib.hid hz9
  have Hbo := Lib.hid hx90
  clear hb9 hz9 hx90
  have bc_0 := Hbc.out.cell (i := 0) rfl
  have bc_1 := Hbc.out.cell (i := 1) rfl
  have bg_0 := Hbg.out.cell (i := 0) rfl
  have bg_1 := Hbg.out.cell (i := 1) rfl
  have bg_2 := Hbg.out.cell (i := 2) rfl
  have bo_0 := Hbo.out.cell (i := 0) rfl
  have bo_1 := Hbo.out.cell (i := 1) rfl
  go_wp2_with fail
  clear hq6
  rw [HT1.out.1] at Hbo
  go_loopw [26, 10, 28, 29, 30, 31, 32, 33, 34, 35, 36, 37, 38] (fun i u1 u2 u3 u4 u5 u6 u7 u8 u9 u10 u11 u12 wr => ∃ j : Nat, j ≤ l.length ∧ i = .int .i64 j ∧ Hid (Below w.heap.size w wr) ∧ Hid (Below w2.heap.size w2 wr) ∧ Hid ((l.take j).all (cipOk (grp k)) = true) ∧ Hid (Bx wr w.heap.size 41 [.string ⟨#[]⟩, .string ⟨#[]⟩]) ∧ Hid (Bx wr w2.heap.size 98 [.int .i64 ((grp k).size : Int), .slice aq (dl (grp k).q.m) cq, .slice ap (dl (grp k).p.m) cp]) ∧ Hid (Bx wr w5.heap.size 41 [.string (textS (lowN (grp k) (mulA (l.take j))) (grp k).size), .string (textS (lowN (grp k) (mulB (l.take j))) (grp k).size)])) (fun i _ _ _ _ _ _ _ _ _ _ _ _ _ => l.length - (intOf i).toNat)
  case atStart => exact ⟨0, Nat.zero_le _, rfl, HB, HK, rfl, Hbc, Hbg, by rw [← HT1.out.2, HT1.out.1]; exact Hbo⟩
  case round =>
    obtain ⟨j, hj, rfl, HB, HK, HAL, Hbc, Hbg, Hbo⟩ := hrel
    have Hs0 := Lib.hid Hbo.out.lt
    by_cases hjl : j < l.length
    · have bc_0 := Hbc.out.cell (i := 0) rfl
      have bc_1 := Hbc.out.cell (i := 1) rfl
      have bg_0 := Hbg.out.cell (i := 0) rfl
      have bg_1 := Hbg.out.cell (i := 1) rfl
      have bg_2 := Hbg.out.cell (i := 2) rfl
      have bo_0 := Hbo.out.cell (i := 0) rfl
      have bo_1 := Hbo.out.cell (i := 1) rfl
      obtain ⟨bl, ol, rfl, hbl, hc⟩ := (HS.out.up HB.out).elem cipC_len (by omega) j hjl
      have hc_0 := hc 0 _ rfl
      rw [Nat.add_zero] at hc_0
      have hc_1 := hc 1 _ rfl
      clear hc
      obtain ⟨bj, hbj⟩ : ∃ x, cipOk (grp k) l[j] = x := ⟨_, rfl⟩
      have hec := fun aq ap cq cp W h => rElems (cq := cq) (cp := cp) (aq := aq) (ap := ap) (G := grp k) OK.out l[j] W h
      rw [hbj] at hec
      have HEC := Lib.hid hec
      have HBJ := Lib.hid hbj
      clear hec hbj
      clear bc_0 bc_1
      clear bg_0 bg_1 bg_2
      clear bo_0 bo_1
      have hb9 : Below wr.heap.size wr (wr.alloc (Obj.cells #[.string l[j].1, .string l[j].2] 41)) := ((Below.refl _ _).alloc (Nat.le_refl _) _)
      have hx90 : Bx (wr.alloc (Obj.cells #[.string l[j].1, .string l[j].2] 41)) (wr.heap.size) 41 [.string l[j].1, .string l[j].2] := by
        have h := (Bx.new wr 41 [.string l[j].1, .string l[j].2] _ rfl)
        exact h
      have hz9 : (wr.alloc (Obj.cells #[.string l[j].1, .string l[j].2] 41)).heap.size = wr.heap.size + 1 := by simp
      obtain ⟨w7, hq7⟩ : ∃ W9 : World, (wr.alloc (Obj.cells #[.string l[j].1, .string l[j].2] 41)) = W9 := ⟨_, rfl⟩
      rw [hq7] at hb9 hz9 hx90
      replace Hbc := Lib.hid (Hbc.out.up hb9)
      replace Hbg := Lib.hid (Hbg.out.up hb9)
      replace Hbo := Lib.hid (Hbo.out.up hb9)
      replace HK := Lib.hid (below_up HK.out hb9)
      replace HB := Lib.hid (below_up HB.out hb9)
      have Hs7 := Lib.hid hz9
      have Hbt := Lib.hid hx90
      clear hb9 hz9 hx90
      have bc_0 := Hbc.out.cell (i := 0) rfl
      have bc_1 := Hbc.out.cell (i := 1) rfl
      have bg_0 := Hbg.out.cell (i := 0) rfl
      have bg_1 := Hbg.out.cell (i := 1) rfl
      have bg_2 := Hbg.out.cell (i := 2) rfl
      have bo_0 := Hbo.out.cell (i := 0) rfl
      have bo_1 := Hbo.out.cell (i := 1) rfl
      have bt_0 := Hbt.out.cell (i := 0) rfl
      have bt_1 := Hbt.out.cell (i := 1) rfl
      go_wp2_with fail
      clear hq7
      refine (HEC.out _ _ _ _ w7 (HRG.out.up HK.out)).mono ?_
      rintro e w8 ⟨rfl, hb9⟩
      clear bc_0 bc_1
      replace Hbc := Lib.hid (Hbc.out.up hb9)
      clear bg_0 bg_1 bg_2
      replace Hbg := Lib.hid (Hbg.out.up hb9)
      clear bo_0 bo_1
      replace Hbo := Lib.hid (Hbo.out.up hb9)
      clear bt_0 bt_1
      replace Hbt := Lib.hid (Hbt.out.up hb9)
      replace HK := Lib.hid (below_up HK.out hb9)
      replace HB := Lib.hid (below_up HB.out hb9)
      have Hs8 := Lib.hid (show w7.heap.size ≤ w8.heap.size from hb9.size)
      clear hb9
      have bc_0 := Hbc.out.cell (i := 0) rfl
      have bc_1 := Hbc.out.cell (i := 1) rfl
      have bg_0 := Hbg.out.cell (i := 0) rfl
      have bg_1 := Hbg.out.cell (i := 1) rfl
      have bg_2 := Hbg.out.cell (i := 2) rfl
      have bo_0 := Hbo.out.cell (i := 0) rfl
      have bo_1 := Hbo.out.cell (i := 1) rfl
      have bt_0 := Hbt.out.cell (i := 0) rfl
      have bt_1 := Hbt.out.cell (i := 1) rfl
      cases bj
      · skip
        have f9_bc_0 := Hbc.out.frozen 0
        have f9_bc_1 := Hbc.out.frozen 1
        have o9_bc_0 := bc_0; clear bc_0
        have o9_bc_1 := bc_1; clear bc_1
        have o9_bg_0 := bg_0; clear bg_0
        have o9_bg_1 := bg_1; clear bg_1
        have o9_bg_2 := bg_2; clear bg_2
        have o9_bo_0 := bo_0; clear bo_0
        have o9_bo_1 := bo_1; clear bo_1
        have o9_bt_0 := bt_0; clear bt_0
        have o9_bt_1 := bt_1; clear bt_1
        have hx9 : Bx ((w8.setCell ⟨w.heap.size, 0, none⟩ (.string ⟨#[]⟩)).setCell ⟨w.heap.size, 1, none⟩ (.string ⟨#[]⟩)) (w.heap.size) 41 [.string ⟨#[]⟩, .string ⟨#[]⟩] := ((Hbc.out.set 0 (.string ⟨#[]⟩)).set 1 (.string ⟨#[]⟩))
        have hb9 : Below w.heap.size w ((w8.setCell ⟨w.heap.size, 0, none⟩ (.string ⟨#[]⟩)).setCell ⟨w.heap.size, 1, none⟩ (.string ⟨#[]⟩)) := ((HB.out.setCell (show w.heap.size ≤ w.heap.size by have g0 := Hs1.out; have g1 := Hs2.out; have g2 := Hs3.out; have g3 := Hs4.out; have g4 := Hs5.out; have g5 := Hs5.out; have g6 := Hs6.out; have g7 := Hs0.out; have g8 := Hs7.out; have g9 := Hs8.out; omega) _).setCell (show w.heap.size ≤ w.heap.size by have g0 := Hs1.out; have g1 := Hs2.out; have g2 := Hs3.out; have g3 := Hs4.out; have g4 := Hs5.out; have g5 := Hs5.out; have g6 := Hs6.out; have g7 := Hs0.out; have g8 := Hs7.out; have g9 := Hs8.out; omega) _)
        have hz9 : ((w8.setCell ⟨w.heap.size, 0, none⟩ (.string ⟨#[]⟩)).setCell ⟨w.heap.size, 1, none⟩ (.string ⟨#[]⟩)).heap.size = w8.heap.size := by simp [World.setCell]
        have ho9Hbg := ((Hbg.out.other (show _ ≠ w.heap.size by have g0 := Hs1.out; have g1 := Hs2.out; have g2 := Hs3.out; have g3 := Hs4.out; have g4 := Hs5.out; have g5 := Hs5.out; have g6 := Hs6.out; have g7 := Hs0.out; have g8 := Hs7.out; have g9 := Hs8.out; omega) 0 (.string ⟨#[]⟩)).other (show _ ≠ w.heap.size by have g0 := Hs1.out; have g1 := Hs2.out; have g2 := Hs3.out; have g3 := Hs4.out; have g4 := Hs5.out; have g5 := Hs5.out; have g6 := Hs6.out; have g7 := Hs0.out; have g8 := Hs7.out; have g9 := Hs8.out; omega) 1 (.string ⟨#[]⟩))
        have ho9Hbo := ((Hbo.out.other (show _ ≠ w.heap.size by have g0 := Hs1.out; have g1 := Hs2.out; have g2 := Hs3.out; have g3 := Hs4.out; have g4 := Hs5.out; have g5 := Hs5.out; have g6 := Hs6.out; have g7 := Hs0.out; have g8 := Hs7.out; have g9 := Hs8.out; omega) 0 (.string ⟨#[]⟩)).other (show _ ≠ w.heap.size by have g0 := Hs1.out; have g1 := Hs2.out; have g2 := Hs3.out; have g3 := Hs4.out; have g4 := Hs5.out; have g5 := Hs5.out; have g6 := Hs6.out; have g7 := Hs0.out; have g8 := Hs7.out; have g9 := Hs8.out; omega) 1 (.string ⟨#[]⟩))
        have ho9Hbt := ((Hbt.out.other (show _ ≠ w.heap.size by have g0 := Hs1.out; have g1 := Hs2.out; have g2 := Hs3.out; have g3 := Hs4.out; have g4 := Hs5.out; have g5 := Hs5.out; have g6 := Hs6.out; have g7 := Hs0.out; have g8 := Hs7.out; have g9 := Hs8.out; omega) 0 (.string ⟨#[]⟩)).other (show _ ≠ w.heap.size by have g0 := Hs1.out; have g1 := Hs2.out; have g2 := Hs3.out; have g3 := Hs4.out; have g4 := Hs5.out; have g5 := Hs5.out; have g6 := Hs6.out; have g7 := Hs0.out; have g8 := Hs7.out; have g9 := Hs8.out; omega) 1 (.string ⟨#[]⟩))
        obtain ⟨w9, hq9⟩ : ∃ W9 : World, ((w8.setCell ⟨w.heap.size, 0, none⟩ (.string ⟨#[]⟩)).setCell ⟨w.heap.size, 1, none⟩ (.string ⟨#[]⟩)) = W9 := ⟨_, rfl⟩
        rw [hq9] at hx9 hb9 hz9 ho9Hbg ho9Hbo ho9Hbt
        clear Hbc HB
        have Hbc := Lib.hid hx9
        have HB := Lib.hid hb9
        have Hs9 := Lib.hid hz9
        replace Hbg := Lib.hid ho9Hbg
        replace Hbo := Lib.hid ho9Hbo
        replace Hbt := Lib.hid ho9Hbt
        clear hx9 hb9 hz9 ho9Hbg ho9Hbo ho9Hbt
        have bc_0 := Hbc.out.cell (i := 0) rfl
        have bc_1 := Hbc.out.cell (i := 1) rfl
        have bg_0 := Hbg.out.cell (i := 0) rfl
        have bg_1 := Hbg.out.cell (i := 1) rfl
        have bg_2 := Hbg.out.cell (i := 2) rfl
        have bo_0 := Hbo.out.cell (i := 0) rfl
        have bo_1 := Hbo.out.cell (i := 1) rfl
        have bt_0 := Hbt.out.cell (i := 0) rfl
        have bt_1 := Hbt.out.cell (i := 1) rfl
        go_wp2_with fail
        clear hq9 o9_bt_1 o9_bt_0 o9_bo_1 o9_bo_0 o9_bg_2 o9_bg_1 o9_bg_0 o9_bc_1 o9_bc_0 f9_bc_1 f9_bc_0
        rw [show sumE (grp k) l = cipE 7 by unfold sumE; rw [if_neg (by rw [all_not hjl HBJ.out]; decide)]]
        unfold cipE ciphV
        simp [bodyPost, results, Try.results24, go_sem, bc_0, bc_1]
        exact HB.out
      · have HSZ := Lib.hid (cipOk_size OK.out HBJ.out)
        have HMA := Lib.hid (mulA_snoc hjl)
        have HMB := Lib.hid (mulB_snoc hjl)
        go_wp2_with fail
        refine (rBoth3 k h1 h3 (mulA (l.take j)) (mulB (l.take j)) l[j] HSZ.out.1 HSZ.out.2 w8 (HRG.out.up HK.out)).mono ?_
        rintro e w9 ⟨rfl, hb9⟩
        clear bc_0 bc_1
        replace Hbc := Lib.hid (Hbc.out.up hb9)
        clear bg_0 bg_1 bg_2
        replace Hbg := Lib.hid (Hbg.out.up hb9)
        clear bo_0 bo_1
        replace Hbo := Lib.hid (Hbo.out.up hb9)
        clear bt_0 bt_1
        replace Hbt := Lib.hid (Hbt.out.up hb9)
        replace HK := Lib.hid (below_up HK.out hb9)
        replace HB := Lib.hid (below_up HB.out hb9)
        have Hs9 := Lib.hid (show w8.heap.size ≤ w9.heap.size from hb9.size)
        clear hb9
        have bc_0 := Hbc.out.cell (i := 0) rfl
        have bc_1 := Hbc.out.cell (i := 1) rfl
        have bg_0 := Hbg.out.cell (i := 0) rfl
        have bg_1 := Hbg.out.cell (i := 1) rfl
        have bg_2 := Hbg.out.cell (i := 2) rfl
        have bo_0 := Hbo.out.cell (i := 0) rfl
        have bo_1 := Hbo.out.cell (i := 1) rfl
        have bt_0 := Hbt.out.cell (i := 0) rfl
        have bt_1 := Hbt.out.cell (i := 1) rfl
        unfold ciphV
        have f10_bo_0 := Hbo.out.frozen 0
        have f10_bo_1 := Hbo.out.frozen 1
        have o10_bc_0 := bc_0; clear bc_0
        have o10_bc_1 := bc_1; clear bc_1
        have o10_bg_0 := bg_0; clear bg_0
        have o10_bg_1 := bg_1; clear bg_1
        have o10_bg_2 := bg_2; clear bg_2
        have o10_bo_0 := bo_0; clear bo_0
        have o10_bo_1 := bo_1; clear bo_1
        have o10_bt_0 := bt_0; clear bt_0
        have o10_bt_1 := bt_1; clear bt_1
        have hx9 : Bx ((w9.setCell ⟨w5.heap.size, 0, none⟩ (.string (textS (lowN (grp k) (mulA (l.take j) * numOf l[j].1)) (grp k).size))).setCell ⟨w5.heap.size, 1, none⟩ (.string (textS (lowN (grp k) (mulB (l.take j) * numOf l[j].2)) (grp k).size))) (w5.heap.size) 41 [.string (textS (lowN (grp k) (mulA (l.take j) * numOf l[j].1)) (grp k).size), .string (textS (lowN (grp k) (mulB (l.take j) * numOf l[j].2)) (grp k).size)] := ((Hbo.out.set 0 (.string (textS (lowN (grp k) (mulA (l.take j) * numOf l[j].1)) (grp k).size))).set 1 (.string (textS (lowN (grp k) (mulB (l.take j) * numOf l[j].2)) (grp k).size)))
        have hb9 : Below w.heap.size w ((w9.setCell ⟨w5.heap.size, 0, none⟩ (.string (textS (lowN (grp k) (mulA (l.take j) * numOf l[j].1)) (grp k).size))).setCell ⟨w5.heap.size, 1, none⟩ (.string (textS (lowN (grp k) (mulB (l.take j) * numOf l[j].2)) (grp k).size))) := ((HB.out.setCell (show w.heap.size ≤ w5.heap.size by have g0 := Hs1.out; have g1 := Hs2.out; have g2 := Hs3.out; have g3 := Hs4.out; have g4 := Hs5.out; have g5 := Hs5.out; have g6 := Hs6.out; have g7 := Hs0.out; have g8 := Hs7.out; have g9 := Hs8.out; have g10 := Hs9.out; omega) _).setCell (show w.heap.size ≤ w5.heap.size by have g0 := Hs1.out; have g1 := Hs2.out; have g2 := Hs3.out; have g3 := Hs4.out; have g4 := Hs5.out; have g5 := Hs5.out; have g6 := Hs6.out; have g7 := Hs0.out; have g8 := Hs7.out; have g9 := Hs8.out; have g10 := Hs9.out; omega) _)
        have hz9 : ((w9.setCell ⟨w5.heap.size, 0, none⟩ (.string (textS (lowN (grp k) (mulA (l.take j) * numOf l[j].1)) (grp k).size))).setCell ⟨w5.heap.size, 1, none⟩ (.string (textS (lowN (grp k) (mulB (l.take j) * numOf l[j].2)) (grp k).size))).heap.size = w9.heap.size := by simp [World.setCell]
        have ho9Hbc := ((Hbc.out.other (show _ ≠ w5.heap.size by have g0 := Hs1.out; have g1 := Hs2.out; have g2 := Hs3.out; have g3 := Hs4.out; have g4 := Hs5.out; have g5 := Hs5.out; have g6 := Hs6.out; have g7 := Hs0.out; have g8 := Hs7.out; have g9 := Hs8.out; have g10 := Hs9.out; omega) 0 (.string (textS (lowN (grp k) (mulA (l.take j) * numOf l[j].1)) (grp k).size))).other (show _ ≠ w5.heap.size by have g0 := Hs1.out; have g1 := Hs2.out; have g2 := Hs3.out; have g3 := Hs4.out; have g4 := Hs5.out; have g5 := Hs5.out; have g6 := Hs6.out; have g7 := Hs0.out; have g8 := Hs7.out; have g9 := Hs8.out; have g10 := Hs9.out; omega) 1 (.string (textS (lowN (grp k) (mulB (l.take j) * numOf l[j].2)) (grp k).size)))
        have ho9Hbg := ((Hbg.out.other (show _ ≠ w5.heap.size by have g0 := Hs1.out; have g1 := Hs2.out; have g2 := Hs3.out; have g3 := Hs4.out; have g4 := Hs5.out; have g5 := Hs5.out; have g6 := Hs6.out; have g7 := Hs0.out; have g8 := Hs7.out; have g9 := Hs8.out; have g10 := Hs9.out; omega) 0 (.string (textS (lowN (grp k) (mulA (l.take j) * numOf l[j].1)) (grp k).size))).other (show _ ≠ w5.heap.size by have g0 := Hs1.out; have g1 := Hs2.out; have g2 := Hs3.out; have g3 := Hs4.out; have g4 := Hs5.out; have g5 := Hs5.out; have g6 := Hs6.out; have g7 := Hs0.out; have g8 := Hs7.out; have g9 := Hs8.out; have g10 := Hs9.out; omega) 1 (.string (textS (lowN (grp k) (mulB (l.take j) * numOf l[j].2)) (grp k).size)))
        have ho9Hbt := ((Hbt.out.other (show _ ≠ w5.heap.size by have g0 := Hs1.out; have g1 := Hs2.out; have g2 := Hs3.out; have g3 := Hs4.out; have g4 := Hs5.out; have g5 := Hs5.out; have g6 := Hs6.out; have g7 := Hs0.out; have g8 := Hs7.out; have g9 := Hs8.out; have g10 := Hs9.out; omega) 0 (.string (textS (lowN (grp k) (mulA (l.take j) * numOf l[j].1)) (grp k).size))).other (show _ ≠ w5.heap.size by have g0 := Hs1.out; have g1 := Hs2.out; have g2 := Hs3.out; have g3 := Hs4.out; have g4 := Hs5.out; have g5 := Hs5.out; have g6 := Hs6.out; have g7 := Hs0.out; have g8 := Hs7.out; have g9 := Hs8.out; have g10 := Hs9.out; omega) 1 (.string (textS (lowN (grp k) (mulB (l.take j) * numOf l[j].2)) (grp k).size)))
        have hB9HK : Below w2.heap.size w2 ((w9.setCell ⟨w5.heap.size, 0, none⟩ (.string (textS (lowN (grp k) (mulA (l.take j) * numOf l[j].1)) (grp k).size))).setCell ⟨w5.heap.size, 1, none⟩ (.string (textS (lowN (grp k) (mulB (l.take j) * numOf l[j].2)) (grp k).size))) := ((HK.out.setCell (show w2.heap.size ≤ w5.heap.size by have g0 := Hs1.out; have g1 := Hs2.out; have g2 := Hs3.out; have g3 := Hs4.out; have g4 := Hs5.out; have g5 := Hs5.out; have g6 := Hs6.out; have g7 := Hs0.out; have g8 := Hs7.out; have g9 := Hs8.out; have g10 := Hs9.out; omega) _).setCell (show w2.heap.size ≤ w5.heap.size by have g0 := Hs1.out; have g1 := Hs2.out; have g2 := Hs3.out; have g3 := Hs4.out; have g4 := Hs5.out; have g5 := Hs5.out; have g6 := Hs6.out; have g7 := Hs0.out; have g8 := Hs7.out; have g9 := Hs8.out; have g10 := Hs9.out; omega) _)
        obtain ⟨w10, hq10⟩ : ∃ W9 : World, ((w9.setCell ⟨w5.heap.size, 0, none⟩ (.string (textS (lowN (grp k) (mulA (l.take j) * numOf l[j].1)) (grp k).size))).setCell ⟨w5.heap.size, 1, none⟩ (.string (textS (lowN (grp k) (mulB (l.take j) * numOf l[j].2)) (grp k).size))) = W9 := ⟨_, rfl⟩
        rw [hq10] at hx9 hb9 hz9 ho9Hbc ho9Hbg ho9Hbt hB9HK
        clear Hbo HB
        have Hbo := Lib.hid hx9
        have HB := Lib.hid hb9
        have Hs10 := Lib.hid hz9
        replace Hbc := Lib.hid ho9Hbc
        replace Hbg := Lib.hid ho9Hbg
        replace Hbt := Lib.hid ho9Hbt
        replace HK := Lib.hid hB9HK
        clear hx9 hb9 hz9 ho9Hbc ho9Hbg ho9Hbt hB9HK
        have bc_0 := Hbc.out.cell (i := 0) rfl
        have bc_1 := Hbc.out.cell (i := 1) rfl
        have bg_0 := Hbg.out.cell (i := 0) rfl
        have bg_1 := Hbg.out.cell (i := 1) rfl
        have bg_2 := Hbg.out.cell (i := 2) rfl
        have bo_0 := Hbo.out.cell (i := 0) rfl
        have bo_1 := Hbo.out.cell (i := 1) rfl
        have bt_0 := Hbt.out.cell (i := 0) rfl
        have bt_1 := Hbt.out.cell (i := 1) rfl
        go_wp2_with fail
        go_roundw
        case rel => exact ⟨j + 1, by omega, by go_num, HB, HK, all_snoc hjl HAL.out HBJ.out, Hbc, Hbg, by rw [HMA.out, HMB.out]; exact Hbo⟩
        case measure => simp [intOf]; omega
    · have hjn : j = l.length := by omega
      subst hjn
      rw [List.take_length] at Hbo
      have bc_0 := Hbc.out.cell (i := 0) rfl
      have bc_1 := Hbc.out.cell (i := 1) rfl
      have bg_0 := Hbg.out.cell (i := 0) rfl
      have bg_1 := Hbg.out.cell (i := 1) rfl
      have bg_2 := Hbg.out.cell (i := 2) rfl
      have bo_0 := Hbo.out.cell (i := 0) rfl
      have bo_1 := Hbo.out.cell (i := 1) rfl
      have f7_bc_0 := Hbc.out.frozen 0
      have f7_bc_1 := Hbc.out.frozen 1
      have o7_bc_0 := bc_0; clear bc_0
      have o7_bc_1 := bc_1; clear bc_1
      have o7_bg_0 := bg_0; clear bg_0
      have o7_bg_1 := bg_1; clear bg_1
      have o7_bg_2 := bg_2; clear bg_2
      have o7_bo_0 := bo_0; clear bo_0
      have o7_bo_1 := bo_1; clear bo_1
      have hx9 : Bx ((wr.setCell ⟨w.heap.size, 0, none⟩ (.string (textS (lowN (grp k) (mulA l)) (grp k).size))).setCell ⟨w.heap.size, 1, none⟩ (.string (textS (lowN (grp k) (mulB l)) (grp k).size))) (w.heap.size) 41 [.string (textS (lowN (grp k) (mulA l)) (grp k).size), .string (textS (lowN (grp k) (mulB l)) (grp k).size)] := ((Hbc.out.set 0 (.string (textS (lowN (grp k) (mulA l)) (grp k).size))).set 1 (.string (textS (lowN (grp k) (mulB l)) (grp k).size)))
      have hb9 : Below w.heap.size w ((wr.setCell ⟨w.heap.size, 0, none⟩ (.string (textS (lowN (grp k) (mulA l)) (grp k).size))).setCell ⟨w.heap.size, 1, none⟩ (.string (textS (lowN (grp k) (mulB l)) (grp k).size))) := ((HB.out.setCell (show w.heap.size ≤ w.heap.size by have g0 := Hs1.out; have g1 := Hs2.out; have g2 := Hs3.out; have g3 := Hs4.out; have g4 := Hs5.out; have g5 := Hs5.out; have g6 := Hs6.out; have g7 := Hs0.out; omega) _).setCell (show w.heap.size ≤ w.heap.size by have g0 := Hs1.out; have g1 := Hs2.out; have g2 := Hs3.out; have g3 := Hs4.out; have g4 := Hs5.out; have g5 := Hs5.out; have g6 := Hs6.out; have g7 := Hs0.out; omega) _)
      have hz9 : ((wr.setCell ⟨w.heap.size, 0, none⟩ (.string (textS (lowN (grp k) (mulA l)) (grp k).size))).setCell ⟨w.heap.size, 1, none⟩ (.string (textS (lowN (grp k) (mulB l)) (grp k).size))).heap.size = wr.heap.size := by simp [World.setCell]
      have ho9Hbg := ((Hbg.out.other (show _ ≠ w.heap.size by have g0 := Hs1.out; have g1 := Hs2.out; have g2 := Hs3.out; have g3 := Hs4.out; have g4 := Hs5.out; have g5 := Hs5.out; have g6 := Hs6.out; have g7 := Hs0.out; omega) 0 (.string (textS (lowN (grp k) (mulA l)) (grp k).size))).other (show _ ≠ w.heap.size by have g0 := Hs1.out; have g1 := Hs2.out; have g2 := Hs3.out; have g3 := Hs4.out; have g4 := Hs5.out; have g5 := Hs5.out; have g6 := Hs6.out; have g7 := Hs0.out; omega) 1 (.string (textS (lowN (grp k) (mulB l)) (grp k).size)))
      have ho9Hbo := ((Hbo.out.other (show _ ≠ w.heap.size by have g0 := Hs1.out; have g1 := Hs2.out; have g2 := Hs3.out; have g3 := Hs4.out; have g4 := Hs5.out; have g5 := Hs5.out; have g6 := Hs6.out; have g7 := Hs0.out; omega) 0 (.string (textS (lowN (grp k) (mulA l)) (grp k).size))).other (show _ ≠ w.heap.size by have g0 := Hs1.out; have g1 := Hs2.out; have g2 := Hs3.out; have g3 := Hs4.out; have g4 := Hs5.out; have g5 := Hs5.out; have g6 := Hs6.out; have g7 := Hs0.out; omega) 1 (.string (textS (lowN (grp k) (mulB l)) (grp k).size)))
      obtain ⟨w7, hq7⟩ : ∃ W9 : World, ((wr.setCell ⟨w.heap.size, 0, none⟩ (.string (textS (lowN (grp k) (mulA l)) (grp k).size))).setCell ⟨w.heap.size, 1, none⟩ (.string (textS (lowN (grp k) (mulB l)) (grp k).size))) = W9 := ⟨_, rfl⟩
      rw [hq7] at hx9 hb9 hz9 ho9Hbg ho9Hbo
      clear Hbc HB
      have Hbc := Lib.hid hx9
      have HB := Lib.hid hb9
      have Hs7 := Lib.hid hz9
      replace Hbg := Lib.hid ho9Hbg
      replace Hbo := Lib.hid ho9Hbo
      clear hx9 hb9 hz9 ho9Hbg ho9Hbo
      have bc_0 := Hbc.out.cell (i := 0) rfl
      have bc_1 := Hbc.out.cell (i := 1) rfl
      have bg_0 := Hbg.out.cell (i := 0) rfl
      have bg_1 := Hbg.out.cell (i := 1) rfl
      have bg_2 := Hbg.out.cell (i := 2) rfl
      have bo_0 := Hbo.out.cell (i := 0) rfl
      have bo_1 := Hbo.out.cell (i := 1) rfl
      go_wp2_with fail
      clear hq7 o7_bo_1 o7_bo_0 o7_bg_2 o7_bg_1 o7_bg_0 o7_bc_1 o7_bc_0 f7_bc_1 f7_bc_0
      rw [show sumE (grp k) l = .tuple #[ciphV (textS (lowN (grp k) (mulA l)) (grp k).size) (textS (lowN (grp k) (mulB l)) (grp k).size), .int .i64 0] by unfold sumE; rw [if_pos (all_take_true HAL.out)]]
      unfold ciphV
      simp [bodyPost, results, Try.results24, go_sem, bc_0, bc_1]
      exact HB.out

end Go.Proofs.Ytipgjookfdkciaa

/- What every law's row wants: two closed facts, and small words for opening arguments. -/
namespace Go.Proofs.Ytipgjookfdkciaa
open Go.ChangeShapes Go.WideShapes Go.ChangeAt Go.RowKit

theorem law_own : ownKnob Try.prog.godebug = none := by kernel_rfl
theorem law_laidOut : laidOutB Try.prog = true := by kernel_rfl

section
variable {H : Type} {enc : TypeId × Value → H} {P : Program} {w : World}

theorem add_plain (b off i : Nat) : (⟨b, off, none⟩ : Addr).add i = ⟨b, off + i, none⟩ := by unfold Addr.add; split <;> simp_all

/-- An argument that is a slice of integers: its numbers, and that it reads. -/
theorem open_Sl_ints {k : IntKind} {t e : TypeId} {a : Option Addr} {len cap : Nat} {d : DataW H} {p : List MemPlace} (ht : P.underlying t = some (.slice e)) (he : P.underlying e = some (.int k)) (hc : P.cellsOf e = 1)
    (h : DataW.Trod enc P w 0 (fun _ => true) true t (.slice a len cap) d p) (hlt : ∀ x ∈ p, x.block < w.heap.size) :
    ∃ xs : List Int, len = xs.length ∧ Sl w w.heap.size a (xs.map (Value.int k)) ∧ (∀ x ∈ xs, (Lit.int k x).wf = true) ∧ ((len = 0) ∨ ∃ zs : List Int, len ≤ zs.length ∧ d = .slice (lits k (zs.take len)) (lits k (zs.drop len))) := by
  obtain ⟨fuel, hf⟩ := h
  rcases open_ints ht he hc hf with ⟨hcs, _⟩ | ⟨x, l, c, zs, hcs, _, hl, hm, hz, hx, hcell, hwz⟩
  · simp [Value.cells] at hcs
    obtain ⟨rfl, rfl, rfl⟩ := hcs
    exact ⟨[], rfl, Or.inl rfl, by simp, Or.inl rfl⟩
  · simp [Value.cells] at hcs
    obtain ⟨rfl, rfl, rfl⟩ := hcs
    simp only [Prod.mk.injEq] at hx
    obtain ⟨hd, rfl⟩ := hx
    simp only [if_true] at hz
    by_cases h0 : len = 0
    · subst h0
      exact ⟨[], rfl, Or.inl rfl, by simp, Or.inl rfl⟩
    · obtain ⟨b, off, spot⟩ := x
      have hspot : spot = none := by simpa [Addr.add] using World.cell?_spot (hcell 0 (by omega))
      subst hspot
      have hbW : b < w.heap.size := hlt (.cell b off) (MemPlace.mem_row.2 ⟨0, by omega, by simp⟩)
      refine ⟨zs.take len, by rw [List.length_take]; omega, Or.inr ⟨b, off, rfl, hbW, ?_⟩, fun x hx => hwz x (List.mem_of_mem_take hx), Or.inr ⟨zs, by omega, hd⟩⟩
      intro i v hv
      have hi : i < len := by
        have := (List.getElem?_eq_some_iff.1 hv).1
        simp at this; omega
      have := hcell i (by omega)
      rw [add_plain] at this
      rw [this, ← hv]
      simp [List.getD, hi, List.getElem?_eq_getElem (show i < zs.length by omega)]

/-- An argument that is a slice of one-cell elements of any kind: its cells, each with its own reading. -/
theorem open_Sl_any {t e : TypeId} {a : Option Addr} {len cap : Nat} {d : DataW H} {p : List MemPlace} (ht : P.underlying t = some (.slice e)) (hc : P.cellsOf e = 1)
    (h : DataW.Trod enc P w 0 (fun _ => true) true t (.slice a len cap) d p) (hlt : ∀ x ∈ p, x.block < w.heap.size) :
    ∃ cs : List Value, len = cs.length ∧ Sl w w.heap.size a cs ∧
      ((len = 0) ∨ ∃ (n : Nat) (ys rest : List (DataW H × List MemPlace)), d = .slice (ys.map (·.1)) (rest.map (·.1)) ∧ ys.length = len ∧ (∀ y ∈ ys, ∀ q ∈ y.2, q ∈ p) ∧
        ∀ (i : Nat) (c : Value), cs[i]? = some c → ∃ y, ys[i]? = some y ∧ DataW.trod enc P w 0 (fun _ => true) true n e [c] = some y) := by
  obtain ⟨fuel, hf⟩ := h
  rcases DataW.trod_slice ht hf with ⟨hcs, _⟩ | ⟨x, l, c, elems, rest, n, _, hcs, hx, hb, hl, hm, hlen, hel, _, _⟩
  · simp [Value.cells] at hcs
    obtain ⟨rfl, rfl, rfl⟩ := hcs
    exact ⟨[], rfl, Or.inl rfl, Or.inl rfl⟩
  · simp [Value.cells] at hcs
    obtain ⟨rfl, rfl, rfl⟩ := hcs
    simp only [Prod.mk.injEq] at hx
    obtain ⟨hd, rfl⟩ := hx
    by_cases h0 : len = 0
    · subst h0
      exact ⟨[], rfl, Or.inl rfl, Or.inl rfl⟩
    have each : ∀ i, i < len → ∃ c y, w.cell? (x.add i) = some c ∧ elems[i]? = some y ∧ DataW.trod enc P w 0 (fun _ => true) true n e [c] = some y := by
      intro i hi
      have h1 := hel i hi
      rw [hc, Nat.mul_one] at h1
      have h2 : elems[i]? = some (elems[i]'(by omega)) := List.getElem?_eq_getElem (by omega)
      rw [h2, Option.bind_eq_some_iff] at h1
      obtain ⟨cs', hcs', hy⟩ := h1
      obtain ⟨h3, h4, h5⟩ := World.cells?_some hcs'
      obtain ⟨c, rfl⟩ : ∃ c, cs' = [c] := by
        match cs', h3 with
        | [c], _ => exact ⟨c, rfl⟩
      exact ⟨c, _, cell_of_cells?_one hcs', h2, hy⟩
    obtain ⟨b, off, spot⟩ := x
    obtain ⟨c0, y0, hc0, _⟩ := each 0 (by omega)
    have hspot : spot = none := by simpa [Addr.add] using World.cell?_spot hc0
    subst hspot
    have hbW : b < w.heap.size := hlt (.cell b off) (List.mem_append_left _ (MemPlace.mem_row.2 ⟨0, by rw [hc]; omega, by simp⟩))
    have hget : ∀ i c, ((List.range len).map (fun i => (w.cell? ⟨b, off + i, none⟩).getD (.bool false)))[i]? = some c → i < len ∧ w.cell? ⟨b, off + i, none⟩ = some c := by
      intro i c hi
      have hil : i < len := by
        have := (List.getElem?_eq_some_iff.1 hi).1
        simpa using this
      obtain ⟨c', y, h1, _⟩ := each i hil
      rw [add_plain] at h1
      simp [hil, h1] at hi
      exact ⟨hil, by rw [h1, hi]⟩
    refine ⟨(List.range len).map (fun i => (w.cell? ⟨b, off + i, none⟩).getD (.bool false)), by simp, Or.inr ⟨b, off, rfl, hbW, fun i v hv => (hget i v hv).2⟩, Or.inr ⟨n, elems, rest, hd, hlen, ?_, ?_⟩⟩
    · intro y hy q hq
      exact List.mem_append_right _ (List.mem_flatMap.2 ⟨y, List.mem_append_left _ hy, hq⟩)
    · intro i c hi
      obtain ⟨hil, hcell⟩ := hget i c hi
      obtain ⟨c', y, h1, h2, h3⟩ := each i hil
      rw [add_plain, hcell] at h1
      simp only [Option.some.injEq] at h1
      exact ⟨y, h2, by rw [h1]; exact h3⟩

/-- A list of values each of which is of one shape. -/
theorem list_shape {α : Type} (mk : α → Value) : ∀ cs : List Value, (∀ c ∈ cs, ∃ a, c = mk a) → ∃ xs : List α, cs = xs.map mk
  | [], _ => ⟨[], rfl⟩
  | c :: cs, h => by
    obtain ⟨a, rfl⟩ := h c (by simp)
    obtain ⟨xs, rfl⟩ := list_shape mk cs (fun c hc => h c (by simp [hc]))
    exact ⟨a :: xs, rfl⟩

/-- An argument that is a slice of booleans. -/
theorem open_Sl_bools {t e : TypeId} {a : Option Addr} {len cap : Nat} {d : DataW H} {p : List MemPlace} (ht : P.underlying t = some (.slice e)) (he : P.underlying e = some .bool) (hc : P.cellsOf e = 1)
    (h : DataW.Trod enc P w 0 (fun _ => true) true t (.slice a len cap) d p) (hlt : ∀ x ∈ p, x.block < w.heap.size) :
    ∃ bs : List Bool, len = bs.length ∧ Sl w w.heap.size a (bs.map Value.bool) := by
  obtain ⟨cs, hl, hs, hk⟩ := open_Sl_any ht hc h hlt
  obtain ⟨bs, rfl⟩ := list_shape Value.bool cs (by
    intro c hcm
    obtain ⟨i, hi⟩ := List.getElem?_of_mem hcm
    rcases hk with h0 | ⟨n, ys, rest, _, _, _, hy⟩
    · rw [h0] at hl
      have := List.eq_nil_of_length_eq_zero hl.symm
      subst this
      simp at hcm
    · obtain ⟨y, _, ht2⟩ := hy i c hi
      obtain ⟨b, hb, _⟩ := DataW.trod_bool he ht2
      exact ⟨b, by simpa using hb⟩)
  exact ⟨bs, by simpa using hl, hs⟩

/-- A struct of one-cell fields, by value: its cells, each with its own reading. -/
theorem open_fields {r : Reach} {b0 base : Nat} {spare : Nat → Bool} {held : Bool} {t : TypeId} {fs : Array Go.Field} {v : Value} {d : DataW H} {p : List MemPlace} (hs : P.underlying t = some (.struct fs)) (hone : Go.Deep.oneCellFields P fs = true) (hC : P.cellsOf t = fs.size)
    (hv : Value.okWide P w r b0 t v) (h : DataW.Trod enc P w base spare held t v d p) :
    ∃ (cs : Array Value) (ys : List (DataW H × List MemPlace)) (n : Nat), v = .agg cs ∧ cs.size = fs.size ∧ d = .agg (ys.map (·.1)) ∧ p = ys.flatMap (·.2) ∧ ys.length = fs.size ∧
      ∀ (j : Nat) (f : Go.Field), fs[j]? = some f → ∃ c y, cs[j]? = some c ∧ ys[j]? = some y ∧ DataW.trod enc P w base spare held n f.type [c] = some y := by
  obtain ⟨cs, rfl, hsz⟩ := okWide_struct hs hv
  obtain ⟨fuel, hf⟩ := h
  obtain ⟨ys, n, _, hx, hcl, hlen, hg⟩ := DataW.trod_struct hs hf
  simp only [Prod.mk.injEq] at hx
  refine ⟨cs, ys, n, rfl, by omega, hx.1, hx.2, hlen, fun j f hj => ?_⟩
  obtain ⟨ho, hk⟩ := Go.Deep.hone_of hone j f hj
  have hjf : j < fs.size := (Array.getElem?_eq_some_iff.1 hj).1
  have hjc : j < cs.size := by omega
  have h1 := hg j f hj
  have e : ((Value.agg cs).cells.toList.drop f.offset).take (P.cellsOf f.type) = [cs[j]] := by
    rw [ho, hk]
    show (cs.toList.drop j).take 1 = _
    rw [List.drop_eq_getElem_cons (by simpa using hjc)]
    simp
  rw [e] at h1
  have hys : ys[j]? = some (ys[j]'(by omega)) := List.getElem?_eq_getElem (by omega)
  exact ⟨cs[j], _, by simp [hjc], hys, h1.trans hys⟩

/-- A field that is a slice: its value's form. -/
theorem field_slice {base fuel : Nat} {spare : Nat → Bool} {held : Bool} {t e : TypeId} {c : Value} {y : DataW H × List MemPlace} (ht : P.underlying t = some (.slice e)) (h : DataW.trod enc P w base spare held fuel t [c] = some y) :
    ∃ a len cap, c = .slice a len cap := by
  rcases DataW.trod_slice ht h with ⟨hc, _⟩ | ⟨a, len, cap, _, _, _, _, hc, _⟩
  · simp at hc; exact ⟨_, _, _, hc⟩
  · simp at hc; exact ⟨_, _, _, hc⟩

theorem field_int {k : IntKind} {base fuel : Nat} {spare : Nat → Bool} {held : Bool} {t : TypeId} {c : Value} {y : DataW H × List MemPlace} (ht : P.underlying t = some (.int k)) (h : DataW.trod enc P w base spare held fuel t [c] = some y) :
    ∃ n, c = .int k n ∧ (Lit.int k n).wf = true := by
  obtain ⟨n, hc, _, hw⟩ := DataW.trod_int ht h
  simp at hc; exact ⟨n, hc, hw⟩

theorem array5 {cs : Array Value} (h : cs.size = 5) : ∃ a b c d e, cs = #[a, b, c, d, e] := by
  obtain ⟨l⟩ := cs
  match l, h with
  | [a, b, c, d, e], _ => exact ⟨a, b, c, d, e, rfl⟩

end
end Go.Proofs.Ytipgjookfdkciaa

/- Small words for opening arguments of deep types: slices of elements of any size, whatever each element is. No condition. -/
namespace Go.Proofs.Ytipgjookfdkciaa
open Go.ChangeShapes Go.WideShapes Go.ChangeAt Go.RowKit

/-! What the bound of the second form gives. -/
theorem bulk_one {H : Type} (d : DataW H) : 1 ≤ Rows.uptoBulk d := by
  cases d with
  | lit l => cases l <;> simp [Rows.uptoBulk]
  | nil => simp [Rows.uptoBulk]
  | ptr d => simp [Rows.uptoBulk]
  | slice elems spare => simp [Rows.uptoBulk]
  | agg parts => simp [Rows.uptoBulk]
  | iface t d => simp [Rows.uptoBulk]
  | map entries => simp [Rows.uptoBulk]
  | held h => simp [Rows.uptoBulk]
theorem bulk_part {H : Type} {d : DataW H} {l : List (DataW H)} (h : d ∈ l) : Rows.uptoBulk d ≤ Rows.uptoBulkAll l := by
  induction l with
  | nil => cases h
  | cons x r ih =>
    simp only [Rows.uptoBulkAll]
    rcases List.mem_cons.1 h with rfl | e
    · omega
    · have := ih e; omega
theorem bulk_length {H : Type} (l : List (DataW H)) : l.length ≤ Rows.uptoBulkAll l := by
  induction l with
  | nil => simp [Rows.uptoBulkAll]
  | cons x r ih => have := bulk_one x; simp only [Rows.uptoBulkAll, List.length_cons]; omega
theorem bulk_slice {H : Type} {elems spare : List (DataW H)} {B : Nat} (h : Rows.uptoBulk (.slice elems spare) ≤ B) : elems.length ≤ B ∧ ∀ d ∈ elems, Rows.uptoBulk d ≤ B := by
  simp only [Rows.uptoBulk] at h
  refine ⟨by have := bulk_length elems; omega, fun d hd => by have := bulk_part hd; omega⟩
theorem bulk_agg {H : Type} {parts : List (DataW H)} {B : Nat} (h : Rows.uptoBulk (.agg parts) ≤ B) : ∀ d ∈ parts, Rows.uptoBulk d ≤ B := by
  simp only [Rows.uptoBulk] at h
  exact fun d hd => by have := bulk_part hd; omega

theorem flat_range (g : Nat → Value) (k len : Nat) : ((List.range len).map fun i => (List.range k).map fun j => g (i * k + j)).flatten = (List.range (len * k)).map g := by
  induction len with
  | zero => simp
  | succ m ih =>
    rw [List.range_succ, List.map_append, List.flatten_append, ih, Nat.succ_mul, List.range_add, List.map_append]
    simp [List.map_map, Function.comp_def]

section
variable {H : Type} {enc : TypeId × Value → H} {P : Program} {w : World}

/-- A cell that is a slice of elements of k cells: all its elements' cells, each element with its own reading. -/
theorem open_flat {sp : Nat → Bool} {held : Bool} {t e : TypeId} {k fuel : Nat} {c : Value} {y : DataW H × List MemPlace} (ht : P.underlying t = some (.slice e)) (hk : P.cellsOf e = k) (hk0 : 0 < k) {B : Nat} (hB : Rows.uptoBulk y.1 ≤ B)
    (h : DataW.trod enc P w 0 sp held fuel t [c] = some y) :
    ∃ (a : Option Addr) (cap : Nat) (css : List (List Value)), c = .slice a css.length cap ∧ css.length ≤ B ∧ (∀ l ∈ css, l.length = k) ∧ Sl w w.heap.size a css.flatten ∧
      ∀ l ∈ css, ∃ n y', Rows.uptoBulk y'.1 ≤ B ∧ DataW.trod enc P w 0 sp held n e l = some y' := by
  have hlt := DataW.trod_lt _ _ _ _ h
  rcases DataW.trod_slice ht h with ⟨hcs, _⟩ | ⟨x, len, cap, elems, rest, n, _, hcs, hx, hb, hl, hm, hlen, hel, _, _⟩
  · simp only [List.cons.injEq, and_true] at hcs
    exact ⟨none, 0, [], hcs, by simp, by simp, Or.inl rfl, by simp⟩
  simp only [List.cons.injEq, and_true] at hcs
  subst hcs
  by_cases h0 : len = 0
  · subst h0
    exact ⟨some x, cap, [], rfl, by simp, by simp, Or.inl rfl, by simp⟩
  have hbk := bulk_slice (elems := elems.map (·.1)) (spare := rest.map (·.1)) (B := B) (by rw [hx] at hB; exact hB)
  have each : ∀ i, i < len → ∃ l y', w.cells? 0 (x.add (i * k)) k = some l ∧ Rows.uptoBulk y'.1 ≤ B ∧ DataW.trod enc P w 0 sp held n e l = some y' := by
    intro i hi
    have h1 := hel i hi
    rw [hk, show elems[i]? = some (elems[i]'(by omega)) from List.getElem?_eq_getElem (by omega), Option.bind_eq_some_iff] at h1
    obtain ⟨l, hl, hy⟩ := h1
    exact ⟨l, _, hl, hbk.2 _ (List.mem_map.2 ⟨_, List.getElem_mem _, rfl⟩), hy⟩
  obtain ⟨b, off, spot⟩ := x
  have hspot : spot = none := by
    obtain ⟨l, _, h1, _⟩ := each 0 (by omega)
    obtain ⟨_, h2, h3⟩ := World.cells?_some h1
    have h4 := h3 0 hk0
    obtain ⟨v, hv⟩ : ∃ v, l[0]? = some v := ⟨_, List.getElem?_eq_getElem (by omega)⟩
    rw [hv, Deep.add_add, Nat.zero_mul, Nat.zero_add] at h4
    simpa [Addr.add] using World.cell?_spot h4
  subst hspot
  have hbW : b < w.heap.size := hlt (.cell b off) (by
    rw [hx]
    exact List.mem_append_left _ (MemPlace.mem_row.2 ⟨0, by rw [hk]; have : 0 < (elems.length + rest.length) * k := Nat.mul_pos (by omega) hk0; omega, by simp⟩))
  have hL : ∀ i, i < len → ((List.range k).map fun j => (w.cell? ⟨b, off + (i * k + j), none⟩).getD (.bool false)).length = k ∧
      (∀ j, j < k → w.cell? ⟨b, off + (i * k + j), none⟩ = some ((w.cell? ⟨b, off + (i * k + j), none⟩).getD (.bool false))) ∧
      ∃ y', Rows.uptoBulk y'.1 ≤ B ∧ DataW.trod enc P w 0 sp held n e ((List.range k).map fun j => (w.cell? ⟨b, off + (i * k + j), none⟩).getD (.bool false)) = some y' := by
    intro i hi
    obtain ⟨l, y', h1, h2b, h2⟩ := each i hi
    obtain ⟨_, h3, h4⟩ := World.cells?_some h1
    have h5 : ∀ j, j < k → w.cell? ⟨b, off + (i * k + j), none⟩ = l[j]? := by
      intro j hj
      have := h4 j hj
      rwa [Deep.add_add, add_plain] at this
    have e1 : (List.range k).map (fun j => (w.cell? ⟨b, off + (i * k + j), none⟩).getD (.bool false)) = l := by
      apply List.ext_getElem?
      intro j
      by_cases hj : j < k
      · rw [List.getElem?_map, List.getElem?_range hj, Option.map_some, h5 j hj, List.getElem?_eq_getElem (show j < l.length by omega), Option.getD_some]
      · rw [List.getElem?_eq_none (by simp; omega), List.getElem?_eq_none (by omega)]
    refine ⟨by simp, ?_, ?_⟩
    · intro j hj
      rw [h5 j hj, List.getElem?_eq_getElem (show j < l.length by omega), Option.getD_some]
    · rw [e1]; exact ⟨y', h2b, h2⟩
  refine ⟨some ⟨b, off, none⟩, cap, (List.range len).map fun i => (List.range k).map fun j => (w.cell? ⟨b, off + (i * k + j), none⟩).getD (.bool false), by simp, ?_, ?_, Or.inr ⟨b, off, rfl, hbW, ?_⟩, ?_⟩
  · have := hbk.1; rw [List.length_map] at this; simp; omega
  · intro l hl
    obtain ⟨i, _, rfl⟩ := List.mem_map.1 hl
    simp
  · have hflat := flat_range (fun m => (w.cell? ⟨b, off + m, none⟩).getD (.bool false)) k len
    intro i v hv
    rw [hflat] at hv
    have hi : i < len * k := by have := (List.getElem?_eq_some_iff.1 hv).1; simpa using this
    have hq : i / k < len := Nat.div_lt_of_lt_mul (by rwa [Nat.mul_comm] at hi)
    have hc := (hL (i / k) hq).2.1 (i % k) (Nat.mod_lt _ hk0)
    rw [show i / k * k + i % k = i by rw [Nat.mul_comm]; exact Nat.div_add_mod i k] at hc
    rw [hc, ← hv, List.getElem?_map, List.getElem?_range hi, Option.map_some]
  · intro l hl
    obtain ⟨i, hi, rfl⟩ := List.mem_map.1 hl
    obtain ⟨y', hyb, hy⟩ := (hL i (List.mem_range.1 hi)).2.2
    exact ⟨n, y', hyb, hy⟩

/-- A list of lists of values each of which is of one shape. -/
theorem list_shapes {α : Type} (f : α → List Value) (R : α → Prop) : ∀ css : List (List Value), (∀ l ∈ css, ∃ x, l = f x ∧ R x) → ∃ xs : List α, xs.length = css.length ∧ css.flatten = xs.flatMap f ∧ ∀ x ∈ xs, R x
  | [], _ => ⟨[], rfl, rfl, by simp⟩
  | l :: css, h => by
    obtain ⟨x, rfl, hR⟩ := h l (by simp)
    obtain ⟨xs, h1, h2, h3⟩ := list_shapes f R css (fun c hc => h c (by simp [hc]))
    refine ⟨x :: xs, by simp [h1], by simp [h2], ?_⟩
    intro y hy
    rcases List.mem_cons.1 hy with rfl | hy
    · exact hR
    · exact h3 y hy

/-- The same, each element of a shape that is known. -/
theorem open_els {α : Type} (f : α → List Value) (R : α → Prop) {sp : Nat → Bool} {held : Bool} {t e : TypeId} {k fuel : Nat} {c : Value} {y : DataW H × List MemPlace} (ht : P.underlying t = some (.slice e)) (hk : P.cellsOf e = k) (hk0 : 0 < k) {B : Nat} (hB : Rows.uptoBulk y.1 ≤ B)
    (hel : ∀ n l y', l.length = k → Rows.uptoBulk y'.1 ≤ B → DataW.trod enc P w 0 sp held n e l = some y' → ∃ x, l = f x ∧ R x) (h : DataW.trod enc P w 0 sp held fuel t [c] = some y) :
    ∃ (a : Option Addr) (cap : Nat) (xs : List α), c = .slice a xs.length cap ∧ xs.length ≤ B ∧ Sl w w.heap.size a (xs.flatMap f) ∧ ∀ x ∈ xs, R x := by
  obtain ⟨a, cap, css, rfl, hlB, hl, hs, he⟩ := open_flat ht hk hk0 hB h
  obtain ⟨xs, h1, h2, h3⟩ := list_shapes f R css (fun l hm => by
    obtain ⟨n, y', hyb, hy⟩ := he l hm
    exact hel n l y' (hl l hm) hyb hy)
  exact ⟨a, cap, xs, by rw [h1], by omega, h2 ▸ hs, h3⟩

/-- A struct whose fields are of one cell each. -/
theorem open_cells {sp : Nat → Bool} {held : Bool} {t : TypeId} {fs : Array Go.Field} {fuel : Nat} {cs : List Value} {y : DataW H × List MemPlace} (hs : P.underlying t = some (.struct fs)) (hone : Go.Deep.oneCellFields P fs = true) (hC : P.cellsOf t = fs.size) {B : Nat} (hB : Rows.uptoBulk y.1 ≤ B)
    (h : DataW.trod enc P w 0 sp held fuel t cs = some y) :
    cs.length = fs.size ∧ ∀ (j : Nat) (f : Go.Field) (c : Value), fs[j]? = some f → cs[j]? = some c → ∃ n y', Rows.uptoBulk y'.1 ≤ B ∧ DataW.trod enc P w 0 sp held n f.type [c] = some y' := by
  obtain ⟨ys, n, _, hy, hcl, hlen, hg⟩ := DataW.trod_struct hs h
  have hbk := bulk_agg (parts := ys.map (·.1)) (B := B) (by rw [hy] at hB; exact hB)
  refine ⟨by omega, fun j f c hj hc => ?_⟩
  obtain ⟨ho, hk⟩ := Go.Deep.hone_of hone j f hj
  have hjf : j < fs.size := (Array.getElem?_eq_some_iff.1 hj).1
  have h1 := hg j f hj
  have hjc := (List.getElem?_eq_some_iff.1 hc).1
  rw [ho, hk, List.drop_eq_getElem_cons hjc, List.take_succ_cons, List.take_zero, (List.getElem?_eq_some_iff.1 hc).2, List.getElem?_eq_getElem (show j < ys.length by omega)] at h1
  exact ⟨n, _, hbk _ (List.mem_map.2 ⟨_, List.getElem_mem _, rfl⟩), h1⟩

theorem list2 {cs : List Value} (h : cs.length = 2) : ∃ a b, cs = [a, b] := by
  match cs, h with
  | [a, b], _ => exact ⟨a, b, rfl⟩
theorem list3 {cs : List Value} (h : cs.length = 3) : ∃ a b c, cs = [a, b, c] := by
  match cs, h with
  | [a, b, c], _ => exact ⟨a, b, c, rfl⟩

/-- A cell that is a string. -/
theorem open_str {sp : Nat → Bool} {held : Bool} {t : TypeId} {fuel : Nat} {c : Value} {y : DataW H × List MemPlace} (ht : P.underlying t = some .string) (h : DataW.trod enc P w 0 sp held fuel t [c] = some y) : ∃ s : ByteArray, c = .string s := by
  obtain ⟨s, hs, _⟩ := DataW.trod_string ht h
  simp only [List.cons.injEq, and_true] at hs
  exact ⟨s, hs⟩

/-- A cell that is a slice of strings. -/
theorem open_strs {sp : Nat → Bool} {held : Bool} {t e : TypeId} {fuel : Nat} {c : Value} {y : DataW H × List MemPlace} (ht : P.underlying t = some (.slice e)) (he : P.underlying e = some .string) (hk : P.cellsOf e = 1) {B : Nat} (hB : Rows.uptoBulk y.1 ≤ B) (h : DataW.trod enc P w 0 sp held fuel t [c] = some y) :
    ∃ (a : Option Addr) (cap : Nat) (bs : List ByteArray), c = .slice a bs.length cap ∧ bs.length ≤ B ∧ Sl w w.heap.size a (bs.map Value.string) := by
  obtain ⟨a, cap, xs, h1, hb, h2, _⟩ := open_els (fun s : ByteArray => [Value.string s]) (fun _ => True) ht hk (by omega) hB (fun n l y' hl _ hy => by
    match l, hl with
    | [c'], _ =>
      obtain ⟨s, rfl⟩ := open_str he hy
      exact ⟨s, rfl, trivial⟩) h
  refine ⟨a, cap, xs, h1, hb, ?_⟩
  rw [← List.flatMap_singleton' (xs.map Value.string), List.flatMap_map]
  exact h2

/-- The reading of a slice has as many parts as the slice has elements. -/
theorem trod_len {sp : Nat → Bool} {held : Bool} {t e : TypeId} {fuel : Nat} {a : Option Addr} {len cap : Nat} {y : DataW H × List MemPlace} (ht : P.underlying t = some (.slice e)) (h : DataW.trod enc P w 0 sp held fuel t [.slice a len cap] = some y) :
    len = 0 ∨ ∃ es rs, y.1 = .slice es rs ∧ es.length = len := by
  rcases DataW.trod_slice ht h with ⟨hcs, _⟩ | ⟨x, l, c, elems, rest, n, _, hcs, hx, _, _, _, hlen, _⟩
  · simp only [List.cons.injEq, Value.slice.injEq, and_true] at hcs
    exact Or.inl hcs.2.1
  · simp only [List.cons.injEq, Value.slice.injEq, and_true] at hcs
    exact Or.inr ⟨_, _, by rw [hx], by rw [List.length_map, hlen, hcs.2.1]⟩

end

end Go.Proofs.Ytipgjookfdkciaa

/- GroupTells: what a kind has, of any kind, is what the document says. No condition. -/
namespace Go.Proofs.Ytipgjookfdkciaa
open Go.ChangeShapes Go.WideShapes Go.ChangeAt Go.RowKit

theorem grp_small (k : Nat) (h1 : 1 ≤ k) (h3 : k ≤ 3) : dl (grp k).q.m ≤ 1048576 ∧ dl (grp k).p.m ≤ 1048576 :=
  ⟨small_dl _ (grp_ok k h1 h3).q.lt4, small_dl _ (grp_ok k h1 h3).p.lt4⟩



theorem refText_nil (size : Nat) (hs : size ≤ 1024) (w : World) : Calls Try.prog 70 #[.slice none 0 0, .int .i64 (size : Int)] w fun e w' => e = .returned (.string (textS 0 size)) ∧ Below w.heap.size w w' :=
  refText_any 0 size none 0 (by decide) hs w (NumAt.zero _ _)
theorem refText_nil0 (w : World) : Calls Try.prog 70 #[.slice none 0 0, .int .i64 0] w fun e w' => e = .returned (.string (textS 0 0)) ∧ Below w.heap.size w w' :=
  refText_nil 0 (by omega) w

theorem refText_two0 (a9 : Option Addr) (c9 : Nat) (w : World) (h : NumAt w a9 2) : Calls Try.prog 70 #[.slice a9 (dl 2) c9, .int .i64 0] w fun e w' => e = .returned (.string (textS 2 0)) ∧ Below w.heap.size w w' :=
  refText_any 2 0 a9 c9 (by decide) (by omega) w h

end Go.Proofs.Ytipgjookfdkciaa

/- What a statement about the group carries from call to call: the document's group value, and two numbers. No condition. -/
namespace Go.Proofs.Ytipgjookfdkciaa
open Go.ChangeShapes Go.WideShapes Go.ChangeAt Go.RowKit

/-- The document's group value, as the program's value. -/
def refG (sz q p : Nat) (aq ap : Option Addr) (cq cp : Nat) : List Value := [.int .i64 (sz : Int), .slice aq (dl q) cq, .slice ap (dl p) cp]

structure Car (w W : World) (zb : Nat) (t : TypeId) (sz q p : Nat) (aq ap : Option Addr) (cq cp : Nat) (ax ay : Option Addr) (x y : Nat) : Prop where
  b : Below w.heap.size w W
  z : Bx W zb t [.int .i64 (sz : Int), .slice aq (dl q) cq, .slice ap (dl p) cp]
  q : NumAt W aq q
  p : NumAt W ap p
  x : NumAt W ax x
  y : NumAt W ay y

theorem Car.up {w W W' : World} {zb : Nat} {t : TypeId} {sz q p : Nat} {aq ap : Option Addr} {cq cp : Nat} {ax ay : Option Addr} {x y : Nat}
    (h : Car w W zb t sz q p aq ap cq cp ax ay x y) (u : Below W.heap.size W W') : Car w W' zb t sz q p aq ap cq cp ax ay x y :=
  ⟨below_up h.b u, h.z.up u, h.q.up u, h.p.up u, h.x.up u, h.y.up u⟩

theorem Car.setx {w W W' : World} {zb : Nat} {t : TypeId} {sz q p : Nat} {aq ap : Option Addr} {cq cp : Nat} {ax ay : Option Addr} {x y : Nat}
    (h : Car w W zb t sz q p aq ap cq cp ax ay x y) (u : Below W.heap.size W W') {ax' : Option Addr} {x' : Nat} (hx : NumAt W' ax' x') : Car w W' zb t sz q p aq ap cq cp ax' ay x' y :=
  ⟨below_up h.b u, h.z.up u, h.q.up u, h.p.up u, hx, h.y.up u⟩

theorem Car.sety {w W W' : World} {zb : Nat} {t : TypeId} {sz q p : Nat} {aq ap : Option Addr} {cq cp : Nat} {ax ay : Option Addr} {x y : Nat}
    (h : Car w W zb t sz q p aq ap cq cp ax ay x y) (u : Below W.heap.size W W') {ay' : Option Addr} {y' : Nat} (hy : NumAt W' ay' y') : Car w W' zb t sz q p aq ap cq cp ax ay' x y' :=
  ⟨below_up h.b u, h.z.up u, h.q.up u, h.p.up u, h.x.up u, hy⟩


section
variable {H : Type} {enc : TypeId × Value → H} {P : Program} {w : World}
/-- An argument that is a slice of strings. -/
theorem open_Sl_strings {t e : TypeId} {a : Option Addr} {len cap : Nat} {d : DataW H} {p : List MemPlace} (ht : P.underlying t = some (.slice e)) (he : P.underlying e = some .string) (hc : P.cellsOf e = 1)
    (h : DataW.Trod enc P w 0 (fun _ => true) true t (.slice a len cap) d p) (hlt : ∀ x ∈ p, x.block < w.heap.size) :
    ∃ bs : List ByteArray, len = bs.length ∧ Sl w w.heap.size a (bs.map Value.string) := by
  obtain ⟨cs, hl, hs, hk⟩ := open_Sl_any ht hc h hlt
  obtain ⟨bs, rfl⟩ := list_shape Value.string cs (by
    intro c hcm
    obtain ⟨i, hi⟩ := List.getElem?_of_mem hcm
    rcases hk with h0 | ⟨n, ys, rest, _, _, _, hy⟩
    · rw [h0] at hl
      have := List.eq_nil_of_length_eq_zero hl.symm
      subst this
      simp at hcm
    · obtain ⟨y, _, ht2⟩ := hy i c hi
      obtain ⟨b, hb, _⟩ := DataW.trod_string he ht2
      exact ⟨b, by simpa using hb⟩)
  exact ⟨bs, by simpa using hl, hs⟩
end

end Go.Proofs.Ytipgjookfdkciaa
