/- The document's groups. No condition. -/
import Derived.Test.YtdmldnpadojflaaRefMul
namespace Go.Proofs.Ytdmldnpadojflaa
open Go.RowKit

/-- A block of cells. -/
def Bx (W : World) (b : Nat) (t : TypeId) (cs : List Value) : Prop := W.heap[b]? = some (.cells cs.toArray t (0, 0))

section
variable {W W' : World} {b c i n : Nat} {t : TypeId} {cs : List Value} {v : Value}
theorem Bx.lt (h : Bx W b t cs) : b < W.heap.size := (Array.getElem?_eq_some_iff.1 h).1
theorem Bx.cell (h : Bx W b t cs) (hx : cs[i]? = some v) : W.cell? ⟨b, i, none⟩ = some v := by
  simp [World.cell?, show W.heap[b]? = _ from h, hx]
theorem Bx.frozen (h : Bx W b t cs) (i : Nat) : W.frozen? ⟨b, i, none⟩ = false := by
  simp [World.frozen?, show W.heap[b]? = _ from h]
theorem Bx.below (h : Bx W b t cs) (hb : Below n W W') (hn : b < n) : Bx W' b t cs := (hb.block b hn).trans h
theorem Bx.up (h : Bx W b t cs) (hb : Below W.heap.size W W') : Bx W' b t cs := h.below hb h.lt
theorem Bx.alloc (h : Bx W b t cs) (o : Obj) : Bx (W.alloc o) b t cs := (Below.heap_alloc W o b h.lt).trans h
theorem Bx.new (W : World) (t : TypeId) (cs : List Value) (ar : Array Value) (har : ar = cs.toArray) : Bx (W.alloc (.cells ar t)) W.heap.size t cs := by
  subst har; exact heap_alloc_new W _
theorem Bx.set (h : Bx W b t cs) (i : Nat) (v : Value) : Bx (W.setCell ⟨b, i, none⟩ v) b t (cs.set i v) := by
  obtain ⟨hlt, hk⟩ := Array.getElem?_eq_some_iff.1 h
  show (W.heap.modify b _)[b]? = _
  rw [Array.getElem?_eq_getElem (by rw [Array.size_modify]; exact hlt), Array.getElem_modify_self, hk]
  simp
theorem Bx.other (h : Bx W b t cs) (hne : b ≠ c) (i : Nat) (v : Value) : Bx (W.setCell ⟨c, i, none⟩ v) b t cs := (Below.heap_setCell W ⟨c, i, none⟩ v b hne).trans h
end

/-- The document's group as a value. -/
def KindR (w : World) (e : Ending) (w' : World) (G : GP) : Prop :=
  ∃ aq cq ap cp, e = .returned (.agg #[.int .i64 (G.size : Int), .slice aq (dl G.q.m) cq, .slice ap (dl G.p.m) cp]) ∧ NumAt w' aq G.q.m ∧ NumAt w' ap G.p.m ∧ Below w.heap.size w w'

theorem NumAt.store {w : World} {a : Option Addr} {n b : Nat} (h : NumAt w a n) (hne : ∀ q o, a = some ⟨q, o, none⟩ → q ≠ b) (i : Nat) (v : Value) : NumAt (w.setCell ⟨b, i, none⟩ v) a n := by
  rcases h with h | ⟨q, o, rfl, hq, hc⟩
  · exact Or.inl h
  · refine Or.inr ⟨q, o, rfl, ?_, fun j u hu => ?_⟩
    · show q < (w.heap.modify _ _).size; rw [Array.size_modify]; exact hq
    · rw [World.cell?_of_block (w := w) (a := ⟨q, o + j, none⟩) (Below.heap_setCell w ⟨b, i, none⟩ v q (hne q o rfl))]
      exact hc j u hu

theorem small_dl (n : Nat) (h : n < DD ^ 16) : dl n ≤ 1048576 := Nat.le_trans (dl_of_lt n 16 h) (by decide)



set_option maxHeartbeats 2000000 in
theorem refKind_one (w : World) : Calls Try.prog 13 #[.int .i64 1] w fun e w' => KindR w e w' (grp 1) := by
  go_enter Try.func13, Try.ntmps13
  go_wp2_with fail
  have hb0 : Below w.heap.size w (w.alloc (.cells #[.int .i64 0, .slice none 0 0, .slice none 0 0] 25)) := (Below.refl _ _).alloc (Nat.le_refl _) _
  have hz0 : Bx (w.alloc (.cells #[.int .i64 0, .slice none 0 0, .slice none 0 0] 25)) w.heap.size 25 [.int .i64 0, .slice none 0 0, .slice none 0 0] := Bx.new w _ _ _ rfl
  obtain ⟨W0, hW0⟩ : ∃ W9 : World, (w.alloc (.cells #[.int .i64 0, .slice none 0 0, .slice none 0 0] 25)) = W9 := ⟨_, rfl⟩
  rw [hW0] at hb0 hz0 ⊢
  have HB0 := Lib.hid hb0
  have HZ0 := Lib.hid hz0
  clear hW0 hb0 hz0
  refine (refOf_any 5 (by omega) W0).mono ?_
  rintro e w1 ⟨ah, ch, rfl, hh, hb1⟩
  have Hh := Lib.hid hh
  have HBw1 := Lib.hid (below_up HB0.out hb1)
  have HZ := Lib.hid (HZ0.out.up hb1)
  clear hh hb1 HB0 HZ0
  go_wp2_with fail
  refine (refTwo_any 7 (by omega) w1).mono ?_
  rintro e wt ⟨at', ct', rfl, hn9, hb9⟩
  have Ht := Lib.hid hn9
  have HBwt := Lib.hid (below_up HBw1.out hb9)
  have HZ_9 := Lib.hid (HZ.out.up hb9)
  clear HZ
  have HZ := HZ_9
  clear HZ_9
  have Hh_9 := Lib.hid (Hh.out.up hb9)
  clear Hh
  have Hh := Hh_9
  clear Hh_9
  clear hn9 hb9 HBw1
  go_wp2_with fail
  refine (refTimes_any 5 (2 ^ 7) ah at' ch ct' (small_dl _ (by decide)) (small_dl _ (by decide)) wt Hh.out Ht.out).mono ?_
  rintro e wm ⟨am, cm, rfl, hn9, hb9⟩
  have Hm := Lib.hid hn9
  have HBwm := Lib.hid (below_up HBwt.out hb9)
  have HZ_9 := Lib.hid (HZ.out.up hb9)
  clear HZ
  have HZ := HZ_9
  clear HZ_9
  clear hn9 hb9 HBwt
  go_wp2_with fail
  refine (refOf_any 1 (by omega) wm).mono ?_
  rintro e wo ⟨ao, co, rfl, hn9, hb9⟩
  have Ho := Lib.hid hn9
  have HBwo := Lib.hid (below_up HBwm.out hb9)
  have HZ_9 := Lib.hid (HZ.out.up hb9)
  clear HZ
  have HZ := HZ_9
  clear HZ_9
  have Hm_9 := Lib.hid (Hm.out.up hb9)
  clear Hm
  have Hm := Hm_9
  clear Hm_9
  clear hn9 hb9 HBwm
  go_wp2_with fail
  refine (refPlus_new (5 * 2 ^ 7) 1 am ao cm co (small_dl _ (by decide)) (small_dl _ (by decide)) wo Hm.out Ho.out).mono ?_
  rintro e wq ⟨aq, cq, rfl, hn9, hnew, hb9⟩
  have HNQ := Lib.hid hnew
  have hzo := HBwo.out.size
  have hzb := HZ.out.lt
  clear hnew
  have Hq := Lib.hid hn9
  have HBwq := Lib.hid (below_up HBwo.out hb9)
  have HZ_9 := Lib.hid (HZ.out.up hb9)
  clear HZ
  have HZ := HZ_9
  clear HZ_9
  clear hn9 hb9 HBwo
  go_wp2_with fail
  refine (refPlus_any (5 * 2 ^ 7 + 1) (5 * 2 ^ 7 + 1) aq aq cq cq (small_dl _ (by decide)) (small_dl _ (by decide)) wq Hq.out Hq.out).mono ?_
  rintro e wd ⟨ad, cd, rfl, hn9, hb9⟩
  have Hd := Lib.hid hn9
  have HBwd := Lib.hid (below_up HBwq.out hb9)
  have HZ_9 := Lib.hid (HZ.out.up hb9)
  clear HZ
  have HZ := HZ_9
  clear HZ_9
  have Hq_9 := Lib.hid (Hq.out.up hb9)
  clear Hq
  have Hq := Hq_9
  clear Hq_9
  clear hn9 hb9 HBwq
  go_wp2_with fail
  refine (refOf_any 1 (by omega) wd).mono ?_
  rintro e wu ⟨au, cu, rfl, hn9, hb9⟩
  have Hu := Lib.hid hn9
  have HBwu := Lib.hid (below_up HBwd.out hb9)
  have HZ_9 := Lib.hid (HZ.out.up hb9)
  clear HZ
  have HZ := HZ_9
  clear HZ_9
  have Hq_9 := Lib.hid (Hq.out.up hb9)
  clear Hq
  have Hq := Hq_9
  clear Hq_9
  have Hd_9 := Lib.hid (Hd.out.up hb9)
  clear Hd
  have Hd := Hd_9
  clear Hd_9
  clear hn9 hb9 HBwd
  go_wp2_with fail
  refine (refPlus_new (5 * 2 ^ 7 + 1 + (5 * 2 ^ 7 + 1)) 1 ad au cd cu (small_dl _ (by decide)) (small_dl _ (by decide)) wu Hd.out Hu.out).mono ?_
  rintro e wp ⟨ap, cp, rfl, hn9, hnew, hb9⟩
  have HNP := Lib.hid hnew
  have hzu := HBwu.out.size
  have hzb2 := HZ.out.lt
  clear hnew
  have Hp := Lib.hid hn9
  have HBwp := Lib.hid (below_up HBwu.out hb9)
  have HZ_9 := Lib.hid (HZ.out.up hb9)
  clear HZ
  have HZ := HZ_9
  clear HZ_9
  have Hq_9 := Lib.hid (Hq.out.up hb9)
  clear Hq
  have Hq := Hq_9
  clear Hq_9
  clear hn9 hb9 HBwu
  have hz_0 := HZ.out.cell (i := 0) (v := .int .i64 0) rfl
  have hz_1 := HZ.out.cell (i := 1) (v := .slice none 0 0) rfl
  have hz_2 := HZ.out.cell (i := 2) (v := .slice none 0 0) rfl
  have hzf_0 := HZ.out.frozen 0
  have hzf_1 := HZ.out.frozen 1
  have hzf_2 := HZ.out.frozen 2
  have HZ5 := Lib.hid (((HZ.out.set 0 (.int .i64 2)).set 1 (.slice aq (dl (5 * 2 ^ 7 + 1)) cq)).set 2 (.slice ap (dl (5 * 2 ^ 7 + 1 + (5 * 2 ^ 7 + 1) + 1)) cp))
  have HB5 := Lib.hid (((HBwp.out.setCell (p := ⟨w.heap.size, 0, none⟩) (Nat.le_refl _) (.int .i64 2)).setCell (p := ⟨w.heap.size, 1, none⟩) (Nat.le_refl _) (.slice aq (dl (5 * 2 ^ 7 + 1)) cq)).setCell (p := ⟨w.heap.size, 2, none⟩) (Nat.le_refl _) (.slice ap (dl (5 * 2 ^ 7 + 1 + (5 * 2 ^ 7 + 1) + 1)) cp))
  have HQ5 := Lib.hid (((Hq.out.store (b := w.heap.size) (fun q o h => by have := HNQ.out q o h; omega) 0 (.int .i64 2)).store (b := w.heap.size) (fun q o h => by have := HNQ.out q o h; omega) 1 (.slice aq (dl (5 * 2 ^ 7 + 1)) cq)).store (b := w.heap.size) (fun q o h => by have := HNQ.out q o h; omega) 2 (.slice ap (dl (5 * 2 ^ 7 + 1 + (5 * 2 ^ 7 + 1) + 1)) cp))
  have HP5 := Lib.hid (((Hp.out.store (b := w.heap.size) (fun q o h => by have := HNP.out q o h; omega) 0 (.int .i64 2)).store (b := w.heap.size) (fun q o h => by have := HNP.out q o h; omega) 1 (.slice aq (dl (5 * 2 ^ 7 + 1)) cq)).store (b := w.heap.size) (fun q o h => by have := HNP.out q o h; omega) 2 (.slice ap (dl (5 * 2 ^ 7 + 1 + (5 * 2 ^ 7 + 1) + 1)) cp))
  obtain ⟨w5, hw5⟩ : ∃ W9 : World, ((wp.setCell ⟨w.heap.size, 0, none⟩ (.int .i64 2)).setCell ⟨w.heap.size, 1, none⟩ (.slice aq (dl (5 * 2 ^ 7 + 1)) cq)).setCell ⟨w.heap.size, 2, none⟩ (.slice ap (dl (5 * 2 ^ 7 + 1 + (5 * 2 ^ 7 + 1) + 1)) cp) = W9 := ⟨_, rfl⟩
  go_wp2_with fail
  rw [hw5] at HZ5 HB5 HQ5 HP5
  have hg_0 := HZ5.out.cell (i := 0) (v := .int .i64 2) rfl
  have hg_1 := HZ5.out.cell (i := 1) (v := .slice aq (dl (5 * 2 ^ 7 + 1)) cq) rfl
  have hg_2 := HZ5.out.cell (i := 2) (v := .slice ap (dl (5 * 2 ^ 7 + 1 + (5 * 2 ^ 7 + 1) + 1)) cp) rfl
  have eq_ : (grp 1).q.m = 5 * 2 ^ 7 + 1 := by decide
  have ep_ : (grp 1).p.m = 5 * 2 ^ 7 + 1 + (5 * 2 ^ 7 + 1) + 1 := by decide
  refine bodyPost_ret (v := .agg #[.int .i64 2, .slice aq (dl (5 * 2 ^ 7 + 1)) cq, .slice ap (dl (5 * 2 ^ 7 + 1 + (5 * 2 ^ 7 + 1) + 1)) cp]) (by simp [results, Try.results13, go_sem, hg_0, hg_1, hg_2]) rfl ?_
  refine ⟨aq, cq, ap, cp, ?_, ?_, ?_, HB5.out⟩
  · rw [eq_, ep_]; rfl
  · rw [eq_]; exact HQ5.out
  · rw [ep_]; exact HP5.out

set_option maxHeartbeats 2000000 in
theorem refKind_two (w : World) : Calls Try.prog 13 #[.int .i64 2] w fun e w' => KindR w e w' (grp 2) := by
  go_enter Try.func13, Try.ntmps13
  go_wp2_with fail
  have hb0 : Below w.heap.size w (w.alloc (.cells #[.int .i64 0, .slice none 0 0, .slice none 0 0] 25)) := (Below.refl _ _).alloc (Nat.le_refl _) _
  have hz0 : Bx (w.alloc (.cells #[.int .i64 0, .slice none 0 0, .slice none 0 0] 25)) w.heap.size 25 [.int .i64 0, .slice none 0 0, .slice none 0 0] := Bx.new w _ _ _ rfl
  obtain ⟨W0, hW0⟩ : ∃ W9 : World, (w.alloc (.cells #[.int .i64 0, .slice none 0 0, .slice none 0 0] 25)) = W9 := ⟨_, rfl⟩
  rw [hW0] at hb0 hz0 ⊢
  have HB0 := Lib.hid hb0
  have HZ0 := Lib.hid hz0
  clear hW0 hb0 hz0
  refine (refOf_any 5 (by omega) W0).mono ?_
  rintro e w1 ⟨ah, ch, rfl, hh, hb1⟩
  have HB1 := Lib.hid (below_up HB0.out hb1)
  have HZ1 := Lib.hid (HZ0.out.up hb1)
  clear hh hb1 HB0 HZ0
  go_wp2_with fail
  refine (refOf_any 268437635 (by omega) w1).mono ?_
  rintro e w1' ⟨ah, ch, rfl, hh, hb1⟩
  have Hh := Lib.hid hh
  have HBw1 := Lib.hid (below_up HB1.out hb1)
  have HZ := Lib.hid (HZ1.out.up hb1)
  clear hh hb1 HB1 HZ1
  obtain ⟨w1, rfl⟩ : ∃ w1 : World, w1 = w1' := ⟨_, rfl⟩
  go_wp2_with fail
  refine (refTwo_any 31 (by omega) w1).mono ?_
  rintro e wt ⟨at', ct', rfl, hn9, hb9⟩
  have Ht := Lib.hid hn9
  have HBwt := Lib.hid (below_up HBw1.out hb9)
  have HZ_9 := Lib.hid (HZ.out.up hb9)
  clear HZ
  have HZ := HZ_9
  clear HZ_9
  have Hh_9 := Lib.hid (Hh.out.up hb9)
  clear Hh
  have Hh := Hh_9
  clear Hh_9
  clear hn9 hb9 HBw1
  go_wp2_with fail
  refine (refTimes_any 268437635 (2 ^ 31) ah at' ch ct' (small_dl _ (by decide)) (small_dl _ (by decide)) wt Hh.out Ht.out).mono ?_
  rintro e wm ⟨am, cm, rfl, hn9, hb9⟩
  have Hm := Lib.hid hn9
  have HBwm := Lib.hid (below_up HBwt.out hb9)
  have HZ_9 := Lib.hid (HZ.out.up hb9)
  clear HZ
  have HZ := HZ_9
  clear HZ_9
  clear hn9 hb9 HBwt
  go_wp2_with fail
  refine (refOf_any 1 (by omega) wm).mono ?_
  rintro e wo ⟨ao, co, rfl, hn9, hb9⟩
  have Ho := Lib.hid hn9
  have HBwo := Lib.hid (below_up HBwm.out hb9)
  have HZ_9 := Lib.hid (HZ.out.up hb9)
  clear HZ
  have HZ := HZ_9
  clear HZ_9
  have Hm_9 := Lib.hid (Hm.out.up hb9)
  clear Hm
  have Hm := Hm_9
  clear Hm_9
  clear hn9 hb9 HBwm
  go_wp2_with fail
  refine (refPlus_new (268437635 * 2 ^ 31) 1 am ao cm co (small_dl _ (by decide)) (small_dl _ (by decide)) wo Hm.out Ho.out).mono ?_
  rintro e wq ⟨aq, cq, rfl, hn9, hnew, hb9⟩
  have HNQ := Lib.hid hnew
  have hzo := HBwo.out.size
  have hzb := HZ.out.lt
  clear hnew
  have Hq := Lib.hid hn9
  have HBwq := Lib.hid (below_up HBwo.out hb9)
  have HZ_9 := Lib.hid (HZ.out.up hb9)
  clear HZ
  have HZ := HZ_9
  clear HZ_9
  clear hn9 hb9 HBwo
  go_wp2_with fail
  refine (refPlus_any (268437635 * 2 ^ 31 + 1) (268437635 * 2 ^ 31 + 1) aq aq cq cq (small_dl _ (by decide)) (small_dl _ (by decide)) wq Hq.out Hq.out).mono ?_
  rintro e wd ⟨ad, cd, rfl, hn9, hb9⟩
  have Hd := Lib.hid hn9
  have HBwd := Lib.hid (below_up HBwq.out hb9)
  have HZ_9 := Lib.hid (HZ.out.up hb9)
  clear HZ
  have HZ := HZ_9
  clear HZ_9
  have Hq_9 := Lib.hid (Hq.out.up hb9)
  clear Hq
  have Hq := Hq_9
  clear Hq_9
  clear hn9 hb9 HBwq
  go_wp2_with fail
  refine (refOf_any 1 (by omega) wd).mono ?_
  rintro e wu ⟨au, cu, rfl, hn9, hb9⟩
  have Hu := Lib.hid hn9
  have HBwu := Lib.hid (below_up HBwd.out hb9)
  have HZ_9 := Lib.hid (HZ.out.up hb9)
  clear HZ
  have HZ := HZ_9
  clear HZ_9
  have Hq_9 := Lib.hid (Hq.out.up hb9)
  clear Hq
  have Hq := Hq_9
  clear Hq_9
  have Hd_9 := Lib.hid (Hd.out.up hb9)
  clear Hd
  have Hd := Hd_9
  clear Hd_9
  clear hn9 hb9 HBwd
  go_wp2_with fail
  refine (refPlus_new (268437635 * 2 ^ 31 + 1 + (268437635 * 2 ^ 31 + 1)) 1 ad au cd cu (small_dl _ (by decide)) (small_dl _ (by decide)) wu Hd.out Hu.out).mono ?_
  rintro e wp ⟨ap, cp, rfl, hn9, hnew, hb9⟩
  have HNP := Lib.hid hnew
  have hzu := HBwu.out.size
  have hzb2 := HZ.out.lt
  clear hnew
  have Hp := Lib.hid hn9
  have HBwp := Lib.hid (below_up HBwu.out hb9)
  have HZ_9 := Lib.hid (HZ.out.up hb9)
  clear HZ
  have HZ := HZ_9
  clear HZ_9
  have Hq_9 := Lib.hid (Hq.out.up hb9)
  clear Hq
  have Hq := Hq_9
  clear Hq_9
  clear hn9 hb9 HBwu
  have hz_0 := HZ.out.cell (i := 0) (v := .int .i64 0) rfl
  have hz_1 := HZ.out.cell (i := 1) (v := .slice none 0 0) rfl
  have hz_2 := HZ.out.cell (i := 2) (v := .slice none 0 0) rfl
  have hzf_0 := HZ.out.frozen 0
  have hzf_1 := HZ.out.frozen 1
  have hzf_2 := HZ.out.frozen 2
  have HZ5 := Lib.hid (((HZ.out.set 0 (.int .i64 8)).set 1 (.slice aq (dl (268437635 * 2 ^ 31 + 1)) cq)).set 2 (.slice ap (dl (268437635 * 2 ^ 31 + 1 + (268437635 * 2 ^ 31 + 1) + 1)) cp))
  have HB5 := Lib.hid (((HBwp.out.setCell (p := ⟨w.heap.size, 0, none⟩) (Nat.le_refl _) (.int .i64 8)).setCell (p := ⟨w.heap.size, 1, none⟩) (Nat.le_refl _) (.slice aq (dl (268437635 * 2 ^ 31 + 1)) cq)).setCell (p := ⟨w.heap.size, 2, none⟩) (Nat.le_refl _) (.slice ap (dl (268437635 * 2 ^ 31 + 1 + (268437635 * 2 ^ 31 + 1) + 1)) cp))
  have HQ5 := Lib.hid (((Hq.out.store (b := w.heap.size) (fun q o h => by have := HNQ.out q o h; omega) 0 (.int .i64 8)).store (b := w.heap.size) (fun q o h => by have := HNQ.out q o h; omega) 1 (.slice aq (dl (268437635 * 2 ^ 31 + 1)) cq)).store (b := w.heap.size) (fun q o h => by have := HNQ.out q o h; omega) 2 (.slice ap (dl (268437635 * 2 ^ 31 + 1 + (268437635 * 2 ^ 31 + 1) + 1)) cp))
  have HP5 := Lib.hid (((Hp.out.store (b := w.heap.size) (fun q o h => by have := HNP.out q o h; omega) 0 (.int .i64 8)).store (b := w.heap.size) (fun q o h => by have := HNP.out q o h; omega) 1 (.slice aq (dl (268437635 * 2 ^ 31 + 1)) cq)).store (b := w.heap.size) (fun q o h => by have := HNP.out q o h; omega) 2 (.slice ap (dl (268437635 * 2 ^ 31 + 1 + (268437635 * 2 ^ 31 + 1) + 1)) cp))
  obtain ⟨w5, hw5⟩ : ∃ W9 : World, ((wp.setCell ⟨w.heap.size, 0, none⟩ (.int .i64 8)).setCell ⟨w.heap.size, 1, none⟩ (.slice aq (dl (268437635 * 2 ^ 31 + 1)) cq)).setCell ⟨w.heap.size, 2, none⟩ (.slice ap (dl (268437635 * 2 ^ 31 + 1 + (268437635 * 2 ^ 31 + 1) + 1)) cp) = W9 := ⟨_, rfl⟩
  go_wp2_with fail
  rw [hw5] at HZ5 HB5 HQ5 HP5
  have hg_0 := HZ5.out.cell (i := 0) (v := .int .i64 8) rfl
  have hg_1 := HZ5.out.cell (i := 1) (v := .slice aq (dl (268437635 * 2 ^ 31 + 1)) cq) rfl
  have hg_2 := HZ5.out.cell (i := 2) (v := .slice ap (dl (268437635 * 2 ^ 31 + 1 + (268437635 * 2 ^ 31 + 1) + 1)) cp) rfl
  have eq_ : (grp 2).q.m = 268437635 * 2 ^ 31 + 1 := by decide
  have ep_ : (grp 2).p.m = 268437635 * 2 ^ 31 + 1 + (268437635 * 2 ^ 31 + 1) + 1 := by decide
  refine bodyPost_ret (v := .agg #[.int .i64 8, .slice aq (dl (268437635 * 2 ^ 31 + 1)) cq, .slice ap (dl (268437635 * 2 ^ 31 + 1 + (268437635 * 2 ^ 31 + 1) + 1)) cp]) (by simp [results, Try.results13, go_sem, hg_0, hg_1, hg_2]) rfl ?_
  refine ⟨aq, cq, ap, cp, ?_, ?_, ?_, HB5.out⟩
  · rw [eq_, ep_]; rfl
  · rw [eq_]; exact HQ5.out
  · rw [ep_]; exact HP5.out

set_option maxHeartbeats 2000000 in
theorem refKind_three (w : World) : Calls Try.prog 13 #[.int .i64 3] w fun e w' => KindR w e w' (grp 3) := by
  go_enter Try.func13, Try.ntmps13
  go_wp2_with fail
  have hb0 : Below w.heap.size w (w.alloc (.cells #[.int .i64 0, .slice none 0 0, .slice none 0 0] 25)) := (Below.refl _ _).alloc (Nat.le_refl _) _
  have hz0 : Bx (w.alloc (.cells #[.int .i64 0, .slice none 0 0, .slice none 0 0] 25)) w.heap.size 25 [.int .i64 0, .slice none 0 0, .slice none 0 0] := Bx.new w _ _ _ rfl
  obtain ⟨W0, hW0⟩ : ∃ W9 : World, (w.alloc (.cells #[.int .i64 0, .slice none 0 0, .slice none 0 0] 25)) = W9 := ⟨_, rfl⟩
  rw [hW0] at hb0 hz0 ⊢
  have HB0 := Lib.hid hb0
  have HZ0 := Lib.hid hz0
  clear hW0 hb0 hz0
  refine (refOf_any 5 (by omega) W0).mono ?_
  rintro e w1 ⟨ah, ch, rfl, hh, hb1⟩
  have HB1 := Lib.hid (below_up HB0.out hb1)
  have HZ1 := Lib.hid (HZ0.out.up hb1)
  clear hh hb1 HB0 HZ0
  go_wp2_with fail
  refine (refTwo_any 125 (by omega) w1).mono ?_
  rintro e w2 ⟨a2, c2, rfl, h2, hb2⟩
  have H2 := Lib.hid h2
  have HB2 := Lib.hid (below_up HB1.out hb2)
  have HZ2 := Lib.hid (HZ1.out.up hb2)
  clear h2 hb2 HB1 HZ1
  go_wp2_with fail
  refine (refOf_any 9087 (by omega) w2).mono ?_
  rintro e w3 ⟨a3, c3, rfl, h3, hb3⟩
  have H3 := Lib.hid h3
  have H2' := Lib.hid (H2.out.up hb3)
  have HB3 := Lib.hid (below_up HB2.out hb3)
  have HZ3 := Lib.hid (HZ2.out.up hb3)
  clear h3 hb3 HB2 HZ2 H2
  go_wp2_with fail
  refine (refPlus_any (2 ^ 125) 9087 a2 a3 c2 c3 (small_dl _ (by decide)) (small_dl _ (by decide)) w3 H2'.out H3.out).mono ?_
  rintro e w1' ⟨ah, ch, rfl, hh, hb1⟩
  have Hh := Lib.hid hh
  have HBw1 := Lib.hid (below_up HB3.out hb1)
  have HZ := Lib.hid (HZ3.out.up hb1)
  clear hh hb1 HB3 HZ3 H2' H3
  obtain ⟨w1, rfl⟩ : ∃ w1 : World, w1 = w1' := ⟨_, rfl⟩
  go_wp2_with fail
  refine (refTwo_any 127 (by omega) w1).mono ?_
  rintro e wt ⟨at', ct', rfl, hn9, hb9⟩
  have Ht := Lib.hid hn9
  have HBwt := Lib.hid (below_up HBw1.out hb9)
  have HZ_9 := Lib.hid (HZ.out.up hb9)
  clear HZ
  have HZ := HZ_9
  clear HZ_9
  have Hh_9 := Lib.hid (Hh.out.up hb9)
  clear Hh
  have Hh := Hh_9
  clear Hh_9
  clear hn9 hb9 HBw1
  go_wp2_with fail
  refine (refTimes_any (2 ^ 125 + 9087) (2 ^ 127) ah at' ch ct' (small_dl _ (by decide)) (small_dl _ (by decide)) wt Hh.out Ht.out).mono ?_
  rintro e wm ⟨am, cm, rfl, hn9, hb9⟩
  have Hm := Lib.hid hn9
  have HBwm := Lib.hid (below_up HBwt.out hb9)
  have HZ_9 := Lib.hid (HZ.out.up hb9)
  clear HZ
  have HZ := HZ_9
  clear HZ_9
  clear hn9 hb9 HBwt
  go_wp2_with fail
  refine (refOf_any 1 (by omega) wm).mono ?_
  rintro e wo ⟨ao, co, rfl, hn9, hb9⟩
  have Ho := Lib.hid hn9
  have HBwo := Lib.hid (below_up HBwm.out hb9)
  have HZ_9 := Lib.hid (HZ.out.up hb9)
  clear HZ
  have HZ := HZ_9
  clear HZ_9
  have Hm_9 := Lib.hid (Hm.out.up hb9)
  clear Hm
  have Hm := Hm_9
  clear Hm_9
  clear hn9 hb9 HBwm
  go_wp2_with fail
  refine (refPlus_new ((2 ^ 125 + 9087) * 2 ^ 127) 1 am ao cm co (small_dl _ (by decide)) (small_dl _ (by decide)) wo Hm.out Ho.out).mono ?_
  rintro e wq ⟨aq, cq, rfl, hn9, hnew, hb9⟩
  have HNQ := Lib.hid hnew
  have hzo := HBwo.out.size
  have hzb := HZ.out.lt
  clear hnew
  have Hq := Lib.hid hn9
  have HBwq := Lib.hid (below_up HBwo.out hb9)
  have HZ_9 := Lib.hid (HZ.out.up hb9)
  clear HZ
  have HZ := HZ_9
  clear HZ_9
  clear hn9 hb9 HBwo
  go_wp2_with fail
  refine (refPlus_any ((2 ^ 125 + 9087) * 2 ^ 127 + 1) ((2 ^ 125 + 9087) * 2 ^ 127 + 1) aq aq cq cq (small_dl _ (by decide)) (small_dl _ (by decide)) wq Hq.out Hq.out).mono ?_
  rintro e wd ⟨ad, cd, rfl, hn9, hb9⟩
  have Hd := Lib.hid hn9
  have HBwd := Lib.hid (below_up HBwq.out hb9)
  have HZ_9 := Lib.hid (HZ.out.up hb9)
  clear HZ
  have HZ := HZ_9
  clear HZ_9
  have Hq_9 := Lib.hid (Hq.out.up hb9)
  clear Hq
  have Hq := Hq_9
  clear Hq_9
  clear hn9 hb9 HBwq
  go_wp2_with fail
  refine (refOf_any 1 (by omega) wd).mono ?_
  rintro e wu ⟨au, cu, rfl, hn9, hb9⟩
  have Hu := Lib.hid hn9
  have HBwu := Lib.hid (below_up HBwd.out hb9)
  have HZ_9 := Lib.hid (HZ.out.up hb9)
  clear HZ
  have HZ := HZ_9
  clear HZ_9
  have Hq_9 := Lib.hid (Hq.out.up hb9)
  clear Hq
  have Hq := Hq_9
  clear Hq_9
  have Hd_9 := Lib.hid (Hd.out.up hb9)
  clear Hd
  have Hd := Hd_9
  clear Hd_9
  clear hn9 hb9 HBwd
  go_wp2_with fail
  refine (refPlus_new ((2 ^ 125 + 9087) * 2 ^ 127 + 1 + ((2 ^ 125 + 9087) * 2 ^ 127 + 1)) 1 ad au cd cu (small_dl _ (by decide)) (small_dl _ (by decide)) wu Hd.out Hu.out).mono ?_
  rintro e wp ⟨ap, cp, rfl, hn9, hnew, hb9⟩
  have HNP := Lib.hid hnew
  have hzu := HBwu.out.size
  have hzb2 := HZ.out.lt
  clear hnew
  have Hp := Lib.hid hn9
  have HBwp := Lib.hid (below_up HBwu.out hb9)
  have HZ_9 := Lib.hid (HZ.out.up hb9)
  clear HZ
  have HZ := HZ_9
  clear HZ_9
  have Hq_9 := Lib.hid (Hq.out.up hb9)
  clear Hq
  have Hq := Hq_9
  clear Hq_9
  clear hn9 hb9 HBwu
  have hz_0 := HZ.out.cell (i := 0) (v := .int .i64 0) rfl
  have hz_1 := HZ.out.cell (i := 1) (v := .slice none 0 0) rfl
  have hz_2 := HZ.out.cell (i := 2) (v := .slice none 0 0) rfl
  have hzf_0 := HZ.out.frozen 0
  have hzf_1 := HZ.out.frozen 1
  have hzf_2 := HZ.out.frozen 2
  have HZ5 := Lib.hid (((HZ.out.set 0 (.int .i64 32)).set 1 (.slice aq (dl ((2 ^ 125 + 9087) * 2 ^ 127 + 1)) cq)).set 2 (.slice ap (dl ((2 ^ 125 + 9087) * 2 ^ 127 + 1 + ((2 ^ 125 + 9087) * 2 ^ 127 + 1) + 1)) cp))
  have HB5 := Lib.hid (((HBwp.out.setCell (p := ⟨w.heap.size, 0, none⟩) (Nat.le_refl _) (.int .i64 32)).setCell (p := ⟨w.heap.size, 1, none⟩) (Nat.le_refl _) (.slice aq (dl ((2 ^ 125 + 9087) * 2 ^ 127 + 1)) cq)).setCell (p := ⟨w.heap.size, 2, none⟩) (Nat.le_refl _) (.slice ap (dl ((2 ^ 125 + 9087) * 2 ^ 127 + 1 + ((2 ^ 125 + 9087) * 2 ^ 127 + 1) + 1)) cp))
  have HQ5 := Lib.hid (((Hq.out.store (b := w.heap.size) (fun q o h => by have := HNQ.out q o h; omega) 0 (.int .i64 32)).store (b := w.heap.size) (fun q o h => by have := HNQ.out q o h; omega) 1 (.slice aq (dl ((2 ^ 125 + 9087) * 2 ^ 127 + 1)) cq)).store (b := w.heap.size) (fun q o h => by have := HNQ.out q o h; omega) 2 (.slice ap (dl ((2 ^ 125 + 9087) * 2 ^ 127 + 1 + ((2 ^ 125 + 9087) * 2 ^ 127 + 1) + 1)) cp))
  have HP5 := Lib.hid (((Hp.out.store (b := w.heap.size) (fun q o h => by have := HNP.out q o h; omega) 0 (.int .i64 32)).store (b := w.heap.size) (fun q o h => by have := HNP.out q o h; omega) 1 (.slice aq (dl ((2 ^ 125 + 9087) * 2 ^ 127 + 1)) cq)).store (b := w.heap.size) (fun q o h => by have := HNP.out q o h; omega) 2 (.slice ap (dl ((2 ^ 125 + 9087) * 2 ^ 127 + 1 + ((2 ^ 125 + 9087) * 2 ^ 127 + 1) + 1)) cp))
  obtain ⟨w5, hw5⟩ : ∃ W9 : World, ((wp.setCell ⟨w.heap.size, 0, none⟩ (.int .i64 32)).setCell ⟨w.heap.size, 1, none⟩ (.slice aq (dl ((2 ^ 125 + 9087) * 2 ^ 127 + 1)) cq)).setCell ⟨w.heap.size, 2, none⟩ (.slice ap (dl ((2 ^ 125 + 9087) * 2 ^ 127 + 1 + ((2 ^ 125 + 9087) * 2 ^ 127 + 1) + 1)) cp) = W9 := ⟨_, rfl⟩
  go_wp2_with fail
  rw [hw5] at HZ5 HB5 HQ5 HP5
  have hg_0 := HZ5.out.cell (i := 0) (v := .int .i64 32) rfl
  have hg_1 := HZ5.out.cell (i := 1) (v := .slice aq (dl ((2 ^ 125 + 9087) * 2 ^ 127 + 1)) cq) rfl
  have hg_2 := HZ5.out.cell (i := 2) (v := .slice ap (dl ((2 ^ 125 + 9087) * 2 ^ 127 + 1 + ((2 ^ 125 + 9087) * 2 ^ 127 + 1) + 1)) cp) rfl
  have eq_ : (grp 3).q.m = (2 ^ 125 + 9087) * 2 ^ 127 + 1 := by decide
  have ep_ : (grp 3).p.m = (2 ^ 125 + 9087) * 2 ^ 127 + 1 + ((2 ^ 125 + 9087) * 2 ^ 127 + 1) + 1 := by decide
  refine bodyPost_ret (v := .agg #[.int .i64 32, .slice aq (dl ((2 ^ 125 + 9087) * 2 ^ 127 + 1)) cq, .slice ap (dl ((2 ^ 125 + 9087) * 2 ^ 127 + 1 + ((2 ^ 125 + 9087) * 2 ^ 127 + 1) + 1)) cp]) (by simp [results, Try.results13, go_sem, hg_0, hg_1, hg_2]) rfl ?_
  refine ⟨aq, cq, ap, cp, ?_, ?_, ?_, HB5.out⟩
  · rw [eq_, ep_]; rfl
  · rw [eq_]; exact HQ5.out
  · rw [ep_]; exact HP5.out

set_option maxHeartbeats 2000000 in
theorem refKind_none (k : Int) (hk : ¬ (1 ≤ k ∧ k ≤ 3)) (w : World) : Calls Try.prog 13 #[.int .i64 k] w fun e w' => e = .returned (.agg #[.int .i64 0, .slice none 0 0, .slice none 0 0]) ∧ Below w.heap.size w w' := by
  have h1 : (k == 2) = false := by simp; omega
  have h2 : (k == 3) = false := by simp; omega
  have h3 : (k != 1) = true := by simp; omega
  go_enter Try.func13, Try.ntmps13
  go_wp2_with fail
  have hb0 : Below w.heap.size w (w.alloc (.cells #[.int .i64 0, .slice none 0 0, .slice none 0 0] 25)) := (Below.refl _ _).alloc (Nat.le_refl _) _
  have hz0 : Bx (w.alloc (.cells #[.int .i64 0, .slice none 0 0, .slice none 0 0] 25)) w.heap.size 25 [.int .i64 0, .slice none 0 0, .slice none 0 0] := Bx.new w _ _ _ rfl
  obtain ⟨W0, hW0⟩ : ∃ W9 : World, (w.alloc (.cells #[.int .i64 0, .slice none 0 0, .slice none 0 0] 25)) = W9 := ⟨_, rfl⟩
  rw [hW0] at hb0 hz0 ⊢
  have HB0 := Lib.hid hb0
  have HZ0 := Lib.hid hz0
  clear hW0 hb0 hz0
  refine (refOf_any 5 (by omega) W0).mono ?_
  rintro e w1 ⟨ah, ch, rfl, hh, hb1⟩
  have HB1 := Lib.hid (below_up HB0.out hb1)
  have HZ1 := Lib.hid (HZ0.out.up hb1)
  clear hh hb1 HB0 HZ0
  have hz_0 := HZ1.out.cell (i := 0) (v := .int .i64 0) rfl
  have hz_1 := HZ1.out.cell (i := 1) (v := .slice none 0 0) rfl
  have hz_2 := HZ1.out.cell (i := 2) (v := .slice none 0 0) rfl
  have hzf_0 := HZ1.out.frozen 0
  have hzf_1 := HZ1.out.frozen 1
  have hzf_2 := HZ1.out.frozen 2
  have HZ5 := Lib.hid (((HZ1.out.set 0 (.int .i64 0)).set 1 (.slice none 0 0)).set 2 (.slice none 0 0))
  have HB5 := Lib.hid (((HB1.out.setCell (p := ⟨w.heap.size, 0, none⟩) (Nat.le_refl _) (.int .i64 0)).setCell (p := ⟨w.heap.size, 1, none⟩) (Nat.le_refl _) (.slice none 0 0)).setCell (p := ⟨w.heap.size, 2, none⟩) (Nat.le_refl _) (.slice none 0 0))
  obtain ⟨w5, hw5⟩ : ∃ W9 : World, ((w1.setCell ⟨w.heap.size, 0, none⟩ (.int .i64 0)).setCell ⟨w.heap.size, 1, none⟩ (.slice none 0 0)).setCell ⟨w.heap.size, 2, none⟩ (.slice none 0 0) = W9 := ⟨_, rfl⟩
  go_wp2_with fail
  rw [hw5] at HZ5 HB5
  have hg_0 := HZ5.out.cell (i := 0) (v := .int .i64 0) rfl
  have hg_1 := HZ5.out.cell (i := 1) (v := .slice none 0 0) rfl
  have hg_2 := HZ5.out.cell (i := 2) (v := .slice none 0 0) rfl
  refine bodyPost_ret (v := .agg #[.int .i64 0, .slice none 0 0, .slice none 0 0]) (by simp [results, Try.results13, go_sem, hg_0, hg_1, hg_2]) rfl ?_
  exact ⟨rfl, HB5.out⟩

theorem refKind_some (k : Nat) (h1 : 1 ≤ k) (h3 : k ≤ 3) (w : World) : Calls Try.prog 13 #[.int .i64 (k : Int)] w fun e w' => KindR w e w' (grp k) := by
  obtain rfl | rfl | rfl : k = 1 ∨ k = 2 ∨ k = 3 := by omega
  · exact refKind_one w
  · exact refKind_two w
  · exact refKind_three w

end Go.Proofs.Ytdmldnpadojflaa
