/- Texts of this seat, one behind the other: what BoardBlocks leans on. No condition beyond those that each names. -/
import Derived.Test.YtdlnnkbigeiilaaZBoardBlocks2
import Derived.Lib.BitFns
import Derived.WalkKit
import Derived.Test.YtdlnnkbigeiilaaProg
import Derived.IntWalk
import Derived.Deep.QuietTactic
import Derived.RegionTactic
import Derived.Outline
import Derived.Deep.MidRow
import Derived.Deep.WholeRow
import Derived.Laws.CopyOwn
import Derived.Lib.BufferWrite
import Derived.BigQuiet
import Derived.Lib.SliceRun
import Derived.LoopTactic

/- The document's groups. No condition. -/
namespace Go.Proofs.Ytdlnnkbigeiilaa
open Go.RowKit

/-- A block of cells. -/
def Bx (W : World) (b : Nat) (t : TypeId) (cs : List Value) : Prop := W.heap[b]? = some (.cells cs.toArray t (0, 0))

section
variable {W W' : World} {b c i n : Nat} {t : TypeId} {cs : List Value} {v : Value}
theorem Bx.lt (h : Bx W b t cs) : b < W.heap.size := (Array.getElem?_eq_some_iff.1 h).1
theorem Bx.cell (h : Bx W b t cs) (hx : cs[i]? = some v) : W.cell? ⟨b, i, none⟩ = some v := by
  simp [World.cell?, show W.heap[b]? = _ from h, hx]
theorem Bx.frozen (h : Bx W b t cs) (i : Nat) : W.frozen? ⟨b, i, none⟩ = false := by
  simp [World.frozen?, show W.heap[b]? = _ from h]
theorem Bx.below (h : Bx W b t cs) (hb : Below n W W') (hn : b < n) : Bx W' b t cs := (hb.block b hn).trans h
theorem Bx.up (h : Bx W b t cs) (hb : Below W.heap.size W W') : Bx W' b t cs := h.below hb h.lt
theorem Bx.alloc (h : Bx W b t cs) (o : Obj) : Bx (W.alloc o) b t cs := (Below.heap_alloc W o b h.lt).trans h
theorem Bx.new (W : World) (t : TypeId) (cs : List Value) (ar : Array Value) (har : ar = cs.toArray) : Bx (W.alloc (.cells ar t)) W.heap.size t cs := by
  subst har; exact heap_alloc_new W _
theorem Bx.set (h : Bx W b t cs) (i : Nat) (v : Value) : Bx (W.setCell ⟨b, i, none⟩ v) b t (cs.set i v) := by
  obtain ⟨hlt, hk⟩ := Array.getElem?_eq_some_iff.1 h
  show (W.heap.modify b _)[b]? = _
  rw [Array.getElem?_eq_getElem (by rw [Array.size_modify]; exact hlt), Array.getElem_modify_self, hk]
  simp
theorem Bx.other (h : Bx W b t cs) (hne : b ≠ c) (i : Nat) (v : Value) : Bx (W.setCell ⟨c, i, none⟩ v) b t cs := (Below.heap_setCell W ⟨c, i, none⟩ v b hne).trans h
end

/-- The document's group as a value. -/
def KindR (w : World) (e : Ending) (w' : World) (G : GP) : Prop :=
  ∃ aq cq ap cp, e = .returned (.agg #[.int .i64 (G.size : Int), .slice aq (dl G.q.m) cq, .slice ap (dl G.p.m) cp]) ∧ NumAt w' aq G.q.m ∧ NumAt w' ap G.p.m ∧ Below w.heap.size w w'

theorem NumAt.store {w : World} {a : Option Addr} {n b : Nat} (h : NumAt w a n) (hne : ∀ q o, a = some ⟨q, o, none⟩ → q ≠ b) (i : Nat) (v : Value) : NumAt (w.setCell ⟨b, i, none⟩ v) a n := by
  rcases h with h | ⟨q, o, rfl, hq, hc⟩
  · exact Or.inl h
  · refine Or.inr ⟨q, o, rfl, ?_, fun j u hu => ?_⟩
    · show q < (w.heap.modify _ _).size; rw [Array.size_modify]; exact hq
    · rw [World.cell?_of_block (w := w) (a := ⟨q, o + j, none⟩) (Below.heap_setCell w ⟨b, i, none⟩ v q (hne q o rfl))]
      exact hc j u hu

theorem small_dl (n : Nat) (h : n < DD ^ 16) : dl n ≤ 1048576 := Nat.le_trans (dl_of_lt n 16 h) (by decide)



set_option maxHeartbeats 2000000 in
theorem refKind_one (w : World) : Calls Try.prog 12 #[.int .i64 1] w fun e w' => KindR w e w' (grp 1) := by
  go_enter Try.func12, Try.ntmps12
  go_wp2_with fail
  have hb0 : Below w.heap.size w (w.alloc (.cells #[.int .i64 0, .slice none 0 0, .slice none 0 0] 33)) := (Below.refl _ _).alloc (Nat.le_refl _) _
  have hz0 : Bx (w.alloc (.cells #[.int .i64 0, .slice none 0 0, .slice none 0 0] 33)) w.heap.size 33 [.int .i64 0, .slice none 0 0, .slice none 0 0] := Bx.new w _ _ _ rfl
  obtain ⟨W0, hW0⟩ : ∃ W9 : World, (w.alloc (.cells #[.int .i64 0, .slice none 0 0, .slice none 0 0] 33)) = W9 := ⟨_, rfl⟩
  rw [hW0] at hb0 hz0 ⊢
  have HB0 := Lib.hid hb0
  have HZ0 := Lib.hid hz0
  clear hW0 hb0 hz0
  refine (refOf_any 5 (by omega) W0).mono ?_
  rintro e w1 ⟨ah, ch, rfl, hh, hb1⟩
  have Hh := Lib.hid hh
  have HBw1 := Lib.hid (below_up HB0.out hb1)
  have HZ := Lib.hid (HZ0.out.up hb1)
  clear hh hb1 HB0 HZ0
  go_wp2_with fail
  refine (refTwo_any 7 (by omega) w1).mono ?_
  rintro e wt ⟨at', ct', rfl, hn9, hb9⟩
  have Ht := Lib.hid hn9
  have HBwt := Lib.hid (below_up HBw1.out hb9)
  have HZ_9 := Lib.hid (HZ.out.up hb9)
  clear HZ
  have HZ := HZ_9
  clear HZ_9
  have Hh_9 := Lib.hid (Hh.out.up hb9)
  clear Hh
  have Hh := Hh_9
  clear Hh_9
  clear hn9 hb9 HBw1
  go_wp2_with fail
  refine (refTimes_any 5 (2 ^ 7) ah at' ch ct' (small_dl _ (by decide)) (small_dl _ (by decide)) wt Hh.out Ht.out).mono ?_
  rintro e wm ⟨am, cm, rfl, hn9, hb9⟩
  have Hm := Lib.hid hn9
  have HBwm := Lib.hid (below_up HBwt.out hb9)
  have HZ_9 := Lib.hid (HZ.out.up hb9)
  clear HZ
  have HZ := HZ_9
  clear HZ_9
  clear hn9 hb9 HBwt
  go_wp2_with fail
  refine (refOf_any 1 (by omega) wm).mono ?_
  rintro e wo ⟨ao, co, rfl, hn9, hb9⟩
  have Ho := Lib.hid hn9
  have HBwo := Lib.hid (below_up HBwm.out hb9)
  have HZ_9 := Lib.hid (HZ.out.up hb9)
  clear HZ
  have HZ := HZ_9
  clear HZ_9
  have Hm_9 := Lib.hid (Hm.out.up hb9)
  clear Hm
  have Hm := Hm_9
  clear Hm_9
  clear hn9 hb9 HBwm
  go_wp2_with fail
  refine (refPlus_new (5 * 2 ^ 7) 1 am ao cm co (small_dl _ (by decide)) (small_dl _ (by decide)) wo Hm.out Ho.out).mono ?_
  rintro e wq ⟨aq, cq, rfl, hn9, hnew, hb9⟩
  have HNQ := Lib.hid hnew
  have hzo := HBwo.out.size
  have hzb := HZ.out.lt
  clear hnew
  have Hq := Lib.hid hn9
  have HBwq := Lib.hid (below_up HBwo.out hb9)
  have HZ_9 := Lib.hid (HZ.out.up hb9)
  clear HZ
  have HZ := HZ_9
  clear HZ_9
  clear hn9 hb9 HBwo
  go_wp2_with fail
  refine (refPlus_any (5 * 2 ^ 7 + 1) (5 * 2 ^ 7 + 1) aq aq cq cq (small_dl _ (by decide)) (small_dl _ (by decide)) wq Hq.out Hq.out).mono ?_
  rintro e wd ⟨ad, cd, rfl, hn9, hb9⟩
  have Hd := Lib.hid hn9
  have HBwd := Lib.hid (below_up HBwq.out hb9)
  have HZ_9 := Lib.hid (HZ.out.up hb9)
  clear HZ
  have HZ := HZ_9
  clear HZ_9
  have Hq_9 := Lib.hid (Hq.out.up hb9)
  clear Hq
  have Hq := Hq_9
  clear Hq_9
  clear hn9 hb9 HBwq
  go_wp2_with fail
  refine (refOf_any 1 (by omega) wd).mono ?_
  rintro e wu ⟨au, cu, rfl, hn9, hb9⟩
  have Hu := Lib.hid hn9
  have HBwu := Lib.hid (below_up HBwd.out hb9)
  have HZ_9 := Lib.hid (HZ.out.up hb9)
  clear HZ
  have HZ := HZ_9
  clear HZ_9
  have Hq_9 := Lib.hid (Hq.out.up hb9)
  clear Hq
  have Hq := Hq_9
  clear Hq_9
  have Hd_9 := Lib.hid (Hd.out.up hb9)
  clear Hd
  have Hd := Hd_9
  clear Hd_9
  clear hn9 hb9 HBwd
  go_wp2_with fail
  refine (refPlus_new (5 * 2 ^ 7 + 1 + (5 * 2 ^ 7 + 1)) 1 ad au cd cu (small_dl _ (by decide)) (small_dl _ (by decide)) wu Hd.out Hu.out).mono ?_
  rintro e wp ⟨ap, cp, rfl, hn9, hnew, hb9⟩
  have HNP := Lib.hid hnew
  have hzu := HBwu.out.size
  have hzb2 := HZ.out.lt
  clear hnew
  have Hp := Lib.hid hn9
  have HBwp := Lib.hid (below_up HBwu.out hb9)
  have HZ_9 := Lib.hid (HZ.out.up hb9)
  clear HZ
  have HZ := HZ_9
  clear HZ_9
  have Hq_9 := Lib.hid (Hq.out.up hb9)
  clear Hq
  have Hq := Hq_9
  clear Hq_9
  clear hn9 hb9 HBwu
  have hz_0 := HZ.out.cell (i := 0) (v := .int .i64 0) rfl
  have hz_1 := HZ.out.cell (i := 1) (v := .slice none 0 0) rfl
  have hz_2 := HZ.out.cell (i := 2) (v := .slice none 0 0) rfl
  have hzf_0 := HZ.out.frozen 0
  have hzf_1 := HZ.out.frozen 1
  have hzf_2 := HZ.out.frozen 2
  have HZ5 := Lib.hid (((HZ.out.set 0 (.int .i64 2)).set 1 (.slice aq (dl (5 * 2 ^ 7 + 1)) cq)).set 2 (.slice ap (dl (5 * 2 ^ 7 + 1 + (5 * 2 ^ 7 + 1) + 1)) cp))
  have HB5 := Lib.hid (((HBwp.out.setCell (p := ⟨w.heap.size, 0, none⟩) (Nat.le_refl _) (.int .i64 2)).setCell (p := ⟨w.heap.size, 1, none⟩) (Nat.le_refl _) (.slice aq (dl (5 * 2 ^ 7 + 1)) cq)).setCell (p := ⟨w.heap.size, 2, none⟩) (Nat.le_refl _) (.slice ap (dl (5 * 2 ^ 7 + 1 + (5 * 2 ^ 7 + 1) + 1)) cp))
  have HQ5 := Lib.hid (((Hq.out.store (b := w.heap.size) (fun q o h => by have := HNQ.out q o h; omega) 0 (.int .i64 2)).store (b := w.heap.size) (fun q o h => by have := HNQ.out q o h; omega) 1 (.slice aq (dl (5 * 2 ^ 7 + 1)) cq)).store (b := w.heap.size) (fun q o h => by have := HNQ.out q o h; omega) 2 (.slice ap (dl (5 * 2 ^ 7 + 1 + (5 * 2 ^ 7 + 1) + 1)) cp))
  have HP5 := Lib.hid (((Hp.out.store (b := w.heap.size) (fun q o h => by have := HNP.out q o h; omega) 0 (.int .i64 2)).store (b := w.heap.size) (fun q o h => by have := HNP.out q o h; omega) 1 (.slice aq (dl (5 * 2 ^ 7 + 1)) cq)).store (b := w.heap.size) (fun q o h => by have := HNP.out q o h; omega) 2 (.slice ap (dl (5 * 2 ^ 7 + 1 + (5 * 2 ^ 7 + 1) + 1)) cp))
  obtain ⟨w5, hw5⟩ : ∃ W9 : World, ((wp.setCell ⟨w.heap.size, 0, none⟩ (.int .i64 2)).setCell ⟨w.heap.size, 1, none⟩ (.slice aq (dl (5 * 2 ^ 7 + 1)) cq)).setCell ⟨w.heap.size, 2, none⟩ (.slice ap (dl (5 * 2 ^ 7 + 1 + (5 * 2 ^ 7 + 1) + 1)) cp) = W9 := ⟨_, rfl⟩
  go_wp2_with fail
  rw [hw5] at HZ5 HB5 HQ5 HP5
  have hg_0 := HZ5.out.cell (i := 0) (v := .int .i64 2) rfl
  have hg_1 := HZ5.out.cell (i := 1) (v := .slice aq (dl (5 * 2 ^ 7 + 1)) cq) rfl
  have hg_2 := HZ5.out.cell (i := 2) (v := .slice ap (dl (5 * 2 ^ 7 + 1 + (5 * 2 ^ 7 + 1) + 1)) cp) rfl
  have eq_ : (grp 1).q.m = 5 * 2 ^ 7 + 1 := by decide
  have ep_ : (grp 1).p.m = 5 * 2 ^ 7 + 1 + (5 * 2 ^ 7 + 1) + 1 := by decide
  refine bodyPost_ret (v := .agg #[.int .i64 2, .slice aq (dl (5 * 2 ^ 7 + 1)) cq, .slice ap (dl (5 * 2 ^ 7 + 1 + (5 * 2 ^ 7 + 1) + 1)) cp]) (by simp [results, Try.results12, go_sem, hg_0, hg_1, hg_2]) rfl ?_
  refine ⟨aq, cq, ap, cp, ?_, ?_, ?_, HB5.out⟩
  · rw [eq_, ep_]; rfl
  · rw [eq_]; exact HQ5.out
  · rw [ep_]; exact HP5.out

set_option maxHeartbeats 2000000 in
theorem refKind_two (w : World) : Calls Try.prog 12 #[.int .i64 2] w fun e w' => KindR w e w' (grp 2) := by
  go_enter Try.func12, Try.ntmps12
  go_wp2_with fail
  have hb0 : Below w.heap.size w (w.alloc (.cells #[.int .i64 0, .slice none 0 0, .slice none 0 0] 33)) := (Below.refl _ _).alloc (Nat.le_refl _) _
  have hz0 : Bx (w.alloc (.cells #[.int .i64 0, .slice none 0 0, .slice none 0 0] 33)) w.heap.size 33 [.int .i64 0, .slice none 0 0, .slice none 0 0] := Bx.new w _ _ _ rfl
  obtain ⟨W0, hW0⟩ : ∃ W9 : World, (w.alloc (.cells #[.int .i64 0, .slice none 0 0, .slice none 0 0] 33)) = W9 := ⟨_, rfl⟩
  rw [hW0] at hb0 hz0 ⊢
  have HB0 := Lib.hid hb0
  have HZ0 := Lib.hid hz0
  clear hW0 hb0 hz0
  refine (refOf_any 5 (by omega) W0).mono ?_
  rintro e w1 ⟨ah, ch, rfl, hh, hb1⟩
  have HB1 := Lib.hid (below_up HB0.out hb1)
  have HZ1 := Lib.hid (HZ0.out.up hb1)
  clear hh hb1 HB0 HZ0
  go_wp2_with fail
  refine (refOf_any 268437635 (by omega) w1).mono ?_
  rintro e w1' ⟨ah, ch, rfl, hh, hb1⟩
  have Hh := Lib.hid hh
  have HBw1 := Lib.hid (below_up HB1.out hb1)
  have HZ := Lib.hid (HZ1.out.up hb1)
  clear hh hb1 HB1 HZ1
  obtain ⟨w1, rfl⟩ : ∃ w1 : World, w1 = w1' := ⟨_, rfl⟩
  go_wp2_with fail
  refine (refTwo_any 31 (by omega) w1).mono ?_
  rintro e wt ⟨at', ct', rfl, hn9, hb9⟩
  have Ht := Lib.hid hn9
  have HBwt := Lib.hid (below_up HBw1.out hb9)
  have HZ_9 := Lib.hid (HZ.out.up hb9)
  clear HZ
  have HZ := HZ_9
  clear HZ_9
  have Hh_9 := Lib.hid (Hh.out.up hb9)
  clear Hh
  have Hh := Hh_9
  clear Hh_9
  clear hn9 hb9 HBw1
  go_wp2_with fail
  refine (refTimes_any 268437635 (2 ^ 31) ah at' ch ct' (small_dl _ (by decide)) (small_dl _ (by decide)) wt Hh.out Ht.out).mono ?_
  rintro e wm ⟨am, cm, rfl, hn9, hb9⟩
  have Hm := Lib.hid hn9
  have HBwm := Lib.hid (below_up HBwt.out hb9)
  have HZ_9 := Lib.hid (HZ.out.up hb9)
  clear HZ
  have HZ := HZ_9
  clear HZ_9
  clear hn9 hb9 HBwt
  go_wp2_with fail
  refine (refOf_any 1 (by omega) wm).mono ?_
  rintro e wo ⟨ao, co, rfl, hn9, hb9⟩
  have Ho := Lib.hid hn9
  have HBwo := Lib.hid (below_up HBwm.out hb9)
  have HZ_9 := Lib.hid (HZ.out.up hb9)
  clear HZ
  have HZ := HZ_9
  clear HZ_9
  have Hm_9 := Lib.hid (Hm.out.up hb9)
  clear Hm
  have Hm := Hm_9
  clear Hm_9
  clear hn9 hb9 HBwm
  go_wp2_with fail
  refine (refPlus_new (268437635 * 2 ^ 31) 1 am ao cm co (small_dl _ (by decide)) (small_dl _ (by decide)) wo Hm.out Ho.out).mono ?_
  rintro e wq ⟨aq, cq, rfl, hn9, hnew, hb9⟩
  have HNQ := Lib.hid hnew
  have hzo := HBwo.out.size
  have hzb := HZ.out.lt
  clear hnew
  have Hq := Lib.hid hn9
  have HBwq := Lib.hid (below_up HBwo.out hb9)
  have HZ_9 := Lib.hid (HZ.out.up hb9)
  clear HZ
  have HZ := HZ_9
  clear HZ_9
  clear hn9 hb9 HBwo
  go_wp2_with fail
  refine (refPlus_any (268437635 * 2 ^ 31 + 1) (268437635 * 2 ^ 31 + 1) aq aq cq cq (small_dl _ (by decide)) (small_dl _ (by decide)) wq Hq.out Hq.out).mono ?_
  rintro e wd ⟨ad, cd, rfl, hn9, hb9⟩
  have Hd := Lib.hid hn9
  have HBwd := Lib.hid (below_up HBwq.out hb9)
  have HZ_9 := Lib.hid (HZ.out.up hb9)
  clear HZ
  have HZ := HZ_9
  clear HZ_9
  have Hq_9 := Lib.hid (Hq.out.up hb9)
  clear Hq
  have Hq := Hq_9
  clear Hq_9
  clear hn9 hb9 HBwq
  go_wp2_with fail
  refine (refOf_any 1 (by omega) wd).mono ?_
  rintro e wu ⟨au, cu, rfl, hn9, hb9⟩
  have Hu := Lib.hid hn9
  have HBwu := Lib.hid (below_up HBwd.out hb9)
  have HZ_9 := Lib.hid (HZ.out.up hb9)
  clear HZ
  have HZ := HZ_9
  clear HZ_9
  have Hq_9 := Lib.hid (Hq.out.up hb9)
  clear Hq
  have Hq := Hq_9
  clear Hq_9
  have Hd_9 := Lib.hid (Hd.out.up hb9)
  clear Hd
  have Hd := Hd_9
  clear Hd_9
  clear hn9 hb9 HBwd
  go_wp2_with fail
  refine (refPlus_new (268437635 * 2 ^ 31 + 1 + (268437635 * 2 ^ 31 + 1)) 1 ad au cd cu (small_dl _ (by decide)) (small_dl _ (by decide)) wu Hd.out Hu.out).mono ?_
  rintro e wp ⟨ap, cp, rfl, hn9, hnew, hb9⟩
  have HNP := Lib.hid hnew
  have hzu := HBwu.out.size
  have hzb2 := HZ.out.lt
  clear hnew
  have Hp := Lib.hid hn9
  have HBwp := Lib.hid (below_up HBwu.out hb9)
  have HZ_9 := Lib.hid (HZ.out.up hb9)
  clear HZ
  have HZ := HZ_9
  clear HZ_9
  have Hq_9 := Lib.hid (Hq.out.up hb9)
  clear Hq
  have Hq := Hq_9
  clear Hq_9
  clear hn9 hb9 HBwu
  have hz_0 := HZ.out.cell (i := 0) (v := .int .i64 0) rfl
  have hz_1 := HZ.out.cell (i := 1) (v := .slice none 0 0) rfl
  have hz_2 := HZ.out.cell (i := 2) (v := .slice none 0 0) rfl
  have hzf_0 := HZ.out.frozen 0
  have hzf_1 := HZ.out.frozen 1
  have hzf_2 := HZ.out.frozen 2
  have HZ5 := Lib.hid (((HZ.out.set 0 (.int .i64 8)).set 1 (.slice aq (dl (268437635 * 2 ^ 31 + 1)) cq)).set 2 (.slice ap (dl (268437635 * 2 ^ 31 + 1 + (268437635 * 2 ^ 31 + 1) + 1)) cp))
  have HB5 := Lib.hid (((HBwp.out.setCell (p := ⟨w.heap.size, 0, none⟩) (Nat.le_refl _) (.int .i64 8)).setCell (p := ⟨w.heap.size, 1, none⟩) (Nat.le_refl _) (.slice aq (dl (268437635 * 2 ^ 31 + 1)) cq)).setCell (p := ⟨w.heap.size, 2, none⟩) (Nat.le_refl _) (.slice ap (dl (268437635 * 2 ^ 31 + 1 + (268437635 * 2 ^ 31 + 1) + 1)) cp))
  have HQ5 := Lib.hid (((Hq.out.store (b := w.heap.size) (fun q o h => by have := HNQ.out q o h; omega) 0 (.int .i64 8)).store (b := w.heap.size) (fun q o h => by have := HNQ.out q o h; omega) 1 (.slice aq (dl (268437635 * 2 ^ 31 + 1)) cq)).store (b := w.heap.size) (fun q o h => by have := HNQ.out q o h; omega) 2 (.slice ap (dl (268437635 * 2 ^ 31 + 1 + (268437635 * 2 ^ 31 + 1) + 1)) cp))
  have HP5 := Lib.hid (((Hp.out.store (b := w.heap.size) (fun q o h => by have := HNP.out q o h; omega) 0 (.int .i64 8)).store (b := w.heap.size) (fun q o h => by have := HNP.out q o h; omega) 1 (.slice aq (dl (268437635 * 2 ^ 31 + 1)) cq)).store (b := w.heap.size) (fun q o h => by have := HNP.out q o h; omega) 2 (.slice ap (dl (268437635 * 2 ^ 31 + 1 + (268437635 * 2 ^ 31 + 1) + 1)) cp))
  obtain ⟨w5, hw5⟩ : ∃ W9 : World, ((wp.setCell ⟨w.heap.size, 0, none⟩ (.int .i64 8)).setCell ⟨w.heap.size, 1, none⟩ (.slice aq (dl (268437635 * 2 ^ 31 + 1)) cq)).setCell ⟨w.heap.size, 2, none⟩ (.slice ap (dl (268437635 * 2 ^ 31 + 1 + (268437635 * 2 ^ 31 + 1) + 1)) cp) = W9 := ⟨_, rfl⟩
  go_wp2_with fail
  rw [hw5] at HZ5 HB5 HQ5 HP5
  have hg_0 := HZ5.out.cell (i := 0) (v := .int .i64 8) rfl
  have hg_1 := HZ5.out.cell (i := 1) (v := .slice aq (dl (268437635 * 2 ^ 31 + 1)) cq) rfl
  have hg_2 := HZ5.out.cell (i := 2) (v := .slice ap (dl (268437635 * 2 ^ 31 + 1 + (268437635 * 2 ^ 31 + 1) + 1)) cp) rfl
  have eq_ : (grp 2).q.m = 268437635 * 2 ^ 31 + 1 := by decide
  have ep_ : (grp 2).p.m = 268437635 * 2 ^ 31 + 1 + (268437635 * 2 ^ 31 + 1) + 1 := by decide
  refine bodyPost_ret (v := .agg #[.int .i64 8, .slice aq (dl (268437635 * 2 ^ 31 + 1)) cq, .slice ap (dl (268437635 * 2 ^ 31 + 1 + (268437635 * 2 ^ 31 + 1) + 1)) cp]) (by simp [results, Try.results12, go_sem, hg_0, hg_1, hg_2]) rfl ?_
  refine ⟨aq, cq, ap, cp, ?_, ?_, ?_, HB5.out⟩
  · rw [eq_, ep_]; rfl
  · rw [eq_]; exact HQ5.out
  · rw [ep_]; exact HP5.out

set_option maxHeartbeats 2000000 in
theorem refKind_three (w : World) : Calls Try.prog 12 #[.int .i64 3] w fun e w' => KindR w e w' (grp 3) := by
  go_enter Try.func12, Try.ntmps12
  go_wp2_with fail
  have hb0 : Below w.heap.size w (w.alloc (.cells #[.int .i64 0, .slice none 0 0, .slice none 0 0] 33)) := (Below.refl _ _).alloc (Nat.le_refl _) _
  have hz0 : Bx (w.alloc (.cells #[.int .i64 0, .slice none 0 0, .slice none 0 0] 33)) w.heap.size 33 [.int .i64 0, .slice none 0 0, .slice none 0 0] := Bx.new w _ _ _ rfl
  obtain ⟨W0, hW0⟩ : ∃ W9 : World, (w.alloc (.cells #[.int .i64 0, .slice none 0 0, .slice none 0 0] 33)) = W9 := ⟨_, rfl⟩
  rw [hW0] at hb0 hz0 ⊢
  have HB0 := Lib.hid hb0
  have HZ0 := Lib.hid hz0
  clear hW0 hb0 hz0
  refine (refOf_any 5 (by omega) W0).mono ?_
  rintro e w1 ⟨ah, ch, rfl, hh, hb1⟩
  have HB1 := Lib.hid (below_up HB0.out hb1)
  have HZ1 := Lib.hid (HZ0.out.up hb1)
  clear hh hb1 HB0 HZ0
  go_wp2_with fail
  refine (refTwo_any 125 (by omega) w1).mono ?_
  rintro e w2 ⟨a2, c2, rfl, h2, hb2⟩
  have H2 := Lib.hid h2
  have HB2 := Lib.hid (below_up HB1.out hb2)
  have HZ2 := Lib.hid (HZ1.out.up hb2)
  clear h2 hb2 HB1 HZ1
  go_wp2_with fail
  refine (refOf_any 9087 (by omega) w2).mono ?_
  rintro e w3 ⟨a3, c3, rfl, h3, hb3⟩
  have H3 := Lib.hid h3
  have H2' := Lib.hid (H2.out.up hb3)
  have HB3 := Lib.hid (below_up HB2.out hb3)
  have HZ3 := Lib.hid (HZ2.out.up hb3)
  clear h3 hb3 HB2 HZ2 H2
  go_wp2_with fail
  refine (refPlus_any (2 ^ 125) 9087 a2 a3 c2 c3 (small_dl _ (by decide)) (small_dl _ (by decide)) w3 H2'.out H3.out).mono ?_
  rintro e w1' ⟨ah, ch, rfl, hh, hb1⟩
  have Hh := Lib.hid hh
  have HBw1 := Lib.hid (below_up HB3.out hb1)
  have HZ := Lib.hid (HZ3.out.up hb1)
  clear hh hb1 HB3 HZ3 H2' H3
  obtain ⟨w1, rfl⟩ : ∃ w1 : World, w1 = w1' := ⟨_, rfl⟩
  go_wp2_with fail
  refine (refTwo_any 127 (by omega) w1).mono ?_
  rintro e wt ⟨at', ct', rfl, hn9, hb9⟩
  have Ht := Lib.hid hn9
  have HBwt := Lib.hid (below_up HBw1.out hb9)
  have HZ_9 := Lib.hid (HZ.out.up hb9)
  clear HZ
  have HZ := HZ_9
  clear HZ_9
  have Hh_9 := Lib.hid (Hh.out.up hb9)
  clear Hh
  have Hh := Hh_9
  clear Hh_9
  clear hn9 hb9 HBw1
  go_wp2_with fail
  refine (refTimes_any (2 ^ 125 + 9087) (2 ^ 127) ah at' ch ct' (small_dl _ (by decide)) (small_dl _ (by decide)) wt Hh.out Ht.out).mono ?_
  rintro e wm ⟨am, cm, rfl, hn9, hb9⟩
  have Hm := Lib.hid hn9
  have HBwm := Lib.hid (below_up HBwt.out hb9)
  have HZ_9 := Lib.hid (HZ.out.up hb9)
  clear HZ
  have HZ := HZ_9
  clear HZ_9
  clear hn9 hb9 HBwt
  go_wp2_with fail
  refine (refOf_any 1 (by omega) wm).mono ?_
  rintro e wo ⟨ao, co, rfl, hn9, hb9⟩
  have Ho := Lib.hid hn9
  have HBwo := Lib.hid (below_up HBwm.out hb9)
  have HZ_9 := Lib.hid (HZ.out.up hb9)
  clear HZ
  have HZ := HZ_9
  clear HZ_9
  have Hm_9 := Lib.hid (Hm.out.up hb9)
  clear Hm
  have Hm := Hm_9
  clear Hm_9
  clear hn9 hb9 HBwm
  go_wp2_with fail
  refine (refPlus_new ((2 ^ 125 + 9087) * 2 ^ 127) 1 am ao cm co (small_dl _ (by decide)) (small_dl _ (by decide)) wo Hm.out Ho.out).mono ?_
  rintro e wq ⟨aq, cq, rfl, hn9, hnew, hb9⟩
  have HNQ := Lib.hid hnew
  have hzo := HBwo.out.size
  have hzb := HZ.out.lt
  clear hnew
  have Hq := Lib.hid hn9
  have HBwq := Lib.hid (below_up HBwo.out hb9)
  have HZ_9 := Lib.hid (HZ.out.up hb9)
  clear HZ
  have HZ := HZ_9
  clear HZ_9
  clear hn9 hb9 HBwo
  go_wp2_with fail
  refine (refPlus_any ((2 ^ 125 + 9087) * 2 ^ 127 + 1) ((2 ^ 125 + 9087) * 2 ^ 127 + 1) aq aq cq cq (small_dl _ (by decide)) (small_dl _ (by decide)) wq Hq.out Hq.out).mono ?_
  rintro e wd ⟨ad, cd, rfl, hn9, hb9⟩
  have Hd := Lib.hid hn9
  have HBwd := Lib.hid (below_up HBwq.out hb9)
  have HZ_9 := Lib.hid (HZ.out.up hb9)
  clear HZ
  have HZ := HZ_9
  clear HZ_9
  have Hq_9 := Lib.hid (Hq.out.up hb9)
  clear Hq
  have Hq := Hq_9
  clear Hq_9
  clear hn9 hb9 HBwq
  go_wp2_with fail
  refine (refOf_any 1 (by omega) wd).mono ?_
  rintro e wu ⟨au, cu, rfl, hn9, hb9⟩
  have Hu := Lib.hid hn9
  have HBwu := Lib.hid (below_up HBwd.out hb9)
  have HZ_9 := Lib.hid (HZ.out.up hb9)
  clear HZ
  have HZ := HZ_9
  clear HZ_9
  have Hq_9 := Lib.hid (Hq.out.up hb9)
  clear Hq
  have Hq := Hq_9
  clear Hq_9
  have Hd_9 := Lib.hid (Hd.out.up hb9)
  clear Hd
  have Hd := Hd_9
  clear Hd_9
  clear hn9 hb9 HBwd
  go_wp2_with fail
  refine (refPlus_new ((2 ^ 125 + 9087) * 2 ^ 127 + 1 + ((2 ^ 125 + 9087) * 2 ^ 127 + 1)) 1 ad au cd cu (small_dl _ (by decide)) (small_dl _ (by decide)) wu Hd.out Hu.out).mono ?_
  rintro e wp ⟨ap, cp, rfl, hn9, hnew, hb9⟩
  have HNP := Lib.hid hnew
  have hzu := HBwu.out.size
  have hzb2 := HZ.out.lt
  clear hnew
  have Hp := Lib.hid hn9
  have HBwp := Lib.hid (below_up HBwu.out hb9)
  have HZ_9 := Lib.hid (HZ.out.up hb9)
  clear HZ
  have HZ := HZ_9
  clear HZ_9
  have Hq_9 := Lib.hid (Hq.out.up hb9)
  clear Hq
  have Hq := Hq_9
  clear Hq_9
  clear hn9 hb9 HBwu
  have hz_0 := HZ.out.cell (i := 0) (v := .int .i64 0) rfl
  have hz_1 := HZ.out.cell (i := 1) (v := .slice none 0 0) rfl
  have hz_2 := HZ.out.cell (i := 2) (v := .slice none 0 0) rfl
  have hzf_0 := HZ.out.frozen 0
  have hzf_1 := HZ.out.frozen 1
  have hzf_2 := HZ.out.frozen 2
  have HZ5 := Lib.hid (((HZ.out.set 0 (.int .i64 32)).set 1 (.slice aq (dl ((2 ^ 125 + 9087) * 2 ^ 127 + 1)) cq)).set 2 (.slice ap (dl ((2 ^ 125 + 9087) * 2 ^ 127 + 1 + ((2 ^ 125 + 9087) * 2 ^ 127 + 1) + 1)) cp))
  have HB5 := Lib.hid (((HBwp.out.setCell (p := ⟨w.heap.size, 0, none⟩) (Nat.le_refl _) (.int .i64 32)).setCell (p := ⟨w.heap.size, 1, none⟩) (Nat.le_refl _) (.slice aq (dl ((2 ^ 125 + 9087) * 2 ^ 127 + 1)) cq)).setCell (p := ⟨w.heap.size, 2, none⟩) (Nat.le_refl _) (.slice ap (dl ((2 ^ 125 + 9087) * 2 ^ 127 + 1 + ((2 ^ 125 + 9087) * 2 ^ 127 + 1) + 1)) cp))
  have HQ5 := Lib.hid (((Hq.out.store (b := w.heap.size) (fun q o h => by have := HNQ.out q o h; omega) 0 (.int .i64 32)).store (b := w.heap.size) (fun q o h => by have := HNQ.out q o h; omega) 1 (.slice aq (dl ((2 ^ 125 + 9087) * 2 ^ 127 + 1)) cq)).store (b := w.heap.size) (fun q o h => by have := HNQ.out q o h; omega) 2 (.slice ap (dl ((2 ^ 125 + 9087) * 2 ^ 127 + 1 + ((2 ^ 125 + 9087) * 2 ^ 127 + 1) + 1)) cp))
  have HP5 := Lib.hid (((Hp.out.store (b := w.heap.size) (fun q o h => by have := HNP.out q o h; omega) 0 (.int .i64 32)).store (b := w.heap.size) (fun q o h => by have := HNP.out q o h; omega) 1 (.slice aq (dl ((2 ^ 125 + 9087) * 2 ^ 127 + 1)) cq)).store (b := w.heap.size) (fun q o h => by have := HNP.out q o h; omega) 2 (.slice ap (dl ((2 ^ 125 + 9087) * 2 ^ 127 + 1 + ((2 ^ 125 + 9087) * 2 ^ 127 + 1) + 1)) cp))
  obtain ⟨w5, hw5⟩ : ∃ W9 : World, ((wp.setCell ⟨w.heap.size, 0, none⟩ (.int .i64 32)).setCell ⟨w.heap.size, 1, none⟩ (.slice aq (dl ((2 ^ 125 + 9087) * 2 ^ 127 + 1)) cq)).setCell ⟨w.heap.size, 2, none⟩ (.slice ap (dl ((2 ^ 125 + 9087) * 2 ^ 127 + 1 + ((2 ^ 125 + 9087) * 2 ^ 127 + 1) + 1)) cp) = W9 := ⟨_, rfl⟩
  go_wp2_with fail
  rw [hw5] at HZ5 HB5 HQ5 HP5
  have hg_0 := HZ5.out.cell (i := 0) (v := .int .i64 32) rfl
  have hg_1 := HZ5.out.cell (i := 1) (v := .slice aq (dl ((2 ^ 125 + 9087) * 2 ^ 127 + 1)) cq) rfl
  have hg_2 := HZ5.out.cell (i := 2) (v := .slice ap (dl ((2 ^ 125 + 9087) * 2 ^ 127 + 1 + ((2 ^ 125 + 9087) * 2 ^ 127 + 1) + 1)) cp) rfl
  have eq_ : (grp 3).q.m = (2 ^ 125 + 9087) * 2 ^ 127 + 1 := by decide
  have ep_ : (grp 3).p.m = (2 ^ 125 + 9087) * 2 ^ 127 + 1 + ((2 ^ 125 + 9087) * 2 ^ 127 + 1) + 1 := by decide
  refine bodyPost_ret (v := .agg #[.int .i64 32, .slice aq (dl ((2 ^ 125 + 9087) * 2 ^ 127 + 1)) cq, .slice ap (dl ((2 ^ 125 + 9087) * 2 ^ 127 + 1 + ((2 ^ 125 + 9087) * 2 ^ 127 + 1) + 1)) cp]) (by simp [results, Try.results12, go_sem, hg_0, hg_1, hg_2]) rfl ?_
  refine ⟨aq, cq, ap, cp, ?_, ?_, ?_, HB5.out⟩
  · rw [eq_, ep_]; rfl
  · rw [eq_]; exact HQ5.out
  · rw [ep_]; exact HP5.out

set_option maxHeartbeats 2000000 in
theorem refKind_none (k : Int) (hk : ¬ (1 ≤ k ∧ k ≤ 3)) (w : World) : Calls Try.prog 12 #[.int .i64 k] w fun e w' => e = .returned (.agg #[.int .i64 0, .slice none 0 0, .slice none 0 0]) ∧ Below w.heap.size w w' := by
  have h1 : (k == 2) = false := by simp; omega
  have h2 : (k == 3) = false := by simp; omega
  have h3 : (k != 1) = true := by simp; omega
  go_enter Try.func12, Try.ntmps12
  go_wp2_with fail
  have hb0 : Below w.heap.size w (w.alloc (.cells #[.int .i64 0, .slice none 0 0, .slice none 0 0] 33)) := (Below.refl _ _).alloc (Nat.le_refl _) _
  have hz0 : Bx (w.alloc (.cells #[.int .i64 0, .slice none 0 0, .slice none 0 0] 33)) w.heap.size 33 [.int .i64 0, .slice none 0 0, .slice none 0 0] := Bx.new w _ _ _ rfl
  obtain ⟨W0, hW0⟩ : ∃ W9 : World, (w.alloc (.cells #[.int .i64 0, .slice none 0 0, .slice none 0 0] 33)) = W9 := ⟨_, rfl⟩
  rw [hW0] at hb0 hz0 ⊢
  have HB0 := Lib.hid hb0
  have HZ0 := Lib.hid hz0
  clear hW0 hb0 hz0
  refine (refOf_any 5 (by omega) W0).mono ?_
  rintro e w1 ⟨ah, ch, rfl, hh, hb1⟩
  have HB1 := Lib.hid (below_up HB0.out hb1)
  have HZ1 := Lib.hid (HZ0.out.up hb1)
  clear hh hb1 HB0 HZ0
  have hz_0 := HZ1.out.cell (i := 0) (v := .int .i64 0) rfl
  have hz_1 := HZ1.out.cell (i := 1) (v := .slice none 0 0) rfl
  have hz_2 := HZ1.out.cell (i := 2) (v := .slice none 0 0) rfl
  have hzf_0 := HZ1.out.frozen 0
  have hzf_1 := HZ1.out.frozen 1
  have hzf_2 := HZ1.out.frozen 2
  have HZ5 := Lib.hid (((HZ1.out.set 0 (.int .i64 0)).set 1 (.slice none 0 0)).set 2 (.slice none 0 0))
  have HB5 := Lib.hid (((HB1.out.setCell (p := ⟨w.heap.size, 0, none⟩) (Nat.le_refl _) (.int .i64 0)).setCell (p := ⟨w.heap.size, 1, none⟩) (Nat.le_refl _) (.slice none 0 0)).setCell (p := ⟨w.heap.size, 2, none⟩) (Nat.le_refl _) (.slice none 0 0))
  obtain ⟨w5, hw5⟩ : ∃ W9 : World, ((w1.setCell ⟨w.heap.size, 0, none⟩ (.int .i64 0)).setCell ⟨w.heap.size, 1, none⟩ (.slice none 0 0)).setCell ⟨w.heap.size, 2, none⟩ (.slice none 0 0) = W9 := ⟨_, rfl⟩
  go_wp2_with fail
  rw [hw5] at HZ5 HB5
  have hg_0 := HZ5.out.cell (i := 0) (v := .int .i64 0) rfl
  have hg_1 := HZ5.out.cell (i := 1) (v := .slice none 0 0) rfl
  have hg_2 := HZ5.out.cell (i := 2) (v := .slice none 0 0) rfl
  refine bodyPost_ret (v := .agg #[.int .i64 0, .slice none 0 0, .slice none 0 0]) (by simp [results, Try.results12, go_sem, hg_0, hg_1, hg_2]) rfl ?_
  exact ⟨rfl, HB5.out⟩

theorem refKind_some (k : Nat) (h1 : 1 ≤ k) (h3 : k ≤ 3) (w : World) : Calls Try.prog 12 #[.int .i64 (k : Int)] w fun e w' => KindR w e w' (grp k) := by
  obtain rfl | rfl | rfl : k = 1 ∨ k = 2 ∨ k = 3 := by omega
  · exact refKind_one w
  · exact refKind_two w
  · exact refKind_three w

end Go.Proofs.Ytdlnnkbigeiilaa

/- Slices that the call itself appends to, of elements of any size: one word for all of them. No condition beyond those that each fact names. -/
namespace Go.Proofs.Ytdlnnkbigeiilaa
open Go.RowKit

/-- A row of the call's own, in blocks from N on: n elements of so many cells, all cells xs. -/
def RowO (N : Nat) (w : World) (e : TypeId) (size : Nat) (v : Value) (n : Nat) (xs : List Value) : Prop := w.ownsRow N e size v n xs

section
variable {w w1 : World} {e : TypeId} {N size n m g c : Nat} {v : Value} {xs ys : List Value} {r : Option Nat}

theorem RowO.nil : RowO N w e size (.slice none 0 0) 0 [] := World.ownsRow_nil _ _ _ _
theorem RowO.grown (h : RowO N w e size v n xs) (hg : w.grownBy w1 r) (hne : ∀ q, v.ownBlock = some q → r ≠ some q) : RowO N w1 e size v n xs :=
  World.ownsRow.kept h hg (by cases h9 : v.ownBlock with
    | none => exact Or.inl rfl
    | some q => exact Or.inr (fun e => hne q h9 e.symm))
theorem RowO.up (h : RowO N w e size v n xs) (hb : Below w.heap.size w w1) : RowO N w1 e size v n xs := h.grown (below_grown hb) (fun q _ => by simp)
theorem RowO.lt (h : RowO N w e size v n xs) (q : Nat) (hq : v.ownBlock = some q) : N ≤ q ∧ q < w.heap.size := World.ownsRow.lt h q hq
theorem RowO.other (h : RowO N w e size v n xs) (hne : v.ownBlock ≠ some c) (i : Nat) (u : Value) : RowO N (w.setCell ⟨c, i, none⟩ u) e size v n xs := by
  refine h.grown (r := some c) ⟨rfl, rfl, rfl, by simp [World.setCell], fun k _ hk => ?_⟩ (fun q hq e => hne (by rw [hq, e]))
  exact Below.heap_setCell w ⟨c, i, none⟩ u k (by intro e; exact hk (by rw [e]))
theorem RowO.form (h : RowO N w e size v n xs) : ∃ a c, v = .slice a n c := let ⟨a, c, h1, _⟩ := own_form3 h; ⟨a, c, h1⟩
theorem RowO.len (h : RowO N w e size v n xs) : xs.length = n * size := h.1
theorem RowO.eq (h : RowO N w e size v n xs) (hx : xs = ys) (hn : n = m) : RowO N w e size v m ys := by subst hx; subst hn; exact h

/-- The cells of such a row, whatever an element's size. -/
theorem RowO.sl {a : Option Addr} {k : Nat} (h : RowO N w e size (.slice a k c) n xs) : Sl w w.heap.size a xs := by
  rcases h.2 with ⟨hv, h0⟩ | ⟨g, cap, cur, hv, hb, hg, hr⟩
  · have := h.1; subst h0; left; exact List.length_eq_zero_iff.1 (by simpa using this)
  · simp only [Value.slice.injEq] at hv
    obtain ⟨rfl, rfl, rfl⟩ := hv
    refine Or.inr ⟨g, 0, rfl, (Array.getElem?_eq_some_iff.1 hg).1, fun i u hu => ?_⟩
    have hi : i < k * size := by have := (List.getElem?_eq_some_iff.1 hu).1; rw [h.1] at this; exact this
    rw [Nat.zero_add, World.ownsRow.cellAt h i hi]; exact hu

theorem Bx.grown {t : TypeId} {b : Nat} {cs : List Value} (h : Bx w b t cs) (hg : w.grownBy w1 r) (hne : r ≠ some b) : Bx w1 b t cs := (hg.block b h.lt (fun e => hne e.symm)).trans h

/-- What the cells of one block were, they are. -/
theorem cell_of_block {b : Nat} (h : w1.heap[b]? = w.heap[b]?) (o : Nat) : w1.cell? ⟨b, o, none⟩ = w.cell? ⟨b, o, none⟩ := by
  simp only [World.cell?, h]
theorem GroupAt.grown {gb : Nat} {G : GP} (h : GroupAt w gb G) (hg : w.grownBy w1 r) (hne : r ≠ some gb) : GroupAt w1 gb G := by
  have hc := cell_of_block (hg.block gb h.lt (fun e => hne e.symm))
  have hl := hg.size
  exact ⟨Nat.lt_of_lt_of_le h.lt hl, by rw [hc]; exact h.kind, by rw [hc]; exact h.size, ⟨Nat.lt_of_lt_of_le h.p.lt hl, fun i x hx => by rw [hc]; exact h.p.cell i x hx⟩, ⟨Nat.lt_of_lt_of_le h.q.lt hl, fun i x hx => by rw [hc]; exact h.q.cell i x hx⟩⟩

theorem grown_set (w : World) (b i : Nat) (u : Value) : w.grownBy (w.setCell ⟨b, i, none⟩ u) (some b) :=
  ⟨rfl, rfl, rfl, by simp [World.setCell], fun k _ hk => Below.heap_setCell w ⟨b, i, none⟩ u k (by intro e; exact hk (by rw [e]))⟩
theorem slice_own (b o n c : Nat) : (Value.slice (some ⟨b, o, none⟩) n c).ownBlock = some b := rfl
end

/-- 'out = append(out, x)': x has just been laid into a block of its own. -/
theorem wpList_pushR {P : Program} (N : Nat) (w0 : World) (hN : N ≤ w0.heap.size) {ops : Array Oper} {rest : List Oper} {o : Oper} {a : Act} {Q : Exit → Act → World → Prop} (hgd : o.guard = none) (s x : Operand) (t : TypeId)
    (ho : o.op = .call { callee := .builtin .append, args := #[s, x], argTypes := #[t, t] })
    (e : TypeId) (i : TypeInfo) (z : Value) (size bytes : Nat) (ht : P.underlying t = some (.slice e)) (hi : P.info? e = some i) (hz : i.zero = some z)
    (hsize : i.size = size) (hby : i.bytes = bytes) (hzs : z.cells.size = size) (hsz : 0 < size)
    (v : Value) (n : Nat) (xs : List Value) (hs : a.eval s = v) (hown : RowO N w0 e size v n xs)
    (news : Array Value) (e2 : TypeId) (b : Nat) (hb : w0.heap.size = b) (hx : a.eval x = .slice (some ⟨b, 0, none⟩) 1 1) (hl : news.size = size) (h1 : ∀ u ∈ news.toList, u.oneCell' = true)
    (h63 : (n + 1) * bytes ≤ 140737488355328) (hn : n + 1 ≤ maxLen)
    (h : ∀ g cap w', RowO N w' e size (.slice (some ⟨g, 0, none⟩) (n + 1) cap) (n + 1) (xs ++ news.toList) → w0.grownBy w' v.ownBlock → wpList P ops Q rest (a.put o.dst (.slice (some ⟨g, 0, none⟩) (n + 1) cap)) w') :
    wpList P ops Q (o :: rest) a (w0.alloc (.cells news e2)) := by
  subst hb
  refine wpList_append_lies _ hgd s x t ho N e i z size bytes ht hi hz hsize hby hzs hsz v n xs hs (World.ownsRow.alloc hown _) ⟨w0.heap.size, 0, none⟩ 1 1 news.toList hx (by simpa using hl)
    (World.news_of_block (heap_alloc_new w0 _)) h1 (by omega) hn h63 (by simp; omega) _ rfl ?_
  intro g cap w' hown' hg _ _
  refine h g cap w' hown' ⟨hg.os, hg.tape, hg.output, ?_, ?_⟩
  · have := hg.size; simp at this; omega
  · intro k hk hne
    rw [hg.block k (by simp; omega) hne]
    exact Below.heap_alloc _ _ _ hk

/-- The same within the capacity: nothing is asked but that it fits. -/
theorem wpList_fitR {P : Program} (N : Nat) (w0 : World) {ops : Array Oper} {rest : List Oper} {o : Oper} {a : Act} {Q : Exit → Act → World → Prop} (hgd : o.guard = none) (s x : Operand) (t : TypeId)
    (ho : o.op = .call { callee := .builtin .append, args := #[s, x], argTypes := #[t, t] })
    (e : TypeId) (i : TypeInfo) (size : Nat) (ht : P.underlying t = some (.slice e)) (hi : P.info? e = some i) (hsize : i.size = size)
    (g n cap : Nat) (xs : List Value) (hs : a.eval s = .slice (some ⟨g, 0, none⟩) n cap) (hown : RowO N w0 e size (.slice (some ⟨g, 0, none⟩) n cap) n xs)
    (news : Array Value) (e2 : TypeId) (b : Nat) (hb : w0.heap.size = b) (hx : a.eval x = .slice (some ⟨b, 0, none⟩) 1 1) (hl : news.size = size) (h1 : ∀ u ∈ news.toList, u.oneCell' = true)
    (hfit : n + 1 ≤ cap)
    (h : ∀ w', RowO N w' e size (.slice (some ⟨g, 0, none⟩) (n + 1) cap) (n + 1) (xs ++ news.toList) → w0.grownBy w' (some g) → wpList P ops Q rest (a.put o.dst (.slice (some ⟨g, 0, none⟩) (n + 1) cap)) w') :
    wpList P ops Q (o :: rest) a (w0.alloc (.cells news e2)) := by
  subst hb
  refine wpList_append_fits _ hgd s x t ho N e i size ht hi hsize g n cap xs hs (World.ownsRow.alloc hown _) ⟨w0.heap.size, 0, none⟩ 1 1 news.toList hx (by simpa using hl)
    (World.news_of_block (heap_alloc_new w0 _)) h1 hfit ?_
  intro w' hown' hg
  refine h w' hown' ⟨hg.os, hg.tape, hg.output, ?_, ?_⟩
  · have := hg.size; simp at this; omega
  · intro k hk hne
    rw [hg.block k (by simp; omega) hne]
    exact Below.heap_alloc _ _ _ hk

/-- Slices of pieces, laid one behind the other. -/
theorem Sl.app_left {w : World} {B : Nat} {a : Option Addr} {xs ys : List Value} (h : Sl w B a (xs ++ ys)) : Sl w B a xs := by
  rcases h with h | ⟨b, off, rfl, hb, hc⟩
  · left; exact (List.append_eq_nil_iff.1 h).1
  · exact Or.inr ⟨b, off, rfl, hb, fun i v hv => hc i v (by rw [List.getElem?_append_left (List.getElem?_eq_some_iff.1 hv).1]; exact hv)⟩

/-- Flattened elements: the cells of the i-th. -/
theorem flat_at {α : Type} (f : α → List Value) (k : Nat) (hk : ∀ x, (f x).length = k) : ∀ (l : List α) (i j : Nat) (hi : i < l.length) (_ : j < k), (l.flatMap f)[i * k + j]? = (f l[i])[j]?
  | [], i, _, hi, _ => absurd hi (by simp)
  | x :: l, 0, j, _, hj => by
    rw [List.flatMap_cons, Nat.zero_mul, Nat.zero_add, List.getElem?_append_left (by rw [hk]; exact hj)]
    rfl
  | x :: l, i + 1, j, hi, hj => by
    rw [List.flatMap_cons, List.getElem?_append_right (by rw [hk, Nat.add_mul]; omega), hk, show (i + 1) * k + j - k = i * k + j by rw [Nat.add_mul]; omega]
    exact flat_at f k hk l i j (by simpa using hi) hj

theorem flat_len {α : Type} (f : α → List Value) (k : Nat) (hk : ∀ x, (f x).length = k) (l : List α) : (l.flatMap f).length = l.length * k := by
  induction l with
  | nil => simp
  | cons x l ih => rw [List.flatMap_cons, List.length_append, hk, ih, List.length_cons, Nat.add_mul]; omega

theorem flat_snoc {α : Type} (f : α → List Value) (l : List α) (i : Nat) (hi : i < l.length) : (l.take (i + 1)).flatMap f = (l.take i).flatMap f ++ f l[i] := by
  rw [List.take_succ_eq_append_getElem hi, List.flatMap_append]
  simp

/-- The cells of the i-th element of a slice. -/
theorem Sl.elem {w : World} {B : Nat} {a : Option Addr} {α : Type} {f : α → List Value} {k : Nat} {l : List α} (h : Sl w B a (l.flatMap f)) (hk : ∀ x, (f x).length = k) (h0 : 0 < k) (i : Nat) (hi : i < l.length) :
    ∃ b off, a = some ⟨b, off, none⟩ ∧ b < B ∧ ∀ j v, (f l[i])[j]? = some v → w.cell? ⟨b, off + i * k + j, none⟩ = some v := by
  rcases h with h | ⟨b, off, rfl, hb, hc⟩
  · have := flat_len f k hk l
    rw [h, List.length_nil] at this
    have : 0 < l.length * k := Nat.mul_pos (by omega) h0
    omega
  · exact ⟨b, off, rfl, hb, fun j v hv => by rw [Nat.add_assoc]; exact hc _ _ (by rw [flat_at f k hk l i j hi (by have := (List.getElem?_eq_some_iff.1 hv).1; rw [hk] at this; exact this)]; exact hv)⟩

end Go.Proofs.Ytdlnnkbigeiilaa

/- Boxes in short: their cells, new ones, stores into them. No condition beyond those that each fact names. -/
namespace Go.Proofs.Ytdlnnkbigeiilaa
open Go.RowKit

section
variable {W w0 : World} {b n : Nat} {t : TypeId} {cs cs' : List Value} {a0 a1 a2 a3 a4 a5 a6 a7 : Value}
theorem Bx.c1 (h : Bx W b t [a0]) : W.cell? ⟨b, 0, none⟩ = some a0 := h.cell (i := 0) rfl
theorem Bx.c2 (h : Bx W b t [a0, a1]) : W.cell? ⟨b, 0, none⟩ = some a0 ∧ W.cell? ⟨b, 1, none⟩ = some a1 := ⟨h.cell (i := 0) rfl, h.cell (i := 1) rfl⟩
theorem Bx.c3 (h : Bx W b t [a0, a1, a2]) : W.cell? ⟨b, 0, none⟩ = some a0 ∧ W.cell? ⟨b, 1, none⟩ = some a1 ∧ W.cell? ⟨b, 2, none⟩ = some a2 := ⟨h.cell (i := 0) rfl, h.cell (i := 1) rfl, h.cell (i := 2) rfl⟩
theorem Bx.c4 (h : Bx W b t [a0, a1, a2, a3]) : W.cell? ⟨b, 0, none⟩ = some a0 ∧ W.cell? ⟨b, 1, none⟩ = some a1 ∧ W.cell? ⟨b, 2, none⟩ = some a2 ∧ W.cell? ⟨b, 3, none⟩ = some a3 := ⟨h.cell (i := 0) rfl, h.cell (i := 1) rfl, h.cell (i := 2) rfl, h.cell (i := 3) rfl⟩
theorem Bx.c5 (h : Bx W b t [a0, a1, a2, a3, a4]) : W.cell? ⟨b, 0, none⟩ = some a0 ∧ W.cell? ⟨b, 1, none⟩ = some a1 ∧ W.cell? ⟨b, 2, none⟩ = some a2 ∧ W.cell? ⟨b, 3, none⟩ = some a3 ∧ W.cell? ⟨b, 4, none⟩ = some a4 := ⟨h.cell (i := 0) rfl, h.cell (i := 1) rfl, h.cell (i := 2) rfl, h.cell (i := 3) rfl, h.cell (i := 4) rfl⟩
theorem Bx.c6 (h : Bx W b t [a0, a1, a2, a3, a4, a5]) : W.cell? ⟨b, 0, none⟩ = some a0 ∧ W.cell? ⟨b, 1, none⟩ = some a1 ∧ W.cell? ⟨b, 2, none⟩ = some a2 ∧ W.cell? ⟨b, 3, none⟩ = some a3 ∧ W.cell? ⟨b, 4, none⟩ = some a4 ∧ W.cell? ⟨b, 5, none⟩ = some a5 := ⟨h.cell (i := 0) rfl, h.cell (i := 1) rfl, h.cell (i := 2) rfl, h.cell (i := 3) rfl, h.cell (i := 4) rfl, h.cell (i := 5) rfl⟩
theorem Bx.c7 (h : Bx W b t [a0, a1, a2, a3, a4, a5, a6]) : W.cell? ⟨b, 0, none⟩ = some a0 ∧ W.cell? ⟨b, 1, none⟩ = some a1 ∧ W.cell? ⟨b, 2, none⟩ = some a2 ∧ W.cell? ⟨b, 3, none⟩ = some a3 ∧ W.cell? ⟨b, 4, none⟩ = some a4 ∧ W.cell? ⟨b, 5, none⟩ = some a5 ∧ W.cell? ⟨b, 6, none⟩ = some a6 := ⟨h.cell (i := 0) rfl, h.cell (i := 1) rfl, h.cell (i := 2) rfl, h.cell (i := 3) rfl, h.cell (i := 4) rfl, h.cell (i := 5) rfl, h.cell (i := 6) rfl⟩
theorem Bx.c8 (h : Bx W b t [a0, a1, a2, a3, a4, a5, a6, a7]) : W.cell? ⟨b, 0, none⟩ = some a0 ∧ W.cell? ⟨b, 1, none⟩ = some a1 ∧ W.cell? ⟨b, 2, none⟩ = some a2 ∧ W.cell? ⟨b, 3, none⟩ = some a3 ∧ W.cell? ⟨b, 4, none⟩ = some a4 ∧ W.cell? ⟨b, 5, none⟩ = some a5 ∧ W.cell? ⟨b, 6, none⟩ = some a6 ∧ W.cell? ⟨b, 7, none⟩ = some a7 := ⟨h.cell (i := 0) rfl, h.cell (i := 1) rfl, h.cell (i := 2) rfl, h.cell (i := 3) rfl, h.cell (i := 4) rfl, h.cell (i := 5) rfl, h.cell (i := 6) rfl, h.cell (i := 7) rfl⟩
theorem sz {p q : Prop} (a : Hid p) (b : q) : Hid (p ∧ q) := Lib.hid ⟨a.out, b⟩
theorem sne {a b : Nat} (h : b ≠ a) : some a ≠ some b := fun e => h (Option.some.inj e).symm
theorem hbu {W w w1 : World} (h : Hid (Below W.heap.size W w)) (g : Below w.heap.size w w1) : Hid (Below W.heap.size W w1) := Lib.hid (below_up h.out g)
theorem hbg {W w w1 : World} {b : Nat} (h : Hid (Below W.heap.size W w)) (g : Hid (w.grownBy w1 (some b))) (hb : W.heap.size ≤ b) : Hid (Below W.heap.size W w1) := Lib.hid (Below.grown h.out g.out h.out.size (fun _ e => (Option.some.inj e) ▸ hb))
theorem new1 (w : World) (t0 : TypeId) (c0 : List Value) : ∃ W, w.alloc (Obj.cells c0.toArray t0) = W ∧ Below w.heap.size w W ∧ Hid (W.heap.size = w.heap.size + 1) ∧ Hid (Bx W w.heap.size t0 c0) := by
  refine ⟨_, rfl, ((Below.refl _ _).alloc (Nat.le_refl _) _), Lib.hid (by simp), ?_⟩
  · have h := (Bx.new w t0 c0 _ rfl)
    exact Lib.hid h
theorem new2 (w : World) (t0 : TypeId) (c0 : List Value) (t1 : TypeId) (c1 : List Value) : ∃ W, (w.alloc (Obj.cells c0.toArray t0)).alloc (Obj.cells c1.toArray t1) = W ∧ Below w.heap.size w W ∧ Hid (W.heap.size = w.heap.size + 2) ∧ Hid (Bx W w.heap.size t0 c0) ∧ Hid (Bx W (w.heap.size + 1) t1 c1) := by
  refine ⟨_, rfl, (((Below.refl _ _).alloc (Nat.le_refl _) _).alloc (by simp) _), Lib.hid (by simp), ?_, ?_⟩
  · have h := ((Bx.new w t0 c0 _ rfl).alloc (Obj.cells c1.toArray t1))
    exact Lib.hid h
  · have h := (Bx.new (w.alloc (Obj.cells c0.toArray t0)) t1 c1 _ rfl)
    rw [World.size_alloc] at h
    exact Lib.hid h
theorem new3 (w : World) (t0 : TypeId) (c0 : List Value) (t1 : TypeId) (c1 : List Value) (t2 : TypeId) (c2 : List Value) : ∃ W, ((w.alloc (Obj.cells c0.toArray t0)).alloc (Obj.cells c1.toArray t1)).alloc (Obj.cells c2.toArray t2) = W ∧ Below w.heap.size w W ∧ Hid (W.heap.size = w.heap.size + 3) ∧ Hid (Bx W w.heap.size t0 c0) ∧ Hid (Bx W (w.heap.size + 1) t1 c1) ∧ Hid (Bx W (w.heap.size + 2) t2 c2) := by
  refine ⟨_, rfl, ((((Below.refl _ _).alloc (Nat.le_refl _) _).alloc (by simp) _).alloc (by simp; omega) _), Lib.hid (by simp), ?_, ?_, ?_⟩
  · have h := (((Bx.new w t0 c0 _ rfl).alloc (Obj.cells c1.toArray t1)).alloc (Obj.cells c2.toArray t2))
    exact Lib.hid h
  · have h := ((Bx.new (w.alloc (Obj.cells c0.toArray t0)) t1 c1 _ rfl).alloc (Obj.cells c2.toArray t2))
    rw [World.size_alloc] at h
    exact Lib.hid h
  · have h := (Bx.new ((w.alloc (Obj.cells c0.toArray t0)).alloc (Obj.cells c1.toArray t1)) t2 c2 _ rfl)
    rw [World.size_alloc, World.size_alloc] at h
    exact Lib.hid h
theorem new4 (w : World) (t0 : TypeId) (c0 : List Value) (t1 : TypeId) (c1 : List Value) (t2 : TypeId) (c2 : List Value) (t3 : TypeId) (c3 : List Value) : ∃ W, (((w.alloc (Obj.cells c0.toArray t0)).alloc (Obj.cells c1.toArray t1)).alloc (Obj.cells c2.toArray t2)).alloc (Obj.cells c3.toArray t3) = W ∧ Below w.heap.size w W ∧ Hid (W.heap.size = w.heap.size + 4) ∧ Hid (Bx W w.heap.size t0 c0) ∧ Hid (Bx W (w.heap.size + 1) t1 c1) ∧ Hid (Bx W (w.heap.size + 2) t2 c2) ∧ Hid (Bx W (w.heap.size + 3) t3 c3) := by
  refine ⟨_, rfl, (((((Below.refl _ _).alloc (Nat.le_refl _) _).alloc (by simp) _).alloc (by simp; omega) _).alloc (by simp; omega) _), Lib.hid (by simp), ?_, ?_, ?_, ?_⟩
  · have h := ((((Bx.new w t0 c0 _ rfl).alloc (Obj.cells c1.toArray t1)).alloc (Obj.cells c2.toArray t2)).alloc (Obj.cells c3.toArray t3))
    exact Lib.hid h
  · have h := (((Bx.new (w.alloc (Obj.cells c0.toArray t0)) t1 c1 _ rfl).alloc (Obj.cells c2.toArray t2)).alloc (Obj.cells c3.toArray t3))
    rw [World.size_alloc] at h
    exact Lib.hid h
  · have h := ((Bx.new ((w.alloc (Obj.cells c0.toArray t0)).alloc (Obj.cells c1.toArray t1)) t2 c2 _ rfl).alloc (Obj.cells c3.toArray t3))
    rw [World.size_alloc, World.size_alloc] at h
    exact Lib.hid h
  · have h := (Bx.new (((w.alloc (Obj.cells c0.toArray t0)).alloc (Obj.cells c1.toArray t1)).alloc (Obj.cells c2.toArray t2)) t3 c3 _ rfl)
    rw [World.size_alloc, World.size_alloc, World.size_alloc] at h
    exact Lib.hid h
theorem put1 (h : Hid (Bx W b t cs)) (o0 : Nat) (v0 : Value) (cs' : List Value) (hc : (cs.set o0 v0) = cs') : ∃ W', (W.setCell ⟨b, o0, none⟩ v0) = W' ∧ Hid (W.grownBy W' (some b)) ∧ Hid (W'.heap.size = W.heap.size) ∧ Hid (Bx W' b t cs') :=
  ⟨_, rfl, Lib.hid (grown_set W b o0 v0), Lib.hid (by simp [World.setCell]), Lib.hid (hc ▸ (h.out.set o0 v0))⟩
theorem put2 (h : Hid (Bx W b t cs)) (o0 : Nat) (v0 : Value) (o1 : Nat) (v1 : Value) (cs' : List Value) (hc : ((cs.set o0 v0).set o1 v1) = cs') : ∃ W', ((W.setCell ⟨b, o0, none⟩ v0).setCell ⟨b, o1, none⟩ v1) = W' ∧ Hid (W.grownBy W' (some b)) ∧ Hid (W'.heap.size = W.heap.size) ∧ Hid (Bx W' b t cs') :=
  ⟨_, rfl, Lib.hid ((grown_set W b o0 v0).trans (grown_set (W.setCell ⟨b, o0, none⟩ v0) b o1 v1)), Lib.hid (by simp [World.setCell]), Lib.hid (hc ▸ ((h.out.set o0 v0).set o1 v1))⟩
theorem put3 (h : Hid (Bx W b t cs)) (o0 : Nat) (v0 : Value) (o1 : Nat) (v1 : Value) (o2 : Nat) (v2 : Value) (cs' : List Value) (hc : (((cs.set o0 v0).set o1 v1).set o2 v2) = cs') : ∃ W', (((W.setCell ⟨b, o0, none⟩ v0).setCell ⟨b, o1, none⟩ v1).setCell ⟨b, o2, none⟩ v2) = W' ∧ Hid (W.grownBy W' (some b)) ∧ Hid (W'.heap.size = W.heap.size) ∧ Hid (Bx W' b t cs') :=
  ⟨_, rfl, Lib.hid (((grown_set W b o0 v0).trans (grown_set (W.setCell ⟨b, o0, none⟩ v0) b o1 v1)).trans (grown_set ((W.setCell ⟨b, o0, none⟩ v0).setCell ⟨b, o1, none⟩ v1) b o2 v2)), Lib.hid (by simp [World.setCell]), Lib.hid (hc ▸ (((h.out.set o0 v0).set o1 v1).set o2 v2))⟩
theorem put4 (h : Hid (Bx W b t cs)) (o0 : Nat) (v0 : Value) (o1 : Nat) (v1 : Value) (o2 : Nat) (v2 : Value) (o3 : Nat) (v3 : Value) (cs' : List Value) (hc : ((((cs.set o0 v0).set o1 v1).set o2 v2).set o3 v3) = cs') : ∃ W', ((((W.setCell ⟨b, o0, none⟩ v0).setCell ⟨b, o1, none⟩ v1).setCell ⟨b, o2, none⟩ v2).setCell ⟨b, o3, none⟩ v3) = W' ∧ Hid (W.grownBy W' (some b)) ∧ Hid (W'.heap.size = W.heap.size) ∧ Hid (Bx W' b t cs') :=
  ⟨_, rfl, Lib.hid ((((grown_set W b o0 v0).trans (grown_set (W.setCell ⟨b, o0, none⟩ v0) b o1 v1)).trans (grown_set ((W.setCell ⟨b, o0, none⟩ v0).setCell ⟨b, o1, none⟩ v1) b o2 v2)).trans (grown_set (((W.setCell ⟨b, o0, none⟩ v0).setCell ⟨b, o1, none⟩ v1).setCell ⟨b, o2, none⟩ v2) b o3 v3)), Lib.hid (by simp [World.setCell]), Lib.hid (hc ▸ ((((h.out.set o0 v0).set o1 v1).set o2 v2).set o3 v3))⟩
theorem put5 (h : Hid (Bx W b t cs)) (o0 : Nat) (v0 : Value) (o1 : Nat) (v1 : Value) (o2 : Nat) (v2 : Value) (o3 : Nat) (v3 : Value) (o4 : Nat) (v4 : Value) (cs' : List Value) (hc : (((((cs.set o0 v0).set o1 v1).set o2 v2).set o3 v3).set o4 v4) = cs') : ∃ W', (((((W.setCell ⟨b, o0, none⟩ v0).setCell ⟨b, o1, none⟩ v1).setCell ⟨b, o2, none⟩ v2).setCell ⟨b, o3, none⟩ v3).setCell ⟨b, o4, none⟩ v4) = W' ∧ Hid (W.grownBy W' (some b)) ∧ Hid (W'.heap.size = W.heap.size) ∧ Hid (Bx W' b t cs') :=
  ⟨_, rfl, Lib.hid (((((grown_set W b o0 v0).trans (grown_set (W.setCell ⟨b, o0, none⟩ v0) b o1 v1)).trans (grown_set ((W.setCell ⟨b, o0, none⟩ v0).setCell ⟨b, o1, none⟩ v1) b o2 v2)).trans (grown_set (((W.setCell ⟨b, o0, none⟩ v0).setCell ⟨b, o1, none⟩ v1).setCell ⟨b, o2, none⟩ v2) b o3 v3)).trans (grown_set ((((W.setCell ⟨b, o0, none⟩ v0).setCell ⟨b, o1, none⟩ v1).setCell ⟨b, o2, none⟩ v2).setCell ⟨b, o3, none⟩ v3) b o4 v4)), Lib.hid (by simp [World.setCell]), Lib.hid (hc ▸ (((((h.out.set o0 v0).set o1 v1).set o2 v2).set o3 v3).set o4 v4))⟩
theorem put6 (h : Hid (Bx W b t cs)) (o0 : Nat) (v0 : Value) (o1 : Nat) (v1 : Value) (o2 : Nat) (v2 : Value) (o3 : Nat) (v3 : Value) (o4 : Nat) (v4 : Value) (o5 : Nat) (v5 : Value) (cs' : List Value) (hc : ((((((cs.set o0 v0).set o1 v1).set o2 v2).set o3 v3).set o4 v4).set o5 v5) = cs') : ∃ W', ((((((W.setCell ⟨b, o0, none⟩ v0).setCell ⟨b, o1, none⟩ v1).setCell ⟨b, o2, none⟩ v2).setCell ⟨b, o3, none⟩ v3).setCell ⟨b, o4, none⟩ v4).setCell ⟨b, o5, none⟩ v5) = W' ∧ Hid (W.grownBy W' (some b)) ∧ Hid (W'.heap.size = W.heap.size) ∧ Hid (Bx W' b t cs') :=
  ⟨_, rfl, Lib.hid ((((((grown_set W b o0 v0).trans (grown_set (W.setCell ⟨b, o0, none⟩ v0) b o1 v1)).trans (grown_set ((W.setCell ⟨b, o0, none⟩ v0).setCell ⟨b, o1, none⟩ v1) b o2 v2)).trans (grown_set (((W.setCell ⟨b, o0, none⟩ v0).setCell ⟨b, o1, none⟩ v1).setCell ⟨b, o2, none⟩ v2) b o3 v3)).trans (grown_set ((((W.setCell ⟨b, o0, none⟩ v0).setCell ⟨b, o1, none⟩ v1).setCell ⟨b, o2, none⟩ v2).setCell ⟨b, o3, none⟩ v3) b o4 v4)).trans (grown_set (((((W.setCell ⟨b, o0, none⟩ v0).setCell ⟨b, o1, none⟩ v1).setCell ⟨b, o2, none⟩ v2).setCell ⟨b, o3, none⟩ v3).setCell ⟨b, o4, none⟩ v4) b o5 v5)), Lib.hid (by simp [World.setCell]), Lib.hid (hc ▸ ((((((h.out.set o0 v0).set o1 v1).set o2 v2).set o3 v3).set o4 v4).set o5 v5))⟩
theorem put7 (h : Hid (Bx W b t cs)) (o0 : Nat) (v0 : Value) (o1 : Nat) (v1 : Value) (o2 : Nat) (v2 : Value) (o3 : Nat) (v3 : Value) (o4 : Nat) (v4 : Value) (o5 : Nat) (v5 : Value) (o6 : Nat) (v6 : Value) (cs' : List Value) (hc : (((((((cs.set o0 v0).set o1 v1).set o2 v2).set o3 v3).set o4 v4).set o5 v5).set o6 v6) = cs') : ∃ W', (((((((W.setCell ⟨b, o0, none⟩ v0).setCell ⟨b, o1, none⟩ v1).setCell ⟨b, o2, none⟩ v2).setCell ⟨b, o3, none⟩ v3).setCell ⟨b, o4, none⟩ v4).setCell ⟨b, o5, none⟩ v5).setCell ⟨b, o6, none⟩ v6) = W' ∧ Hid (W.grownBy W' (some b)) ∧ Hid (W'.heap.size = W.heap.size) ∧ Hid (Bx W' b t cs') :=
  ⟨_, rfl, Lib.hid (((((((grown_set W b o0 v0).trans (grown_set (W.setCell ⟨b, o0, none⟩ v0) b o1 v1)).trans (grown_set ((W.setCell ⟨b, o0, none⟩ v0).setCell ⟨b, o1, none⟩ v1) b o2 v2)).trans (grown_set (((W.setCell ⟨b, o0, none⟩ v0).setCell ⟨b, o1, none⟩ v1).setCell ⟨b, o2, none⟩ v2) b o3 v3)).trans (grown_set ((((W.setCell ⟨b, o0, none⟩ v0).setCell ⟨b, o1, none⟩ v1).setCell ⟨b, o2, none⟩ v2).setCell ⟨b, o3, none⟩ v3) b o4 v4)).trans (grown_set (((((W.setCell ⟨b, o0, none⟩ v0).setCell ⟨b, o1, none⟩ v1).setCell ⟨b, o2, none⟩ v2).setCell ⟨b, o3, none⟩ v3).setCell ⟨b, o4, none⟩ v4) b o5 v5)).trans (grown_set ((((((W.setCell ⟨b, o0, none⟩ v0).setCell ⟨b, o1, none⟩ v1).setCell ⟨b, o2, none⟩ v2).setCell ⟨b, o3, none⟩ v3).setCell ⟨b, o4, none⟩ v4).setCell ⟨b, o5, none⟩ v5) b o6 v6)), Lib.hid (by simp [World.setCell]), Lib.hid (hc ▸ (((((((h.out.set o0 v0).set o1 v1).set o2 v2).set o3 v3).set o4 v4).set o5 v5).set o6 v6))⟩
theorem put8 (h : Hid (Bx W b t cs)) (o0 : Nat) (v0 : Value) (o1 : Nat) (v1 : Value) (o2 : Nat) (v2 : Value) (o3 : Nat) (v3 : Value) (o4 : Nat) (v4 : Value) (o5 : Nat) (v5 : Value) (o6 : Nat) (v6 : Value) (o7 : Nat) (v7 : Value) (cs' : List Value) (hc : ((((((((cs.set o0 v0).set o1 v1).set o2 v2).set o3 v3).set o4 v4).set o5 v5).set o6 v6).set o7 v7) = cs') : ∃ W', ((((((((W.setCell ⟨b, o0, none⟩ v0).setCell ⟨b, o1, none⟩ v1).setCell ⟨b, o2, none⟩ v2).setCell ⟨b, o3, none⟩ v3).setCell ⟨b, o4, none⟩ v4).setCell ⟨b, o5, none⟩ v5).setCell ⟨b, o6, none⟩ v6).setCell ⟨b, o7, none⟩ v7) = W' ∧ Hid (W.grownBy W' (some b)) ∧ Hid (W'.heap.size = W.heap.size) ∧ Hid (Bx W' b t cs') :=
  ⟨_, rfl, Lib.hid ((((((((grown_set W b o0 v0).trans (grown_set (W.setCell ⟨b, o0, none⟩ v0) b o1 v1)).trans (grown_set ((W.setCell ⟨b, o0, none⟩ v0).setCell ⟨b, o1, none⟩ v1) b o2 v2)).trans (grown_set (((W.setCell ⟨b, o0, none⟩ v0).setCell ⟨b, o1, none⟩ v1).setCell ⟨b, o2, none⟩ v2) b o3 v3)).trans (grown_set ((((W.setCell ⟨b, o0, none⟩ v0).setCell ⟨b, o1, none⟩ v1).setCell ⟨b, o2, none⟩ v2).setCell ⟨b, o3, none⟩ v3) b o4 v4)).trans (grown_set (((((W.setCell ⟨b, o0, none⟩ v0).setCell ⟨b, o1, none⟩ v1).setCell ⟨b, o2, none⟩ v2).setCell ⟨b, o3, none⟩ v3).setCell ⟨b, o4, none⟩ v4) b o5 v5)).trans (grown_set ((((((W.setCell ⟨b, o0, none⟩ v0).setCell ⟨b, o1, none⟩ v1).setCell ⟨b, o2, none⟩ v2).setCell ⟨b, o3, none⟩ v3).setCell ⟨b, o4, none⟩ v4).setCell ⟨b, o5, none⟩ v5) b o6 v6)).trans (grown_set (((((((W.setCell ⟨b, o0, none⟩ v0).setCell ⟨b, o1, none⟩ v1).setCell ⟨b, o2, none⟩ v2).setCell ⟨b, o3, none⟩ v3).setCell ⟨b, o4, none⟩ v4).setCell ⟨b, o5, none⟩ v5).setCell ⟨b, o6, none⟩ v6) b o7 v7)), Lib.hid (by simp [World.setCell]), Lib.hid (hc ▸ ((((((((h.out.set o0 v0).set o1 v1).set o2 v2).set o3 v3).set o4 v4).set o5 v5).set o6 v6).set o7 v7))⟩
end

end Go.Proofs.Ytdlnnkbigeiilaa

/- The network of a mix: which gates stand on a list of wires, and how many. No condition. -/
namespace Go.Proofs.Ytdlnnkbigeiilaa

def pairs (k : Nat) (xs : List Int) : List (Int × Int) := (List.range k).map fun i => (xs.getD (2 * i) 0, xs.getD (2 * i + 1) 0)

def isUp (n i : Nat) : Bool := decide (i % 2 = 0) && decide (i < 2 * (n / 2))

/-- The wires of the upper and the lower inner network, of the first j wires of n. -/
def upTo (n : Nat) (xs : List Int) : Nat → List Int
  | 0 => []
  | j + 1 => upTo n xs j ++ if isUp n j then [xs.getD j 0] else []
def lowTo (n : Nat) (xs : List Int) : Nat → List Int
  | 0 => []
  | j + 1 => lowTo n xs j ++ if isUp n j then [] else [xs.getD j 0]

theorem upTo_length (n : Nat) (xs : List Int) : ∀ j, j ≤ n → (upTo n xs j).length = min ((j + 1) / 2) (n / 2)
  | 0, _ => by simp [upTo]
  | j + 1, h => by
    rw [upTo, List.length_append, upTo_length n xs j (by omega)]
    by_cases hu : isUp n j = true
    · rw [if_pos hu]
      simp [isUp] at hu
      simp only [List.length_singleton]; omega
    · rw [if_neg hu]
      simp [isUp] at hu
      simp only [List.length_nil]; omega

theorem both_length (n : Nat) (xs : List Int) : ∀ j, (upTo n xs j).length + (lowTo n xs j).length = j
  | 0 => rfl
  | j + 1 => by
    have := both_length n xs j
    rw [upTo, lowTo, List.length_append, List.length_append]
    split <;> simp only [List.length_singleton, List.length_nil] <;> omega

def upper (xs : List Int) : List Int := upTo xs.length xs xs.length
def lower (xs : List Int) : List Int := lowTo xs.length xs xs.length

theorem upper_length (xs : List Int) : (upper xs).length = xs.length / 2 := by
  rw [upper, upTo_length _ _ _ (Nat.le_refl _)]; omega
theorem lower_length (xs : List Int) : (lower xs).length = xs.length - xs.length / 2 := by
  have h1 := both_length xs.length xs xs.length
  have h2 := upper_length xs
  unfold upper at h2; unfold lower; omega

/-- How many gates stand in the last row. -/
def lastRow (n : Nat) : Nat := (n - 1 + n % 2) / 2

def gatesF : Nat → List Int → List (Int × Int)
  | 0, _ => []
  | f + 1, xs =>
    if xs.length < 2 then [] else if xs.length = 2 then [(xs.getD 0 0, xs.getD 1 0)]
    else pairs (xs.length / 2) xs ++ gatesF f (upper xs) ++ gatesF f (lower xs) ++ pairs (lastRow xs.length) xs

theorem gatesF_fuel : ∀ (f g : Nat) (xs : List Int), xs.length ≤ f → xs.length ≤ g → gatesF f xs = gatesF g xs
  | 0, 0, _, _, _ => rfl
  | 0, g + 1, xs, h, _ => by rw [gatesF, gatesF, if_pos (by omega)]
  | f + 1, 0, xs, _, h => by rw [gatesF, gatesF, if_pos (by omega)]
  | f + 1, g + 1, xs, h1, h2 => by
    rw [gatesF, gatesF]
    by_cases h : xs.length < 2
    · rw [if_pos h, if_pos h]
    · by_cases h' : xs.length = 2
      · rw [if_neg h, if_neg h, if_pos h', if_pos h']
      · have hu := upper_length xs
        have hl := lower_length xs
        rw [if_neg h, if_neg h, if_neg h', if_neg h', gatesF_fuel f g (upper xs) (by omega) (by omega), gatesF_fuel f g (lower xs) (by omega) (by omega)]

def gatesL (xs : List Int) : List (Int × Int) := gatesF xs.length xs

theorem gatesL_few (xs : List Int) (h : xs.length < 2) : gatesL xs = [] := by
  unfold gatesL
  cases hn : xs.length with
  | zero => rfl
  | succ n => rw [gatesF, if_pos h]

theorem gatesL_two (xs : List Int) (h : xs.length = 2) : gatesL xs = [(xs.getD 0 0, xs.getD 1 0)] := by
  unfold gatesL
  rw [h, gatesF, if_neg (by omega), if_pos h]

theorem gatesL_more (xs : List Int) (h : 2 < xs.length) : gatesL xs = pairs (xs.length / 2) xs ++ gatesL (upper xs) ++ gatesL (lower xs) ++ pairs (lastRow xs.length) xs := by
  unfold gatesL
  obtain ⟨n, hn⟩ : ∃ n, xs.length = n + 1 := ⟨xs.length - 1, by omega⟩
  have hu := upper_length xs
  have hl := lower_length xs
  rw [gatesF_fuel xs.length (n + 1) xs (Nat.le_refl _) (by omega), gatesF, if_neg (by omega), if_neg (by omega), gatesF_fuel n _ (upper xs) (by omega) (Nat.le_refl _),
    gatesF_fuel n _ (lower xs) (by omega) (Nat.le_refl _)]

/-! How many. -/
def cntF : Nat → Nat → Nat
  | 0, _ => 0
  | f + 1, n => if n < 2 then 0 else if n = 2 then 1 else n / 2 + cntF f (n / 2) + cntF f (n - n / 2) + lastRow n

theorem cntF_succ (f n : Nat) : cntF (f + 1) n = if n < 2 then 0 else if n = 2 then 1 else n / 2 + cntF f (n / 2) + cntF f (n - n / 2) + lastRow n := rfl

theorem gatesF_length : ∀ (f : Nat) (xs : List Int), (gatesF f xs).length = cntF f xs.length
  | 0, _ => rfl
  | f + 1, xs => by
    rw [gatesF, cntF]
    by_cases h : xs.length < 2
    · rw [if_pos h, if_pos h]; rfl
    · by_cases h' : xs.length = 2
      · rw [if_neg h, if_neg h, if_pos h', if_pos h']; rfl
      · rw [if_neg h, if_neg h, if_neg h', if_neg h']
        simp only [List.length_append, pairs, List.length_map, List.length_range, gatesF_length f, upper_length, lower_length]

/-- The least k with 2 to the k not below i. -/
def logUp (i : Nat) : Nat → Nat
  | 0 => 0
  | f + 1 => let k := logUp i f; if 2 ^ k < i then k + 1 else k

def wantTo : Nat → Nat
  | 0 => 0
  | n + 1 => wantTo n + (if n + 1 < 2 then 0 else logUp (n + 1) 9)

theorem cnt_few (n : Nat) (h : n ≤ 256) : cntF 10 n = wantTo n := by
  have H : (List.range 257).all (fun n => cntF 10 n == wantTo n) = true := by decide +kernel
  have := List.all_eq_true.1 H n (by simp; omega)
  simpa using this

theorem cntF_fuel : ∀ (f n : Nat), n ≤ 2 ^ f → ∀ g, f ≤ g → cntF (f + 1) n = cntF (g + 1) n
  | 0, n, h, g, _ => by rw [cntF_succ 0, cntF_succ g, if_pos (by omega), if_pos (by omega)]
  | f + 1, n, h, g, hg => by
    obtain ⟨g', rfl⟩ : ∃ g', g = g' + 1 := ⟨g - 1, by omega⟩
    rw [Nat.pow_succ] at h
    rw [cntF_succ (f + 1), cntF_succ (g' + 1), cntF_fuel f (n / 2) (by omega) g' (by omega), cntF_fuel f (n - n / 2) (by omega) g' (by omega)]

theorem gatesL_length (xs : List Int) (h : xs.length ≤ 256) : (gatesL xs).length = wantTo xs.length := by
  have e : gatesL xs = gatesF (max xs.length 10) xs := gatesF_fuel _ _ _ (Nat.le_refl _) (by omega)
  rw [e, gatesF_length, ← cnt_few _ h]
  obtain ⟨g, hg⟩ : ∃ g, max xs.length 10 = g + 1 := ⟨max xs.length 10 - 1, by omega⟩
  rw [hg, ← cntF_fuel 8 xs.length (by omega) g (by omega), ← cntF_fuel 8 xs.length (by omega) 9 (by omega)]

/-! The wires of a gate. -/
def Rising (n : Int) (xs : List Int) : Prop := (∀ i, i < xs.length → 0 ≤ xs.getD i 0 ∧ xs.getD i 0 < n) ∧ ∀ i j, j < xs.length → i < j → xs.getD i 0 < xs.getD j 0

theorem upTo_pos (n : Nat) (xs : List Int) : ∀ j, j ≤ n → ∀ i, i < (upTo n xs j).length → (upTo n xs j).getD i 0 = xs.getD (2 * i) 0
  | 0, _, i, h => by simp [upTo] at h
  | j + 1, hj, i, h => by
    have ih := upTo_pos n xs j (by omega)
    have hl := upTo_length n xs j (by omega)
    rw [upTo] at h ⊢
    by_cases hu : isUp n j = true
    · rw [if_pos hu] at h ⊢
      simp [isUp] at hu
      simp only [List.length_append, List.length_singleton] at h
      rcases Nat.lt_or_ge i (upTo n xs j).length with h1 | h1
      · rw [← ih i h1]; simp [List.getD, List.getElem?_append_left h1]
      · have : i = (upTo n xs j).length := by omega
        have e : 2 * i = j := by omega
        rw [e]; simp [List.getD, this]
    · rw [if_neg hu] at h ⊢
      simp only [List.append_nil] at h ⊢
      exact ih i h

theorem lowTo_pos (n : Nat) (xs : List Int) : ∀ j, j ≤ n → ∀ i, i < (lowTo n xs j).length → (lowTo n xs j).getD i 0 = xs.getD (if i < n / 2 then 2 * i + 1 else 2 * (n / 2) + (i - n / 2)) 0
  | 0, _, i, h => by simp [lowTo] at h
  | j + 1, hj, i, h => by
    have ih := lowTo_pos n xs j (by omega)
    have hl := upTo_length n xs j (by omega)
    have hb := both_length n xs j
    rw [lowTo] at h ⊢
    by_cases hu : isUp n j = true
    · rw [if_pos hu] at h ⊢
      simp only [List.append_nil] at h ⊢
      exact ih i h
    · rw [if_neg hu] at h ⊢
      simp [isUp] at hu
      simp only [List.length_append, List.length_singleton] at h
      rcases Nat.lt_or_ge i (lowTo n xs j).length with h1 | h1
      · rw [← ih i h1]; simp [List.getD, List.getElem?_append_left h1]
      · have hi : i = (lowTo n xs j).length := by omega
        have e : (if i < n / 2 then 2 * i + 1 else 2 * (n / 2) + (i - n / 2)) = j := by
          split <;> omega
        rw [e]; simp [List.getD, hi]

theorem rising_upper {n : Int} {xs : List Int} (h : Rising n xs) : Rising n (upper xs) := by
  have hl := upper_length xs
  refine ⟨fun i hi => ?_, fun i j hj hij => ?_⟩
  · rw [upper, upTo_pos _ _ _ (Nat.le_refl _) _ (by exact hi)]; exact h.1 _ (by omega)
  · rw [upper, upTo_pos _ _ _ (Nat.le_refl _) _ (by unfold upper at hj; omega), upTo_pos _ _ _ (Nat.le_refl _) _ (by exact hj)]; exact h.2 _ _ (by omega) (by omega)

theorem rising_lower {n : Int} {xs : List Int} (h : Rising n xs) : Rising n (lower xs) := by
  have hl := lower_length xs
  refine ⟨fun i hi => ?_, fun i j hj hij => ?_⟩
  · rw [lower, lowTo_pos _ _ _ (Nat.le_refl _) _ (by exact hi)]; exact h.1 _ (by split <;> omega)
  · rw [lower, lowTo_pos _ _ _ (Nat.le_refl _) _ (by unfold lower at hj; omega), lowTo_pos _ _ _ (Nat.le_refl _) _ (by exact hj)]
    refine h.2 _ _ (by split <;> omega) (by split <;> split <;> omega)

/-- A gate is on two wires, the first below the second, both of the network. -/
def GoodGates (n : Int) (l : List (Int × Int)) : Prop := ∀ g ∈ l, 0 ≤ g.1 ∧ g.1 < g.2 ∧ g.2 < n

theorem pairs_good {n : Int} {xs : List Int} (h : Rising n xs) (k : Nat) (hk : 2 * k ≤ xs.length) : GoodGates n (pairs k xs) := by
  intro g hg
  simp only [pairs, List.mem_map, List.mem_range] at hg
  obtain ⟨i, hi, rfl⟩ := hg
  exact ⟨(h.1 _ (by omega)).1, h.2 _ _ (by omega) (by omega), (h.1 _ (by omega)).2⟩

theorem gatesF_good {n : Int} : ∀ (f : Nat) (xs : List Int), Rising n xs → GoodGates n (gatesF f xs)
  | 0, _, _ => by intro g hg; simp [gatesF] at hg
  | f + 1, xs, h => by
    rw [gatesF]
    by_cases h1 : xs.length < 2
    · rw [if_pos h1]; intro g hg; simp at hg
    · by_cases h2 : xs.length = 2
      · rw [if_neg h1, if_pos h2]
        intro g hg
        simp only [List.mem_singleton] at hg
        subst hg
        exact ⟨(h.1 _ (by omega)).1, h.2 _ _ (by omega) (by omega), (h.1 _ (by omega)).2⟩
      · rw [if_neg h1, if_neg h2]
        intro g hg
        simp only [List.mem_append] at hg
        rcases hg with ((hg | hg) | hg) | hg
        · exact pairs_good h _ (by omega) g hg
        · exact gatesF_good f _ (rising_upper h) g hg
        · exact gatesF_good f _ (rising_lower h) g hg
        · exact pairs_good h _ (by unfold lastRow; omega) g hg

def iota (n : Nat) : List Int := (List.range n).map fun (i : Nat) => (i : Int)
theorem iota_length (n : Nat) : (iota n).length = n := by simp [iota]
theorem iota_getD (n i : Nat) (h : i < n) : (iota n).getD i 0 = i := by simp [iota, List.getD, h]
theorem iota_succ (n : Nat) : iota (n + 1) = iota n ++ [(n : Int)] := by simp [iota, List.range_succ]

theorem rising_iota (n : Nat) : Rising n (iota n) := by
  refine ⟨fun i hi => ?_, fun i j hj hij => ?_⟩
  · rw [iota_length] at hi; rw [iota_getD _ _ hi]; omega
  · rw [iota_length] at hj; rw [iota_getD _ _ hj, iota_getD _ _ (by omega)]; omega

theorem plan_good (n : Nat) : GoodGates n (gatesL (iota n)) := gatesF_good _ _ (rising_iota n)

end Go.Proofs.Ytdlnnkbigeiilaa

/- Blocks of a cover: plain numbers. No condition. -/
namespace Go.Proofs.Ytdlnnkbigeiilaa

/-- The greatest power of two, from 2 to the k down, that is not above d and divides lo. -/
def down : Nat → Nat → Nat → Nat
  | 0, _, _ => 1
  | k + 1, lo, d => if 2 ^ (k + 1) ≤ d ∧ lo % 2 ^ (k + 1) = 0 then 2 ^ (k + 1) else down k lo d

theorem down_pow (lo d : Nat) : ∀ k, ∃ j, j ≤ k ∧ down k lo d = 2 ^ j
  | 0 => ⟨0, Nat.le_refl _, rfl⟩
  | k + 1 => by
    rw [down]
    split
    · exact ⟨k + 1, Nat.le_refl _, rfl⟩
    · obtain ⟨j, h1, h2⟩ := down_pow lo d k
      exact ⟨j, by omega, h2⟩

theorem down_le (lo d : Nat) (hd : 1 ≤ d) : ∀ k, down k lo d ≤ d
  | 0 => hd
  | k + 1 => by
    rw [down]
    split
    · next h => exact h.1
    · exact down_le lo d hd k

theorem down_pos (lo d k : Nat) : 1 ≤ down k lo d := by
  obtain ⟨j, _, h⟩ := down_pow lo d k
  rw [h]
  exact Nat.one_le_two_pow

/-- Whatever is a power of two, fits, and is not less than another that fits, is that one. -/
theorem down_eq (lo d j : Nat) (h1 : 2 ^ j ≤ d) (h2 : lo % 2 ^ j = 0) (h3 : ∀ i, j < i → ¬ (2 ^ i ≤ d ∧ lo % 2 ^ i = 0)) : ∀ k, j ≤ k → down k lo d = 2 ^ j
  | 0, h => by
    have : j = 0 := by omega
    subst this; rfl
  | k + 1, h => by
    rw [down]
    by_cases e : j = k + 1
    · subst e
      rw [if_pos ⟨h1, h2⟩]
    · rw [if_neg (h3 (k + 1) (by omega))]
      exact down_eq lo d j h1 h2 h3 k (by omega)

/-! The lowest bit. -/
theorem land_compl (w m : Nat) (h : m < 2 ^ w) : m &&& (2 ^ w - (m + 1)) = 0 := by
  apply Nat.eq_of_testBit_eq
  intro i
  rw [Nat.testBit_and, Nat.testBit_two_pow_sub_succ h, Nat.zero_testBit]
  cases m.testBit i <;> simp

theorem low_bit : ∀ (w n : Nat), 0 < n → n < 2 ^ w → ∃ t, n &&& (2 ^ w - n) = 2 ^ t ∧ n % 2 ^ t = 0 ∧ n % 2 ^ (t + 1) ≠ 0
  | 0, n, h0, h1 => by simp at h1; omega
  | w + 1, n, h0, h1 => by
    rw [Nat.pow_succ] at h1
    rcases Nat.mod_two_eq_zero_or_one n with h | h
    · obtain ⟨m, rfl⟩ : ∃ m, n = 2 * m := ⟨n / 2, by omega⟩
      obtain ⟨t, e1, e2, e3⟩ := low_bit w m (by omega) (by omega)
      have k : 2 ^ (w + 1) - 2 * m = 2 * (2 ^ w - m) := by rw [Nat.pow_succ]; omega
      refine ⟨t + 1, ?_, ?_, ?_⟩
      · rw [k]
        have hd : (2 * m &&& 2 * (2 ^ w - m)) / 2 = 2 ^ t := by
          rw [Nat.and_div_two, Nat.mul_div_cancel_left _ (by omega), Nat.mul_div_cancel_left _ (by omega), e1]
        have hm : (2 * m &&& 2 * (2 ^ w - m)) % 2 = 0 := by
          have := Nat.and_mod_two_pow (a := 2 * m) (b := 2 * (2 ^ w - m)) (n := 1)
          simp at this
          omega
        rw [Nat.pow_succ]; omega
      · rw [Nat.pow_succ, Nat.mul_comm (2 ^ t) 2, Nat.mul_mod_mul_left, e2]
      · rw [Nat.pow_succ, Nat.mul_comm (2 ^ (t + 1)) 2, Nat.mul_mod_mul_left]
        omega
    · obtain ⟨m, rfl⟩ : ∃ m, n = 2 * m + 1 := ⟨n / 2, by omega⟩
      have k : 2 ^ (w + 1) - (2 * m + 1) = 2 * (2 ^ w - (m + 1)) + 1 := by rw [Nat.pow_succ]; omega
      refine ⟨0, ?_, by simp [Nat.mod_one], by rw [Nat.zero_add, Nat.pow_one]; omega⟩
      rw [k]
      have hd : ((2 * m + 1) &&& (2 * (2 ^ w - (m + 1)) + 1)) / 2 = 0 := by
        rw [Nat.and_div_two, show (2 * m + 1) / 2 = m by omega, show (2 * (2 ^ w - (m + 1)) + 1) / 2 = 2 ^ w - (m + 1) by omega]
        exact land_compl w m (by omega)
      have hm : ((2 * m + 1) &&& (2 * (2 ^ w - (m + 1)) + 1)) % 2 = 1 := by
        have := Nat.and_mod_two_pow (a := 2 * m + 1) (b := 2 * (2 ^ w - (m + 1)) + 1) (n := 1)
        rw [show (2 : Nat) ^ 1 = 2 from rfl, show (2 * m + 1) % 2 = 1 by omega, show (2 * (2 ^ w - (m + 1)) + 1) % 2 = 1 by omega] at this
        exact this.trans (by decide)
      rw [Nat.pow_zero]; omega

theorem bitLenAux_ok : ∀ (f x : Nat), x < 2 ^ f → x < 2 ^ Lib.bitLenAux f x ∧ (0 < x → 2 ^ Lib.bitLenAux f x ≤ 2 * x)
  | 0, x, h => by simp at h; subst h; simp [Lib.bitLenAux]
  | f + 1, x, h => by
    rw [Nat.pow_succ] at h
    rw [Lib.bitLenAux]
    split
    · next e => subst e; simp
    · next e =>
      obtain ⟨a, b⟩ := bitLenAux_ok f (x / 2) (by omega)
      rw [Nat.add_comm 1, Nat.pow_succ]
      refine ⟨by omega, fun _ => ?_⟩
      by_cases hx : x / 2 = 0
      · rw [hx]
        have : Lib.bitLenAux f 0 = 0 := by cases f <;> simp [Lib.bitLenAux]
        rw [this]; simp; omega
      · have := b (by omega)
        omega

theorem bitLen_ok (x : Nat) (h0 : 0 < x) (h : x < 2 ^ 64) : 1 ≤ Lib.bitLen x ∧ 2 ^ (Lib.bitLen x - 1) ≤ x ∧ x < 2 ^ Lib.bitLen x := by
  obtain ⟨a, b⟩ := bitLenAux_ok 64 x h
  have hb := b h0
  have h1 : 1 ≤ Lib.bitLen x := by
    rcases Nat.eq_zero_or_pos (Lib.bitLen x) with e | e
    · have a' : x < 2 ^ Lib.bitLen x := a
      rw [e] at a'; simp at a'; omega
    · exact e
  refine ⟨h1, ?_, a⟩
  obtain ⟨k, hk⟩ : ∃ k, Lib.bitLen x = k + 1 := ⟨Lib.bitLen x - 1, by omega⟩
  have hb' : 2 ^ Lib.bitLen x ≤ 2 * x := hb
  rw [hk, Nat.pow_succ] at hb'
  rw [hk]; simp; omega

theorem bitLen_le (x k : Nat) (h0 : 0 < x) (h : x < 2 ^ k) (hk : k ≤ 64) : Lib.bitLen x ≤ k := by
  have h64 : x < 2 ^ 64 := Nat.lt_of_lt_of_le h (Nat.pow_le_pow_right (by omega) hk)
  obtain ⟨a, b, _⟩ := bitLen_ok x h0 h64
  have : 2 ^ (Lib.bitLen x - 1) < 2 ^ k := Nat.lt_of_le_of_lt b h
  have := (Nat.pow_lt_pow_iff_right (a := 2) (by omega)).1 this
  omega

theorem pow_mod_mono (lo i j : Nat) (h : j ≤ i) (hi : lo % 2 ^ i = 0) : lo % 2 ^ j = 0 := by
  have hd : 2 ^ j ∣ 2 ^ i := Nat.pow_dvd_pow 2 h
  exact Nat.mod_eq_zero_of_dvd (Nat.dvd_trans hd (Nat.dvd_of_mod_eq_zero hi))

/-- What the program reckons at nought. -/
theorem piece_zero (d : Nat) (h0 : 0 < d) (hd : d ≤ 1048576) : down 20 0 d = 2 ^ (Lib.bitLen d - 1) := by
  obtain ⟨a, b, c⟩ := bitLen_ok d h0 (by omega)
  have hle := bitLen_le d 21 h0 (by omega) (by omega)
  refine down_eq 0 d _ b (by simp) (fun i hi h => ?_) 20 (by omega)
  have : 2 ^ Lib.bitLen d ≤ 2 ^ i := Nat.pow_le_pow_right (by omega) (by omega)
  omega

/-- What the program reckons further on: the lesser of two powers. -/
theorem piece_more (lo d : Nat) (h0 : 0 < d) (hd : d ≤ 1048576) (hl : 0 < lo) (hl2 : lo < 2 ^ 64) : down 20 lo d = min (2 ^ (Lib.bitLen d - 1)) (lo &&& (2 ^ 64 - lo)) := by
  obtain ⟨a, b, c⟩ := bitLen_ok d h0 (by omega)
  have hle := bitLen_le d 21 h0 (by omega) (by omega)
  obtain ⟨t, e1, e2, e3⟩ := low_bit 64 lo hl hl2
  rw [e1]
  by_cases h : Lib.bitLen d - 1 ≤ t
  · have hm : min (2 ^ (Lib.bitLen d - 1)) (2 ^ t) = 2 ^ (Lib.bitLen d - 1) := Nat.min_eq_left (Nat.pow_le_pow_right (by omega) h)
    rw [hm]
    refine down_eq lo d _ b (pow_mod_mono lo t _ h e2) (fun i hi hh => ?_) 20 (by omega)
    have : 2 ^ Lib.bitLen d ≤ 2 ^ i := Nat.pow_le_pow_right (by omega) (by omega)
    omega
  · have hm : min (2 ^ (Lib.bitLen d - 1)) (2 ^ t) = 2 ^ t := Nat.min_eq_right (Nat.pow_le_pow_right (by omega) (by omega))
    rw [hm]
    refine down_eq lo d _ (Nat.le_trans (Nat.pow_le_pow_right (by omega) (by omega)) b) e2 (fun i hi hh => ?_) 20 (by omega)
    exact e3 (pow_mod_mono lo i (t + 1) (by omega) hh.2)

/-- The blocks of a cover. -/
def parts : Nat → Nat → Nat → List (Int × Int)
  | 0, _, _ => []
  | f + 1, lo, hi => if lo < hi then ((lo : Int), ((lo + down 20 lo (hi - lo) : Nat) : Int)) :: parts f (lo + down 20 lo (hi - lo)) hi else []

theorem parts_fuel : ∀ (f g lo hi : Nat), hi - lo ≤ f → hi - lo ≤ g → parts f lo hi = parts g lo hi
  | 0, 0, _, _, _, _ => rfl
  | 0, g + 1, lo, hi, h1, _ => by rw [parts, parts, if_neg (by omega)]
  | f + 1, 0, lo, hi, _, h2 => by rw [parts, parts, if_neg (by omega)]
  | f + 1, g + 1, lo, hi, h1, h2 => by
    rw [parts, parts]
    split
    · have := down_pos lo (hi - lo) 20
      rw [parts_fuel f g _ hi (by omega) (by omega)]
    · rfl

def cover (lo hi : Nat) : List (Int × Int) := parts (hi - lo) lo hi

theorem cover_none (lo hi : Nat) (h : hi ≤ lo) : cover lo hi = [] := by
  rw [cover, show hi - lo = 0 by omega]; rfl

theorem cover_some (lo hi : Nat) (h : lo < hi) : cover lo hi = ((lo : Int), ((lo + down 20 lo (hi - lo) : Nat) : Int)) :: cover (lo + down 20 lo (hi - lo)) hi := by
  obtain ⟨k, hk⟩ : ∃ k, hi - lo = k + 1 := ⟨hi - lo - 1, by omega⟩
  have := down_pos lo (hi - lo) 20
  rw [cover, cover, hk, parts, if_pos h, ← hk, parts_fuel k (hi - (lo + down 20 lo (hi - lo))) _ hi (by omega) (by omega)]

theorem parts_length : ∀ (f lo hi : Nat), (parts f lo hi).length ≤ f
  | 0, _, _ => by simp [parts]
  | f + 1, lo, hi => by
    rw [parts]
    split
    · simpa using parts_length f _ hi
    · simp

theorem cover_length (lo hi : Nat) : (cover lo hi).length ≤ hi - lo := parts_length _ _ _

end Go.Proofs.Ytdlnnkbigeiilaa

/- Digests of blocks, put together: what the program's heap and the document's pairs make of them. Plain. No condition. -/
namespace Go.Proofs.Ytdlnnkbigeiilaa

/-- A block of entries from lo on below hi, and its digest. -/
structure Pc where
  lo : Nat
  hi : Nat
  d : ByteArray

/-- Are these the halves of a block? -/
def halves (a b : Pc) : Bool := decide (b.hi - b.lo = a.hi - a.lo) && decide (a.lo % (2 * (b.hi - b.lo)) = 0)

section
variable (H : ByteArray → ByteArray → ByteArray)

def both (a b : Pc) : Pc := ⟨a.lo, b.hi, H a.d b.d⟩

/-- A heap (the last one first) takes one more. -/
def mergeH : List Pc → Pc → List Pc
  | [], s => [s]
  | t :: r, s => if halves t s = true then mergeH r (both H t s) else s :: t :: r

def heapH (st l : List Pc) : List Pc := l.foldl (mergeH H) st
/-- What is left of a row of blocks when all halves are put together. -/
def leftH (l : List Pc) : List Pc := (heapH H [] l).reverse

theorem heapH_append (st l m : List Pc) : heapH H st (l ++ m) = heapH H (heapH H st l) m := List.foldl_append ..

/-- Where no two are halves, nothing is put together. -/
theorem heapH_none : ∀ (l : List Pc) (st : List Pc), (∀ t ∈ st.head?, ∀ x ∈ l.head?, halves t x = false) → (∀ j (h : j + 1 < l.length), halves l[j] l[j + 1] = false) → heapH H st l = l.reverse ++ st
  | [], st, _, _ => rfl
  | x :: l, st, h1, h2 => by
    have e : mergeH H st x = x :: st := by
      cases st with
      | nil => rfl
      | cons t r => rw [mergeH, if_neg (by rw [h1 t rfl x rfl]; decide)]
    show heapH H (mergeH H st x) l = _
    rw [e, heapH_none l (x :: st) ?_ (fun j h => h2 (j + 1) (by simpa using h))]
    · simp
    · intro t ht y hy
      cases ht
      cases l with
      | nil => cases hy
      | cons z l => cases hy; exact h2 0 (by simp)

/-- What the document's look for a pair answers. -/
def PairR (l : List Pc) (r : Int) : Prop :=
  (r = -1 ∧ ∀ j (h : j + 1 < l.length), halves l[j] l[j + 1] = false) ∨ ∃ i : Nat, r = i ∧ ∃ h : i + 1 < l.length, halves l[i] l[i + 1] = true ∧ ∀ j (hj : j < i), halves l[j] l[j + 1] = false

theorem leftH_none {l : List Pc} (h : ∀ j (h : j + 1 < l.length), halves l[j] l[j + 1] = false) : leftH H l = l := by
  rw [leftH, heapH_none H l [] (by simp) h]; simp

theorem leftH_pair {l : List Pc} {i : Nat} (h : i + 1 < l.length) (h1 : halves l[i] l[i + 1] = true) (h2 : ∀ j (hj : j < i), halves l[j] l[j + 1] = false) :
    leftH H (l.take i ++ both H l[i] l[i + 1] :: l.drop (i + 2)) = leftH H l := by
  have e0 : l = l.take (i + 1) ++ l[i + 1] :: l.drop (i + 2) := by
    rw [← List.drop_eq_getElem_cons h, List.take_append_drop]
  have e1 : heapH H [] (l.take (i + 1)) = (l.take (i + 1)).reverse ++ [] := heapH_none H _ _ (by simp) (fun j hj => by
    rw [List.length_take] at hj
    rw [List.getElem_take, List.getElem_take]
    exact h2 j (by omega))
  have e2 : heapH H [] (l.take i) = (l.take i).reverse ++ [] := heapH_none H _ _ (by simp) (fun j hj => by
    rw [List.length_take] at hj
    rw [List.getElem_take, List.getElem_take]
    exact h2 j (by omega))
  have e3 : (l.take (i + 1)).reverse = l[i] :: (l.take i).reverse := by
    rw [List.take_succ_eq_append_getElem (by omega : i < l.length)]; simp
  unfold leftH
  rw [heapH_append, e2, List.append_nil]
  conv => rhs; rw [e0]
  rw [heapH_append, e1, List.append_nil, e3]
  show (heapH H (mergeH H _ _) _).reverse = (heapH H (mergeH H _ _) _).reverse
  rw [mergeH.eq_2, if_pos h1]

theorem leftH_len (l : List Pc) : (leftH H l).length ≤ l.length := by
  have hm : ∀ (st : List Pc) (s : Pc), (mergeH H st s).length ≤ st.length + 1 := by
    intro st
    induction st with
    | nil => intro s; simp [mergeH]
    | cons t r ih =>
      intro s
      rw [mergeH]
      split
      · have := ih (both H t s); simp; omega
      · simp
  have hh : ∀ (l st : List Pc), (heapH H st l).length ≤ st.length + l.length := by
    intro l
    induction l with
    | nil => intro st; simp [heapH]
    | cons x l ih =>
      intro st
      have h1 := ih (mergeH H st x)
      have h2 := hm st x
      show (heapH H (mergeH H st x) l).length ≤ _
      simp only [List.length_cons]; omega
  have := hh l []
  simpa [leftH] using this

/-- Blocks that lie one behind the other, from a to b. -/
def RunP : Nat → List Pc → Nat → Prop
  | a, [], b => a = b
  | a, x :: l, b => x.lo = a ∧ a < x.hi ∧ RunP x.hi l b
/-- The same, the last one first. -/
def RunR (a : Nat) : List Pc → Nat → Prop
  | [], b => a = b
  | x :: l, b => x.hi = b ∧ x.lo < b ∧ RunR a l x.lo

theorem RunR.le {a : Nat} : ∀ {l : List Pc} {b : Nat}, RunR a l b → a ≤ b
  | [], _, h => Nat.le_of_eq h
  | _ :: _, _, h => Nat.le_of_lt (Nat.lt_of_le_of_lt h.2.2.le h.2.1)
theorem RunP.le {b : Nat} : ∀ {l : List Pc} {a : Nat}, RunP a l b → a ≤ b
  | [], _, h => Nat.le_of_eq h
  | _ :: _, _, h => Nat.le_trans (Nat.le_of_lt h.2.1) (RunP.le h.2.2)

theorem RunR.merge {a : Nat} : ∀ {st : List Pc} {s : Pc}, RunR a st s.lo → s.lo < s.hi → RunR a (mergeH H st s) s.hi
  | [], s, h, hs => ⟨rfl, hs, h⟩
  | t :: r, s, h, hs => by
    rw [mergeH]
    split
    · exact RunR.merge (s := both H t s) h.2.2 (by show t.lo < s.hi; have := h.2.1; omega)
    · exact ⟨rfl, hs, h⟩

theorem RunR.heap {a : Nat} : ∀ {l st : List Pc} {b c : Nat}, RunR a st b → RunP b l c → RunR a (heapH H st l) c
  | [], _, _, _, h, h1 => by cases h1; exact h
  | x :: l, st, b, c, h, h1 => by
    obtain ⟨e, e1, e2⟩ := h1
    subst e
    exact RunR.heap (l := l) (RunR.merge H h e1) e2

/-! A block's entries. -/
variable (leaf : ByteArray → ByteArray)
/-- The document's digest of a block. -/
def blockH : Nat → List ByteArray → ByteArray
  | 0, l => leaf (l.headD ⟨#[]⟩)
  | f + 1, l => if l.length = 1 then leaf (l.headD ⟨#[]⟩) else H (blockH f (l.take (l.length / 2))) (blockH f (l.drop (l.length / 2)))

def leavesH : Nat → List ByteArray → List Pc
  | _, [] => []
  | i, e :: l => ⟨i, i + 1, leaf e⟩ :: leavesH (i + 1) l

theorem leavesH_append (l m : List ByteArray) (i : Nat) : leavesH leaf i (l ++ m) = leavesH leaf i l ++ leavesH leaf (i + l.length) m := by
  induction l generalizing i with
  | nil => rfl
  | cons x l ih => simp only [List.cons_append, leavesH, ih, List.length_cons]; rw [show i + 1 + l.length = i + (l.length + 1) by omega]
theorem leavesH_run (l : List ByteArray) (i : Nat) : RunP i (leavesH leaf i l) (i + l.length) := by
  induction l generalizing i with
  | nil => rfl
  | cons x l ih => exact ⟨rfl, Nat.lt_succ_self _, by have := ih (i + 1); rwa [show i + 1 + l.length = i + (x :: l).length by simp; omega] at this⟩

theorem blockH_fuel : ∀ (f g : Nat) (l : List ByteArray), l ≠ [] → l.length ≤ f + 1 → l.length ≤ g + 1 → blockH H leaf f l = blockH H leaf g l := by
  intro f
  induction f with
  | zero =>
    intro g l h0 h1 _
    have hl : l.length = 1 := by have := List.length_pos_iff.2 h0; omega
    cases g with
    | zero => rfl
    | succ g => rw [blockH, blockH, if_pos hl]
  | succ f ih =>
    intro g l h0 h1 h2
    have hp := List.length_pos_iff.2 h0
    by_cases hl : l.length = 1
    · cases g with
      | zero => rw [blockH, blockH, if_pos hl]
      | succ g => rw [blockH, blockH, if_pos hl, if_pos hl]
    · cases g with
      | zero => omega
      | succ g =>
        rw [blockH, blockH, if_neg hl, if_neg hl]
        rw [ih g (l.take (l.length / 2)) (by rw [← List.length_pos_iff, List.length_take]; omega) (by rw [List.length_take]; omega) (by rw [List.length_take]; omega),
          ih g (l.drop (l.length / 2)) (by rw [← List.length_pos_iff, List.length_drop]; omega) (by rw [List.length_drop]; omega) (by rw [List.length_drop]; omega)]

theorem blockH_pow : ∀ (k : Nat) (l : List ByteArray), l.length = 2 ^ (k + 1) → blockH H leaf (k + 1) l = H (blockH H leaf k (l.take (2 ^ k))) (blockH H leaf k (l.drop (2 ^ k))) := by
  intro k l hl
  have h1 : 1 ≤ 2 ^ k := Nat.one_le_two_pow
  rw [Nat.pow_succ] at hl
  rw [blockH, if_neg (by omega), show l.length / 2 = 2 ^ k by omega]

/-- Entries that are a block come out as one. -/
theorem heapH_block : ∀ (k : Nat) (l : List ByteArray), l.length = 2 ^ k → ∀ (st : List Pc) (a lo : Nat), RunR a st lo → lo % 2 ^ k = 0 →
    heapH H st (leavesH leaf lo l) = mergeH H st ⟨lo, lo + 2 ^ k, blockH H leaf k l⟩ := by
  intro k
  induction k with
  | zero =>
    intro l hl st a lo hr hm
    match l, hl with
    | [e], _ => rfl
  | succ k ih =>
    intro l hl st a lo hr hm
    have hp : 2 ^ (k + 1) = 2 ^ k + 2 ^ k := by rw [Nat.pow_succ]; omega
    have h1 : 1 ≤ 2 ^ k := Nat.one_le_two_pow
    have hm' : lo % 2 ^ k = 0 := pow_mod_mono lo (k + 1) k (by omega) hm
    have e : l = l.take (2 ^ k) ++ l.drop (2 ^ k) := (List.take_append_drop _ _).symm
    have hl1 : (l.take (2 ^ k)).length = 2 ^ k := by rw [List.length_take]; omega
    have hl2 : (l.drop (2 ^ k)).length = 2 ^ k := by rw [List.length_drop]; omega
    have e1 : mergeH H st ⟨lo, lo + 2 ^ k, blockH H leaf k (l.take (2 ^ k))⟩ = ⟨lo, lo + 2 ^ k, blockH H leaf k (l.take (2 ^ k))⟩ :: st := by
      cases st with
      | nil => rfl
      | cons t r =>
        rw [mergeH, if_neg]
        intro h
        unfold halves at h
        simp only [Bool.and_eq_true, decide_eq_true_eq] at h
        obtain ⟨hq, hw⟩ := h
        obtain ⟨h3, h4, _⟩ := hr
        have h5 : t.lo + 2 ^ k = lo := by
          have hq' : lo + 2 ^ k - lo = t.hi - t.lo := hq
          omega
        have h6 : 2 * (lo + 2 ^ k - lo) = 2 ^ (k + 1) := by omega
        have hw : t.lo % (2 * (lo + 2 ^ k - lo)) = 0 := hw
        rw [h6] at hw
        have h7 : (t.lo + 2 ^ k) % 2 ^ (k + 1) = 2 ^ k := by
          rw [Nat.add_mod, hw, Nat.zero_add, Nat.mod_mod, Nat.mod_eq_of_lt (by omega)]
        rw [h5, hm] at h7
        omega
    conv => lhs; rw [e]
    rw [leavesH_append, heapH_append, hl1, ih _ hl1 st a lo hr hm', e1, ih _ hl2 _ a (lo + 2 ^ k) (show RunR a (⟨lo, lo + 2 ^ k, blockH H leaf k (l.take (2 ^ k))⟩ :: st) (lo + 2 ^ k) from ⟨rfl, by show lo < lo + 2 ^ k; omega, hr⟩) (by rw [Nat.add_mod_right]; exact hm')]
    rw [mergeH, if_pos, blockH_pow H leaf k l hl]
    · show mergeH H st ⟨lo, lo + 2 ^ k + 2 ^ k, _⟩ = _
      rw [show lo + 2 ^ k + 2 ^ k = lo + 2 ^ (k + 1) by omega]
    · unfold halves
      simp only [Bool.and_eq_true, decide_eq_true_eq]
      refine ⟨by omega, ?_⟩
      rw [show 2 * (lo + 2 ^ k + 2 ^ k - (lo + 2 ^ k)) = 2 ^ (k + 1) by omega]
      exact hm

theorem heapH_one (k : Nat) (l : List ByteArray) (hl : l.length = 2 ^ k) : heapH H [] (leavesH leaf 0 l) = [⟨0, 2 ^ k, blockH H leaf l.length l⟩] := by
  have h1 : 1 ≤ 2 ^ k := Nat.one_le_two_pow
  have hk : k < 2 ^ k := Nat.lt_two_pow_self
  rw [heapH_block H leaf k l hl [] 0 0 rfl (Nat.zero_mod _), Nat.zero_add]
  cases k with
  | zero => rw [blockH_fuel H leaf 0 l.length l (by rw [← List.length_pos_iff]; omega) (by omega) (by omega)]; rfl
  | succ k =>
    have hne : l ≠ [] := by rw [← List.length_pos_iff]; omega
    have hf : blockH H leaf (k + 1) l = blockH H leaf l.length l := by
      -- both fuels suffice, for halves of a power of two need its exponent alone
      clear hk h1
      have : ∀ (k : Nat) (l : List ByteArray) (g : Nat), l.length = 2 ^ k → k ≤ g → blockH H leaf k l = blockH H leaf g l := by
        intro k
        induction k with
        | zero =>
          intro l g hl _
          cases g with
          | zero => rfl
          | succ g => rw [blockH, blockH, if_pos (by simpa using hl)]
        | succ k ih =>
          intro l g hl hg
          obtain ⟨g, rfl⟩ : ∃ q, g = q + 1 := ⟨g - 1, by omega⟩
          have h1 : 1 ≤ 2 ^ k := Nat.one_le_two_pow
          have hl' := hl
          rw [Nat.pow_succ] at hl
          rw [blockH_pow H leaf k l hl', blockH, if_neg (by omega), show l.length / 2 = 2 ^ k by omega]
          rw [ih _ g (by rw [List.length_take]; omega) (by omega), ih _ g (by rw [List.length_drop]; omega) (by omega)]
      exact this (k + 1) l _ hl (by rw [hl]; exact Nat.le_of_lt Nat.lt_two_pow_self)
    rw [hf]; rfl
end

/-! The cover in natural numbers. -/
def partsN : Nat → Nat → Nat → List (Nat × Nat)
  | 0, _, _ => []
  | f + 1, lo, hi => if lo < hi then (lo, lo + down 20 lo (hi - lo)) :: partsN f (lo + down 20 lo (hi - lo)) hi else []
def coverN (lo hi : Nat) : List (Nat × Nat) := partsN (hi - lo) lo hi
theorem partsN_parts : ∀ (f lo hi : Nat), parts f lo hi = (partsN f lo hi).map (fun x => ((x.1 : Int), (x.2 : Int)))
  | 0, _, _ => rfl
  | f + 1, lo, hi => by
    rw [parts, partsN]
    split
    · rw [partsN_parts f]; rfl
    · rfl
theorem cover_coverN (lo hi : Nat) : cover lo hi = (coverN lo hi).map (fun x => ((x.1 : Int), (x.2 : Int))) := partsN_parts _ _ _

/-- Each part of a cover is a block. -/
theorem partsN_ok : ∀ (f lo hi : Nat), ∀ x ∈ partsN f lo hi, lo ≤ x.1 ∧ x.2 ≤ hi ∧ ∃ k, x.2 = x.1 + 2 ^ k ∧ x.1 % 2 ^ k = 0
  | 0, _, _, _, h => by cases h
  | f + 1, lo, hi, x, h => by
    rw [partsN] at h
    split at h
    next hlt =>
      have hle := down_le lo (hi - lo) (by omega) 20
      have hpos := down_pos lo (hi - lo) 20
      rcases List.mem_cons.1 h with rfl | h
      · refine ⟨Nat.le_refl _, by show lo + _ ≤ hi; omega, ?_⟩
        have hd : ∀ k, ∃ j, down k lo (hi - lo) = 2 ^ j ∧ lo % 2 ^ j = 0 := by
          intro k
          induction k with
          | zero => exact ⟨0, rfl, by simp [Nat.mod_one]⟩
          | succ k ih =>
            rw [down]
            split
            next h => exact ⟨k + 1, rfl, h.2⟩
            next h => exact ih
        obtain ⟨j, h1, h2⟩ := hd 20
        exact ⟨j, by show lo + _ = lo + _; rw [h1], h2⟩
      · obtain ⟨h1, h2, h3⟩ := partsN_ok f _ hi x h
        exact ⟨by omega, h2, h3⟩
    next => cases h
theorem coverN_ok {lo hi : Nat} {x : Nat × Nat} (h : x ∈ coverN lo hi) : lo ≤ x.1 ∧ x.2 ≤ hi ∧ ∃ k, x.2 = x.1 + 2 ^ k ∧ x.1 % 2 ^ k = 0 := partsN_ok _ _ _ x h

theorem partsN_run (ds : Nat → ByteArray) : ∀ (f lo hi i : Nat), lo ≤ hi → hi - lo ≤ f → RunP lo (((partsN f lo hi).zipIdx i).map fun x => ⟨x.1.1, x.1.2, ds x.2⟩) hi
  | 0, lo, hi, _, h1, h2 => by show lo = hi; omega
  | f + 1, lo, hi, i, h1, h2 => by
    rw [partsN]
    split
    next hlt =>
      have hle := down_le lo (hi - lo) (by omega) 20
      have hpos := down_pos lo (hi - lo) 20
      rw [List.zipIdx_cons, List.map_cons]
      exact ⟨rfl, by show lo < lo + down 20 lo (hi - lo); omega, partsN_run ds f (lo + down 20 lo (hi - lo)) hi (i + 1) (by omega) (by omega)⟩
    next h => show lo = hi; omega
theorem coverN_len (lo hi : Nat) : (coverN lo hi).length = (cover lo hi).length := by rw [cover_coverN, List.length_map]

end Go.Proofs.Ytdlnnkbigeiilaa

/- The digest in plain words: words of 32 bits, steps, pieces. No Go. No condition beyond those that each fact names. -/
namespace Go.Proofs.Ytdlnnkbigeiilaa

/-- A step: word a becomes itself and word o (and word m of the piece, if there is one) in sum; or, where t is not nought, it and word o apart, turned by t. -/
structure Stp where
  a : Nat
  o : Nat
  m : Option Nat
  t : Nat
deriving DecidableEq
abbrev WL := List (BitVec 32)
def rotB (x : BitVec 32) (n : Nat) : BitVec 32 := BitVec.ofNat 32 (x.toNat / 2 ^ n + x.toNat % 2 ^ n * 2 ^ (32 - n))
def stepB (m v : WL) (s : Stp) : WL :=
  v.set s.a (if s.t = 0 then (v.getD s.a 0 + v.getD s.o 0) + (match s.m with | some k => m.getD k 0 | none => 0) else rotB (v.getD s.a 0 ^^^ v.getD s.o 0) s.t)
def ordL : List (List Nat) := [[0,1,2,3,4,5,6,7,8,9,10,11,12,13,14,15],[14,10,4,8,9,15,13,6,1,12,0,2,11,7,5,3],[11,8,12,0,5,2,15,13,10,14,3,6,7,1,9,4],[7,9,3,1,13,12,11,14,2,6,5,10,4,0,15,8],[9,0,5,7,2,4,10,15,14,1,11,12,6,8,3,13],
  [2,12,6,10,0,11,8,3,4,13,7,5,15,14,1,9],[12,5,1,15,14,13,4,10,0,7,6,3,9,2,8,11],[13,11,7,14,12,1,3,9,5,0,15,4,8,6,2,10],[6,15,14,9,11,3,0,8,12,2,13,7,1,4,10,5],[10,2,8,4,7,6,1,5,15,11,9,14,3,12,13,0]]
def ordN (r i : Nat) : Nat := (ordL.getD r []).getD i 0
def cA (i : Nat) : Nat := i % 4
def cB (i : Nat) : Nat := 4 + (i % 4 + i / 4) % 4
def cC (i : Nat) : Nat := 8 + (i % 4 + 2 * (i / 4)) % 4
def cD (i : Nat) : Nat := 12 + (i % 4 + 3 * (i / 4)) % 4
def quartL (i x y : Nat) : List Stp := [⟨cA i, cB i, some x, 0⟩, ⟨cD i, cA i, none, 16⟩, ⟨cC i, cD i, none, 0⟩, ⟨cB i, cC i, none, 12⟩, ⟨cA i, cB i, some y, 0⟩, ⟨cD i, cA i, none, 8⟩, ⟨cC i, cD i, none, 0⟩, ⟨cB i, cC i, none, 7⟩]
def quartB (m v : WL) (r i : Nat) : WL := (quartL i (ordN r (2 * i)) (ordN r (2 * i + 1))).foldl (stepB m) v
/-- The steps of a row, of all rows. -/
def rowL (r : Nat) : List Stp := (List.range 8).flatMap fun i => quartL i (ordN r (2 * i)) (ordN r (2 * i + 1))
def allL : List Stp := (List.range 10).flatMap rowL
def stirB (v m : WL) : WL := allL.foldl (stepB m) v

theorem stepB_len (m v : WL) (s : Stp) : (stepB m v s).length = v.length := by unfold stepB; rw [List.length_set]
theorem steps_len (m : WL) : ∀ (l : List Stp) (v : WL), (l.foldl (stepB m) v).length = v.length
  | [], _ => rfl
  | s :: l, v => by rw [List.foldl_cons, steps_len m l, stepB_len]
theorem quartB_len (m v : WL) (r i : Nat) : (quartB m v r i).length = v.length := steps_len _ _ _
theorem stirB_len (v m : WL) : (stirB v m).length = v.length := steps_len _ _ _

/-- Rounds, one by one. -/
def halfB (m : WL) (r i : Nat) (v : WL) : WL := ((List.range i).flatMap fun i => quartL i (ordN r (2 * i)) (ordN r (2 * i + 1))).foldl (stepB m) v
def roundsB (m : WL) (r : Nat) (v : WL) : WL := ((List.range r).flatMap rowL).foldl (stepB m) v
theorem halfB_succ (m : WL) (r i : Nat) (v : WL) : halfB m r (i + 1) v = quartB m (halfB m r i v) r i := by
  unfold halfB quartB
  rw [List.range_succ, List.flatMap_append, List.foldl_append]
  simp
theorem roundsB_succ (m : WL) (r : Nat) (v : WL) : roundsB m (r + 1) v = halfB m r 8 (roundsB m r v) := by
  unfold roundsB halfB
  rw [List.range_succ, List.flatMap_append, List.foldl_append]
  simp [rowL]
theorem halfB_zero (m : WL) (r : Nat) (v : WL) : halfB m r 0 v = v := rfl
theorem roundsB_zero (m : WL) (v : WL) : roundsB m 0 v = v := rfl
theorem roundsB_all (m : WL) (v : WL) : roundsB m 10 v = stirB v m := rfl
theorem halfB_len (m : WL) (r i : Nat) (v : WL) : (halfB m r i v).length = v.length := steps_len _ _ _
theorem roundsB_len (m : WL) (r : Nat) (v : WL) : (roundsB m r v).length = v.length := steps_len _ _ _

/-- What a quarter does, word by word. -/
theorem quart_words (m v : WL) (r i : Nat) (hv : v.length = 16) (a b c d x y : BitVec 32)
    (ha : v.getD (cA i) 0 = a) (hb : v.getD (cB i) 0 = b) (hc : v.getD (cC i) 0 = c) (hd : v.getD (cD i) 0 = d) (hx : m.getD (ordN r (2 * i)) 0 = x) (hy : m.getD (ordN r (2 * i + 1)) 0 = y) :
    let a1 := a + b + x
    let d1 := rotB (d ^^^ a1) 16
    let c1 := c + d1
    let b1 := rotB (b ^^^ c1) 12
    let a2 := a1 + b1 + y
    let d2 := rotB (d1 ^^^ a2) 8
    let c2 := c1 + d2
    let b2 := rotB (b1 ^^^ c2) 7
    quartB m v r i = (((((((v.set (cA i) a1).set (cD i) d1).set (cC i) c1).set (cB i) b1).set (cA i) a2).set (cD i) d2).set (cC i) c2).set (cB i) b2 := by
  intro a1 d1 c1 b1 a2 d2 c2 b2
  have hA : cA i < 4 := by unfold cA; omega
  have hB : 4 ≤ cB i ∧ cB i < 8 := by unfold cB; omega
  have hC : 8 ≤ cC i ∧ cC i < 12 := by unfold cC; omega
  have hD : 12 ≤ cD i ∧ cD i < 16 := by unfold cD; omega
  unfold quartB quartL
  generalize cA i = A at *
  generalize cB i = B at *
  generalize cC i = C at *
  generalize cD i = D at *
  simp only [List.foldl_cons, List.foldl_nil]
  have gs : ∀ (l : WL) (k : Nat) (u : BitVec 32), k < l.length → (l.set k u).getD k 0 = u := fun l k u h => by simp [List.getD, h]
  have gn : ∀ (l : WL) (k j : Nat) (u : BitVec 32), k ≠ j → (l.set k u).getD j 0 = l.getD j 0 := fun l k j u h => by simp [List.getD, List.getElem?_set_ne h]
  have e1 : stepB m v ⟨A, B, some (ordN r (2 * i)), 0⟩ = v.set A a1 := by unfold stepB; simp only [if_pos, ha, hb, hx]; rfl
  rw [e1]
  have e2 : stepB m (v.set A a1) ⟨D, A, none, 16⟩ = (v.set A a1).set D d1 := by
    unfold stepB; rw [if_neg (by simp), gn _ A D _ (by omega), gs _ A _ (by omega), hd]
  rw [e2]
  have e3 : stepB m ((v.set A a1).set D d1) ⟨C, D, none, 0⟩ = ((v.set A a1).set D d1).set C c1 := by
    unfold stepB; rw [if_pos rfl, gn _ D C _ (by omega), gn _ A C _ (by omega), gs _ D _ (by simp; omega), hc]; simp [c1]
  rw [e3]
  have e4 : stepB m (((v.set A a1).set D d1).set C c1) ⟨B, C, none, 12⟩ = (((v.set A a1).set D d1).set C c1).set B b1 := by
    unfold stepB; rw [if_neg (by simp), gn _ C B _ (by omega), gn _ D B _ (by omega), gn _ A B _ (by omega), gs _ C _ (by simp; omega), hb]
  rw [e4]
  have e5 : stepB m ((((v.set A a1).set D d1).set C c1).set B b1) ⟨A, B, some (ordN r (2 * i + 1)), 0⟩ = ((((v.set A a1).set D d1).set C c1).set B b1).set A a2 := by
    unfold stepB; rw [if_pos rfl, gn _ B A _ (by omega), gn _ C A _ (by omega), gn _ D A _ (by omega), gs _ A _ (by omega), gs _ B _ (by simp; omega)]; rw [show (match (some (ordN r (2 * i + 1)) : Option Nat) with | some k => m.getD k 0 | none => 0) = y from hy]
  rw [e5]
  have e6 : stepB m (((((v.set A a1).set D d1).set C c1).set B b1).set A a2) ⟨D, A, none, 8⟩ = (((((v.set A a1).set D d1).set C c1).set B b1).set A a2).set D d2 := by
    unfold stepB; rw [if_neg (by simp), gn _ A D _ (by omega), gn _ B D _ (by omega), gn _ C D _ (by omega), gs _ D _ (by simp; omega), gs _ A _ (by simp; omega)]
  rw [e6]
  have e7 : stepB m ((((((v.set A a1).set D d1).set C c1).set B b1).set A a2).set D d2) ⟨C, D, none, 0⟩ = ((((((v.set A a1).set D d1).set C c1).set B b1).set A a2).set D d2).set C c2 := by
    unfold stepB; rw [if_pos rfl, gn _ D C _ (by omega), gn _ A C _ (by omega), gn _ B C _ (by omega), gs _ C _ (by simp; omega), gs _ D _ (by simp; omega)]; simp [c2]
  rw [e7]
  unfold stepB; rw [if_neg (by simp), gn _ C B _ (by omega), gn _ D B _ (by omega), gn _ A B _ (by omega), gs _ B _ (by simp; omega), gs _ C _ (by simp; omega)]

/-- One turn to the right, and many. -/
def rot1 (x : BitVec 32) : BitVec 32 := BitVec.ofNat 32 (x.toNat / 2 + x.toNat % 2 * 2147483648)
def rotI : Nat → BitVec 32 → BitVec 32
  | 0, x => x
  | n + 1, x => rot1 (rotI n x)
theorem rotI_nat (x : BitVec 32) : ∀ n, n ≤ 16 → (rotI n x).toNat = x.toNat / 2 ^ n + x.toNat % 2 ^ n * 2 ^ (32 - n) := by
  have hx := x.isLt
  have key : ∀ (y : BitVec 32) (z : Nat), y.toNat = z → (rot1 y).toNat = z / 2 + z % 2 * 2147483648 := fun y z h => by
    have := y.isLt
    unfold rot1
    rw [BitVec.toNat_ofNat, h, Nat.mod_eq_of_lt]
    omega
  have h0 : (rotI 0 x).toNat = x.toNat / 2 ^ 0 + x.toNat % 2 ^ 0 * 2 ^ (32 - 0) := by simp [rotI]; omega
  intro n hn
  have st : ∀ n, n < 16 → (rotI n x).toNat = x.toNat / 2 ^ n + x.toNat % 2 ^ n * 2 ^ (32 - n) → (rotI (n + 1) x).toNat = x.toNat / 2 ^ (n + 1) + x.toNat % 2 ^ (n + 1) * 2 ^ (32 - (n + 1)) := by
    intro n hn h
    have h1 := key _ _ h
    show (rot1 (rotI n x)).toNat = _
    rw [h1]
    have hc : n = 0 ∨ n = 1 ∨ n = 2 ∨ n = 3 ∨ n = 4 ∨ n = 5 ∨ n = 6 ∨ n = 7 ∨ n = 8 ∨ n = 9 ∨ n = 10 ∨ n = 11 ∨ n = 12 ∨ n = 13 ∨ n = 14 ∨ n = 15 := by omega
    clear h h1 key h0
    generalize x.toNat = X at *
    rcases hc with rfl | rfl | rfl | rfl | rfl | rfl | rfl | rfl | rfl | rfl | rfl | rfl | rfl | rfl | rfl | rfl <;> simp <;> omega
  induction n with
  | zero => exact h0
  | succ n ih => exact st n (by omega) (ih (by omega))
theorem rotI_eq (x : BitVec 32) (n : Nat) (h : n ≤ 16) : rotI n x = rotB x n := by
  apply BitVec.eq_of_toNat_eq
  have e := rotI_nat x n h
  unfold rotB
  rw [BitVec.toNat_ofNat, ← e, Nat.mod_eq_of_lt (rotI n x).isLt]
theorem rot_or (x : BitVec 32) (n : Nat) (h0 : n = 16 ∨ n = 12 ∨ n = 8 ∨ n = 7) : (x >>> n) ||| (x <<< (32 - n)) = rotB x n := by
  apply BitVec.eq_of_toNat_eq
  have hx := x.isLt
  unfold rotB
  rw [BitVec.toNat_or, BitVec.toNat_ushiftRight, BitVec.toNat_shiftLeft, BitVec.toNat_ofNat, Nat.or_comm]
  have e : x.toNat <<< (32 - n) % 2 ^ 32 = (x.toNat % 2 ^ n) <<< (32 - n) := by
    rw [Nat.shiftLeft_eq, Nat.shiftLeft_eq]
    generalize x.toNat = X at *
    rcases h0 with rfl | rfl | rfl | rfl <;> omega
  rw [e, ← Nat.shiftLeft_add_eq_or_of_lt (by rw [Nat.shiftRight_eq_div_pow]; generalize x.toNat = X at *; rcases h0 with rfl | rfl | rfl | rfl <;> omega), Nat.shiftRight_eq_div_pow, Nat.shiftLeft_eq]
  generalize x.toNat = X at *
  rcases h0 with rfl | rfl | rfl | rfl <;> omega

/-- Eight words, sixteen of a piece, a count. -/
def startB : WL := [0x6a09e667, 0xbb67ae85, 0x3c6ef372, 0xa54ff53a, 0x510e527f, 0x9b05688c, 0x1f83d9ab, 0x5be0cd19]
def preB (h : WL) (n : Nat) (last : Bool) : WL :=
  let v := (h ++ startB).set 12 (startB.getD 4 0 ^^^ BitVec.ofNat 32 n)
  let v := v.set 13 (startB.getD 5 0 ^^^ BitVec.ofNat 32 (n / 4294967296))
  if last then v.set 14 (~~~ startB.getD 6 0) else v
def mixB (h w : WL) (k : Nat) : WL := (List.range 8).map fun i => if i < k then h.getD i 0 ^^^ w.getD i 0 ^^^ w.getD (i + 8) 0 else h.getD i 0
def pressB (h m : WL) (n : Nat) (last : Bool) : WL := mixB h (stirB (preB h n last) m) 8
theorem mixB_len (h w : WL) (k : Nat) : (mixB h w k).length = 8 := by unfold mixB; simp
theorem pressB_len (h m : WL) (n : Nat) (last : Bool) : (pressB h m n last).length = 8 := mixB_len _ _ _
theorem mixB_at (h w : WL) (k i : Nat) (hi : i < (mixB h w k).length) : (mixB h w k)[i] = if i < k then h.getD i 0 ^^^ w.getD i 0 ^^^ w.getD (i + 8) 0 else h.getD i 0 := by simp only [mixB, List.getElem_map, List.getElem_range]
theorem mixB_zero (h w : WL) (hh : h.length = 8) : mixB h w 0 = h := by
  apply List.ext_getElem (by rw [mixB_len, hh])
  intro i h1 h2
  rw [mixB_at, if_neg (by omega)]
  simp [List.getD, List.getElem?_eq_getElem h2]
theorem mixB_succ (h w : WL) (k : Nat) : mixB h w (k + 1) = (mixB h w k).set k (h.getD k 0 ^^^ w.getD k 0 ^^^ w.getD (k + 8) 0) := by
  apply List.ext_getElem (by rw [List.length_set, mixB_len, mixB_len])
  intro i h1 h2
  rw [List.getElem_set, mixB_at, mixB_at]
  by_cases e : k = i
  · subst e; rw [if_pos (by omega), if_pos rfl]
  · rw [if_neg e]
    by_cases e2 : i < k
    · rw [if_pos e2, if_pos (by omega)]
    · rw [if_neg e2, if_neg (by omega)]

/-- The words of bytes (no more than 64), of the first k of them. -/
def byteW (l : List UInt8) (k j : Nat) : Nat := if j < k then (l.getD j 0).toNat else 0
def wordB (l : List UInt8) (k j : Nat) : BitVec 32 := BitVec.ofNat 32 (byteW l k (4 * j) + byteW l k (4 * j + 1) * 256 + byteW l k (4 * j + 2) * 65536 + byteW l k (4 * j + 3) * 16777216)
def wordsB (l : List UInt8) (k : Nat) : WL := (List.range 16).map (wordB l k)
theorem wordsB_len (l : List UInt8) (k : Nat) : (wordsB l k).length = 16 := by unfold wordsB; simp
theorem byteW_lt (l : List UInt8) (k j : Nat) : byteW l k j < 256 := by
  unfold byteW
  split
  · exact (l.getD j 0).toNat_lt
  · omega
theorem wordsB_zero (l : List UInt8) : wordsB l 0 = List.replicate 16 0 := by
  unfold wordsB
  rw [List.map_congr_left (g := fun _ => (0 : BitVec 32)) (fun j _ => by unfold wordB byteW; simp)]
  rfl
theorem wordsB_at (l : List UInt8) (k j : Nat) (hj : j < (wordsB l k).length) : (wordsB l k)[j] = wordB l k j := by simp only [wordsB, List.getElem_map, List.getElem_range]
theorem wordsB_get (l : List UInt8) (k j : Nat) (h : j < 16) : (wordsB l k).getD j 0 = wordB l k j := by
  unfold wordsB
  simp [List.getD, h]
theorem wordsB_succ (l : List UInt8) (k : Nat) (hk : k < 64) : wordsB l (k + 1) = (wordsB l k).set (k / 4) ((wordsB l k).getD (k / 4) 0 + BitVec.ofNat 32 ((l.getD k 0).toNat * 256 ^ (k % 4))) := by
  apply List.ext_getElem (by rw [List.length_set, wordsB_len, wordsB_len])
  intro j h1 h2
  have hj : j < 16 := by rwa [wordsB_len] at h1
  rw [List.getElem_set]
  simp only [wordsB_get l k (k / 4) (show k / 4 < 16 by omega)]
  rw [wordsB_at, wordsB_at]
  by_cases e : k / 4 = j
  · rw [if_pos e, e]
    unfold wordB
    rw [← BitVec.ofNat_add]
    congr 1
    have hr : k % 4 = 0 ∨ k % 4 = 1 ∨ k % 4 = 2 ∨ k % 4 = 3 := by omega
    unfold byteW
    rcases hr with hr | hr | hr | hr
    · obtain rfl : k = 4 * j := by omega
      rw [hr]
      simp only [Nat.reducePow]
      (repeat' split) <;> omega
    · obtain rfl : k = 4 * j + 1 := by omega
      rw [hr]
      simp only [Nat.reducePow]
      (repeat' split) <;> omega
    · obtain rfl : k = 4 * j + 2 := by omega
      rw [hr]
      simp only [Nat.reducePow]
      (repeat' split) <;> omega
    · obtain rfl : k = 4 * j + 3 := by omega
      rw [hr]
      simp only [Nat.reducePow]
      (repeat' split) <;> omega
  · rw [if_neg e]
    unfold wordB
    congr 1
    have key : ∀ i, i ≠ k → byteW l (k + 1) i = byteW l k i := fun i hi => by
      unfold byteW
      by_cases h : i < k
      · rw [if_pos h, if_pos (by omega)]
      · rw [if_neg h, if_neg (by omega)]
    rw [key _ (by omega), key _ (by omega), key _ (by omega), key _ (by omega)]
theorem wordsB_congr (l l' : List UInt8) (k k' : Nat) (h : ∀ j, j < 64 → byteW l k j = byteW l' k' j) : wordsB l k = wordsB l' k' := by
  unfold wordsB
  apply List.map_congr_left
  intro j hj
  have hj := List.mem_range.1 hj
  unfold wordB
  rw [h _ (by omega), h _ (by omega), h _ (by omega), h _ (by omega)]

/-- The first word of all, for a key without bytes. -/
def h0B : WL := startB.set 0 0x6b08e647
/-- k whole pieces of the bytes s are pressed. -/
def pieceB (s : List UInt8) (k : Nat) : List UInt8 := (s.drop (64 * k)).take 64
def allB (s : List UInt8) : Nat → WL
  | 0 => h0B
  | k + 1 => pressB (allB s k) (wordsB (pieceB s k) 64) (64 * (k + 1)) false
def lastB (s : List UInt8) : Nat := (s.length - 1) / 64
def digW (s : List UInt8) : WL := pressB (allB s (lastB s)) (wordsB (pieceB s (lastB s)) 64) s.length true
theorem allB_len (s : List UInt8) : ∀ k, (allB s k).length = 8
  | 0 => rfl
  | _ + 1 => pressB_len _ _ _ _
theorem digW_len (s : List UInt8) : (digW s).length = 8 := pressB_len _ _ _ _
theorem pieceB_append (s t : List UInt8) (k : Nat) (h : 64 * (k + 1) ≤ s.length) : pieceB (s ++ t) k = pieceB s k := by
  unfold pieceB
  rw [List.drop_append_of_le_length (by omega), List.take_append_of_le_length (by rw [List.length_drop]; omega)]
theorem allB_append (s t : List UInt8) : ∀ k, 64 * k ≤ s.length → allB (s ++ t) k = allB s k
  | 0, _ => rfl
  | k + 1, h => by unfold allB; rw [allB_append s t k (by omega), pieceB_append s t k h]
/-- The bytes of words. -/
def outB (w : WL) : List UInt8 := w.flatMap fun x => [UInt8.ofNat (x.toNat % 256), UInt8.ofNat (x.toNat / 256 % 256), UInt8.ofNat (x.toNat / 65536 % 256), UInt8.ofNat (x.toNat / 16777216 % 256)]
theorem outB_len (w : WL) : (outB w).length = 4 * w.length := by
  unfold outB
  induction w with
  | nil => rfl
  | cons x w ih => rw [List.flatMap_cons, List.length_append, ih, List.length_cons]; simp; omega
def digB (s : List UInt8) : List UInt8 := outB (digW s)
theorem digB_len (s : List UInt8) : (digB s).length = 32 := by unfold digB; rw [outB_len, digW_len]
/-- A number in four bytes, the highest first. -/
def fourL (n : Nat) : List UInt8 := [UInt8.ofNat (n / 16777216 % 256), UInt8.ofNat (n / 65536 % 256), UInt8.ofNat (n / 256 % 256), UInt8.ofNat (n % 256)]
def bytesOf (s : ByteArray) : List UInt8 := s.data.toList
def pfxL (s : ByteArray) : List UInt8 := fourL s.size ++ bytesOf s
def joinL (label : ByteArray) (ps : List ByteArray) : List UInt8 := pfxL label ++ ps.flatMap pfxL
def digS (s : List UInt8) : ByteArray := ⟨(digB s).toArray⟩
def tagS (label : ByteArray) (ps : List ByteArray) : ByteArray := digS (joinL label ps)
def fourS (n : Nat) : ByteArray := ⟨(fourL n).toArray⟩
theorem digS_size (s : List UInt8) : (digS s).size = 32 := by
  show (digB s).toArray.size = 32
  rw [List.size_toArray, digB_len]
theorem tagS_size (l : ByteArray) (ps : List ByteArray) : (tagS l ps).size = 32 := digS_size _
theorem fourS_size (n : Nat) : (fourS n).size = 4 := rfl

/-- What a text that is folded piece by piece holds, behind the bytes s. -/
structure Fold (s : List UInt8) (h : WL) (n : Nat) (hb : List UInt8) (k : Nat) : Prop where
  le : k ≤ 64
  sum : n + k = s.length
  mod : n % 64 = 0
  hs : h = allB s (n / 64)
  held : hb.take k = s.drop n
  len : hb.length = 64
theorem Fold.nil (hb : List UInt8) (h : hb.length = 64) : Fold [] h0B 0 hb 0 := ⟨by omega, rfl, rfl, rfl, rfl, h⟩
/-- A full piece is pressed. -/
theorem Fold.press {s : List UInt8} {h : WL} {n : Nat} {hb : List UInt8} (f : Fold s h n hb 64) : Fold s (pressB h (wordsB hb 64) (n + 64) false) (n + 64) hb 0 := by
  obtain ⟨_, h1, h2, h3, h4, h5⟩ := f
  refine ⟨by omega, by omega, by omega, ?_, by rw [List.take_zero, List.drop_eq_nil_of_le (by omega)], h5⟩
  obtain ⟨q, rfl⟩ : ∃ q, n = 64 * q := ⟨n / 64, by omega⟩
  have e : (64 * q + 64) / 64 = q + 1 := by omega
  have e2 : 64 * q / 64 = q := by omega
  rw [e]
  rw [e2] at h3
  rw [h3]
  show _ = pressB (allB s q) (wordsB (pieceB s q) 64) (64 * (q + 1)) false
  have e3 : pieceB s q = hb := by
    unfold pieceB
    rw [← h4, List.take_take, Nat.min_self, List.take_of_length_le (by omega)]
  rw [e3, show 64 * (q + 1) = 64 * q + 64 by omega]
/-- Bytes are laid behind what is held. -/
theorem Fold.lay {s : List UInt8} {h : WL} {n : Nat} {hb : List UInt8} {k : Nat} (f : Fold s h n hb k) (t : List UInt8) (ht : k + t.length ≤ 64) : Fold (s ++ t) h n (hb.take k ++ t ++ hb.drop (k + t.length)) (k + t.length) := by
  obtain ⟨h0, h1, h2, h3, h4, h5⟩ := f
  have hk : (hb.take k).length = k := by rw [List.length_take]; omega
  refine ⟨ht, by rw [List.length_append]; omega, h2, ?_, ?_, ?_⟩
  · rw [allB_append _ _ _ (by omega)]; exact h3
  · rw [List.take_append_of_le_length (by rw [List.length_append, hk]; exact Nat.le_refl _), List.take_of_length_le (by rw [List.length_append, hk]; exact Nat.le_refl _), List.drop_append_of_le_length (by omega), h4]
  · simp; omega
/-- The end of it. -/
theorem Fold.fin {s : List UInt8} {h : WL} {n : Nat} {hb : List UInt8} {k : Nat} (f : Fold s h n hb k) (h0 : s = [] ∨ 0 < k) : pressB h (wordsB (hb.take k ++ List.replicate (64 - k) 0) 64) (n + k) true = digW s := by
  obtain ⟨hk, h1, h2, h3, h4, h5⟩ := f
  unfold digW
  have e1 : n / 64 = lastB s := by
    unfold lastB
    rcases h0 with rfl | h0
    · have : n = 0 := by simp at h1; omega
      subst this; rfl
    · omega
  have e2 : n = 64 * lastB s := by omega
  rw [h3, e1, h1]
  congr 1
  apply wordsB_congr
  intro j hj
  unfold byteW
  rw [if_pos hj, if_pos hj, h4]
  congr 1
  unfold pieceB
  rw [← e2]
  have e3 : (s.drop n).length = k := by rw [List.length_drop]; omega
  rw [List.take_of_length_le (by omega)]
  unfold List.getD
  by_cases h : j < k
  · rw [List.getElem?_append_left (by omega)]
  · rw [List.getElem?_append_right (by omega), List.getElem?_eq_none (l := s.drop n) (by omega), List.getElem?_replicate]
    split <;> rfl
end Go.Proofs.Ytdlnnkbigeiilaa

/- Words of 32 bits as the program reckons with them. No condition beyond those that each fact names. -/
namespace Go.Proofs.Ytdlnnkbigeiilaa
open Go.RowKit

theorem wrap32_nat (n : Nat) : IntKind.u32.wrap (n : Int) = ((n % 4294967296 : Nat) : Int) := by
  simp [IntKind.wrap, IntKind.signed, IntKind.bits]
theorem bv_of (x : BitVec 32) : BitVec.ofInt 32 (x.toNat : Int) = x := by apply BitVec.eq_of_toNat_eq; simp
theorem bv_nat (n : Nat) (h : n < 4294967296) : ((BitVec.ofNat 32 n).toNat : Int) = (n : Int) := by rw [BitVec.toNat_ofNat, Nat.mod_eq_of_lt h]
theorem wrap_bv (x : BitVec 32) : IntKind.u32.wrap (x.toNat : Int) = (x.toNat : Int) := by
  have := x.isLt
  rw [wrap32_nat, Nat.mod_eq_of_lt (by omega)]
theorem bits_xor (a b : BitVec 32) : bits BinOp.xor IntKind.u32 (a.toNat : Int) (b.toNat : Int) = ((a ^^^ b).toNat : Int) := by
  show IntKind.u32.wrap ((BitVec.ofInt 32 (a.toNat : Int) ^^^ BitVec.ofInt 32 (b.toNat : Int) : BitVec 32).toNat : Int) = _
  rw [bv_of, bv_of, wrap_bv]
theorem bits_not (a : BitVec 32) : bits BinOp.xor IntKind.u32 4294967295 (a.toNat : Int) = ((~~~ a).toNat : Int) := by
  have e : (4294967295 : Int) = ((4294967295#32).toNat : Int) := rfl
  rw [e, bits_xor, BitVec.not_def, show (4294967295#32) = BitVec.allOnes 32 from rfl]
theorem bits_or (a b : Nat) (ha : a < 4294967296) (hb : b < 4294967296) : bits BinOp.or IntKind.u32 (a : Int) (b : Int) = ((a ||| b : Nat) : Int) := by
  show IntKind.u32.wrap ((BitVec.ofInt 32 (a : Int) ||| BitVec.ofInt 32 (b : Int) : BitVec 32).toNat : Int) = _
  have e : ∀ n : Nat, BitVec.ofInt 32 (n : Int) = BitVec.ofNat 32 n := fun n => by apply BitVec.eq_of_toNat_eq; simp
  rw [e, e, wrap_bv, BitVec.toNat_or, BitVec.toNat_ofNat, BitVec.toNat_ofNat, Nat.mod_eq_of_lt (show a < 2 ^ 32 from ha), Nat.mod_eq_of_lt (show b < 2 ^ 32 from hb)]
theorem add32 (a b : BitVec 32) : ((a.toNat : Int) + (b.toNat : Int)) % 4294967296 = ((a + b).toNat : Int) := by
  rw [BitVec.toNat_add]; omega
/-- The words as cells. -/
def wlV (l : WL) : List Value := l.map fun x => .int .u32 (x.toNat : Int)
theorem wlV_len (l : WL) : (wlV l).length = l.length := List.length_map _
theorem wlV_get (l : WL) (i : Nat) (h : i < l.length) : (wlV l)[i]? = some (.int .u32 ((l.getD i 0).toNat : Int)) := by
  unfold wlV
  simp [List.getD, h]
theorem wlV_set (l : WL) (i : Nat) (x : BitVec 32) : (wlV l).set i (.int .u32 (x.toNat : Int)) = wlV (l.set i x) := by
  unfold wlV
  rw [List.map_set]
end Go.Proofs.Ytdlnnkbigeiilaa

/- More of slices that the call itself appends to: a whole argument appended; a slice written out. No condition beyond those that each fact names. -/
namespace Go.Proofs.Ytdlnnkbigeiilaa
open Go.RowKit

/-- A block that was just filled is such a row. -/
theorem RowO.of_bx {N b n : Nat} {w : World} {e : TypeId} {size : Nat} {cs : List Value} (h : Bx w b e cs) (hN : N ≤ b) (hn : cs.length = n * size) (hm : n ≤ maxLen) : RowO N w e size (.slice (some ⟨b, 0, none⟩) n n) n cs := by
  refine ⟨hn, Or.inr ⟨b, n, cs.toArray, rfl, hN, h, Nat.le_refl _, hm, by simpa using hn, ?_⟩⟩
  rw [← hn]; simp

theorem Sl.addr {w : World} {B : Nat} {ad : Addr} {cs : List Value} (h : Sl w B (some ad) cs) : ∀ j u, cs[j]? = some u → w.cell? (ad.add j) = some u := by
  intro j u hj
  rcases h with rfl | ⟨b, off, he, _, hc⟩
  · simp at hj
  · simp only [Option.some.injEq] at he
    subst he
    have : (⟨b, off, none⟩ : Addr).add j = ⟨b, off + j, none⟩ := by unfold Addr.add; split <;> simp_all
    rw [this]; exact hc j u hj

/-- 'append(x, a...)': x is the call's own, a an argument. -/
theorem wpList_joinR {P : Program} (N : Nat) (w : World) (hN : N ≤ w.heap.size) {ops : Array Oper} {rest : List Oper} {o : Oper} {a : Act} {Q : Exit → Act → World → Prop} (hgd : o.guard = none) (s x : Operand) (t : TypeId)
    (ho : o.op = .call { callee := .builtin .append, args := #[s, x], argTypes := #[t, t] })
    (e : TypeId) (i : TypeInfo) (z : Value) (size bytes : Nat) (ht : P.underlying t = some (.slice e)) (hi : P.info? e = some i) (hz : i.zero = some z)
    (hsize : i.size = size) (hby : i.bytes = bytes) (hzs : z.cells.size = size) (hsz : 0 < size)
    (v : Value) (n : Nat) (xs : List Value) (hs : a.eval s = v) (hown : RowO N w e size v n xs)
    (al : Option Addr) (m c : Nat) (news : List Value) (hx : a.eval x = .slice al m c) (hl : news.length = m * size) (hS : Sl w w.heap.size al news) (h0 : al = none → c = 0) (h1 : ∀ u ∈ news, u.oneCell' = true)
    (h63 : (n + m) * bytes ≤ 140737488355328) (hn : n + m ≤ maxLen)
    (h : ∀ a' c' w', RowO N w' e size (.slice a' (n + m) c') (n + m) (xs ++ news) → w.grownBy w' v.ownBlock → wpList P ops Q rest (a.put o.dst (.slice a' (n + m) c')) w') :
    wpList P ops Q (o :: rest) a w := by
  cases al with
  | none =>
    have hc := h0 rfl
    subst hc
    have hnews : news = [] := by
      rcases hS with h9 | ⟨b, off, h9, _⟩
      · exact h9
      · cases h9
    subst hnews
    have hm : m = 0 := by
      rcases Nat.mul_eq_zero.1 hl.symm with h9 | h9
      · exact h9
      · omega
    subst hm
    obtain ⟨a', c', rfl⟩ := RowO.form hown
    refine wpList_append_own_none hgd s x t ho N e i size ht hi _ n xs hs hown hx ?_
    exact h a' c' w (by simpa using hown) ⟨rfl, rfl, rfl, Nat.le_refl _, fun _ _ _ => rfl⟩
  | some ad =>
    refine wpList_plain hgd fun K hK => ?_
    obtain ⟨v', w', hr, h2, h3, _, _⟩ := run_append_own_at (P := P) w N t o.type e i z size bytes ht hi hz hsize hby hzs hsz v n xs hown ad m c news hl hS.addr h1 hn h63 hN
    obtain ⟨a', c', rfl⟩ := RowO.form (N := N) h2
    unfold Oper.wp execOp
    simp only [ho, resolve, invoke, builtin, Sem.run_bind, Sem.run_pure, Result.andThen_ok, List.map_toArray, List.map_cons, List.map_nil, hs, hx, hr]
    exact hK _ _ (h a' c' w' h2 h3)

/-- 'out = append(out, x)' at a step of a region that draws its order. -/
theorem step_pushR {P : Program} (N : Nat) (w0 : World) (hN : N ≤ w0.heap.size) {ops : Array Oper} {o : Oper} {a : Act} {K : Act → World → Prop} {Q : Exit → Act → World → Prop} {E : Prop} (hgd : o.guard = none) (s x : Operand) (t : TypeId)
    (ho : o.op = .call { callee := .builtin .append, args := #[s, x], argTypes := #[t, t] })
    (e : TypeId) (i : TypeInfo) (z : Value) (size bytes : Nat) (ht : P.underlying t = some (.slice e)) (hi : P.info? e = some i) (hz : i.zero = some z)
    (hsize : i.size = size) (hby : i.bytes = bytes) (hzs : z.cells.size = size) (hsz : 0 < size)
    (v : Value) (n : Nat) (xs : List Value) (hs : a.eval s = v) (hown : RowO N w0 e size v n xs)
    (news : Array Value) (e2 : TypeId) (b : Nat) (hb : w0.heap.size = b) (hx : a.eval x = .slice (some ⟨b, 0, none⟩) 1 1) (hl : news.size = size) (h1 : ∀ u ∈ news.toList, u.oneCell' = true)
    (h63 : (n + 1) * bytes ≤ 140737488355328) (hn : n + 1 ≤ maxLen)
    (h : ∀ g cap w', RowO N w' e size (.slice (some ⟨g, 0, none⟩) (n + 1) cap) (n + 1) (xs ++ news.toList) → w0.grownBy w' v.ownBlock → K (a.put o.dst (.slice (some ⟨g, 0, none⟩) (n + 1) cap)) w') :
    if Region.wanted o (yielded ops a.tmps) = true then Oper.wp P o a (w0.alloc (.cells news e2)) K Q else E := by
  subst hb
  refine step_append_lies _ hgd s x t ho N e i z size bytes ht hi hz hsize hby hzs hsz v n xs hs (World.ownsRow.alloc hown _) ⟨w0.heap.size, 0, none⟩ 1 1 news.toList hx (by simpa using hl)
    (World.news_of_block (heap_alloc_new w0 _)) h1 (by omega) hn h63 (by simp; omega) _ rfl ?_
  intro g cap w' hown' hg _ _
  refine h g cap w' hown' ⟨hg.os, hg.tape, hg.output, ?_, ?_⟩
  · have := hg.size; simp at this; omega
  · intro k hk hne
    rw [hg.block k (by simp; omega) hne]
    exact Below.heap_alloc _ _ _ hk

end Go.Proofs.Ytdlnnkbigeiilaa

/- Lists of lists that a call makes: what stays while one of them grows. No condition beyond those that each fact names. -/
namespace Go.Proofs.Ytdlnnkbigeiilaa
open Go.RowKit

theorem GroupAt.other {W : World} {gb c : Nat} {G : GP} (h : GroupAt W gb G) (hne : gb ≠ c) (i : Nat) (v : Value) : GroupAt (W.setCell ⟨c, i, none⟩ v) gb G := by
  have hc : ∀ o, (W.setCell ⟨c, i, none⟩ v).cell? ⟨gb, o, none⟩ = W.cell? ⟨gb, o, none⟩ := fun o => World.cell?_setCell_other _ _ _ _ (by intro e; exact hne (congrArg Addr.block e).symm)
  have hl : (W.setCell ⟨c, i, none⟩ v).heap.size = W.heap.size := by simp [World.setCell]
  exact ⟨by rw [hl]; exact h.lt, by rw [hc]; exact h.kind, by rw [hc]; exact h.size, ⟨by rw [hl]; exact h.p.lt, fun i x hx => by rw [hc]; exact h.p.cell i x hx⟩, ⟨by rw [hl]; exact h.q.lt, fun i x hx => by rw [hc]; exact h.q.cell i x hx⟩⟩

/-- All blocks of the world w0 but some are as they were. -/
structure Kept (P : Nat → Prop) (w0 w : World) : Prop where
  os : w.os = w0.os
  tape : w.tape = w0.tape
  output : w.output = w0.output
  size : w0.heap.size ≤ w.heap.size
  block : ∀ q, q < w0.heap.size → ¬ P q → w.heap[q]? = w0.heap[q]?
section
variable {P : Nat → Prop} {b c n gb : Nat} {w0 w w1 : World} {r : Option Nat} {t : TypeId} {cs : List Value} {G : GP}
theorem Kept.refl (P : Nat → Prop) (w : World) : Kept P w w := ⟨rfl, rfl, rfl, Nat.le_refl _, fun _ _ _ => rfl⟩
theorem Kept.grown (h : Kept P w0 w) (hg : w.grownBy w1 r) (hr : ∀ q, r = some q → w0.heap.size ≤ q ∨ P q) : Kept P w0 w1 :=
  ⟨hg.os.trans h.os, hg.tape.trans h.tape, hg.output.trans h.output, Nat.le_trans h.size hg.size, fun q hq hne => (hg.block q (Nat.lt_of_lt_of_le hq h.size) (fun e => by
    rcases hr q e.symm with h1 | h1
    · omega
    · exact hne h1)).trans (h.block q hq hne)⟩
theorem Kept.up (h : Kept P w0 w) (hb : Below w.heap.size w w1) : Kept P w0 w1 := h.grown (below_grown hb) (fun q e => by cases e)
theorem Kept.set (h : Kept P w0 w) (hp : P b) (i : Nat) (v : Value) : Kept P w0 (w.setCell ⟨b, i, none⟩ v) := h.grown (grown_set w b i v) (fun _ e => Or.inr ((Option.some.inj e) ▸ hp))
theorem Kept.other (h : Kept P w0 w) (hc : w0.heap.size ≤ c) (i : Nat) (v : Value) : Kept P w0 (w.setCell ⟨c, i, none⟩ v) := h.grown (grown_set w c i v) (fun _ e => Or.inl ((Option.some.inj e) ▸ hc))
theorem Kept.trans {w2 : World} (h : Kept P w0 w) (h1 : Kept P w w2) : Kept P w0 w2 :=
  ⟨h1.os.trans h.os, h1.tape.trans h.tape, h1.output.trans h.output, Nat.le_trans h.size h1.size, fun q hq hne => (h1.block q (Nat.lt_of_lt_of_le hq h.size) hne).trans (h.block q hq hne)⟩
theorem Sl.kept {a : Option Addr} (h : Sl w0 w0.heap.size a cs) (hk : Kept P w0 w) (hne : ∀ x, a = some x → ¬ P x.block) : Sl w w.heap.size a cs := by
  rcases h with h | ⟨q, off, rfl, hq, hc⟩
  · exact Or.inl h
  · refine Or.inr ⟨q, off, rfl, Nat.lt_of_lt_of_le hq hk.size, fun i v hv => ?_⟩
    rw [cell_of_block (hk.block q hq (hne _ rfl))]
    exact hc i v hv
theorem Bx.keptP (h : Bx w0 b t cs) (hk : Kept P w0 w) (hne : ¬ P b) : Bx w b t cs := (hk.block b h.lt hne).trans h
theorem GroupAt.keptP (h : GroupAt w0 gb G) (hk : Kept P w0 w) (hne : ¬ P gb) : GroupAt w gb G := by
  have hc := cell_of_block (hk.block gb h.lt hne)
  have hl := hk.size
  exact ⟨Nat.lt_of_lt_of_le h.lt hl, by rw [hc]; exact h.kind, by rw [hc]; exact h.size, ⟨Nat.lt_of_lt_of_le h.p.lt hl, fun i x hx => by rw [hc]; exact h.p.cell i x hx⟩, ⟨Nat.lt_of_lt_of_le h.q.lt hl, fun i x hx => by rw [hc]; exact h.q.cell i x hx⟩⟩
theorem Below.keptP {W : World} (h : Below n W w0) (hk : Kept P w0 w) (hn : n ≤ w0.heap.size) (hp : ∀ q, P q → n ≤ q) : Below n W w := by
  refine ⟨hk.os.trans h.os, hk.tape.trans h.tape, hk.output.trans h.output, Nat.le_trans h.size hk.size, fun q hq => ?_⟩
  rw [hk.block q (by omega) (fun e => by have := hp q e; omega)]
  exact h.block q hq
theorem Sl.lt {a : Option Addr} {B : Nat} (h : Sl w B a cs) (h0 : cs ≠ []) (x : Addr) (hx : a = some x) : x.block < B := by
  rcases h with h | ⟨q, off, rfl, hq, _⟩
  · exact absurd h h0
  · cases hx; exact hq
end

/-- 'out = append(out, x)': and the block it then lies in is the one of before, or a new one. -/
theorem wpList_pushF {P : Program} (N : Nat) (w0 : World) (hN : N ≤ w0.heap.size) {ops : Array Oper} {rest : List Oper} {o : Oper} {a : Act} {Q : Exit → Act → World → Prop} (hgd : o.guard = none) (s x : Operand) (t : TypeId)
    (ho : o.op = .call { callee := .builtin .append, args := #[s, x], argTypes := #[t, t] })
    (e : TypeId) (i : TypeInfo) (z : Value) (size bytes : Nat) (ht : P.underlying t = some (.slice e)) (hi : P.info? e = some i) (hz : i.zero = some z)
    (hsize : i.size = size) (hby : i.bytes = bytes) (hzs : z.cells.size = size) (hsz : 0 < size)
    (v : Value) (n : Nat) (xs : List Value) (hs : a.eval s = v) (hown : RowO N w0 e size v n xs)
    (news : Array Value) (e2 : TypeId) (b : Nat) (hb : w0.heap.size = b) (hx : a.eval x = .slice (some ⟨b, 0, none⟩) 1 1) (hl : news.size = size) (h1 : ∀ u ∈ news.toList, u.oneCell' = true)
    (h63 : (n + 1) * bytes ≤ 140737488355328) (hn : n + 1 ≤ maxLen)
    (h : ∀ g cap w', RowO N w' e size (.slice (some ⟨g, 0, none⟩) (n + 1) cap) (n + 1) (xs ++ news.toList) → w0.grownBy w' v.ownBlock → (v.ownBlock = some g ∨ w0.heap.size ≤ g) → wpList P ops Q rest (a.put o.dst (.slice (some ⟨g, 0, none⟩) (n + 1) cap)) w') :
    wpList P ops Q (o :: rest) a (w0.alloc (.cells news e2)) := by
  subst hb
  refine wpList_append_lies _ hgd s x t ho N e i z size bytes ht hi hz hsize hby hzs hsz v n xs hs (World.ownsRow.alloc hown _) ⟨w0.heap.size, 0, none⟩ 1 1 news.toList hx (by simpa using hl)
    (World.news_of_block (heap_alloc_new w0 _)) h1 (by omega) hn h63 (by simp; omega) _ rfl ?_
  intro g cap w' hown' hg hf _
  refine h g cap w' hown' ⟨hg.os, hg.tape, hg.output, ?_, ?_⟩ ?_
  · have := hg.size; simp at this; omega
  · intro k hk hne
    rw [hg.block k (by simp; omega) hne]
    exact Below.heap_alloc _ _ _ hk
  · rcases hf with h9 | h9
    · exact Or.inl h9
    · right; rw [h9]; simp

/-- The same at a step of a region that draws its order. -/
theorem step_pushF {P : Program} (N : Nat) (w0 : World) (hN : N ≤ w0.heap.size) {ops : Array Oper} {o : Oper} {a : Act} {K : Act → World → Prop} {Q : Exit → Act → World → Prop} {E : Prop} (hgd : o.guard = none) (s x : Operand) (t : TypeId)
    (ho : o.op = .call { callee := .builtin .append, args := #[s, x], argTypes := #[t, t] })
    (e : TypeId) (i : TypeInfo) (z : Value) (size bytes : Nat) (ht : P.underlying t = some (.slice e)) (hi : P.info? e = some i) (hz : i.zero = some z)
    (hsize : i.size = size) (hby : i.bytes = bytes) (hzs : z.cells.size = size) (hsz : 0 < size)
    (v : Value) (n : Nat) (xs : List Value) (hs : a.eval s = v) (hown : RowO N w0 e size v n xs)
    (news : Array Value) (e2 : TypeId) (b : Nat) (hb : w0.heap.size = b) (hx : a.eval x = .slice (some ⟨b, 0, none⟩) 1 1) (hl : news.size = size) (h1 : ∀ u ∈ news.toList, u.oneCell' = true)
    (h63 : (n + 1) * bytes ≤ 140737488355328) (hn : n + 1 ≤ maxLen)
    (h : ∀ g cap w', RowO N w' e size (.slice (some ⟨g, 0, none⟩) (n + 1) cap) (n + 1) (xs ++ news.toList) → w0.grownBy w' v.ownBlock → (v.ownBlock = some g ∨ w0.heap.size ≤ g) → K (a.put o.dst (.slice (some ⟨g, 0, none⟩) (n + 1) cap)) w') :
    if Region.wanted o (yielded ops a.tmps) = true then Oper.wp P o a (w0.alloc (.cells news e2)) K Q else E := by
  subst hb
  refine step_append_lies _ hgd s x t ho N e i z size bytes ht hi hz hsize hby hzs hsz v n xs hs (World.ownsRow.alloc hown _) ⟨w0.heap.size, 0, none⟩ 1 1 news.toList hx (by simpa using hl)
    (World.news_of_block (heap_alloc_new w0 _)) h1 (by omega) hn h63 (by simp; omega) _ rfl ?_
  intro g cap w' hown' hg hf _
  refine h g cap w' hown' ⟨hg.os, hg.tape, hg.output, ?_, ?_⟩ ?_
  · have := hg.size; simp at this; omega
  · intro k hk hne
    rw [hg.block k (by simp; omega) hne]
    exact Below.heap_alloc _ _ _ hk
  · rcases hf with h9 | h9
    · exact Or.inl h9
    · right; rw [h9]; simp

end Go.Proofs.Ytdlnnkbigeiilaa

/- The stir of the package fold: turn, place, corners, quarter. No condition beyond those that each fact names. -/
namespace Go.Proofs.Ytdlnnkbigeiilaa
open Go.RowKit

theorem turn_nat (x : BitVec 32) (n : Nat) (h0 : n = 16 ∨ n = 12 ∨ n = 8 ∨ n = 7) : x.toNat / 2 ^ n ||| x.toNat * 2 ^ (32 - n) % 4294967296 = (rotB x n).toNat := by
  rw [← rot_or x n h0, BitVec.toNat_or, BitVec.toNat_ushiftRight, BitVec.toNat_shiftLeft, Nat.shiftRight_eq_div_pow, Nat.shiftLeft_eq]
set_option maxHeartbeats 1000000 in
theorem turn_any (x : BitVec 32) (n : Nat) (h0 : n = 16 ∨ n = 12 ∨ n = 8 ∨ n = 7) (w : World) : Calls Try.prog 169 #[.int .u32 (x.toNat : Int), .int .i64 (n : Int)] w fun e w' => e = .returned (.int .u32 ((rotB x n).toNat : Int)) ∧ Below w.heap.size w w' := by
  have hx := x.isLt
  have ht := turn_nat x n h0
  have HB := Lib.hid (bits_or (x.toNat / 2 ^ n) (x.toNat * 2 ^ (32 - n) % 4294967296) (Nat.lt_of_le_of_lt (Nat.div_le_self _ _) hx) (Nat.mod_lt _ (by decide)))
  rw [ht] at HB
  have HBo := HB.out
  clear ht HB
  rcases h0 with rfl | rfl | rfl | rfl <;> simp at HBo
  all_goals
    go_enter Try.func169, Try.ntmps169
    go_wp2_with fail
    refine wp_region_over (by kernel_rfl) (by kernel_rfl) ?_
    repeat (go_big_quiet_step (first | fail))
    all_goals (try unfold elV limbV)
    repeat (go_big_quiet_step (first | fail))
    all_goals (try unfold elV limbV)
    repeat (go_big_quiet_step (first | fail))
    all_goals (try unfold ciphV)
    refine wpQuiet_nil ?_
    rintro _ ⟨E, rfl⟩
    have HB := Lib.hid E.h
    have HZS := Lib.hid E.h.size
    obtain ⟨w1, hq9⟩ : ∃ W9 : World, E.w = W9 := ⟨_, rfl⟩
    rw [hq9] at HB HZS ⊢
    clear hq9 E
    go_wp2_with fail
    go_ret
    exact ⟨rfl, HB.out⟩

def ordB : ByteArray := ⟨#[48, 49, 50, 51, 52, 53, 54, 55, 56, 57, 97, 98, 99, 100, 101, 102, 101, 97, 52, 56, 57, 102, 100, 54, 49, 99, 48, 50, 98, 55, 53, 51, 98, 56, 99, 48, 53, 50, 102, 100, 97, 101, 51, 54, 55, 49, 57, 52, 55, 57, 51, 49, 100, 99, 98, 101, 50, 54, 53, 97, 52, 48, 102, 56, 57, 48, 53, 55, 50, 52, 97, 102, 101, 49, 98, 99, 54, 56, 51, 100, 50, 99, 54, 97, 48, 98, 56, 51, 52, 100, 55, 53, 102, 101, 49, 57, 99, 53, 49, 102, 101, 100, 52, 97, 48, 55, 54, 51, 57, 50, 56, 98, 100, 98, 55, 101, 99, 49, 51, 57, 53, 48, 102, 52, 56, 54, 50, 97, 54, 102, 101, 57, 98, 51, 48, 56, 99, 50, 100, 55, 49, 52, 97, 53, 97, 50, 56, 52, 55, 54, 49, 53, 102, 98, 57, 101, 51, 99, 100, 48]⟩
theorem ord_tab : ∀ k : Fin 160, (ordB.data.getD k.1 0).toNat = if ordN (k.1 / 16) (k.1 % 16) < 10 then 48 + ordN (k.1 / 16) (k.1 % 16) else 87 + ordN (k.1 / 16) (k.1 % 16) := by decide +kernel
theorem ord_lt : ∀ k : Fin 160, ordN (k.1 / 16) (k.1 % 16) < 16 := by decide +kernel
theorem ordN_lt {r i : Nat} (hr : r < 10) (hi : i < 16) : ordN r i < 16 := by
  have h := ord_lt ⟨16 * r + i, by omega⟩
  simp only at h
  rwa [show (16 * r + i) / 16 = r by omega, show (16 * r + i) % 16 = i by omega] at h
theorem place_at {r i : Nat} (hr : r < 10) (hi : i < 16) (h : 16 * r + i < ordB.size) : (ordB[16 * r + i].toNat : Int) = if ordN r i < 10 then 48 + (ordN r i : Int) else 87 + (ordN r i : Int) := by
  have h1 := ord_tab ⟨16 * r + i, by omega⟩
  simp only at h1
  rw [show (16 * r + i) / 16 = r by omega, show (16 * r + i) % 16 = i by omega] at h1
  have e : ordB[16 * r + i] = ordB.data.getD (16 * r + i) 0 := by
    show ordB.data[16 * r + i]'h = _
    unfold Array.getD
    exact (dif_pos h).symm
  rw [e, h1]
  split <;> simp
theorem place_lo {r i : Nat} (hr : r < 10) (hi : i < 16) (h : 16 * r + i < ordB.size) (hc : (ordB[16 * r + i].toNat : Int) < 97) : ((ordB[16 * r + i].toNat : Int) - 48) % 256 = (ordN r i : Int) := by
  rw [place_at hr hi h] at *
  have := ordN_lt hr hi
  split at * <;> omega
theorem place_hi {r i : Nat} (hr : r < 10) (hi : i < 16) (h : 16 * r + i < ordB.size) (hc : 97 ≤ (ordB[16 * r + i].toNat : Int)) : ((ordB[16 * r + i].toNat : Int) - 97) % 256 + 10 = (ordN r i : Int) := by
  rw [place_at hr hi h] at *
  have := ordN_lt hr hi
  split at * <;> omega
set_option maxHeartbeats 1000000 in
set_option maxRecDepth 100000 in
theorem place_any (r i : Nat) (hr : r < 10) (hi : i < 16) (w : World) : Calls Try.prog 162 #[.int .i64 (r : Int), .int .i64 (i : Int)] w fun e w' => e = .returned (.int .i64 (ordN r i : Int)) ∧ Below w.heap.size w w' := by
  go_enter Try.func162, Try.ntmps162
  go_wp2_with fail
  · go_ret
    exact ⟨ret_int (place_hi hr hi (show 16 * r + i < 160 by omega) (by assumption)), Below.refl _ _⟩
  · go_ret
    exact ⟨ret_int (place_lo hr hi (show 16 * r + i < 160 by omega) (by assumption)), Below.refl _ _⟩
set_option maxHeartbeats 1000000 in
theorem corners_any (pb i : Nat) (hi : i < 8) (w : World) : Calls Try.prog 168 #[.pointer (some ⟨pb, 0, none⟩), .int .i64 (i : Int)] w fun e w' => e = .returned (.tuple #[.pointer (some ⟨pb, cA i, none⟩), .pointer (some ⟨pb, cB i, none⟩), .pointer (some ⟨pb, cC i, none⟩), .pointer (some ⟨pb, cD i, none⟩)]) ∧ Below w.heap.size w w' := by
  have h8 : i = 0 ∨ i = 1 ∨ i = 2 ∨ i = 3 ∨ i = 4 ∨ i = 5 ∨ i = 6 ∨ i = 7 := by omega
  clear hi
  rcases h8 with rfl | rfl | rfl | rfl | rfl | rfl | rfl | rfl
  all_goals
    go_enter Try.func168, Try.ntmps168
    go_wp2_with fail
    refine wp_region_over (by kernel_rfl) (by kernel_rfl) ?_
    repeat (go_big_quiet_step (first | fail))
    all_goals (try unfold elV limbV)
    repeat (go_big_quiet_step (first | fail))
    all_goals (try unfold elV limbV)
    repeat (go_big_quiet_step (first | fail))
    all_goals (try unfold ciphV)
    refine wpQuiet_nil ?_
    rintro _ ⟨E, rfl⟩
    have HB := Lib.hid E.h
    have HZS := Lib.hid E.h.size
    obtain ⟨w1, hq9⟩ : ∃ W9 : World, E.w = W9 := ⟨_, rfl⟩
    rw [hq9] at HB HZS ⊢
    clear hq9 E
    go_wp2_with fail
    simp [bodyPost, results, Try.results168, go_sem, cA, cB, cC, cD]
    exact HB.out

structure W4 (l : WL) (A B C D : Nat) (a b c d : BitVec 32) : Prop where
  len : l.length = 16
  bd : A < 4 ∧ 4 ≤ B ∧ B < 8 ∧ 8 ≤ C ∧ C < 12 ∧ 12 ≤ D ∧ D < 16
  ha : l.getD A 0 = a
  hb : l.getD B 0 = b
  hc : l.getD C 0 = c
  hd : l.getD D 0 = d
section
variable {l : WL} {A B C D : Nat} {a b c d z : BitVec 32}
theorem W4.ca (h : W4 l A B C D a b c d) : (wlV l)[A]? = some (.int .u32 (a.toNat : Int)) := h.ha ▸ wlV_get l A (by have := h.len; have := h.bd; omega)
theorem W4.cb (h : W4 l A B C D a b c d) : (wlV l)[B]? = some (.int .u32 (b.toNat : Int)) := h.hb ▸ wlV_get l B (by have := h.len; have := h.bd; omega)
theorem W4.cc (h : W4 l A B C D a b c d) : (wlV l)[C]? = some (.int .u32 (c.toNat : Int)) := h.hc ▸ wlV_get l C (by have := h.len; have := h.bd; omega)
theorem W4.cd (h : W4 l A B C D a b c d) : (wlV l)[D]? = some (.int .u32 (d.toNat : Int)) := h.hd ▸ wlV_get l D (by have := h.len; have := h.bd; omega)
theorem set_same (l : WL) (k : Nat) (u : BitVec 32) (h : k < l.length) : (l.set k u).getD k 0 = u := by simp [List.getD, h]
theorem set_other (l : WL) (k j : Nat) (u : BitVec 32) (h : k ≠ j) : (l.set k u).getD j 0 = l.getD j 0 := by simp [List.getD, List.getElem?_set_ne h]
theorem W4.sa (h : W4 l A B C D a b c d) : W4 (l.set A z) A B C D z b c d := by
  have h1 := h.len; have h2 := h.bd
  exact ⟨by rw [List.length_set]; exact h1, h2, set_same _ _ _ (by omega), by rw [set_other _ _ _ _ (by omega)]; exact h.hb, by rw [set_other _ _ _ _ (by omega)]; exact h.hc, by rw [set_other _ _ _ _ (by omega)]; exact h.hd⟩
theorem W4.sb (h : W4 l A B C D a b c d) : W4 (l.set B z) A B C D a z c d := by
  have h1 := h.len; have h2 := h.bd
  exact ⟨by rw [List.length_set]; exact h1, h2, by rw [set_other _ _ _ _ (by omega)]; exact h.ha, set_same _ _ _ (by omega), by rw [set_other _ _ _ _ (by omega)]; exact h.hc, by rw [set_other _ _ _ _ (by omega)]; exact h.hd⟩
theorem W4.sc (h : W4 l A B C D a b c d) : W4 (l.set C z) A B C D a b z d := by
  have h1 := h.len; have h2 := h.bd
  exact ⟨by rw [List.length_set]; exact h1, h2, by rw [set_other _ _ _ _ (by omega)]; exact h.ha, by rw [set_other _ _ _ _ (by omega)]; exact h.hb, set_same _ _ _ (by omega), by rw [set_other _ _ _ _ (by omega)]; exact h.hd⟩
theorem W4.sd (h : W4 l A B C D a b c d) : W4 (l.set D z) A B C D a b c z := by
  have h1 := h.len; have h2 := h.bd
  exact ⟨by rw [List.length_set]; exact h1, h2, by rw [set_other _ _ _ _ (by omega)]; exact h.ha, by rw [set_other _ _ _ _ (by omega)]; exact h.hb, by rw [set_other _ _ _ _ (by omega)]; exact h.hc, set_same _ _ _ (by omega)⟩
theorem Bx.wset {W : World} {b i : Nat} {t : TypeId} {l : WL} {x : BitVec 32} (h : Bx W b t ((wlV l).set i (.int .u32 (x.toNat : Int)))) : Bx W b t (wlV (l.set i x)) := wlV_set l i x ▸ h
end
set_option maxRecDepth 100000 in
set_option maxHeartbeats 4000000 in
theorem quarter_any (m v : WL) (r i : Nat) (hi : i < 8) (hv : v.length = 16) (pb : Nat) (w : World) (hp : Bx w pb 228 (wlV v)) :
    Calls Try.prog 161 #[.pointer (some ⟨pb, 0, none⟩), .int .i64 (i : Int), .int .u32 ((m.getD (ordN r (2 * i)) 0).toNat : Int), .int .u32 ((m.getD (ordN r (2 * i + 1)) 0).toNat : Int)] w
      fun e w' => e = .returned (.tuple #[]) ∧ Bx w' pb 228 (wlV (quartB m v r i)) ∧ Kept (fun q => q = pb) w w' := by
  have hq := quart_words m v r i hv _ _ _ _ _ _ rfl rfl rfl rfl rfl rfl
  have HC := Lib.hid (fun w => corners_any pb i hi w)
  have HW := Lib.hid (show W4 v (cA i) (cB i) (cC i) (cD i) _ _ _ _ from ⟨hv, by unfold cA cB cC cD; omega, rfl, rfl, rfl, rfl⟩)
  generalize quartB m v r i = V at *
  generalize m.getD (ordN r (2 * i)) 0 = x at *
  generalize m.getD (ordN r (2 * i + 1)) 0 = y at *
  generalize v.getD (cA i) 0 = a at *
  generalize v.getD (cB i) 0 = b at *
  generalize v.getD (cC i) 0 = c at *
  generalize v.getD (cD i) 0 = d at *
  generalize cA i = A at *
  generalize cB i = B at *
  generalize cC i = C at *
  generalize cD i = D at *
  have HQ := Lib.hid hq
  have Hp := Lib.hid hp
  clear hp hv hi hq
  go_enter Try.func161, Try.ntmps161
  go_wp2_with fail
  have HK := Lib.hid (Kept.refl (fun q9 => q9 = pb) w)
  refine (HC.out w).mono ?_
  rintro e w1 ⟨rfl, hb9⟩
  replace Hp := Lib.hid (Hp.out.up hb9)
  replace HK := Lib.hid (Kept.up HK.out hb9)
  have HZS := Lib.hid hb9.size
  clear hb9
  go_wp2_with fail
  have g1 := add32 b x
  obtain ⟨za1, e0⟩ : ∃ z, b + x = z := ⟨_, rfl⟩
  rw [e0] at g1
  have g2 := add32 a za1
  obtain ⟨a1, e1⟩ : ∃ z, a + za1 = z := ⟨_, rfl⟩
  rw [e1] at g2
  have Eza1 := Lib.hid e0
  have Ea1 := Lib.hid e1
  clear e1 e0
  have hlp := Hp.out.lt
  have hcA := Hp.out.cell HW.out.ca
  have hcB := Hp.out.cell HW.out.cb
  have hcC := Hp.out.cell HW.out.cc
  have hcD := Hp.out.cell HW.out.cd
  refine wp_region_otail 10 (by kernel_rfl) (by kernel_rfl) ?_
  simp only [List.take_succ_cons, List.take_zero, List.drop_succ_cons, List.drop_zero]
  have hov_pb := fun (E : Over w1) o => E.cell (b := pb) o hlp
  repeat (go_big_quiet_step (first | fail))
  all_goals (try unfold elV limbV)
  repeat (go_big_quiet_step (first | fail))
  all_goals (try unfold elV limbV)
  repeat (go_big_quiet_step (first | fail))
  all_goals (try unfold ciphV)
  refine wpQuiet_nil ?_
  rintro _ ⟨E, rfl⟩
  clear hov_pb
  replace Hp := Lib.hid (Hp.out.up E.h)
  replace HK := Lib.hid (Kept.up HK.out E.h)
  replace HZS := sz HZS E.h.size
  obtain ⟨w2, hq9⟩ : ∃ W9 : World, E.w = W9 := ⟨_, rfl⟩
  rw [hq9] at Hp HK HZS ⊢
  clear hq9 E
  clear hcA hcB hcC hcD hlp
  have hcT := Hp.out.cell HW.out.ca
  have f3_p := Hp.out.frozen
  obtain ⟨w3, hq3, hg9, hz9, hx9⟩ := put1 Hp A (.int .u32 (a1.toNat : Int)) _ rfl
  replace HK := Lib.hid (Kept.grown HK.out hg9.out (fun q9 e9 => by obtain rfl := Option.some.inj e9; exact Or.inr (rfl)))
  replace HZS := sz HZS hz9.out
  replace Hp := hx9
  clear hx9 hg9 hz9
  replace Hp := Lib.hid Hp.out.wset
  replace HW := Lib.hid (HW.out.sa (z := a1))
  go_wp2_with fail
  clear hq3 f3_p
  clear hcT g1 g2
  have g1 := bits_xor d a1
  obtain ⟨zd1, e0⟩ : ∃ z, d ^^^ a1 = z := ⟨_, rfl⟩
  rw [e0] at g1
  obtain ⟨d1, e1⟩ : ∃ z, rotB zd1 16 = z := ⟨_, rfl⟩
  have HT := Lib.hid (fun w => turn_any zd1 16 (by omega) w)
  rw [e1] at HT
  have Ezd1 := Lib.hid e0
  have Ed1 := Lib.hid e1
  clear e1 e0
  have hlp := Hp.out.lt
  have hcA := Hp.out.cell HW.out.ca
  have hcB := Hp.out.cell HW.out.cb
  have hcC := Hp.out.cell HW.out.cc
  have hcD := Hp.out.cell HW.out.cd
  refine wp_region_otail 10 (by kernel_rfl) (by kernel_rfl) ?_
  simp only [List.take_succ_cons, List.take_zero, List.drop_succ_cons, List.drop_zero]
  have hov_pb := fun (E : Over w3) o => E.cell (b := pb) o hlp
  repeat (go_big_quiet_step (first | (go_at_call 169; exact calls_over (HT.out _))))
  all_goals (try unfold elV limbV)
  repeat (go_big_quiet_step (first | (go_at_call 169; exact calls_over (HT.out _))))
  all_goals (try unfold elV limbV)
  repeat (go_big_quiet_step (first | (go_at_call 169; exact calls_over (HT.out _))))
  all_goals (try unfold ciphV)
  refine wpQuiet_nil ?_
  rintro _ ⟨E, rfl⟩
  clear hov_pb
  replace Hp := Lib.hid (Hp.out.up E.h)
  replace HK := Lib.hid (Kept.up HK.out E.h)
  replace HZS := sz HZS E.h.size
  obtain ⟨w4, hq9⟩ : ∃ W9 : World, E.w = W9 := ⟨_, rfl⟩
  rw [hq9] at Hp HK HZS ⊢
  clear hq9 E
  clear hcA hcB hcC hcD hlp
  have hcT := Hp.out.cell HW.out.cd
  have f5_p := Hp.out.frozen
  obtain ⟨w5, hq5, hg9, hz9, hx9⟩ := put1 Hp D (.int .u32 (d1.toNat : Int)) _ rfl
  replace HK := Lib.hid (Kept.grown HK.out hg9.out (fun q9 e9 => by obtain rfl := Option.some.inj e9; exact Or.inr (rfl)))
  replace HZS := sz HZS hz9.out
  replace Hp := hx9
  clear hx9 hg9 hz9
  replace Hp := Lib.hid Hp.out.wset
  replace HW := Lib.hid (HW.out.sd (z := d1))
  go_wp2_with fail
  clear hq5 f5_p
  clear hcT g1 HT
  have g2 := add32 c d1
  obtain ⟨c1, e1⟩ : ∃ z, c + d1 = z := ⟨_, rfl⟩
  rw [e1] at g2
  have Ec1 := Lib.hid e1
  clear e1
  have hlp := Hp.out.lt
  have hcA := Hp.out.cell HW.out.ca
  have hcB := Hp.out.cell HW.out.cb
  have hcC := Hp.out.cell HW.out.cc
  have hcD := Hp.out.cell HW.out.cd
  refine wp_region_otail 8 (by kernel_rfl) (by kernel_rfl) ?_
  simp only [List.take_succ_cons, List.take_zero, List.drop_succ_cons, List.drop_zero]
  have hov_pb := fun (E : Over w5) o => E.cell (b := pb) o hlp
  repeat (go_big_quiet_step (first | fail))
  all_goals (try unfold elV limbV)
  repeat (go_big_quiet_step (first | fail))
  all_goals (try unfold elV limbV)
  repeat (go_big_quiet_step (first | fail))
  all_goals (try unfold ciphV)
  refine wpQuiet_nil ?_
  rintro _ ⟨E, rfl⟩
  clear hov_pb
  replace Hp := Lib.hid (Hp.out.up E.h)
  replace HK := Lib.hid (Kept.up HK.out E.h)
  replace HZS := sz HZS E.h.size
  obtain ⟨w6, hq9⟩ : ∃ W9 : World, E.w = W9 := ⟨_, rfl⟩
  rw [hq9] at Hp HK HZS ⊢
  clear hq9 E
  clear hcA hcB hcC hcD hlp
  have hcT := Hp.out.cell HW.out.cc
  have f7_p := Hp.out.frozen
  obtain ⟨w7, hq7, hg9, hz9, hx9⟩ := put1 Hp C (.int .u32 (c1.toNat : Int)) _ rfl
  replace HK := Lib.hid (Kept.grown HK.out hg9.out (fun q9 e9 => by obtain rfl := Option.some.inj e9; exact Or.inr (rfl)))
  replace HZS := sz HZS hz9.out
  replace Hp := hx9
  clear hx9 hg9 hz9
  replace Hp := Lib.hid Hp.out.wset
  replace HW := Lib.hid (HW.out.sc (z := c1))
  go_wp2_with fail
  clear hq7 f7_p
  clear hcT g2
  have g1 := bits_xor b c1
  obtain ⟨zb1, e0⟩ : ∃ z, b ^^^ c1 = z := ⟨_, rfl⟩
  rw [e0] at g1
  obtain ⟨b1, e1⟩ : ∃ z, rotB zb1 12 = z := ⟨_, rfl⟩
  have HT := Lib.hid (fun w => turn_any zb1 12 (by omega) w)
  rw [e1] at HT
  have Ezb1 := Lib.hid e0
  have Eb1 := Lib.hid e1
  clear e1 e0
  have hlp := Hp.out.lt
  have hcA := Hp.out.cell HW.out.ca
  have hcB := Hp.out.cell HW.out.cb
  have hcC := Hp.out.cell HW.out.cc
  have hcD := Hp.out.cell HW.out.cd
  refine wp_region_otail 10 (by kernel_rfl) (by kernel_rfl) ?_
  simp only [List.take_succ_cons, List.take_zero, List.drop_succ_cons, List.drop_zero]
  have hov_pb := fun (E : Over w7) o => E.cell (b := pb) o hlp
  repeat (go_big_quiet_step (first | (go_at_call 169; exact calls_over (HT.out _))))
  all_goals (try unfold elV limbV)
  repeat (go_big_quiet_step (first | (go_at_call 169; exact calls_over (HT.out _))))
  all_goals (try unfold elV limbV)
  repeat (go_big_quiet_step (first | (go_at_call 169; exact calls_over (HT.out _))))
  all_goals (try unfold ciphV)
  refine wpQuiet_nil ?_
  rintro _ ⟨E, rfl⟩
  clear hov_pb
  replace Hp := Lib.hid (Hp.out.up E.h)
  replace HK := Lib.hid (Kept.up HK.out E.h)
  replace HZS := sz HZS E.h.size
  obtain ⟨w8, hq9⟩ : ∃ W9 : World, E.w = W9 := ⟨_, rfl⟩
  rw [hq9] at Hp HK HZS ⊢
  clear hq9 E
  clear hcA hcB hcC hcD hlp
  have hcT := Hp.out.cell HW.out.cb
  have f9_p := Hp.out.frozen
  obtain ⟨w9, hq9, hg9, hz9, hx9⟩ := put1 Hp B (.int .u32 (b1.toNat : Int)) _ rfl
  replace HK := Lib.hid (Kept.grown HK.out hg9.out (fun q9 e9 => by obtain rfl := Option.some.inj e9; exact Or.inr (rfl)))
  replace HZS := sz HZS hz9.out
  replace Hp := hx9
  clear hx9 hg9 hz9
  replace Hp := Lib.hid Hp.out.wset
  replace HW := Lib.hid (HW.out.sb (z := b1))
  go_wp2_with fail
  clear hq9 f9_p
  clear hcT g1 HT
  have g1 := add32 b1 y
  obtain ⟨za2, e0⟩ : ∃ z, b1 + y = z := ⟨_, rfl⟩
  rw [e0] at g1
  have g2 := add32 a1 za2
  obtain ⟨a2, e1⟩ : ∃ z, a1 + za2 = z := ⟨_, rfl⟩
  rw [e1] at g2
  have Eza2 := Lib.hid e0
  have Ea2 := Lib.hid e1
  clear e1 e0
  have hlp := Hp.out.lt
  have hcA := Hp.out.cell HW.out.ca
  have hcB := Hp.out.cell HW.out.cb
  have hcC := Hp.out.cell HW.out.cc
  have hcD := Hp.out.cell HW.out.cd
  refine wp_region_otail 10 (by kernel_rfl) (by kernel_rfl) ?_
  simp only [List.take_succ_cons, List.take_zero, List.drop_succ_cons, List.drop_zero]
  have hov_pb := fun (E : Over w9) o => E.cell (b := pb) o hlp
  repeat (go_big_quiet_step (first | fail))
  all_goals (try unfold elV limbV)
  repeat (go_big_quiet_step (first | fail))
  all_goals (try unfold elV limbV)
  repeat (go_big_quiet_step (first | fail))
  all_goals (try unfold ciphV)
  refine wpQuiet_nil ?_
  rintro _ ⟨E, rfl⟩
  clear hov_pb
  replace Hp := Lib.hid (Hp.out.up E.h)
  replace HK := Lib.hid (Kept.up HK.out E.h)
  replace HZS := sz HZS E.h.size
  obtain ⟨w10, hq9⟩ : ∃ W9 : World, E.w = W9 := ⟨_, rfl⟩
  rw [hq9] at Hp HK HZS ⊢
  clear hq9 E
  clear hcA hcB hcC hcD hlp
  have hcT := Hp.out.cell HW.out.ca
  have f11_p := Hp.out.frozen
  obtain ⟨w11, hq11, hg9, hz9, hx9⟩ := put1 Hp A (.int .u32 (a2.toNat : Int)) _ rfl
  replace HK := Lib.hid (Kept.grown HK.out hg9.out (fun q9 e9 => by obtain rfl := Option.some.inj e9; exact Or.inr (rfl)))
  replace HZS := sz HZS hz9.out
  replace Hp := hx9
  clear hx9 hg9 hz9
  replace Hp := Lib.hid Hp.out.wset
  replace HW := Lib.hid (HW.out.sa (z := a2))
  go_wp2_with fail
  clear hq11 f11_p
  clear hcT g1 g2
  have g1 := bits_xor d1 a2
  obtain ⟨zd2, e0⟩ : ∃ z, d1 ^^^ a2 = z := ⟨_, rfl⟩
  rw [e0] at g1
  obtain ⟨d2, e1⟩ : ∃ z, rotB zd2 8 = z := ⟨_, rfl⟩
  have HT := Lib.hid (fun w => turn_any zd2 8 (by omega) w)
  rw [e1] at HT
  have Ezd2 := Lib.hid e0
  have Ed2 := Lib.hid e1
  clear e1 e0
  have hlp := Hp.out.lt
  have hcA := Hp.out.cell HW.out.ca
  have hcB := Hp.out.cell HW.out.cb
  have hcC := Hp.out.cell HW.out.cc
  have hcD := Hp.out.cell HW.out.cd
  refine wp_region_otail 10 (by kernel_rfl) (by kernel_rfl) ?_
  simp only [List.take_succ_cons, List.take_zero, List.drop_succ_cons, List.drop_zero]
  have hov_pb := fun (E : Over w11) o => E.cell (b := pb) o hlp
  repeat (go_big_quiet_step (first | (go_at_call 169; exact calls_over (HT.out _))))
  all_goals (try unfold elV limbV)
  repeat (go_big_quiet_step (first | (go_at_call 169; exact calls_over (HT.out _))))
  all_goals (try unfold elV limbV)
  repeat (go_big_quiet_step (first | (go_at_call 169; exact calls_over (HT.out _))))
  all_goals (try unfold ciphV)
  refine wpQuiet_nil ?_
  rintro _ ⟨E, rfl⟩
  clear hov_pb
  replace Hp := Lib.hid (Hp.out.up E.h)
  replace HK := Lib.hid (Kept.up HK.out E.h)
  replace HZS := sz HZS E.h.size
  obtain ⟨w12, hq9⟩ : ∃ W9 : World, E.w = W9 := ⟨_, rfl⟩
  rw [hq9] at Hp HK HZS ⊢
  clear hq9 E
  clear hcA hcB hcC hcD hlp
  have hcT := Hp.out.cell HW.out.cd
  have f13_p := Hp.out.frozen
  obtain ⟨w13, hq13, hg9, hz9, hx9⟩ := put1 Hp D (.int .u32 (d2.toNat : Int)) _ rfl
  replace HK := Lib.hid (Kept.grown HK.out hg9.out (fun q9 e9 => by obtain rfl := Option.some.inj e9; exact Or.inr (rfl)))
  replace HZS := sz HZS hz9.out
  replace Hp := hx9
  clear hx9 hg9 hz9
  replace Hp := Lib.hid Hp.out.wset
  replace HW := Lib.hid (HW.out.sd (z := d2))
  go_wp2_with fail
  clear hq13 f13_p
  clear hcT g1 HT
  have g2 := add32 c1 d2
  obtain ⟨c2, e1⟩ : ∃ z, c1 + d2 = z := ⟨_, rfl⟩
  rw [e1] at g2
  have Ec2 := Lib.hid e1
  clear e1
  have hlp := Hp.out.lt
  have hcA := Hp.out.cell HW.out.ca
  have hcB := Hp.out.cell HW.out.cb
  have hcC := Hp.out.cell HW.out.cc
  have hcD := Hp.out.cell HW.out.cd
  refine wp_region_otail 8 (by kernel_rfl) (by kernel_rfl) ?_
  simp only [List.take_succ_cons, List.take_zero, List.drop_succ_cons, List.drop_zero]
  have hov_pb := fun (E : Over w13) o => E.cell (b := pb) o hlp
  repeat (go_big_quiet_step (first | fail))
  all_goals (try unfold elV limbV)
  repeat (go_big_quiet_step (first | fail))
  all_goals (try unfold elV limbV)
  repeat (go_big_quiet_step (first | fail))
  all_goals (try unfold ciphV)
  refine wpQuiet_nil ?_
  rintro _ ⟨E, rfl⟩
  clear hov_pb
  replace Hp := Lib.hid (Hp.out.up E.h)
  replace HK := Lib.hid (Kept.up HK.out E.h)
  replace HZS := sz HZS E.h.size
  obtain ⟨w14, hq9⟩ : ∃ W9 : World, E.w = W9 := ⟨_, rfl⟩
  rw [hq9] at Hp HK HZS ⊢
  clear hq9 E
  clear hcA hcB hcC hcD hlp
  have hcT := Hp.out.cell HW.out.cc
  have f15_p := Hp.out.frozen
  obtain ⟨w15, hq15, hg9, hz9, hx9⟩ := put1 Hp C (.int .u32 (c2.toNat : Int)) _ rfl
  replace HK := Lib.hid (Kept.grown HK.out hg9.out (fun q9 e9 => by obtain rfl := Option.some.inj e9; exact Or.inr (rfl)))
  replace HZS := sz HZS hz9.out
  replace Hp := hx9
  clear hx9 hg9 hz9
  replace Hp := Lib.hid Hp.out.wset
  replace HW := Lib.hid (HW.out.sc (z := c2))
  go_wp2_with fail
  clear hq15 f15_p
  clear hcT g2
  have g1 := bits_xor b1 c2
  obtain ⟨zb2, e0⟩ : ∃ z, b1 ^^^ c2 = z := ⟨_, rfl⟩
  rw [e0] at g1
  obtain ⟨b2, e1⟩ : ∃ z, rotB zb2 7 = z := ⟨_, rfl⟩
  have HT := Lib.hid (fun w => turn_any zb2 7 (by omega) w)
  rw [e1] at HT
  have Ezb2 := Lib.hid e0
  have Eb2 := Lib.hid e1
  clear e1 e0
  have hlp := Hp.out.lt
  have hcA := Hp.out.cell HW.out.ca
  have hcB := Hp.out.cell HW.out.cb
  have hcC := Hp.out.cell HW.out.cc
  have hcD := Hp.out.cell HW.out.cd
  refine wp_region_otail 10 (by kernel_rfl) (by kernel_rfl) ?_
  simp only [List.take_succ_cons, List.take_zero, List.drop_succ_cons, List.drop_zero]
  have hov_pb := fun (E : Over w15) o => E.cell (b := pb) o hlp
  repeat (go_big_quiet_step (first | (go_at_call 169; exact calls_over (HT.out _))))
  all_goals (try unfold elV limbV)
  repeat (go_big_quiet_step (first | (go_at_call 169; exact calls_over (HT.out _))))
  all_goals (try unfold elV limbV)
  repeat (go_big_quiet_step (first | (go_at_call 169; exact calls_over (HT.out _))))
  all_goals (try unfold ciphV)
  refine wpQuiet_nil ?_
  rintro _ ⟨E, rfl⟩
  clear hov_pb
  replace Hp := Lib.hid (Hp.out.up E.h)
  replace HK := Lib.hid (Kept.up HK.out E.h)
  replace HZS := sz HZS E.h.size
  obtain ⟨w16, hq9⟩ : ∃ W9 : World, E.w = W9 := ⟨_, rfl⟩
  rw [hq9] at Hp HK HZS ⊢
  clear hq9 E
  clear hcA hcB hcC hcD hlp
  have hcT := Hp.out.cell HW.out.cb
  have f17_p := Hp.out.frozen
  obtain ⟨w17, hq17, hg9, hz9, hx9⟩ := put1 Hp B (.int .u32 (b2.toNat : Int)) _ rfl
  replace HK := Lib.hid (Kept.grown HK.out hg9.out (fun q9 e9 => by obtain rfl := Option.some.inj e9; exact Or.inr (rfl)))
  replace HZS := sz HZS hz9.out
  replace Hp := hx9
  clear hx9 hg9 hz9
  replace Hp := Lib.hid Hp.out.wset
  replace HW := Lib.hid (HW.out.sb (z := b2))
  go_wp2_with fail
  clear hq17 f17_p
  clear hcT g1 HT
  go_end0
  have h := HQ.out
  rw [BitVec.add_assoc a b x, Eza1.out, Ea1.out, Ezd1.out, Ed1.out, Ec1.out, Ezb1.out, Eb1.out, BitVec.add_assoc a1 b1 y, Eza2.out, Ea2.out, Ezd2.out, Ed2.out, Ec2.out, Ezb2.out, Eb2.out] at h
  exact ⟨rfl, h ▸ Hp.out, HK.out⟩
end Go.Proofs.Ytdlnnkbigeiilaa

/- Arrays in boxes: read whole, stored whole, in the midst of a box; text copied into a box. No condition beyond those that each fact names. -/
namespace Go.Proofs.Ytdlnnkbigeiilaa
open Go.RowKit

def putL (cs : List Value) (o : Nat) : List Value → List Value
  | [] => cs
  | v :: vs => putL (cs.set o v) (o + 1) vs
theorem putL_eq : ∀ (vs cs : List Value) (o : Nat), o + vs.length ≤ cs.length → putL cs o vs = cs.take o ++ vs ++ cs.drop (o + vs.length)
  | [], cs, o, _ => by simp [putL]
  | v :: vs, cs, o, h => by
      rw [List.length_cons] at h
      rw [putL, putL_eq vs _ _ (by rw [List.length_set]; omega)]
      have h1 : (cs.set o v).take (o + 1) = cs.take o ++ [v] := by
        rw [List.take_succ_eq_append_getElem (by rw [List.length_set]; omega), List.take_set_of_le (Nat.le_refl _), List.getElem_set_self]
      have h2 : (cs.set o v).drop (o + 1 + vs.length) = cs.drop (o + (v :: vs).length) := by
        rw [List.drop_set_of_lt (by omega), List.length_cons, show o + 1 + vs.length = o + (vs.length + 1) by omega]
      rw [h1, h2]
      simp
theorem putL_all (cs vs : List Value) (h : vs.length = cs.length) : putL cs 0 vs = vs := by
  rw [putL_eq _ _ _ (by omega)]
  simp [h]
section
variable {W w0 w : World} {b o n : Nat} {t : TypeId} {cs vs : List Value} {P : Program}
theorem Bx.range (h : Bx W b t cs) : W.rangeAt b 0 cs := fun j v hv => by rw [Nat.zero_add]; exact h.cell hv
theorem Bx.part {as1 bs : List Value} (h : Bx W b t (as1 ++ (cs ++ bs))) (ho : as1.length = o) : W.rangeAt b o cs := fun j v hv => h.cell (by
  have hj := (List.getElem?_eq_some_iff.1 hv).1
  rw [List.getElem?_append_right (by omega), show o + j - as1.length = j by omega, List.getElem?_append_left hj, hv])
theorem Bx.there (h : Bx W b t cs) (hn : o + n ≤ cs.length) : W.there b o n := fun j hj => ⟨by rw [h.cell (List.getElem?_eq_getElem (show o + j < cs.length by omega))]; rfl, h.frozen _⟩
theorem Bx.put : ∀ (vs : List Value) {W : World} {cs : List Value} {o : Nat}, Bx W b t cs → Bx (W.setCells b o vs) b t (putL cs o vs)
  | [], _, _, _, h => h
  | v :: vs, _, _, _, h => Bx.put vs (h.set _ v)
theorem grown_put (b : Nat) : ∀ (vs : List Value) (W : World) (o : Nat), W.grownBy (W.setCells b o vs) (some b)
  | [], W, _ => ⟨rfl, rfl, rfl, Nat.le_refl _, fun _ _ _ => rfl⟩
  | v :: vs, W, o => (grown_set W b o v).trans (grown_put b vs _ _)
theorem size_put (b : Nat) : ∀ (vs : List Value) (W : World) (o : Nat), (W.setCells b o vs).heap.size = W.heap.size
  | [], _, _ => rfl
  | v :: vs, W, o => by
      show ((W.setCell ⟨b, o, none⟩ v).setCells b (o + 1) vs).heap.size = _
      rw [size_put b vs]
      simp [World.setCell]
/-- A box is stored into from o on. -/
theorem puts (h : Hid (Bx W b t cs)) (o : Nat) (vs cs' : List Value) (hc : putL cs o vs = cs') : ∃ W', W.setCells b o vs = W' ∧ Hid (W.grownBy W' (some b)) ∧ Hid (W'.heap.size = W.heap.size) ∧ Hid (Bx W' b t cs') :=
  ⟨_, rfl, Lib.hid (grown_put b vs W o), Lib.hid (size_put b vs W o), Lib.hid (hc ▸ h.out.put vs)⟩
theorem wp_store_new {op : Oper} {a : Act} {K : Act → World → Prop} {Q : Exit → Act → World → Prop} (ty t : TypeId) (x y : Operand) (ho : op.op = .store ty x y) (c c' : List Value)
    (hx : a.eval x = .pointer (some ⟨w.heap.size, 0, none⟩)) (hy : a.eval y = .agg c'.toArray) (hi : (P.info? ty).map (·.size) = some c'.length) (hc : c.length = c'.length) (h1 : ∀ v ∈ c', v.oneCell' = true)
    (h : K (a.put op.dst undef) (w.alloc (.cells c'.toArray t))) : op.wp P a (w.alloc (.cells c.toArray t)) K Q := by
  refine wp_store_mid ty x y ho w.heap.size 0 c'.toArray hx hy ?_ (by simpa using hi) (all_oneCell_toArray h1) ?_
  · have hb : Bx (w.alloc (.cells c.toArray t)) w.heap.size t c := Bx.new w t c _ rfl
    exact hb.there (by simp; omega)
  · have hb : Bx (w.alloc (.cells c.toArray t)) w.heap.size t c := Bx.new w t c _ rfl
    have e : (w.alloc (.cells c.toArray t)).setCells w.heap.size 0 c' = w.alloc (.cells c'.toArray t) := by
      have key : ∀ (vs c : List Value) (o : Nat), (w.alloc (.cells c.toArray t)).setCells w.heap.size o vs = w.alloc (.cells (putL c o vs).toArray t) := by
        intro vs
        induction vs with
        | nil => intro c o; rfl
        | cons v vs ih =>
          intro c o
          show ((w.alloc (.cells c.toArray t)).setCell ⟨w.heap.size, o, none⟩ v).setCells w.heap.size (o + 1) vs = _
          rw [World.setCell_alloc_at _ _ _ _ _ rfl]
          simp only [List.setIfInBounds_toArray]
          exact ih _ _
      rw [key, putL_all _ _ hc.symm]
    simp only
    rw [e]
    exact h
theorem wpList_store_new {ops : Array Oper} {rest : List Oper} {op : Oper} {a : Act} {Q : Exit → Act → World → Prop} (hgd : op.guard = none) (ty t : TypeId) (x y : Operand) (ho : op.op = .store ty x y) (c c' : List Value)
    (hx : a.eval x = .pointer (some ⟨w.heap.size, 0, none⟩)) (hy : a.eval y = .agg c'.toArray) (hi : (P.info? ty).map (·.size) = some c'.length) (hc : c.length = c'.length) (h1 : ∀ v ∈ c', v.oneCell' = true)
    (h : wpList P ops Q rest (a.put op.dst undef) (w.alloc (.cells c'.toArray t))) : wpList P ops Q (op :: rest) a (w.alloc (.cells c.toArray t)) :=
  wpList_plain hgd fun _ hK => wp_store_new ty t x y ho c c' hx hy hi hc h1 (hK _ _ h)
theorem grown_row {g : Nat} (w : World) (cs : Array Value) : w.grownBy (w.setRow g cs) (some g) :=
  ⟨rfl, rfl, rfl, by simp [World.setRow], fun k _ hk => setRow_other w g k cs (fun e => hk (by rw [e]))⟩
/-- Cells are copied out of a box into a box. -/
theorem wpList_copyB {ops : Array Oper} {rest : List Oper} {op : Oper} {a : Act} {Q : Exit → Act → World → Prop} (hgd : op.guard = none) (d s : Operand) (dT sT : TypeId)
    (ho : op.op = .call { callee := .builtin .copy, args := #[d, s], argTypes := #[dT, sT] }) (elem : TypeId) (hu : P.underlying dT = some (.slice elem)) (hsz : (P.info? elem).map (·.size) = some 1)
    (g off dLen dCap : Nat) (ad : Addr) (sLen sCap : Nat) (hd : a.eval d = .slice (some ⟨g, off, none⟩) dLen dCap) (hs : a.eval s = .slice (some ad) sLen sCap)
    (cur : List Value) (t : TypeId) (hg : Bx w g t cur) (cs : List Value) (hn : cs.length = Nat.min sLen dLen)
    (hsrc : ∀ j v, cs[j]? = some v → w.cell? (ad.add j) = some v) (hfit : off + cs.length ≤ cur.length) (h1 : ∀ v ∈ cs, v.oneCell' = true) (cs' : List Value) (hc : putL cur off cs = cs')
    (h : ∀ w', Hid (w.grownBy w' (some g)) → Hid (w'.heap.size = w.heap.size) → Hid (Bx w' g t cs') → wpList P ops Q rest (a.put op.dst (goInt cs.length)) w') : wpList P ops Q (op :: rest) a w := by
  refine wpList_copy_own hgd d s dT sT ho elem hu hsz g off dLen dCap ad sLen sCap hd hs cur.toArray t hg cs hn hsrc (by simpa using hfit) h1 ?_
  refine h _ (Lib.hid (grown_row _ _)) (Lib.hid (by simp [World.setRow])) (Lib.hid ?_)
  show (w.setRow g _).heap[g]? = _
  rw [setRow_heap w g _ _ t _ hg, ← hc, putL_eq _ _ _ hfit]
  simp
/-- A text's beginning is copied into a box. -/
theorem run_copy_str (w : World) (dT sT ty elem : TypeId) (g o dLen dCap : Nat) (s : ByteArray) (cur : Array Value) (t : TypeId)
    (hu : P.underlying dT = some (.slice elem)) (hs : (P.info? elem).map (·.size) = some 1) (hg : w.heap[g]? = some (.cells cur t (0, 0))) (hfit : o + dLen ≤ cur.size) :
    (Builtin.copy_ #[dT, sT] ty #[.slice (some ⟨g, o, none⟩) dLen dCap, .string s]).run P w =
      .ok (goInt (Nat.min s.size dLen)) (w.setRow g (cur.toList.take o ++ (Lib.byteCells s.data.toList).take dLen ++ cur.toList.drop (o + ((Lib.byteCells s.data.toList).take dLen).length)).toArray) := by
  have hlen : ((Lib.byteCells s.data.toList).take dLen).length = Nat.min s.size dLen := by
    rw [List.length_take, Lib.byteCells_length, ← Lib.size_eq, Nat.min_comm]
  have hst := run_storeCells_at P g o t ((Lib.byteCells s.data.toList).take dLen) 0 cur w hg (by rw [hlen]; have := Nat.min_le_right s.size dLen; simp only [Nat.add_zero]; exact Nat.le_trans (Nat.add_le_add_left this _) hfit) (fun v hv => Lib.byteCells_one _ v (List.mem_of_mem_take hv))
  have htk : List.take (Nat.min s.size dLen) (List.map (fun b : UInt8 => Value.int IntKind.u8 (b.toNat : Int)) s.data.toList) = (Lib.byteCells s.data.toList).take dLen := by
    unfold Lib.byteCells
    show List.take (min s.size dLen) _ = _
    rw [Nat.min_comm, ← List.take_take, List.take_of_length_le (i := s.size) (by rw [List.length_map, ← Lib.size_eq]; exact Nat.le_refl _)]
  simp only [Nat.add_zero] at hst
  cases hq : P.info? elem with
  | none => simp [hq] at hs
  | some i =>
    simp [Builtin.copy_, run_underlying hu, Builtin.lenOf, Builtin.firstCells, sizeOf, typeInfo, hq]
    rw [htk, hst]
    simp [Result.andThen]
/-- A text's beginning is copied into a box. -/
theorem wpList_copyS {ops : Array Oper} {rest : List Oper} {op : Oper} {a : Act} {Q : Exit → Act → World → Prop} (hgd : op.guard = none) (d s : Operand) (dT sT : TypeId)
    (ho : op.op = .call { callee := .builtin .copy, args := #[d, s], argTypes := #[dT, sT] }) (elem : TypeId) (hu : P.underlying dT = some (.slice elem)) (hsz : (P.info? elem).map (·.size) = some 1)
    (g off dLen dCap : Nat) (x : ByteArray) (hd : a.eval d = .slice (some ⟨g, off, none⟩) dLen dCap) (hs : a.eval s = .string x)
    (cur : List Value) (t : TypeId) (hg : Bx w g t cur) (hfit : off + dLen ≤ cur.length) (cs' : List Value) (hc : putL cur off ((Lib.byteCells x.data.toList).take dLen) = cs')
    (h : ∀ w', Hid (w.grownBy w' (some g)) → Hid (w'.heap.size = w.heap.size) → Hid (Bx w' g t cs') → wpList P ops Q rest (a.put op.dst (goInt (Nat.min x.size dLen))) w') : wpList P ops Q (op :: rest) a w := by
  refine wpList_plain hgd fun K hK => ?_
  have hrun := run_copy_str (P := P) w dT sT op.type elem g off dLen dCap x cur.toArray t hu hsz hg (by simpa using hfit)
  have hl : off + ((Lib.byteCells x.data.toList).take dLen).length ≤ cur.length := by rw [List.length_take]; have := Nat.min_le_left dLen (Lib.byteCells x.data.toList).length; omega
  unfold Oper.wp
  simp [execOp, ho, resolve, invoke, builtin, hd, hs, hrun, Result.andThen]
  refine hK _ _ (h _ (Lib.hid (grown_row _ _)) (Lib.hid (by simp [World.setRow])) (Lib.hid ?_))
  show (w.setRow g _).heap[g]? = _
  rw [setRow_heap w g _ _ t _ hg, ← hc, putL_eq _ _ _ hl]
  simp
/-- A piece of a box is cleared. -/
theorem wpList_clearB {ops : Array Oper} {rest : List Oper} {op : Oper} {a : Act} {Q : Exit → Act → World → Prop} (hgd : op.guard = none) (x : Operand) (T : TypeId)
    (ho : op.op = .call { callee := .builtin .clear, args := #[x], argTypes := #[T] }) (e : TypeId) (z : Value) (ht : P.underlying T = some (.slice e)) (hv : ∀ w, (zeroValue e).run P w = .ok z w) (hz : z.cells = #[z]) (h1 : z.oneCell' = true)
    (g off n c : Nat) (hx : a.eval x = .slice (some ⟨g, off, none⟩) n c) (cur : List Value) (t : TypeId) (hg : Bx w g t cur) (hfit : off + n ≤ cur.length) (cs' : List Value) (hc : putL cur off (List.replicate n z) = cs')
    (h : ∀ w', Hid (w.grownBy w' (some g)) → Hid (w'.heap.size = w.heap.size) → Hid (Bx w' g t cs') → wpList P ops Q rest (a.put op.dst (.tuple #[])) w') : wpList P ops Q (op :: rest) a w := by
  refine wpList_plain hgd fun K hK => ?_
  by_cases hn : n = 0
  · subst hn
    have hrun : (Builtin.clear_ #[T] op.type #[.slice (some ⟨g, off, none⟩) 0 c]).run P w = .ok (.tuple #[]) w := by simp [Builtin.clear_, run_underlying ht]
    unfold Oper.wp
    simp [execOp, ho, resolve, invoke, builtin, hx, hrun, Result.andThen]
    exact hK _ _ (h w (Lib.hid ⟨rfl, rfl, rfl, Nat.le_refl _, fun _ _ _ => rfl⟩) (Lib.hid rfl) (Lib.hid (hc ▸ hg)))
  · have hrun := Lib.run_clear_slice (P := P) w T e op.type z ht hv hz h1 g off n c (by omega) (fun j hj => (hg.there hfit j hj).1) (fun j hj => (hg.there hfit j hj).2)
    unfold Oper.wp
    simp [execOp, ho, resolve, invoke, builtin, hx, hrun, Result.andThen]
    exact hK _ _ (h _ (Lib.hid (grown_put g _ w off)) (Lib.hid (size_put g _ w off)) (Lib.hid (hc ▸ hg.put _)))
/-- A whole array is read in a region whose order is drawn. -/
theorem wpQuiet_load {ops : Array Oper} {C : World → Prop} {Q : Act → Prop} {rest : List Oper} {op : Oper} {a : Act} (hgd : op.guard = none) (ty : TypeId) (x : Operand) (ho : op.op = .load ty x)
    (b o : Nat) (hx : a.eval x = .pointer (some ⟨b, o, none⟩)) (cs : List Value) (d : TypeDesc) (hC : ∀ w, C w → w.rangeAt b o cs) (hu : P.underlying ty = some d) (hd : d.isRow = true) (hi : (P.info? ty).map (·.size) = some cs.length)
    (h : wpQuiet P ops C Q rest (a.put op.dst (.agg cs.toArray))) : wpQuiet P ops C Q (op :: rest) a := by
  refine BigFrame.wpQuiet_want (by simp [Region.wanted, hgd]) fun K hK => ⟨_, fun w hw => ?_, hK _ h⟩
  unfold Oper.quietAt execOp
  simp only [ho, hx, Instr.loadAt, Instr.sureAddr, Sem.run_bind, Sem.run_pure, Result.andThen_ok, run_loadVar_mid w b o ty cs d (hC w hw) hu hd hi]
  exact ⟨rfl, rfl⟩
end
theorem ret_arr {P : Program} {fn : Func} {R : Ending → World → Prop} {a : Act} {w : World} {p : Tmp} {ty : TypeId} (h : fn.results = #[.cell p ty]) {b : Nat} {t : TypeId} {cs : List Value} (hb : Bx w b t cs) (d : TypeDesc)
    (hp : a.tmps.getD p undef = .pointer (some ⟨b, 0, none⟩)) (hu : P.underlying ty = some d) (hd : d.isRow = true) (hi : (P.info? ty).map (·.size) = some cs.length) (ha : a.defers = []) (hR : R (.returned (.agg cs.toArray)) w) : bodyPost P fn R .ret a w :=
  bodyPost_ret (results_cell_row h a.tmps w b t cs.toArray (0, 0) d hp hb hu (by cases d <;> simp_all) (by simpa using hi)) ha hR
/-- A cell of an array in hand. -/
theorem run_index_arr {P : Program} (w : World) (t e : TypeId) (k : IntKind) (n : Nat) (cs : List Value) (i : Nat) (v : Value) (hv : cs[i]? = some v) (hu : P.underlying t = some (.array n e)) (hn : cs.length = n) (hs : (P.info? e).map (·.size) = some 1) (he : P.underlying e = some (.int k)) :
    (Instr.index t (.agg cs.toArray) (.int .i64 (i : Int))).run P w = .ok v w := by
  have hi : i < n := hn ▸ (List.getElem?_eq_some_iff.1 hv).1
  cases hq : P.info? e with
  | none => simp [hq] at hs
  | some inf =>
    have h1 : inf.size = 1 := by simpa [hq] using hs
    simp [Instr.index, asIntOf, run_underlying hu, hi, sizeOf, typeInfo, hq, h1, part, isAgg, run_underlying he, hv]
theorem wl_one (l : WL) : ∀ v ∈ wlV l, v.oneCell' = true := fun v hv => by
  unfold wlV at hv
  obtain ⟨x, _, rfl⟩ := List.mem_map.1 hv
  rfl
end Go.Proofs.Ytdlnnkbigeiilaa

/- Stir of the package fold. Conditions: sixteen words each. -/
namespace Go.Proofs.Ytdlnnkbigeiilaa
open Go.RowKit
def zw (n : Nat) : WL := List.replicate n 0
theorem zw_len (n : Nat) : (zw n).length = n := List.length_replicate
theorem wl_cell {W : World} {b : Nat} {t : TypeId} {l : WL} (h : Bx W b t (wlV l)) (i : Nat) (hi : i < l.length) : W.cell? ⟨b, i, none⟩ = some (.int .u32 ((l.getD i 0).toNat : Int)) := h.cell (wlV_get l i hi)
theorem info16 : (Try.prog.info? 195).map (·.size) = some 16 := by kernel_rfl
theorem infoPool : (Try.prog.info? 228).map (·.size) = some 16 := by kernel_rfl
set_option maxRecDepth 100000 in
set_option maxHeartbeats 4000000 in
theorem Stir_any (v m : WL) (hv : v.length = 16) (hm : m.length = 16) (w : World) :
    Calls Try.prog 151 #[.agg (wlV v).toArray, .agg (wlV m).toArray] w fun e w' => e = .returned (.agg (wlV (stirB v m)).toArray) ∧ Below w.heap.size w w' := by
  have HV := Lib.hid hv
  have HM := Lib.hid hm
  have HI := Lib.hid (show (Try.prog.info? 195).map (·.size) = some (wlV v).length by rw [wlV_len, hv]; exact info16)
  have HIP := Lib.hid (show (Try.prog.info? 228).map (·.size) = some (wlV v).length by rw [wlV_len, hv]; exact infoPool)
  have HZ := Lib.hid (show (wlV (zw 16)).length = (wlV v).length by rw [wlV_len, wlV_len, hv]; rfl)
  clear hv hm
  have hz : (#[.int .u32 0, .int .u32 0, .int .u32 0, .int .u32 0, .int .u32 0, .int .u32 0, .int .u32 0, .int .u32 0, .int .u32 0, .int .u32 0, .int .u32 0, .int .u32 0, .int .u32 0, .int .u32 0, .int .u32 0, .int .u32 0] : Array Value) = (wlV (zw 16)).toArray := rfl
  go_enter Try.func151, Try.ntmps151
  go_upto_region 1 with (fail)
  obtain ⟨w1, hq1, hb9, hz9, Ha, Hb, Hr⟩ := new3 w 195 (wlV v) 195 (wlV m) 195 (wlV (zw 16))
  rw [hq1]
  clear hq1
  have HB := Lib.hid hb9
  have HZS := hz9
  clear hb9 hz9
  go_upto_region 2 with (first | refine wpList_load_mid rfl 195 (.tmp 2) rfl w.heap.size 0 rfl (wlV v) _ Ha.out.range Try.underlying195 rfl HI.out ?_ | refine wpList_store_new rfl 228 228 (.tmp 5) (.tmp 8) rfl (wlV (zw 16)) (wlV v) rfl rfl HIP.out HZ.out (wl_one v) ?_)
  clear hz HIP HZ HI
  clear Ha
  obtain ⟨w2, hq2, hb9, hz9, Hp⟩ := new1 w1 228 (wlV v)
  rw [hq2]
  clear hq2
  replace Hb := Lib.hid (Hb.out.up hb9)
  replace Hr := Lib.hid (Hr.out.up hb9)
  replace HB := hbu HB hb9
  replace HZS := sz HZS hz9.out
  clear hb9 hz9
  have HK := Lib.hid (Kept.refl (fun q9 => q9 = w1.heap.size) w2)
  have HL0 := HB
  go_wp2_with fail
  go_loopw [9] (fun c wr => ∃ k : Nat, k ≤ 10 ∧ c = .int .i64 k ∧ Hid (Bx wr w1.heap.size 228 (wlV (roundsB m k v))) ∧ Hid (Kept (fun q9 => q9 = w1.heap.size) w2 wr)) (fun c _ => 10 - (intOf c).toNat)
  case atStart => exact ⟨0, by omega, rfl, Hp, HK⟩
  case round =>
    obtain ⟨k, hk, rfl, HQ, HK1⟩ := hrel
    clear HK
    have hg9 := HK1.out
    clear Hp
    replace Hb := Lib.hid (Hb.out.keptP hg9 (show ¬ (_ = w1.heap.size) by have g0 := HZS.out; omega))
    replace Hr := Lib.hid (Hr.out.keptP hg9 (show ¬ (_ = w1.heap.size) by have g0 := HZS.out; omega))
    replace HB := Lib.hid (Below.keptP HB.out hg9 (by have g0 := HZS.out; omega) (fun q9 h9 => (show w.heap.size ≤ _ by subst h9; have g0 := HZS.out; omega)))
    replace HZS := sz HZS (show w2.heap.size ≤ wr.heap.size from hg9.size)
    clear hg9
    have Hp := HQ
    clear HQ
    have HVL := Lib.hid (show (roundsB m k v).length = 16 by rw [roundsB_len]; exact HV.out)
    by_cases hk10 : k < 10
    · have hdk : decide ((k : Int) < 10) = true := by simp; omega
      have hrs := Lib.hid (roundsB_succ m k v)
      generalize roundsB m k v = V at *
      obtain ⟨wo, rfl⟩ : ∃ wo : World, wo = wr := ⟨_, rfl⟩
      have HK2 := Lib.hid (Kept.refl (fun q9 => q9 = w1.heap.size) wo)
      go_wp2_with fail
      go_loopw [12] (fun c wr => ∃ i : Nat, i ≤ 8 ∧ c = .int .i64 i ∧ Hid (Bx wr w1.heap.size 228 (wlV (halfB m k i V))) ∧ Hid (Kept (fun q9 => q9 = w1.heap.size) wo wr)) (fun c _ => 8 - (intOf c).toNat)
      case atStart => exact ⟨0, by omega, rfl, Hp, HK2⟩
      case round =>
        obtain ⟨i, hi, rfl, HQ, HK3⟩ := hrel
        clear HK2
        have hg9 := HK3.out
        clear Hp
        replace Hb := Lib.hid (Hb.out.keptP hg9 (show ¬ (_ = w1.heap.size) by have g0 := HZS.out; omega))
        replace Hr := Lib.hid (Hr.out.keptP hg9 (show ¬ (_ = w1.heap.size) by have g0 := HZS.out; omega))
        replace HB := Lib.hid (Below.keptP HB.out hg9 (by have g0 := HZS.out; omega) (fun q9 h9 => (show w.heap.size ≤ _ by subst h9; have g0 := HZS.out; omega)))
        replace HZS := sz HZS (show wo.heap.size ≤ wr.heap.size from hg9.size)
        clear hg9
        have Hp := HQ
        clear HQ
        have HVI := Lib.hid (show (halfB m k i V).length = 16 by rw [halfB_len]; exact HVL.out)
        by_cases hi8 : i < 8
        · have HS := Lib.hid (halfB_succ m k i V)
          have HQU := fun W h => quarter_any m (halfB m k i V) k i hi8 HVI.out w1.heap.size W h
          have HP1 := fun w => place_any k (2 * i) hk10 (by omega) w
          have HP2 := fun w => place_any k (2 * i + 1) hk10 (by omega) w
          have o1 : ordN k (2 * i) < 16 := ordN_lt hk10 (by omega)
          have o2 : ordN k (2 * i + 1) < 16 := ordN_lt hk10 (by omega)
          rw [show ((2 * i : Nat) : Int) = 2 * (i : Int) from by omega] at HP1
          rw [show ((2 * i + 1 : Nat) : Int) = 2 * (i : Int) + 1 from by omega] at HP2
          generalize quartB m (halfB m k i V) k i = V2 at *
          generalize halfB m k i V = V1 at *
          generalize ordN k (2 * i) = j1 at *
          generalize ordN k (2 * i + 1) = j2 at *
          have c1 := wl_cell Hb.out j1 (by rw [HM.out]; exact o1)
          have c2 := wl_cell Hb.out j2 (by rw [HM.out]; exact o2)
          have HQU := Lib.hid HQU
          have HP1 := Lib.hid HP1
          have HP2 := Lib.hid HP2
          generalize m.getD j1 0 = x1 at *
          generalize m.getD j2 0 = x2 at *
          have a1 : (0 : Int) ≤ (j1 : Int) := by omega
          have a2 : (j1 : Int) < 16 := by omega
          have a3 : (0 : Int) ≤ (j2 : Int) := by omega
          have a4 : (j2 : Int) < 16 := by omega
          go_wp2_with fail
          refine wp_region_otail 14 (by kernel_rfl) (by kernel_rfl) ?_
          simp only [List.take_succ_cons, List.take_zero, List.drop_succ_cons, List.drop_zero]
          have hov_w_heap_size___1 := fun (E : Over wr) o => E.cell (b := w.heap.size + 1) o Hb.out.lt
          repeat (go_big_quiet_step (first | (go_at_call 162; exact calls_over ((by first | with_reducible exact HP1.out _ | with_reducible exact HP2.out _)))))
          all_goals (try unfold elV limbV)
          repeat (go_big_quiet_step (first | (go_at_call 162; exact calls_over ((by first | with_reducible exact HP1.out _ | with_reducible exact HP2.out _)))))
          all_goals (try unfold elV limbV)
          repeat (go_big_quiet_step (first | (go_at_call 162; exact calls_over ((by first | with_reducible exact HP1.out _ | with_reducible exact HP2.out _)))))
          all_goals (try unfold ciphV)
          refine wpQuiet_nil ?_
          rintro _ ⟨E, rfl⟩
          clear hov_w_heap_size___1
          replace Hb := Lib.hid (Hb.out.up E.h)
          replace Hr := Lib.hid (Hr.out.up E.h)
          replace Hp := Lib.hid (Hp.out.up E.h)
          replace HK3 := Lib.hid (Kept.up HK3.out E.h)
          replace HB := hbu HB E.h
          replace HZS := sz HZS E.h.size
          obtain ⟨w3, hq9⟩ : ∃ W9 : World, E.w = W9 := ⟨_, rfl⟩
          rw [hq9] at Hb Hr Hp HK3 HB HZS ⊢
          clear hq9 E
          clear c1 c2
          go_wp2_with fail
          refine (HQU.out _ Hp.out).mono ?_
          rintro e wq ⟨rfl, hq1, hk1⟩
          have HQ1 := Lib.hid hq1
          have HK4 := Lib.hid (HK3.out.trans hk1)
          clear hq1 hk1 HQU HP1 HP2
          go_wp2_with fail
          go_roundw
          case rel => exact ⟨i + 1, by omega, by go_num, by rw [HS.out]; exact HQ1, HK4⟩
          case measure => simp [intOf]; omega
        · have hi8' : i = 8 := by omega
          subst hi8'
          have HQ := Hp
          rw [← hrs.out] at HQ
          have HK5 := Lib.hid (HK1.out.trans HK3.out)
          go_wp2_with fail
          go_roundw
          case rel => exact ⟨k + 1, by omega, by go_num, HQ, HK5⟩
          case measure => simp [intOf]; omega
    · have hk' : k = 10 := by omega
      subst hk'
      rw [roundsB_all] at Hp
      have HSL := Lib.hid (stirB_len v m)
      obtain ⟨S, hS⟩ : ∃ S, stirB v m = S := ⟨_, rfl⟩
      rw [hS] at Hp HSL
      have HS := Lib.hid hS
      clear hS
      have HSI := Lib.hid (show (Try.prog.info? 228).map (·.size) = some (wlV S).length by rw [wlV_len, HSL.out, HV.out]; exact infoPool)
      have HSJ := Lib.hid (show (Try.prog.info? 195).map (·.size) = some (wlV S).length by rw [wlV_len, HSL.out, HV.out]; exact info16)
      have HZ := Lib.hid (show (wlV S).length = (wlV (zw 16)).length by rw [wlV_len, wlV_len, HSL.out, HV.out]; rfl)
      obtain ⟨w5, hq5, hg5, hz5, hr5⟩ := puts Hr 0 (wlV S) (wlV S) (putL_all _ _ HZ.out)
      have HB5 := hbg HB hg5 (by omega)
      go_wp2_with (first | refine wpList_load_mid rfl 228 (.tmp 5) rfl w1.heap.size 0 rfl (wlV S) _ Hp.out.range Try.underlying228 rfl HSI.out ?_ | refine wpList_store_mid rfl 195 (.tmp 4) (.tmp 32) rfl (w.heap.size + 2) 0 (wlV S).toArray rfl rfl (Hr.out.there (by simp [HZ.out])) (by simpa using HSJ.out) (all_oneCell_toArray (wl_one S)) ?_)
      rw [hq5]
      exact ret_arr Try.results151 hr5.out _ rfl Try.underlying195 rfl HSJ.out rfl ⟨by rw [HS.out], HB5.out⟩
end Go.Proofs.Ytdlnnkbigeiilaa
