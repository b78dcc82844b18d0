/- Texts of this seat, one behind the other: what GroupAsks leans on. No condition beyond those that each names. -/
import Derived.Test.YtdlnnkbigeiilaaZGroupAsks2
import Derived.Shelf.Abstract
import Derived.Deep.LoopGhost
import Derived.WalkKit
import Derived.Test.YtdlnnkbigeiilaaProg
import Derived.IntWalk
import Derived.Deep.QuietTactic
import Derived.RegionTactic
import Derived.Outline
import Derived.Deep.MidRow
import Derived.Deep.WholeRow
import Derived.Laws.CopyOwn
import Derived.Lib.BufferWrite
import Derived.BigQuiet
import Derived.Lib.SliceRun
import Derived.LoopTactic

/- The document's groups. No condition. -/
namespace Go.Proofs.Ytdlnnkbigeiilaa
open Go.RowKit

/-- A block of cells. -/
def Bx (W : World) (b : Nat) (t : TypeId) (cs : List Value) : Prop := W.heap[b]? = some (.cells cs.toArray t (0, 0))

section
variable {W W' : World} {b c i n : Nat} {t : TypeId} {cs : List Value} {v : Value}
theorem Bx.lt (h : Bx W b t cs) : b < W.heap.size := (Array.getElem?_eq_some_iff.1 h).1
theorem Bx.cell (h : Bx W b t cs) (hx : cs[i]? = some v) : W.cell? ⟨b, i, none⟩ = some v := by
  simp [World.cell?, show W.heap[b]? = _ from h, hx]
theorem Bx.frozen (h : Bx W b t cs) (i : Nat) : W.frozen? ⟨b, i, none⟩ = false := by
  simp [World.frozen?, show W.heap[b]? = _ from h]
theorem Bx.below (h : Bx W b t cs) (hb : Below n W W') (hn : b < n) : Bx W' b t cs := (hb.block b hn).trans h
theorem Bx.up (h : Bx W b t cs) (hb : Below W.heap.size W W') : Bx W' b t cs := h.below hb h.lt
theorem Bx.alloc (h : Bx W b t cs) (o : Obj) : Bx (W.alloc o) b t cs := (Below.heap_alloc W o b h.lt).trans h
theorem Bx.new (W : World) (t : TypeId) (cs : List Value) (ar : Array Value) (har : ar = cs.toArray) : Bx (W.alloc (.cells ar t)) W.heap.size t cs := by
  subst har; exact heap_alloc_new W _
theorem Bx.set (h : Bx W b t cs) (i : Nat) (v : Value) : Bx (W.setCell ⟨b, i, none⟩ v) b t (cs.set i v) := by
  obtain ⟨hlt, hk⟩ := Array.getElem?_eq_some_iff.1 h
  show (W.heap.modify b _)[b]? = _
  rw [Array.getElem?_eq_getElem (by rw [Array.size_modify]; exact hlt), Array.getElem_modify_self, hk]
  simp
theorem Bx.other (h : Bx W b t cs) (hne : b ≠ c) (i : Nat) (v : Value) : Bx (W.setCell ⟨c, i, none⟩ v) b t cs := (Below.heap_setCell W ⟨c, i, none⟩ v b hne).trans h
end

/-- The document's group as a value. -/
def KindR (w : World) (e : Ending) (w' : World) (G : GP) : Prop :=
  ∃ aq cq ap cp, e = .returned (.agg #[.int .i64 (G.size : Int), .slice aq (dl G.q.m) cq, .slice ap (dl G.p.m) cp]) ∧ NumAt w' aq G.q.m ∧ NumAt w' ap G.p.m ∧ Below w.heap.size w w'

theorem NumAt.store {w : World} {a : Option Addr} {n b : Nat} (h : NumAt w a n) (hne : ∀ q o, a = some ⟨q, o, none⟩ → q ≠ b) (i : Nat) (v : Value) : NumAt (w.setCell ⟨b, i, none⟩ v) a n := by
  rcases h with h | ⟨q, o, rfl, hq, hc⟩
  · exact Or.inl h
  · refine Or.inr ⟨q, o, rfl, ?_, fun j u hu => ?_⟩
    · show q < (w.heap.modify _ _).size; rw [Array.size_modify]; exact hq
    · rw [World.cell?_of_block (w := w) (a := ⟨q, o + j, none⟩) (Below.heap_setCell w ⟨b, i, none⟩ v q (hne q o rfl))]
      exact hc j u hu

theorem small_dl (n : Nat) (h : n < DD ^ 16) : dl n ≤ 1048576 := Nat.le_trans (dl_of_lt n 16 h) (by decide)



set_option maxHeartbeats 2000000 in
theorem refKind_one (w : World) : Calls Try.prog 12 #[.int .i64 1] w fun e w' => KindR w e w' (grp 1) := by
  go_enter Try.func12, Try.ntmps12
  go_wp2_with fail
  have hb0 : Below w.heap.size w (w.alloc (.cells #[.int .i64 0, .slice none 0 0, .slice none 0 0] 33)) := (Below.refl _ _).alloc (Nat.le_refl _) _
  have hz0 : Bx (w.alloc (.cells #[.int .i64 0, .slice none 0 0, .slice none 0 0] 33)) w.heap.size 33 [.int .i64 0, .slice none 0 0, .slice none 0 0] := Bx.new w _ _ _ rfl
  obtain ⟨W0, hW0⟩ : ∃ W9 : World, (w.alloc (.cells #[.int .i64 0, .slice none 0 0, .slice none 0 0] 33)) = W9 := ⟨_, rfl⟩
  rw [hW0] at hb0 hz0 ⊢
  have HB0 := Lib.hid hb0
  have HZ0 := Lib.hid hz0
  clear hW0 hb0 hz0
  refine (refOf_any 5 (by omega) W0).mono ?_
  rintro e w1 ⟨ah, ch, rfl, hh, hb1⟩
  have Hh := Lib.hid hh
  have HBw1 := Lib.hid (below_up HB0.out hb1)
  have HZ := Lib.hid (HZ0.out.up hb1)
  clear hh hb1 HB0 HZ0
  go_wp2_with fail
  refine (refTwo_any 7 (by omega) w1).mono ?_
  rintro e wt ⟨at', ct', rfl, hn9, hb9⟩
  have Ht := Lib.hid hn9
  have HBwt := Lib.hid (below_up HBw1.out hb9)
  have HZ_9 := Lib.hid (HZ.out.up hb9)
  clear HZ
  have HZ := HZ_9
  clear HZ_9
  have Hh_9 := Lib.hid (Hh.out.up hb9)
  clear Hh
  have Hh := Hh_9
  clear Hh_9
  clear hn9 hb9 HBw1
  go_wp2_with fail
  refine (refTimes_any 5 (2 ^ 7) ah at' ch ct' (small_dl _ (by decide)) (small_dl _ (by decide)) wt Hh.out Ht.out).mono ?_
  rintro e wm ⟨am, cm, rfl, hn9, hb9⟩
  have Hm := Lib.hid hn9
  have HBwm := Lib.hid (below_up HBwt.out hb9)
  have HZ_9 := Lib.hid (HZ.out.up hb9)
  clear HZ
  have HZ := HZ_9
  clear HZ_9
  clear hn9 hb9 HBwt
  go_wp2_with fail
  refine (refOf_any 1 (by omega) wm).mono ?_
  rintro e wo ⟨ao, co, rfl, hn9, hb9⟩
  have Ho := Lib.hid hn9
  have HBwo := Lib.hid (below_up HBwm.out hb9)
  have HZ_9 := Lib.hid (HZ.out.up hb9)
  clear HZ
  have HZ := HZ_9
  clear HZ_9
  have Hm_9 := Lib.hid (Hm.out.up hb9)
  clear Hm
  have Hm := Hm_9
  clear Hm_9
  clear hn9 hb9 HBwm
  go_wp2_with fail
  refine (refPlus_new (5 * 2 ^ 7) 1 am ao cm co (small_dl _ (by decide)) (small_dl _ (by decide)) wo Hm.out Ho.out).mono ?_
  rintro e wq ⟨aq, cq, rfl, hn9, hnew, hb9⟩
  have HNQ := Lib.hid hnew
  have hzo := HBwo.out.size
  have hzb := HZ.out.lt
  clear hnew
  have Hq := Lib.hid hn9
  have HBwq := Lib.hid (below_up HBwo.out hb9)
  have HZ_9 := Lib.hid (HZ.out.up hb9)
  clear HZ
  have HZ := HZ_9
  clear HZ_9
  clear hn9 hb9 HBwo
  go_wp2_with fail
  refine (refPlus_any (5 * 2 ^ 7 + 1) (5 * 2 ^ 7 + 1) aq aq cq cq (small_dl _ (by decide)) (small_dl _ (by decide)) wq Hq.out Hq.out).mono ?_
  rintro e wd ⟨ad, cd, rfl, hn9, hb9⟩
  have Hd := Lib.hid hn9
  have HBwd := Lib.hid (below_up HBwq.out hb9)
  have HZ_9 := Lib.hid (HZ.out.up hb9)
  clear HZ
  have HZ := HZ_9
  clear HZ_9
  have Hq_9 := Lib.hid (Hq.out.up hb9)
  clear Hq
  have Hq := Hq_9
  clear Hq_9
  clear hn9 hb9 HBwq
  go_wp2_with fail
  refine (refOf_any 1 (by omega) wd).mono ?_
  rintro e wu ⟨au, cu, rfl, hn9, hb9⟩
  have Hu := Lib.hid hn9
  have HBwu := Lib.hid (below_up HBwd.out hb9)
  have HZ_9 := Lib.hid (HZ.out.up hb9)
  clear HZ
  have HZ := HZ_9
  clear HZ_9
  have Hq_9 := Lib.hid (Hq.out.up hb9)
  clear Hq
  have Hq := Hq_9
  clear Hq_9
  have Hd_9 := Lib.hid (Hd.out.up hb9)
  clear Hd
  have Hd := Hd_9
  clear Hd_9
  clear hn9 hb9 HBwd
  go_wp2_with fail
  refine (refPlus_new (5 * 2 ^ 7 + 1 + (5 * 2 ^ 7 + 1)) 1 ad au cd cu (small_dl _ (by decide)) (small_dl _ (by decide)) wu Hd.out Hu.out).mono ?_
  rintro e wp ⟨ap, cp, rfl, hn9, hnew, hb9⟩
  have HNP := Lib.hid hnew
  have hzu := HBwu.out.size
  have hzb2 := HZ.out.lt
  clear hnew
  have Hp := Lib.hid hn9
  have HBwp := Lib.hid (below_up HBwu.out hb9)
  have HZ_9 := Lib.hid (HZ.out.up hb9)
  clear HZ
  have HZ := HZ_9
  clear HZ_9
  have Hq_9 := Lib.hid (Hq.out.up hb9)
  clear Hq
  have Hq := Hq_9
  clear Hq_9
  clear hn9 hb9 HBwu
  have hz_0 := HZ.out.cell (i := 0) (v := .int .i64 0) rfl
  have hz_1 := HZ.out.cell (i := 1) (v := .slice none 0 0) rfl
  have hz_2 := HZ.out.cell (i := 2) (v := .slice none 0 0) rfl
  have hzf_0 := HZ.out.frozen 0
  have hzf_1 := HZ.out.frozen 1
  have hzf_2 := HZ.out.frozen 2
  have HZ5 := Lib.hid (((HZ.out.set 0 (.int .i64 2)).set 1 (.slice aq (dl (5 * 2 ^ 7 + 1)) cq)).set 2 (.slice ap (dl (5 * 2 ^ 7 + 1 + (5 * 2 ^ 7 + 1) + 1)) cp))
  have HB5 := Lib.hid (((HBwp.out.setCell (p := ⟨w.heap.size, 0, none⟩) (Nat.le_refl _) (.int .i64 2)).setCell (p := ⟨w.heap.size, 1, none⟩) (Nat.le_refl _) (.slice aq (dl (5 * 2 ^ 7 + 1)) cq)).setCell (p := ⟨w.heap.size, 2, none⟩) (Nat.le_refl _) (.slice ap (dl (5 * 2 ^ 7 + 1 + (5 * 2 ^ 7 + 1) + 1)) cp))
  have HQ5 := Lib.hid (((Hq.out.store (b := w.heap.size) (fun q o h => by have := HNQ.out q o h; omega) 0 (.int .i64 2)).store (b := w.heap.size) (fun q o h => by have := HNQ.out q o h; omega) 1 (.slice aq (dl (5 * 2 ^ 7 + 1)) cq)).store (b := w.heap.size) (fun q o h => by have := HNQ.out q o h; omega) 2 (.slice ap (dl (5 * 2 ^ 7 + 1 + (5 * 2 ^ 7 + 1) + 1)) cp))
  have HP5 := Lib.hid (((Hp.out.store (b := w.heap.size) (fun q o h => by have := HNP.out q o h; omega) 0 (.int .i64 2)).store (b := w.heap.size) (fun q o h => by have := HNP.out q o h; omega) 1 (.slice aq (dl (5 * 2 ^ 7 + 1)) cq)).store (b := w.heap.size) (fun q o h => by have := HNP.out q o h; omega) 2 (.slice ap (dl (5 * 2 ^ 7 + 1 + (5 * 2 ^ 7 + 1) + 1)) cp))
  obtain ⟨w5, hw5⟩ : ∃ W9 : World, ((wp.setCell ⟨w.heap.size, 0, none⟩ (.int .i64 2)).setCell ⟨w.heap.size, 1, none⟩ (.slice aq (dl (5 * 2 ^ 7 + 1)) cq)).setCell ⟨w.heap.size, 2, none⟩ (.slice ap (dl (5 * 2 ^ 7 + 1 + (5 * 2 ^ 7 + 1) + 1)) cp) = W9 := ⟨_, rfl⟩
  go_wp2_with fail
  rw [hw5] at HZ5 HB5 HQ5 HP5
  have hg_0 := HZ5.out.cell (i := 0) (v := .int .i64 2) rfl
  have hg_1 := HZ5.out.cell (i := 1) (v := .slice aq (dl (5 * 2 ^ 7 + 1)) cq) rfl
  have hg_2 := HZ5.out.cell (i := 2) (v := .slice ap (dl (5 * 2 ^ 7 + 1 + (5 * 2 ^ 7 + 1) + 1)) cp) rfl
  have eq_ : (grp 1).q.m = 5 * 2 ^ 7 + 1 := by decide
  have ep_ : (grp 1).p.m = 5 * 2 ^ 7 + 1 + (5 * 2 ^ 7 + 1) + 1 := by decide
  refine bodyPost_ret (v := .agg #[.int .i64 2, .slice aq (dl (5 * 2 ^ 7 + 1)) cq, .slice ap (dl (5 * 2 ^ 7 + 1 + (5 * 2 ^ 7 + 1) + 1)) cp]) (by simp [results, Try.results12, go_sem, hg_0, hg_1, hg_2]) rfl ?_
  refine ⟨aq, cq, ap, cp, ?_, ?_, ?_, HB5.out⟩
  · rw [eq_, ep_]; rfl
  · rw [eq_]; exact HQ5.out
  · rw [ep_]; exact HP5.out

set_option maxHeartbeats 2000000 in
theorem refKind_two (w : World) : Calls Try.prog 12 #[.int .i64 2] w fun e w' => KindR w e w' (grp 2) := by
  go_enter Try.func12, Try.ntmps12
  go_wp2_with fail
  have hb0 : Below w.heap.size w (w.alloc (.cells #[.int .i64 0, .slice none 0 0, .slice none 0 0] 33)) := (Below.refl _ _).alloc (Nat.le_refl _) _
  have hz0 : Bx (w.alloc (.cells #[.int .i64 0, .slice none 0 0, .slice none 0 0] 33)) w.heap.size 33 [.int .i64 0, .slice none 0 0, .slice none 0 0] := Bx.new w _ _ _ rfl
  obtain ⟨W0, hW0⟩ : ∃ W9 : World, (w.alloc (.cells #[.int .i64 0, .slice none 0 0, .slice none 0 0] 33)) = W9 := ⟨_, rfl⟩
  rw [hW0] at hb0 hz0 ⊢
  have HB0 := Lib.hid hb0
  have HZ0 := Lib.hid hz0
  clear hW0 hb0 hz0
  refine (refOf_any 5 (by omega) W0).mono ?_
  rintro e w1 ⟨ah, ch, rfl, hh, hb1⟩
  have HB1 := Lib.hid (below_up HB0.out hb1)
  have HZ1 := Lib.hid (HZ0.out.up hb1)
  clear hh hb1 HB0 HZ0
  go_wp2_with fail
  refine (refOf_any 268437635 (by omega) w1).mono ?_
  rintro e w1' ⟨ah, ch, rfl, hh, hb1⟩
  have Hh := Lib.hid hh
  have HBw1 := Lib.hid (below_up HB1.out hb1)
  have HZ := Lib.hid (HZ1.out.up hb1)
  clear hh hb1 HB1 HZ1
  obtain ⟨w1, rfl⟩ : ∃ w1 : World, w1 = w1' := ⟨_, rfl⟩
  go_wp2_with fail
  refine (refTwo_any 31 (by omega) w1).mono ?_
  rintro e wt ⟨at', ct', rfl, hn9, hb9⟩
  have Ht := Lib.hid hn9
  have HBwt := Lib.hid (below_up HBw1.out hb9)
  have HZ_9 := Lib.hid (HZ.out.up hb9)
  clear HZ
  have HZ := HZ_9
  clear HZ_9
  have Hh_9 := Lib.hid (Hh.out.up hb9)
  clear Hh
  have Hh := Hh_9
  clear Hh_9
  clear hn9 hb9 HBw1
  go_wp2_with fail
  refine (refTimes_any 268437635 (2 ^ 31) ah at' ch ct' (small_dl _ (by decide)) (small_dl _ (by decide)) wt Hh.out Ht.out).mono ?_
  rintro e wm ⟨am, cm, rfl, hn9, hb9⟩
  have Hm := Lib.hid hn9
  have HBwm := Lib.hid (below_up HBwt.out hb9)
  have HZ_9 := Lib.hid (HZ.out.up hb9)
  clear HZ
  have HZ := HZ_9
  clear HZ_9
  clear hn9 hb9 HBwt
  go_wp2_with fail
  refine (refOf_any 1 (by omega) wm).mono ?_
  rintro e wo ⟨ao, co, rfl, hn9, hb9⟩
  have Ho := Lib.hid hn9
  have HBwo := Lib.hid (below_up HBwm.out hb9)
  have HZ_9 := Lib.hid (HZ.out.up hb9)
  clear HZ
  have HZ := HZ_9
  clear HZ_9
  have Hm_9 := Lib.hid (Hm.out.up hb9)
  clear Hm
  have Hm := Hm_9
  clear Hm_9
  clear hn9 hb9 HBwm
  go_wp2_with fail
  refine (refPlus_new (268437635 * 2 ^ 31) 1 am ao cm co (small_dl _ (by decide)) (small_dl _ (by decide)) wo Hm.out Ho.out).mono ?_
  rintro e wq ⟨aq, cq, rfl, hn9, hnew, hb9⟩
  have HNQ := Lib.hid hnew
  have hzo := HBwo.out.size
  have hzb := HZ.out.lt
  clear hnew
  have Hq := Lib.hid hn9
  have HBwq := Lib.hid (below_up HBwo.out hb9)
  have HZ_9 := Lib.hid (HZ.out.up hb9)
  clear HZ
  have HZ := HZ_9
  clear HZ_9
  clear hn9 hb9 HBwo
  go_wp2_with fail
  refine (refPlus_any (268437635 * 2 ^ 31 + 1) (268437635 * 2 ^ 31 + 1) aq aq cq cq (small_dl _ (by decide)) (small_dl _ (by decide)) wq Hq.out Hq.out).mono ?_
  rintro e wd ⟨ad, cd, rfl, hn9, hb9⟩
  have Hd := Lib.hid hn9
  have HBwd := Lib.hid (below_up HBwq.out hb9)
  have HZ_9 := Lib.hid (HZ.out.up hb9)
  clear HZ
  have HZ := HZ_9
  clear HZ_9
  have Hq_9 := Lib.hid (Hq.out.up hb9)
  clear Hq
  have Hq := Hq_9
  clear Hq_9
  clear hn9 hb9 HBwq
  go_wp2_with fail
  refine (refOf_any 1 (by omega) wd).mono ?_
  rintro e wu ⟨au, cu, rfl, hn9, hb9⟩
  have Hu := Lib.hid hn9
  have HBwu := Lib.hid (below_up HBwd.out hb9)
  have HZ_9 := Lib.hid (HZ.out.up hb9)
  clear HZ
  have HZ := HZ_9
  clear HZ_9
  have Hq_9 := Lib.hid (Hq.out.up hb9)
  clear Hq
  have Hq := Hq_9
  clear Hq_9
  have Hd_9 := Lib.hid (Hd.out.up hb9)
  clear Hd
  have Hd := Hd_9
  clear Hd_9
  clear hn9 hb9 HBwd
  go_wp2_with fail
  refine (refPlus_new (268437635 * 2 ^ 31 + 1 + (268437635 * 2 ^ 31 + 1)) 1 ad au cd cu (small_dl _ (by decide)) (small_dl _ (by decide)) wu Hd.out Hu.out).mono ?_
  rintro e wp ⟨ap, cp, rfl, hn9, hnew, hb9⟩
  have HNP := Lib.hid hnew
  have hzu := HBwu.out.size
  have hzb2 := HZ.out.lt
  clear hnew
  have Hp := Lib.hid hn9
  have HBwp := Lib.hid (below_up HBwu.out hb9)
  have HZ_9 := Lib.hid (HZ.out.up hb9)
  clear HZ
  have HZ := HZ_9
  clear HZ_9
  have Hq_9 := Lib.hid (Hq.out.up hb9)
  clear Hq
  have Hq := Hq_9
  clear Hq_9
  clear hn9 hb9 HBwu
  have hz_0 := HZ.out.cell (i := 0) (v := .int .i64 0) rfl
  have hz_1 := HZ.out.cell (i := 1) (v := .slice none 0 0) rfl
  have hz_2 := HZ.out.cell (i := 2) (v := .slice none 0 0) rfl
  have hzf_0 := HZ.out.frozen 0
  have hzf_1 := HZ.out.frozen 1
  have hzf_2 := HZ.out.frozen 2
  have HZ5 := Lib.hid (((HZ.out.set 0 (.int .i64 8)).set 1 (.slice aq (dl (268437635 * 2 ^ 31 + 1)) cq)).set 2 (.slice ap (dl (268437635 * 2 ^ 31 + 1 + (268437635 * 2 ^ 31 + 1) + 1)) cp))
  have HB5 := Lib.hid (((HBwp.out.setCell (p := ⟨w.heap.size, 0, none⟩) (Nat.le_refl _) (.int .i64 8)).setCell (p := ⟨w.heap.size, 1, none⟩) (Nat.le_refl _) (.slice aq (dl (268437635 * 2 ^ 31 + 1)) cq)).setCell (p := ⟨w.heap.size, 2, none⟩) (Nat.le_refl _) (.slice ap (dl (268437635 * 2 ^ 31 + 1 + (268437635 * 2 ^ 31 + 1) + 1)) cp))
  have HQ5 := Lib.hid (((Hq.out.store (b := w.heap.size) (fun q o h => by have := HNQ.out q o h; omega) 0 (.int .i64 8)).store (b := w.heap.size) (fun q o h => by have := HNQ.out q o h; omega) 1 (.slice aq (dl (268437635 * 2 ^ 31 + 1)) cq)).store (b := w.heap.size) (fun q o h => by have := HNQ.out q o h; omega) 2 (.slice ap (dl (268437635 * 2 ^ 31 + 1 + (268437635 * 2 ^ 31 + 1) + 1)) cp))
  have HP5 := Lib.hid (((Hp.out.store (b := w.heap.size) (fun q o h => by have := HNP.out q o h; omega) 0 (.int .i64 8)).store (b := w.heap.size) (fun q o h => by have := HNP.out q o h; omega) 1 (.slice aq (dl (268437635 * 2 ^ 31 + 1)) cq)).store (b := w.heap.size) (fun q o h => by have := HNP.out q o h; omega) 2 (.slice ap (dl (268437635 * 2 ^ 31 + 1 + (268437635 * 2 ^ 31 + 1) + 1)) cp))
  obtain ⟨w5, hw5⟩ : ∃ W9 : World, ((wp.setCell ⟨w.heap.size, 0, none⟩ (.int .i64 8)).setCell ⟨w.heap.size, 1, none⟩ (.slice aq (dl (268437635 * 2 ^ 31 + 1)) cq)).setCell ⟨w.heap.size, 2, none⟩ (.slice ap (dl (268437635 * 2 ^ 31 + 1 + (268437635 * 2 ^ 31 + 1) + 1)) cp) = W9 := ⟨_, rfl⟩
  go_wp2_with fail
  rw [hw5] at HZ5 HB5 HQ5 HP5
  have hg_0 := HZ5.out.cell (i := 0) (v := .int .i64 8) rfl
  have hg_1 := HZ5.out.cell (i := 1) (v := .slice aq (dl (268437635 * 2 ^ 31 + 1)) cq) rfl
  have hg_2 := HZ5.out.cell (i := 2) (v := .slice ap (dl (268437635 * 2 ^ 31 + 1 + (268437635 * 2 ^ 31 + 1) + 1)) cp) rfl
  have eq_ : (grp 2).q.m = 268437635 * 2 ^ 31 + 1 := by decide
  have ep_ : (grp 2).p.m = 268437635 * 2 ^ 31 + 1 + (268437635 * 2 ^ 31 + 1) + 1 := by decide
  refine bodyPost_ret (v := .agg #[.int .i64 8, .slice aq (dl (268437635 * 2 ^ 31 + 1)) cq, .slice ap (dl (268437635 * 2 ^ 31 + 1 + (268437635 * 2 ^ 31 + 1) + 1)) cp]) (by simp [results, Try.results12, go_sem, hg_0, hg_1, hg_2]) rfl ?_
  refine ⟨aq, cq, ap, cp, ?_, ?_, ?_, HB5.out⟩
  · rw [eq_, ep_]; rfl
  · rw [eq_]; exact HQ5.out
  · rw [ep_]; exact HP5.out

set_option maxHeartbeats 2000000 in
theorem refKind_three (w : World) : Calls Try.prog 12 #[.int .i64 3] w fun e w' => KindR w e w' (grp 3) := by
  go_enter Try.func12, Try.ntmps12
  go_wp2_with fail
  have hb0 : Below w.heap.size w (w.alloc (.cells #[.int .i64 0, .slice none 0 0, .slice none 0 0] 33)) := (Below.refl _ _).alloc (Nat.le_refl _) _
  have hz0 : Bx (w.alloc (.cells #[.int .i64 0, .slice none 0 0, .slice none 0 0] 33)) w.heap.size 33 [.int .i64 0, .slice none 0 0, .slice none 0 0] := Bx.new w _ _ _ rfl
  obtain ⟨W0, hW0⟩ : ∃ W9 : World, (w.alloc (.cells #[.int .i64 0, .slice none 0 0, .slice none 0 0] 33)) = W9 := ⟨_, rfl⟩
  rw [hW0] at hb0 hz0 ⊢
  have HB0 := Lib.hid hb0
  have HZ0 := Lib.hid hz0
  clear hW0 hb0 hz0
  refine (refOf_any 5 (by omega) W0).mono ?_
  rintro e w1 ⟨ah, ch, rfl, hh, hb1⟩
  have HB1 := Lib.hid (below_up HB0.out hb1)
  have HZ1 := Lib.hid (HZ0.out.up hb1)
  clear hh hb1 HB0 HZ0
  go_wp2_with fail
  refine (refTwo_any 125 (by omega) w1).mono ?_
  rintro e w2 ⟨a2, c2, rfl, h2, hb2⟩
  have H2 := Lib.hid h2
  have HB2 := Lib.hid (below_up HB1.out hb2)
  have HZ2 := Lib.hid (HZ1.out.up hb2)
  clear h2 hb2 HB1 HZ1
  go_wp2_with fail
  refine (refOf_any 9087 (by omega) w2).mono ?_
  rintro e w3 ⟨a3, c3, rfl, h3, hb3⟩
  have H3 := Lib.hid h3
  have H2' := Lib.hid (H2.out.up hb3)
  have HB3 := Lib.hid (below_up HB2.out hb3)
  have HZ3 := Lib.hid (HZ2.out.up hb3)
  clear h3 hb3 HB2 HZ2 H2
  go_wp2_with fail
  refine (refPlus_any (2 ^ 125) 9087 a2 a3 c2 c3 (small_dl _ (by decide)) (small_dl _ (by decide)) w3 H2'.out H3.out).mono ?_
  rintro e w1' ⟨ah, ch, rfl, hh, hb1⟩
  have Hh := Lib.hid hh
  have HBw1 := Lib.hid (below_up HB3.out hb1)
  have HZ := Lib.hid (HZ3.out.up hb1)
  clear hh hb1 HB3 HZ3 H2' H3
  obtain ⟨w1, rfl⟩ : ∃ w1 : World, w1 = w1' := ⟨_, rfl⟩
  go_wp2_with fail
  refine (refTwo_any 127 (by omega) w1).mono ?_
  rintro e wt ⟨at', ct', rfl, hn9, hb9⟩
  have Ht := Lib.hid hn9
  have HBwt := Lib.hid (below_up HBw1.out hb9)
  have HZ_9 := Lib.hid (HZ.out.up hb9)
  clear HZ
  have HZ := HZ_9
  clear HZ_9
  have Hh_9 := Lib.hid (Hh.out.up hb9)
  clear Hh
  have Hh := Hh_9
  clear Hh_9
  clear hn9 hb9 HBw1
  go_wp2_with fail
  refine (refTimes_any (2 ^ 125 + 9087) (2 ^ 127) ah at' ch ct' (small_dl _ (by decide)) (small_dl _ (by decide)) wt Hh.out Ht.out).mono ?_
  rintro e wm ⟨am, cm, rfl, hn9, hb9⟩
  have Hm := Lib.hid hn9
  have HBwm := Lib.hid (below_up HBwt.out hb9)
  have HZ_9 := Lib.hid (HZ.out.up hb9)
  clear HZ
  have HZ := HZ_9
  clear HZ_9
  clear hn9 hb9 HBwt
  go_wp2_with fail
  refine (refOf_any 1 (by omega) wm).mono ?_
  rintro e wo ⟨ao, co, rfl, hn9, hb9⟩
  have Ho := Lib.hid hn9
  have HBwo := Lib.hid (below_up HBwm.out hb9)
  have HZ_9 := Lib.hid (HZ.out.up hb9)
  clear HZ
  have HZ := HZ_9
  clear HZ_9
  have Hm_9 := Lib.hid (Hm.out.up hb9)
  clear Hm
  have Hm := Hm_9
  clear Hm_9
  clear hn9 hb9 HBwm
  go_wp2_with fail
  refine (refPlus_new ((2 ^ 125 + 9087) * 2 ^ 127) 1 am ao cm co (small_dl _ (by decide)) (small_dl _ (by decide)) wo Hm.out Ho.out).mono ?_
  rintro e wq ⟨aq, cq, rfl, hn9, hnew, hb9⟩
  have HNQ := Lib.hid hnew
  have hzo := HBwo.out.size
  have hzb := HZ.out.lt
  clear hnew
  have Hq := Lib.hid hn9
  have HBwq := Lib.hid (below_up HBwo.out hb9)
  have HZ_9 := Lib.hid (HZ.out.up hb9)
  clear HZ
  have HZ := HZ_9
  clear HZ_9
  clear hn9 hb9 HBwo
  go_wp2_with fail
  refine (refPlus_any ((2 ^ 125 + 9087) * 2 ^ 127 + 1) ((2 ^ 125 + 9087) * 2 ^ 127 + 1) aq aq cq cq (small_dl _ (by decide)) (small_dl _ (by decide)) wq Hq.out Hq.out).mono ?_
  rintro e wd ⟨ad, cd, rfl, hn9, hb9⟩
  have Hd := Lib.hid hn9
  have HBwd := Lib.hid (below_up HBwq.out hb9)
  have HZ_9 := Lib.hid (HZ.out.up hb9)
  clear HZ
  have HZ := HZ_9
  clear HZ_9
  have Hq_9 := Lib.hid (Hq.out.up hb9)
  clear Hq
  have Hq := Hq_9
  clear Hq_9
  clear hn9 hb9 HBwq
  go_wp2_with fail
  refine (refOf_any 1 (by omega) wd).mono ?_
  rintro e wu ⟨au, cu, rfl, hn9, hb9⟩
  have Hu := Lib.hid hn9
  have HBwu := Lib.hid (below_up HBwd.out hb9)
  have HZ_9 := Lib.hid (HZ.out.up hb9)
  clear HZ
  have HZ := HZ_9
  clear HZ_9
  have Hq_9 := Lib.hid (Hq.out.up hb9)
  clear Hq
  have Hq := Hq_9
  clear Hq_9
  have Hd_9 := Lib.hid (Hd.out.up hb9)
  clear Hd
  have Hd := Hd_9
  clear Hd_9
  clear hn9 hb9 HBwd
  go_wp2_with fail
  refine (refPlus_new ((2 ^ 125 + 9087) * 2 ^ 127 + 1 + ((2 ^ 125 + 9087) * 2 ^ 127 + 1)) 1 ad au cd cu (small_dl _ (by decide)) (small_dl _ (by decide)) wu Hd.out Hu.out).mono ?_
  rintro e wp ⟨ap, cp, rfl, hn9, hnew, hb9⟩
  have HNP := Lib.hid hnew
  have hzu := HBwu.out.size
  have hzb2 := HZ.out.lt
  clear hnew
  have Hp := Lib.hid hn9
  have HBwp := Lib.hid (below_up HBwu.out hb9)
  have HZ_9 := Lib.hid (HZ.out.up hb9)
  clear HZ
  have HZ := HZ_9
  clear HZ_9
  have Hq_9 := Lib.hid (Hq.out.up hb9)
  clear Hq
  have Hq := Hq_9
  clear Hq_9
  clear hn9 hb9 HBwu
  have hz_0 := HZ.out.cell (i := 0) (v := .int .i64 0) rfl
  have hz_1 := HZ.out.cell (i := 1) (v := .slice none 0 0) rfl
  have hz_2 := HZ.out.cell (i := 2) (v := .slice none 0 0) rfl
  have hzf_0 := HZ.out.frozen 0
  have hzf_1 := HZ.out.frozen 1
  have hzf_2 := HZ.out.frozen 2
  have HZ5 := Lib.hid (((HZ.out.set 0 (.int .i64 32)).set 1 (.slice aq (dl ((2 ^ 125 + 9087) * 2 ^ 127 + 1)) cq)).set 2 (.slice ap (dl ((2 ^ 125 + 9087) * 2 ^ 127 + 1 + ((2 ^ 125 + 9087) * 2 ^ 127 + 1) + 1)) cp))
  have HB5 := Lib.hid (((HBwp.out.setCell (p := ⟨w.heap.size, 0, none⟩) (Nat.le_refl _) (.int .i64 32)).setCell (p := ⟨w.heap.size, 1, none⟩) (Nat.le_refl _) (.slice aq (dl ((2 ^ 125 + 9087) * 2 ^ 127 + 1)) cq)).setCell (p := ⟨w.heap.size, 2, none⟩) (Nat.le_refl _) (.slice ap (dl ((2 ^ 125 + 9087) * 2 ^ 127 + 1 + ((2 ^ 125 + 9087) * 2 ^ 127 + 1) + 1)) cp))
  have HQ5 := Lib.hid (((Hq.out.store (b := w.heap.size) (fun q o h => by have := HNQ.out q o h; omega) 0 (.int .i64 32)).store (b := w.heap.size) (fun q o h => by have := HNQ.out q o h; omega) 1 (.slice aq (dl ((2 ^ 125 + 9087) * 2 ^ 127 + 1)) cq)).store (b := w.heap.size) (fun q o h => by have := HNQ.out q o h; omega) 2 (.slice ap (dl ((2 ^ 125 + 9087) * 2 ^ 127 + 1 + ((2 ^ 125 + 9087) * 2 ^ 127 + 1) + 1)) cp))
  have HP5 := Lib.hid (((Hp.out.store (b := w.heap.size) (fun q o h => by have := HNP.out q o h; omega) 0 (.int .i64 32)).store (b := w.heap.size) (fun q o h => by have := HNP.out q o h; omega) 1 (.slice aq (dl ((2 ^ 125 + 9087) * 2 ^ 127 + 1)) cq)).store (b := w.heap.size) (fun q o h => by have := HNP.out q o h; omega) 2 (.slice ap (dl ((2 ^ 125 + 9087) * 2 ^ 127 + 1 + ((2 ^ 125 + 9087) * 2 ^ 127 + 1) + 1)) cp))
  obtain ⟨w5, hw5⟩ : ∃ W9 : World, ((wp.setCell ⟨w.heap.size, 0, none⟩ (.int .i64 32)).setCell ⟨w.heap.size, 1, none⟩ (.slice aq (dl ((2 ^ 125 + 9087) * 2 ^ 127 + 1)) cq)).setCell ⟨w.heap.size, 2, none⟩ (.slice ap (dl ((2 ^ 125 + 9087) * 2 ^ 127 + 1 + ((2 ^ 125 + 9087) * 2 ^ 127 + 1) + 1)) cp) = W9 := ⟨_, rfl⟩
  go_wp2_with fail
  rw [hw5] at HZ5 HB5 HQ5 HP5
  have hg_0 := HZ5.out.cell (i := 0) (v := .int .i64 32) rfl
  have hg_1 := HZ5.out.cell (i := 1) (v := .slice aq (dl ((2 ^ 125 + 9087) * 2 ^ 127 + 1)) cq) rfl
  have hg_2 := HZ5.out.cell (i := 2) (v := .slice ap (dl ((2 ^ 125 + 9087) * 2 ^ 127 + 1 + ((2 ^ 125 + 9087) * 2 ^ 127 + 1) + 1)) cp) rfl
  have eq_ : (grp 3).q.m = (2 ^ 125 + 9087) * 2 ^ 127 + 1 := by decide
  have ep_ : (grp 3).p.m = (2 ^ 125 + 9087) * 2 ^ 127 + 1 + ((2 ^ 125 + 9087) * 2 ^ 127 + 1) + 1 := by decide
  refine bodyPost_ret (v := .agg #[.int .i64 32, .slice aq (dl ((2 ^ 125 + 9087) * 2 ^ 127 + 1)) cq, .slice ap (dl ((2 ^ 125 + 9087) * 2 ^ 127 + 1 + ((2 ^ 125 + 9087) * 2 ^ 127 + 1) + 1)) cp]) (by simp [results, Try.results12, go_sem, hg_0, hg_1, hg_2]) rfl ?_
  refine ⟨aq, cq, ap, cp, ?_, ?_, ?_, HB5.out⟩
  · rw [eq_, ep_]; rfl
  · rw [eq_]; exact HQ5.out
  · rw [ep_]; exact HP5.out

set_option maxHeartbeats 2000000 in
theorem refKind_none (k : Int) (hk : ¬ (1 ≤ k ∧ k ≤ 3)) (w : World) : Calls Try.prog 12 #[.int .i64 k] w fun e w' => e = .returned (.agg #[.int .i64 0, .slice none 0 0, .slice none 0 0]) ∧ Below w.heap.size w w' := by
  have h1 : (k == 2) = false := by simp; omega
  have h2 : (k == 3) = false := by simp; omega
  have h3 : (k != 1) = true := by simp; omega
  go_enter Try.func12, Try.ntmps12
  go_wp2_with fail
  have hb0 : Below w.heap.size w (w.alloc (.cells #[.int .i64 0, .slice none 0 0, .slice none 0 0] 33)) := (Below.refl _ _).alloc (Nat.le_refl _) _
  have hz0 : Bx (w.alloc (.cells #[.int .i64 0, .slice none 0 0, .slice none 0 0] 33)) w.heap.size 33 [.int .i64 0, .slice none 0 0, .slice none 0 0] := Bx.new w _ _ _ rfl
  obtain ⟨W0, hW0⟩ : ∃ W9 : World, (w.alloc (.cells #[.int .i64 0, .slice none 0 0, .slice none 0 0] 33)) = W9 := ⟨_, rfl⟩
  rw [hW0] at hb0 hz0 ⊢
  have HB0 := Lib.hid hb0
  have HZ0 := Lib.hid hz0
  clear hW0 hb0 hz0
  refine (refOf_any 5 (by omega) W0).mono ?_
  rintro e w1 ⟨ah, ch, rfl, hh, hb1⟩
  have HB1 := Lib.hid (below_up HB0.out hb1)
  have HZ1 := Lib.hid (HZ0.out.up hb1)
  clear hh hb1 HB0 HZ0
  have hz_0 := HZ1.out.cell (i := 0) (v := .int .i64 0) rfl
  have hz_1 := HZ1.out.cell (i := 1) (v := .slice none 0 0) rfl
  have hz_2 := HZ1.out.cell (i := 2) (v := .slice none 0 0) rfl
  have hzf_0 := HZ1.out.frozen 0
  have hzf_1 := HZ1.out.frozen 1
  have hzf_2 := HZ1.out.frozen 2
  have HZ5 := Lib.hid (((HZ1.out.set 0 (.int .i64 0)).set 1 (.slice none 0 0)).set 2 (.slice none 0 0))
  have HB5 := Lib.hid (((HB1.out.setCell (p := ⟨w.heap.size, 0, none⟩) (Nat.le_refl _) (.int .i64 0)).setCell (p := ⟨w.heap.size, 1, none⟩) (Nat.le_refl _) (.slice none 0 0)).setCell (p := ⟨w.heap.size, 2, none⟩) (Nat.le_refl _) (.slice none 0 0))
  obtain ⟨w5, hw5⟩ : ∃ W9 : World, ((w1.setCell ⟨w.heap.size, 0, none⟩ (.int .i64 0)).setCell ⟨w.heap.size, 1, none⟩ (.slice none 0 0)).setCell ⟨w.heap.size, 2, none⟩ (.slice none 0 0) = W9 := ⟨_, rfl⟩
  go_wp2_with fail
  rw [hw5] at HZ5 HB5
  have hg_0 := HZ5.out.cell (i := 0) (v := .int .i64 0) rfl
  have hg_1 := HZ5.out.cell (i := 1) (v := .slice none 0 0) rfl
  have hg_2 := HZ5.out.cell (i := 2) (v := .slice none 0 0) rfl
  refine bodyPost_ret (v := .agg #[.int .i64 0, .slice none 0 0, .slice none 0 0]) (by simp [results, Try.results12, go_sem, hg_0, hg_1, hg_2]) rfl ?_
  exact ⟨rfl, HB5.out⟩

theorem refKind_some (k : Nat) (h1 : 1 ≤ k) (h3 : k ≤ 3) (w : World) : Calls Try.prog 12 #[.int .i64 (k : Int)] w fun e w' => KindR w e w' (grp k) := by
  obtain rfl | rfl | rfl : k = 1 ∨ k = 2 ∨ k = 3 := by omega
  · exact refKind_one w
  · exact refKind_two w
  · exact refKind_three w

end Go.Proofs.Ytdlnnkbigeiilaa

/- Slices that the call itself appends to, of elements of any size: one word for all of them. No condition beyond those that each fact names. -/
namespace Go.Proofs.Ytdlnnkbigeiilaa
open Go.RowKit

/-- A row of the call's own, in blocks from N on: n elements of so many cells, all cells xs. -/
def RowO (N : Nat) (w : World) (e : TypeId) (size : Nat) (v : Value) (n : Nat) (xs : List Value) : Prop := w.ownsRow N e size v n xs

section
variable {w w1 : World} {e : TypeId} {N size n m g c : Nat} {v : Value} {xs ys : List Value} {r : Option Nat}

theorem RowO.nil : RowO N w e size (.slice none 0 0) 0 [] := World.ownsRow_nil _ _ _ _
theorem RowO.grown (h : RowO N w e size v n xs) (hg : w.grownBy w1 r) (hne : ∀ q, v.ownBlock = some q → r ≠ some q) : RowO N w1 e size v n xs :=
  World.ownsRow.kept h hg (by cases h9 : v.ownBlock with
    | none => exact Or.inl rfl
    | some q => exact Or.inr (fun e => hne q h9 e.symm))
theorem RowO.up (h : RowO N w e size v n xs) (hb : Below w.heap.size w w1) : RowO N w1 e size v n xs := h.grown (below_grown hb) (fun q _ => by simp)
theorem RowO.lt (h : RowO N w e size v n xs) (q : Nat) (hq : v.ownBlock = some q) : N ≤ q ∧ q < w.heap.size := World.ownsRow.lt h q hq
theorem RowO.other (h : RowO N w e size v n xs) (hne : v.ownBlock ≠ some c) (i : Nat) (u : Value) : RowO N (w.setCell ⟨c, i, none⟩ u) e size v n xs := by
  refine h.grown (r := some c) ⟨rfl, rfl, rfl, by simp [World.setCell], fun k _ hk => ?_⟩ (fun q hq e => hne (by rw [hq, e]))
  exact Below.heap_setCell w ⟨c, i, none⟩ u k (by intro e; exact hk (by rw [e]))
theorem RowO.form (h : RowO N w e size v n xs) : ∃ a c, v = .slice a n c := let ⟨a, c, h1, _⟩ := own_form3 h; ⟨a, c, h1⟩
theorem RowO.len (h : RowO N w e size v n xs) : xs.length = n * size := h.1
theorem RowO.eq (h : RowO N w e size v n xs) (hx : xs = ys) (hn : n = m) : RowO N w e size v m ys := by subst hx; subst hn; exact h

/-- The cells of such a row, whatever an element's size. -/
theorem RowO.sl {a : Option Addr} {k : Nat} (h : RowO N w e size (.slice a k c) n xs) : Sl w w.heap.size a xs := by
  rcases h.2 with ⟨hv, h0⟩ | ⟨g, cap, cur, hv, hb, hg, hr⟩
  · have := h.1; subst h0; left; exact List.length_eq_zero_iff.1 (by simpa using this)
  · simp only [Value.slice.injEq] at hv
    obtain ⟨rfl, rfl, rfl⟩ := hv
    refine Or.inr ⟨g, 0, rfl, (Array.getElem?_eq_some_iff.1 hg).1, fun i u hu => ?_⟩
    have hi : i < k * size := by have := (List.getElem?_eq_some_iff.1 hu).1; rw [h.1] at this; exact this
    rw [Nat.zero_add, World.ownsRow.cellAt h i hi]; exact hu

theorem Bx.grown {t : TypeId} {b : Nat} {cs : List Value} (h : Bx w b t cs) (hg : w.grownBy w1 r) (hne : r ≠ some b) : Bx w1 b t cs := (hg.block b h.lt (fun e => hne e.symm)).trans h

/-- What the cells of one block were, they are. -/
theorem cell_of_block {b : Nat} (h : w1.heap[b]? = w.heap[b]?) (o : Nat) : w1.cell? ⟨b, o, none⟩ = w.cell? ⟨b, o, none⟩ := by
  simp only [World.cell?, h]
theorem GroupAt.grown {gb : Nat} {G : GP} (h : GroupAt w gb G) (hg : w.grownBy w1 r) (hne : r ≠ some gb) : GroupAt w1 gb G := by
  have hc := cell_of_block (hg.block gb h.lt (fun e => hne e.symm))
  have hl := hg.size
  exact ⟨Nat.lt_of_lt_of_le h.lt hl, by rw [hc]; exact h.kind, by rw [hc]; exact h.size, ⟨Nat.lt_of_lt_of_le h.p.lt hl, fun i x hx => by rw [hc]; exact h.p.cell i x hx⟩, ⟨Nat.lt_of_lt_of_le h.q.lt hl, fun i x hx => by rw [hc]; exact h.q.cell i x hx⟩⟩

theorem grown_set (w : World) (b i : Nat) (u : Value) : w.grownBy (w.setCell ⟨b, i, none⟩ u) (some b) :=
  ⟨rfl, rfl, rfl, by simp [World.setCell], fun k _ hk => Below.heap_setCell w ⟨b, i, none⟩ u k (by intro e; exact hk (by rw [e]))⟩
theorem slice_own (b o n c : Nat) : (Value.slice (some ⟨b, o, none⟩) n c).ownBlock = some b := rfl
end

/-- 'out = append(out, x)': x has just been laid into a block of its own. -/
theorem wpList_pushR {P : Program} (N : Nat) (w0 : World) (hN : N ≤ w0.heap.size) {ops : Array Oper} {rest : List Oper} {o : Oper} {a : Act} {Q : Exit → Act → World → Prop} (hgd : o.guard = none) (s x : Operand) (t : TypeId)
    (ho : o.op = .call { callee := .builtin .append, args := #[s, x], argTypes := #[t, t] })
    (e : TypeId) (i : TypeInfo) (z : Value) (size bytes : Nat) (ht : P.underlying t = some (.slice e)) (hi : P.info? e = some i) (hz : i.zero = some z)
    (hsize : i.size = size) (hby : i.bytes = bytes) (hzs : z.cells.size = size) (hsz : 0 < size)
    (v : Value) (n : Nat) (xs : List Value) (hs : a.eval s = v) (hown : RowO N w0 e size v n xs)
    (news : Array Value) (e2 : TypeId) (b : Nat) (hb : w0.heap.size = b) (hx : a.eval x = .slice (some ⟨b, 0, none⟩) 1 1) (hl : news.size = size) (h1 : ∀ u ∈ news.toList, u.oneCell' = true)
    (h63 : (n + 1) * bytes ≤ 140737488355328) (hn : n + 1 ≤ maxLen)
    (h : ∀ g cap w', RowO N w' e size (.slice (some ⟨g, 0, none⟩) (n + 1) cap) (n + 1) (xs ++ news.toList) → w0.grownBy w' v.ownBlock → wpList P ops Q rest (a.put o.dst (.slice (some ⟨g, 0, none⟩) (n + 1) cap)) w') :
    wpList P ops Q (o :: rest) a (w0.alloc (.cells news e2)) := by
  subst hb
  refine wpList_append_lies _ hgd s x t ho N e i z size bytes ht hi hz hsize hby hzs hsz v n xs hs (World.ownsRow.alloc hown _) ⟨w0.heap.size, 0, none⟩ 1 1 news.toList hx (by simpa using hl)
    (World.news_of_block (heap_alloc_new w0 _)) h1 (by omega) hn h63 (by simp; omega) _ rfl ?_
  intro g cap w' hown' hg _ _
  refine h g cap w' hown' ⟨hg.os, hg.tape, hg.output, ?_, ?_⟩
  · have := hg.size; simp at this; omega
  · intro k hk hne
    rw [hg.block k (by simp; omega) hne]
    exact Below.heap_alloc _ _ _ hk

/-- The same within the capacity: nothing is asked but that it fits. -/
theorem wpList_fitR {P : Program} (N : Nat) (w0 : World) {ops : Array Oper} {rest : List Oper} {o : Oper} {a : Act} {Q : Exit → Act → World → Prop} (hgd : o.guard = none) (s x : Operand) (t : TypeId)
    (ho : o.op = .call { callee := .builtin .append, args := #[s, x], argTypes := #[t, t] })
    (e : TypeId) (i : TypeInfo) (size : Nat) (ht : P.underlying t = some (.slice e)) (hi : P.info? e = some i) (hsize : i.size = size)
    (g n cap : Nat) (xs : List Value) (hs : a.eval s = .slice (some ⟨g, 0, none⟩) n cap) (hown : RowO N w0 e size (.slice (some ⟨g, 0, none⟩) n cap) n xs)
    (news : Array Value) (e2 : TypeId) (b : Nat) (hb : w0.heap.size = b) (hx : a.eval x = .slice (some ⟨b, 0, none⟩) 1 1) (hl : news.size = size) (h1 : ∀ u ∈ news.toList, u.oneCell' = true)
    (hfit : n + 1 ≤ cap)
    (h : ∀ w', RowO N w' e size (.slice (some ⟨g, 0, none⟩) (n + 1) cap) (n + 1) (xs ++ news.toList) → w0.grownBy w' (some g) → wpList P ops Q rest (a.put o.dst (.slice (some ⟨g, 0, none⟩) (n + 1) cap)) w') :
    wpList P ops Q (o :: rest) a (w0.alloc (.cells news e2)) := by
  subst hb
  refine wpList_append_fits _ hgd s x t ho N e i size ht hi hsize g n cap xs hs (World.ownsRow.alloc hown _) ⟨w0.heap.size, 0, none⟩ 1 1 news.toList hx (by simpa using hl)
    (World.news_of_block (heap_alloc_new w0 _)) h1 hfit ?_
  intro w' hown' hg
  refine h w' hown' ⟨hg.os, hg.tape, hg.output, ?_, ?_⟩
  · have := hg.size; simp at this; omega
  · intro k hk hne
    rw [hg.block k (by simp; omega) hne]
    exact Below.heap_alloc _ _ _ hk

/-- Slices of pieces, laid one behind the other. -/
theorem Sl.app_left {w : World} {B : Nat} {a : Option Addr} {xs ys : List Value} (h : Sl w B a (xs ++ ys)) : Sl w B a xs := by
  rcases h with h | ⟨b, off, rfl, hb, hc⟩
  · left; exact (List.append_eq_nil_iff.1 h).1
  · exact Or.inr ⟨b, off, rfl, hb, fun i v hv => hc i v (by rw [List.getElem?_append_left (List.getElem?_eq_some_iff.1 hv).1]; exact hv)⟩

/-- Flattened elements: the cells of the i-th. -/
theorem flat_at {α : Type} (f : α → List Value) (k : Nat) (hk : ∀ x, (f x).length = k) : ∀ (l : List α) (i j : Nat) (hi : i < l.length) (_ : j < k), (l.flatMap f)[i * k + j]? = (f l[i])[j]?
  | [], i, _, hi, _ => absurd hi (by simp)
  | x :: l, 0, j, _, hj => by
    rw [List.flatMap_cons, Nat.zero_mul, Nat.zero_add, List.getElem?_append_left (by rw [hk]; exact hj)]
    rfl
  | x :: l, i + 1, j, hi, hj => by
    rw [List.flatMap_cons, List.getElem?_append_right (by rw [hk, Nat.add_mul]; omega), hk, show (i + 1) * k + j - k = i * k + j by rw [Nat.add_mul]; omega]
    exact flat_at f k hk l i j (by simpa using hi) hj

theorem flat_len {α : Type} (f : α → List Value) (k : Nat) (hk : ∀ x, (f x).length = k) (l : List α) : (l.flatMap f).length = l.length * k := by
  induction l with
  | nil => simp
  | cons x l ih => rw [List.flatMap_cons, List.length_append, hk, ih, List.length_cons, Nat.add_mul]; omega

theorem flat_snoc {α : Type} (f : α → List Value) (l : List α) (i : Nat) (hi : i < l.length) : (l.take (i + 1)).flatMap f = (l.take i).flatMap f ++ f l[i] := by
  rw [List.take_succ_eq_append_getElem hi, List.flatMap_append]
  simp

/-- The cells of the i-th element of a slice. -/
theorem Sl.elem {w : World} {B : Nat} {a : Option Addr} {α : Type} {f : α → List Value} {k : Nat} {l : List α} (h : Sl w B a (l.flatMap f)) (hk : ∀ x, (f x).length = k) (h0 : 0 < k) (i : Nat) (hi : i < l.length) :
    ∃ b off, a = some ⟨b, off, none⟩ ∧ b < B ∧ ∀ j v, (f l[i])[j]? = some v → w.cell? ⟨b, off + i * k + j, none⟩ = some v := by
  rcases h with h | ⟨b, off, rfl, hb, hc⟩
  · have := flat_len f k hk l
    rw [h, List.length_nil] at this
    have : 0 < l.length * k := Nat.mul_pos (by omega) h0
    omega
  · exact ⟨b, off, rfl, hb, fun j v hv => by rw [Nat.add_assoc]; exact hc _ _ (by rw [flat_at f k hk l i j hi (by have := (List.getElem?_eq_some_iff.1 hv).1; rw [hk] at this; exact this)]; exact hv)⟩

end Go.Proofs.Ytdlnnkbigeiilaa

/- Boxes in short: their cells, new ones, stores into them. No condition beyond those that each fact names. -/
namespace Go.Proofs.Ytdlnnkbigeiilaa
open Go.RowKit

section
variable {W w0 : World} {b n : Nat} {t : TypeId} {cs cs' : List Value} {a0 a1 a2 a3 a4 a5 a6 a7 : Value}
theorem Bx.c1 (h : Bx W b t [a0]) : W.cell? ⟨b, 0, none⟩ = some a0 := h.cell (i := 0) rfl
theorem Bx.c2 (h : Bx W b t [a0, a1]) : W.cell? ⟨b, 0, none⟩ = some a0 ∧ W.cell? ⟨b, 1, none⟩ = some a1 := ⟨h.cell (i := 0) rfl, h.cell (i := 1) rfl⟩
theorem Bx.c3 (h : Bx W b t [a0, a1, a2]) : W.cell? ⟨b, 0, none⟩ = some a0 ∧ W.cell? ⟨b, 1, none⟩ = some a1 ∧ W.cell? ⟨b, 2, none⟩ = some a2 := ⟨h.cell (i := 0) rfl, h.cell (i := 1) rfl, h.cell (i := 2) rfl⟩
theorem Bx.c4 (h : Bx W b t [a0, a1, a2, a3]) : W.cell? ⟨b, 0, none⟩ = some a0 ∧ W.cell? ⟨b, 1, none⟩ = some a1 ∧ W.cell? ⟨b, 2, none⟩ = some a2 ∧ W.cell? ⟨b, 3, none⟩ = some a3 := ⟨h.cell (i := 0) rfl, h.cell (i := 1) rfl, h.cell (i := 2) rfl, h.cell (i := 3) rfl⟩
theorem Bx.c5 (h : Bx W b t [a0, a1, a2, a3, a4]) : W.cell? ⟨b, 0, none⟩ = some a0 ∧ W.cell? ⟨b, 1, none⟩ = some a1 ∧ W.cell? ⟨b, 2, none⟩ = some a2 ∧ W.cell? ⟨b, 3, none⟩ = some a3 ∧ W.cell? ⟨b, 4, none⟩ = some a4 := ⟨h.cell (i := 0) rfl, h.cell (i := 1) rfl, h.cell (i := 2) rfl, h.cell (i := 3) rfl, h.cell (i := 4) rfl⟩
theorem Bx.c6 (h : Bx W b t [a0, a1, a2, a3, a4, a5]) : W.cell? ⟨b, 0, none⟩ = some a0 ∧ W.cell? ⟨b, 1, none⟩ = some a1 ∧ W.cell? ⟨b, 2, none⟩ = some a2 ∧ W.cell? ⟨b, 3, none⟩ = some a3 ∧ W.cell? ⟨b, 4, none⟩ = some a4 ∧ W.cell? ⟨b, 5, none⟩ = some a5 := ⟨h.cell (i := 0) rfl, h.cell (i := 1) rfl, h.cell (i := 2) rfl, h.cell (i := 3) rfl, h.cell (i := 4) rfl, h.cell (i := 5) rfl⟩
theorem Bx.c7 (h : Bx W b t [a0, a1, a2, a3, a4, a5, a6]) : W.cell? ⟨b, 0, none⟩ = some a0 ∧ W.cell? ⟨b, 1, none⟩ = some a1 ∧ W.cell? ⟨b, 2, none⟩ = some a2 ∧ W.cell? ⟨b, 3, none⟩ = some a3 ∧ W.cell? ⟨b, 4, none⟩ = some a4 ∧ W.cell? ⟨b, 5, none⟩ = some a5 ∧ W.cell? ⟨b, 6, none⟩ = some a6 := ⟨h.cell (i := 0) rfl, h.cell (i := 1) rfl, h.cell (i := 2) rfl, h.cell (i := 3) rfl, h.cell (i := 4) rfl, h.cell (i := 5) rfl, h.cell (i := 6) rfl⟩
theorem Bx.c8 (h : Bx W b t [a0, a1, a2, a3, a4, a5, a6, a7]) : W.cell? ⟨b, 0, none⟩ = some a0 ∧ W.cell? ⟨b, 1, none⟩ = some a1 ∧ W.cell? ⟨b, 2, none⟩ = some a2 ∧ W.cell? ⟨b, 3, none⟩ = some a3 ∧ W.cell? ⟨b, 4, none⟩ = some a4 ∧ W.cell? ⟨b, 5, none⟩ = some a5 ∧ W.cell? ⟨b, 6, none⟩ = some a6 ∧ W.cell? ⟨b, 7, none⟩ = some a7 := ⟨h.cell (i := 0) rfl, h.cell (i := 1) rfl, h.cell (i := 2) rfl, h.cell (i := 3) rfl, h.cell (i := 4) rfl, h.cell (i := 5) rfl, h.cell (i := 6) rfl, h.cell (i := 7) rfl⟩
theorem sz {p q : Prop} (a : Hid p) (b : q) : Hid (p ∧ q) := Lib.hid ⟨a.out, b⟩
theorem sne {a b : Nat} (h : b ≠ a) : some a ≠ some b := fun e => h (Option.some.inj e).symm
theorem hbu {W w w1 : World} (h : Hid (Below W.heap.size W w)) (g : Below w.heap.size w w1) : Hid (Below W.heap.size W w1) := Lib.hid (below_up h.out g)
theorem hbg {W w w1 : World} {b : Nat} (h : Hid (Below W.heap.size W w)) (g : Hid (w.grownBy w1 (some b))) (hb : W.heap.size ≤ b) : Hid (Below W.heap.size W w1) := Lib.hid (Below.grown h.out g.out h.out.size (fun _ e => (Option.some.inj e) ▸ hb))
theorem new1 (w : World) (t0 : TypeId) (c0 : List Value) : ∃ W, w.alloc (Obj.cells c0.toArray t0) = W ∧ Below w.heap.size w W ∧ Hid (W.heap.size = w.heap.size + 1) ∧ Hid (Bx W w.heap.size t0 c0) := by
  refine ⟨_, rfl, ((Below.refl _ _).alloc (Nat.le_refl _) _), Lib.hid (by simp), ?_⟩
  · have h := (Bx.new w t0 c0 _ rfl)
    exact Lib.hid h
theorem new2 (w : World) (t0 : TypeId) (c0 : List Value) (t1 : TypeId) (c1 : List Value) : ∃ W, (w.alloc (Obj.cells c0.toArray t0)).alloc (Obj.cells c1.toArray t1) = W ∧ Below w.heap.size w W ∧ Hid (W.heap.size = w.heap.size + 2) ∧ Hid (Bx W w.heap.size t0 c0) ∧ Hid (Bx W (w.heap.size + 1) t1 c1) := by
  refine ⟨_, rfl, (((Below.refl _ _).alloc (Nat.le_refl _) _).alloc (by simp) _), Lib.hid (by simp), ?_, ?_⟩
  · have h := ((Bx.new w t0 c0 _ rfl).alloc (Obj.cells c1.toArray t1))
    exact Lib.hid h
  · have h := (Bx.new (w.alloc (Obj.cells c0.toArray t0)) t1 c1 _ rfl)
    rw [World.size_alloc] at h
    exact Lib.hid h
theorem new3 (w : World) (t0 : TypeId) (c0 : List Value) (t1 : TypeId) (c1 : List Value) (t2 : TypeId) (c2 : List Value) : ∃ W, ((w.alloc (Obj.cells c0.toArray t0)).alloc (Obj.cells c1.toArray t1)).alloc (Obj.cells c2.toArray t2) = W ∧ Below w.heap.size w W ∧ Hid (W.heap.size = w.heap.size + 3) ∧ Hid (Bx W w.heap.size t0 c0) ∧ Hid (Bx W (w.heap.size + 1) t1 c1) ∧ Hid (Bx W (w.heap.size + 2) t2 c2) := by
  refine ⟨_, rfl, ((((Below.refl _ _).alloc (Nat.le_refl _) _).alloc (by simp) _).alloc (by simp; omega) _), Lib.hid (by simp), ?_, ?_, ?_⟩
  · have h := (((Bx.new w t0 c0 _ rfl).alloc (Obj.cells c1.toArray t1)).alloc (Obj.cells c2.toArray t2))
    exact Lib.hid h
  · have h := ((Bx.new (w.alloc (Obj.cells c0.toArray t0)) t1 c1 _ rfl).alloc (Obj.cells c2.toArray t2))
    rw [World.size_alloc] at h
    exact Lib.hid h
  · have h := (Bx.new ((w.alloc (Obj.cells c0.toArray t0)).alloc (Obj.cells c1.toArray t1)) t2 c2 _ rfl)
    rw [World.size_alloc, World.size_alloc] at h
    exact Lib.hid h
theorem new4 (w : World) (t0 : TypeId) (c0 : List Value) (t1 : TypeId) (c1 : List Value) (t2 : TypeId) (c2 : List Value) (t3 : TypeId) (c3 : List Value) : ∃ W, (((w.alloc (Obj.cells c0.toArray t0)).alloc (Obj.cells c1.toArray t1)).alloc (Obj.cells c2.toArray t2)).alloc (Obj.cells c3.toArray t3) = W ∧ Below w.heap.size w W ∧ Hid (W.heap.size = w.heap.size + 4) ∧ Hid (Bx W w.heap.size t0 c0) ∧ Hid (Bx W (w.heap.size + 1) t1 c1) ∧ Hid (Bx W (w.heap.size + 2) t2 c2) ∧ Hid (Bx W (w.heap.size + 3) t3 c3) := by
  refine ⟨_, rfl, (((((Below.refl _ _).alloc (Nat.le_refl _) _).alloc (by simp) _).alloc (by simp; omega) _).alloc (by simp; omega) _), Lib.hid (by simp), ?_, ?_, ?_, ?_⟩
  · have h := ((((Bx.new w t0 c0 _ rfl).alloc (Obj.cells c1.toArray t1)).alloc (Obj.cells c2.toArray t2)).alloc (Obj.cells c3.toArray t3))
    exact Lib.hid h
  · have h := (((Bx.new (w.alloc (Obj.cells c0.toArray t0)) t1 c1 _ rfl).alloc (Obj.cells c2.toArray t2)).alloc (Obj.cells c3.toArray t3))
    rw [World.size_alloc] at h
    exact Lib.hid h
  · have h := ((Bx.new ((w.alloc (Obj.cells c0.toArray t0)).alloc (Obj.cells c1.toArray t1)) t2 c2 _ rfl).alloc (Obj.cells c3.toArray t3))
    rw [World.size_alloc, World.size_alloc] at h
    exact Lib.hid h
  · have h := (Bx.new (((w.alloc (Obj.cells c0.toArray t0)).alloc (Obj.cells c1.toArray t1)).alloc (Obj.cells c2.toArray t2)) t3 c3 _ rfl)
    rw [World.size_alloc, World.size_alloc, World.size_alloc] at h
    exact Lib.hid h
theorem put1 (h : Hid (Bx W b t cs)) (o0 : Nat) (v0 : Value) (cs' : List Value) (hc : (cs.set o0 v0) = cs') : ∃ W', (W.setCell ⟨b, o0, none⟩ v0) = W' ∧ Hid (W.grownBy W' (some b)) ∧ Hid (W'.heap.size = W.heap.size) ∧ Hid (Bx W' b t cs') :=
  ⟨_, rfl, Lib.hid (grown_set W b o0 v0), Lib.hid (by simp [World.setCell]), Lib.hid (hc ▸ (h.out.set o0 v0))⟩
theorem put2 (h : Hid (Bx W b t cs)) (o0 : Nat) (v0 : Value) (o1 : Nat) (v1 : Value) (cs' : List Value) (hc : ((cs.set o0 v0).set o1 v1) = cs') : ∃ W', ((W.setCell ⟨b, o0, none⟩ v0).setCell ⟨b, o1, none⟩ v1) = W' ∧ Hid (W.grownBy W' (some b)) ∧ Hid (W'.heap.size = W.heap.size) ∧ Hid (Bx W' b t cs') :=
  ⟨_, rfl, Lib.hid ((grown_set W b o0 v0).trans (grown_set (W.setCell ⟨b, o0, none⟩ v0) b o1 v1)), Lib.hid (by simp [World.setCell]), Lib.hid (hc ▸ ((h.out.set o0 v0).set o1 v1))⟩
theorem put3 (h : Hid (Bx W b t cs)) (o0 : Nat) (v0 : Value) (o1 : Nat) (v1 : Value) (o2 : Nat) (v2 : Value) (cs' : List Value) (hc : (((cs.set o0 v0).set o1 v1).set o2 v2) = cs') : ∃ W', (((W.setCell ⟨b, o0, none⟩ v0).setCell ⟨b, o1, none⟩ v1).setCell ⟨b, o2, none⟩ v2) = W' ∧ Hid (W.grownBy W' (some b)) ∧ Hid (W'.heap.size = W.heap.size) ∧ Hid (Bx W' b t cs') :=
  ⟨_, rfl, Lib.hid (((grown_set W b o0 v0).trans (grown_set (W.setCell ⟨b, o0, none⟩ v0) b o1 v1)).trans (grown_set ((W.setCell ⟨b, o0, none⟩ v0).setCell ⟨b, o1, none⟩ v1) b o2 v2)), Lib.hid (by simp [World.setCell]), Lib.hid (hc ▸ (((h.out.set o0 v0).set o1 v1).set o2 v2))⟩
theorem put4 (h : Hid (Bx W b t cs)) (o0 : Nat) (v0 : Value) (o1 : Nat) (v1 : Value) (o2 : Nat) (v2 : Value) (o3 : Nat) (v3 : Value) (cs' : List Value) (hc : ((((cs.set o0 v0).set o1 v1).set o2 v2).set o3 v3) = cs') : ∃ W', ((((W.setCell ⟨b, o0, none⟩ v0).setCell ⟨b, o1, none⟩ v1).setCell ⟨b, o2, none⟩ v2).setCell ⟨b, o3, none⟩ v3) = W' ∧ Hid (W.grownBy W' (some b)) ∧ Hid (W'.heap.size = W.heap.size) ∧ Hid (Bx W' b t cs') :=
  ⟨_, rfl, Lib.hid ((((grown_set W b o0 v0).trans (grown_set (W.setCell ⟨b, o0, none⟩ v0) b o1 v1)).trans (grown_set ((W.setCell ⟨b, o0, none⟩ v0).setCell ⟨b, o1, none⟩ v1) b o2 v2)).trans (grown_set (((W.setCell ⟨b, o0, none⟩ v0).setCell ⟨b, o1, none⟩ v1).setCell ⟨b, o2, none⟩ v2) b o3 v3)), Lib.hid (by simp [World.setCell]), Lib.hid (hc ▸ ((((h.out.set o0 v0).set o1 v1).set o2 v2).set o3 v3))⟩
theorem put5 (h : Hid (Bx W b t cs)) (o0 : Nat) (v0 : Value) (o1 : Nat) (v1 : Value) (o2 : Nat) (v2 : Value) (o3 : Nat) (v3 : Value) (o4 : Nat) (v4 : Value) (cs' : List Value) (hc : (((((cs.set o0 v0).set o1 v1).set o2 v2).set o3 v3).set o4 v4) = cs') : ∃ W', (((((W.setCell ⟨b, o0, none⟩ v0).setCell ⟨b, o1, none⟩ v1).setCell ⟨b, o2, none⟩ v2).setCell ⟨b, o3, none⟩ v3).setCell ⟨b, o4, none⟩ v4) = W' ∧ Hid (W.grownBy W' (some b)) ∧ Hid (W'.heap.size = W.heap.size) ∧ Hid (Bx W' b t cs') :=
  ⟨_, rfl, Lib.hid (((((grown_set W b o0 v0).trans (grown_set (W.setCell ⟨b, o0, none⟩ v0) b o1 v1)).trans (grown_set ((W.setCell ⟨b, o0, none⟩ v0).setCell ⟨b, o1, none⟩ v1) b o2 v2)).trans (grown_set (((W.setCell ⟨b, o0, none⟩ v0).setCell ⟨b, o1, none⟩ v1).setCell ⟨b, o2, none⟩ v2) b o3 v3)).trans (grown_set ((((W.setCell ⟨b, o0, none⟩ v0).setCell ⟨b, o1, none⟩ v1).setCell ⟨b, o2, none⟩ v2).setCell ⟨b, o3, none⟩ v3) b o4 v4)), Lib.hid (by simp [World.setCell]), Lib.hid (hc ▸ (((((h.out.set o0 v0).set o1 v1).set o2 v2).set o3 v3).set o4 v4))⟩
theorem put6 (h : Hid (Bx W b t cs)) (o0 : Nat) (v0 : Value) (o1 : Nat) (v1 : Value) (o2 : Nat) (v2 : Value) (o3 : Nat) (v3 : Value) (o4 : Nat) (v4 : Value) (o5 : Nat) (v5 : Value) (cs' : List Value) (hc : ((((((cs.set o0 v0).set o1 v1).set o2 v2).set o3 v3).set o4 v4).set o5 v5) = cs') : ∃ W', ((((((W.setCell ⟨b, o0, none⟩ v0).setCell ⟨b, o1, none⟩ v1).setCell ⟨b, o2, none⟩ v2).setCell ⟨b, o3, none⟩ v3).setCell ⟨b, o4, none⟩ v4).setCell ⟨b, o5, none⟩ v5) = W' ∧ Hid (W.grownBy W' (some b)) ∧ Hid (W'.heap.size = W.heap.size) ∧ Hid (Bx W' b t cs') :=
  ⟨_, rfl, Lib.hid ((((((grown_set W b o0 v0).trans (grown_set (W.setCell ⟨b, o0, none⟩ v0) b o1 v1)).trans (grown_set ((W.setCell ⟨b, o0, none⟩ v0).setCell ⟨b, o1, none⟩ v1) b o2 v2)).trans (grown_set (((W.setCell ⟨b, o0, none⟩ v0).setCell ⟨b, o1, none⟩ v1).setCell ⟨b, o2, none⟩ v2) b o3 v3)).trans (grown_set ((((W.setCell ⟨b, o0, none⟩ v0).setCell ⟨b, o1, none⟩ v1).setCell ⟨b, o2, none⟩ v2).setCell ⟨b, o3, none⟩ v3) b o4 v4)).trans (grown_set (((((W.setCell ⟨b, o0, none⟩ v0).setCell ⟨b, o1, none⟩ v1).setCell ⟨b, o2, none⟩ v2).setCell ⟨b, o3, none⟩ v3).setCell ⟨b, o4, none⟩ v4) b o5 v5)), Lib.hid (by simp [World.setCell]), Lib.hid (hc ▸ ((((((h.out.set o0 v0).set o1 v1).set o2 v2).set o3 v3).set o4 v4).set o5 v5))⟩
theorem put7 (h : Hid (Bx W b t cs)) (o0 : Nat) (v0 : Value) (o1 : Nat) (v1 : Value) (o2 : Nat) (v2 : Value) (o3 : Nat) (v3 : Value) (o4 : Nat) (v4 : Value) (o5 : Nat) (v5 : Value) (o6 : Nat) (v6 : Value) (cs' : List Value) (hc : (((((((cs.set o0 v0).set o1 v1).set o2 v2).set o3 v3).set o4 v4).set o5 v5).set o6 v6) = cs') : ∃ W', (((((((W.setCell ⟨b, o0, none⟩ v0).setCell ⟨b, o1, none⟩ v1).setCell ⟨b, o2, none⟩ v2).setCell ⟨b, o3, none⟩ v3).setCell ⟨b, o4, none⟩ v4).setCell ⟨b, o5, none⟩ v5).setCell ⟨b, o6, none⟩ v6) = W' ∧ Hid (W.grownBy W' (some b)) ∧ Hid (W'.heap.size = W.heap.size) ∧ Hid (Bx W' b t cs') :=
  ⟨_, rfl, Lib.hid (((((((grown_set W b o0 v0).trans (grown_set (W.setCell ⟨b, o0, none⟩ v0) b o1 v1)).trans (grown_set ((W.setCell ⟨b, o0, none⟩ v0).setCell ⟨b, o1, none⟩ v1) b o2 v2)).trans (grown_set (((W.setCell ⟨b, o0, none⟩ v0).setCell ⟨b, o1, none⟩ v1).setCell ⟨b, o2, none⟩ v2) b o3 v3)).trans (grown_set ((((W.setCell ⟨b, o0, none⟩ v0).setCell ⟨b, o1, none⟩ v1).setCell ⟨b, o2, none⟩ v2).setCell ⟨b, o3, none⟩ v3) b o4 v4)).trans (grown_set (((((W.setCell ⟨b, o0, none⟩ v0).setCell ⟨b, o1, none⟩ v1).setCell ⟨b, o2, none⟩ v2).setCell ⟨b, o3, none⟩ v3).setCell ⟨b, o4, none⟩ v4) b o5 v5)).trans (grown_set ((((((W.setCell ⟨b, o0, none⟩ v0).setCell ⟨b, o1, none⟩ v1).setCell ⟨b, o2, none⟩ v2).setCell ⟨b, o3, none⟩ v3).setCell ⟨b, o4, none⟩ v4).setCell ⟨b, o5, none⟩ v5) b o6 v6)), Lib.hid (by simp [World.setCell]), Lib.hid (hc ▸ (((((((h.out.set o0 v0).set o1 v1).set o2 v2).set o3 v3).set o4 v4).set o5 v5).set o6 v6))⟩
theorem put8 (h : Hid (Bx W b t cs)) (o0 : Nat) (v0 : Value) (o1 : Nat) (v1 : Value) (o2 : Nat) (v2 : Value) (o3 : Nat) (v3 : Value) (o4 : Nat) (v4 : Value) (o5 : Nat) (v5 : Value) (o6 : Nat) (v6 : Value) (o7 : Nat) (v7 : Value) (cs' : List Value) (hc : ((((((((cs.set o0 v0).set o1 v1).set o2 v2).set o3 v3).set o4 v4).set o5 v5).set o6 v6).set o7 v7) = cs') : ∃ W', ((((((((W.setCell ⟨b, o0, none⟩ v0).setCell ⟨b, o1, none⟩ v1).setCell ⟨b, o2, none⟩ v2).setCell ⟨b, o3, none⟩ v3).setCell ⟨b, o4, none⟩ v4).setCell ⟨b, o5, none⟩ v5).setCell ⟨b, o6, none⟩ v6).setCell ⟨b, o7, none⟩ v7) = W' ∧ Hid (W.grownBy W' (some b)) ∧ Hid (W'.heap.size = W.heap.size) ∧ Hid (Bx W' b t cs') :=
  ⟨_, rfl, Lib.hid ((((((((grown_set W b o0 v0).trans (grown_set (W.setCell ⟨b, o0, none⟩ v0) b o1 v1)).trans (grown_set ((W.setCell ⟨b, o0, none⟩ v0).setCell ⟨b, o1, none⟩ v1) b o2 v2)).trans (grown_set (((W.setCell ⟨b, o0, none⟩ v0).setCell ⟨b, o1, none⟩ v1).setCell ⟨b, o2, none⟩ v2) b o3 v3)).trans (grown_set ((((W.setCell ⟨b, o0, none⟩ v0).setCell ⟨b, o1, none⟩ v1).setCell ⟨b, o2, none⟩ v2).setCell ⟨b, o3, none⟩ v3) b o4 v4)).trans (grown_set (((((W.setCell ⟨b, o0, none⟩ v0).setCell ⟨b, o1, none⟩ v1).setCell ⟨b, o2, none⟩ v2).setCell ⟨b, o3, none⟩ v3).setCell ⟨b, o4, none⟩ v4) b o5 v5)).trans (grown_set ((((((W.setCell ⟨b, o0, none⟩ v0).setCell ⟨b, o1, none⟩ v1).setCell ⟨b, o2, none⟩ v2).setCell ⟨b, o3, none⟩ v3).setCell ⟨b, o4, none⟩ v4).setCell ⟨b, o5, none⟩ v5) b o6 v6)).trans (grown_set (((((((W.setCell ⟨b, o0, none⟩ v0).setCell ⟨b, o1, none⟩ v1).setCell ⟨b, o2, none⟩ v2).setCell ⟨b, o3, none⟩ v3).setCell ⟨b, o4, none⟩ v4).setCell ⟨b, o5, none⟩ v5).setCell ⟨b, o6, none⟩ v6) b o7 v7)), Lib.hid (by simp [World.setCell]), Lib.hid (hc ▸ ((((((((h.out.set o0 v0).set o1 v1).set o2 v2).set o3 v3).set o4 v4).set o5 v5).set o6 v6).set o7 v7))⟩
end

end Go.Proofs.Ytdlnnkbigeiilaa

/- The document's numbers, written down; compared. No condition. -/
namespace Go.Proofs.Ytdlnnkbigeiilaa
open Go.RowKit

theorem byteAt_nought (n i : Nat) (h : dl n ≤ i / 2) : byteAt n i = 0 := by
  rw [byte_dg, dg_nought n _ h]
  simp
theorem textL_skip (n size k : Nat) (h : byteAt n k = 0) : textL n size k = textL n size (k + 1) := by
  unfold textL
  refine List.map_congr_left fun p _ => ?_
  by_cases h1 : size - 1 - p < k
  · rw [if_pos h1, if_pos (by omega)]
  · rw [if_neg h1]
    by_cases h2 : size - 1 - p < k + 1
    · rw [if_pos h2, show size - 1 - p = k by omega, h]; rfl
    · rw [if_neg h2]


set_option maxHeartbeats 1000000 in
theorem refText_any (n size : Nat) (an : Option Addr) (cn : Nat) (hln : dl n ≤ 1048576) (hs : size ≤ 1024) (w : World) (hA : NumAt w an n) :
    Calls Try.prog 18 #[.slice an (dl n) cn, .int .i64 (size : Int)] w fun e w' => e = .returned (.string (textS n size)) ∧ Below w.heap.size w w' := by
  obtain ⟨i0, hi, hz0, hz1, hz2⟩ := info_parts infoByte
  have HA := Lib.hid hA
  clear hA
  go_enter Try.func18, Try.ntmps18
  go_wp2_with (at_make; refine wpList_make_full _ rfl _ _ 82 rfl 0 5 i0 (.int .u8 0) 1 Try.underlying82 hi hz0 hz1 _ _ _ _ size rfl rfl ?c1 ?c2 ?c3 ?c4 ?c5 ?_)
  case c1 => rfl
  case c2 => rfl
  case c3 => rw [hz2]; omega
  case c4 => unfold maxLen; omega
  case c5 => omega
  intro w1 hown hgrow
  have HB1 : Hid (Below w.heap.size w w1) := (Below.refl _ _).grown hgrow (Nat.le_refl _) (by simp)
  have HO1 : Hid (w1.ownsRow 0 5 1 (.slice (some ⟨w.heap.size, 0, none⟩) size size) size ((textL n size 0).map (Value.int .u8))) := by
    have h := hown
    show World.ownsRow _ _ _ _ _ _ _
    rw [textL_zero]
    rw [bytes_made] at h
    exact h
  clear hown hgrow hi hz0 hz1 hz2
  go_wp2_with fail
  go_loopw [6, 7] (fun x _ wr => ∃ k : Nat, k ≤ size ∧ x = .int .i64 k ∧ Hid (wr.ownsRow 0 5 1 (.slice (some ⟨w.heap.size, 0, none⟩) size size) size ((textL n size k).map (Value.int .u8))) ∧ Hid (Below w.heap.size w wr)) (fun x _ _ => size - (intOf x).toNat)
  case atStart => exact ⟨0, Nat.zero_le _, rfl, HO1.out, HB1.out⟩
  case round =>
    clear HO1 HB1
    obtain ⟨k, hk, rfl, HO, HN⟩ := hrel
    by_cases hkl : k < size
    · have hlen : size - 1 - k < ((textL n size k).map (Value.int .u8)).length := by simp [textL_length]; omega
      have hc := HO.out.cellAt (size - 1 - k) (by omega)
      rw [List.getElem?_eq_getElem hlen] at hc
      have hf := HO.out.frozenAt (size - 1 - k)
      generalize ((textL n size k).map (Value.int .u8))[size - 1 - k] = old at hc
      have hidx : (size : Int) - 1 - (k : Int) = ((size - 1 - k : Nat) : Int) := by omega
      clear hlen
      have hk2 : (k : Int) / 2 = ((k / 2 : Nat) : Int) := by omega
      by_cases hd : k / 2 < dl n
      · obtain ⟨b1, o1, rfl, hb1, hcell1⟩ := HA.out.all (by omega)
        have hx1 : wr.cell? ⟨b1, o1 + k / 2, none⟩ = some (.int .i64 (dg DD n (k / 2) : Int)) := by rw [HN.out.cell (p := ⟨b1, o1 + k / 2, none⟩) hb1]; exact hcell1 _ hd
        have hdb : dg DD n (k / 2) < 65536 := dg_lt (B := DD) (by decide) n _
        have hby := byte_dg n k
        clear hcell1 hk2
        generalize dg DD n (k / 2) = d at *
        have hk1 : k % 2 = 0 ∨ k % 2 = 1 := by omega
        rcases hk1 with hk1 | hk1
        · have hodd : ((k : Int) % 2 == 1) = false := by simp; omega
          have hbyte : (d : Int) % 256 = (byteAt n k : Int) := by rw [hby, hk1]; simp
          have HK1 := Lib.hid hk1
          clear hby hk1
          have hst := (HO.out.stored (size - 1 - k) (.int .u8 (byteAt n k : Int))).1
          rw [← List.map_set, textL_set _ _ _ hkl] at hst
          have HS := Lib.hid hst
          have HSB := Lib.hid (HN.out.setCell (p := ⟨w.heap.size, size - 1 - k, none⟩) (Nat.le_refl _) (.int .u8 (byteAt n k : Int)))
          clear hst
          go_wp2_with fail
          go_roundw
          case rel => exact ⟨k + 1, by omega, by go_num, HS.out, HSB.out⟩
          case measure => simp [intOf]; omega
        · have hodd : ((k : Int) % 2 == 1) = true := by simp; omega
          have hbyte : (d : Int) / 256 % 256 = (byteAt n k : Int) := by rw [hby, hk1]; simp
          have HK1 := Lib.hid hk1
          clear hby hk1
          have hst := (HO.out.stored (size - 1 - k) (.int .u8 (byteAt n k : Int))).1
          rw [← List.map_set, textL_set _ _ _ hkl] at hst
          have HS := Lib.hid hst
          have HSB := Lib.hid (HN.out.setCell (p := ⟨w.heap.size, size - 1 - k, none⟩) (Nat.le_refl _) (.int .u8 (byteAt n k : Int)))
          clear hst
          go_wp2_with fail
          go_roundw
          case rel => exact ⟨k + 1, by omega, by go_num, HS.out, HSB.out⟩
          case measure => simp [intOf]; omega
      · have h0 := byteAt_nought n k (by omega)
        have HSK := Lib.hid (textL_skip n size k h0)
        clear h0 hk2
        go_wp2_with fail
        go_roundw
        case rel => exact ⟨k + 1, by omega, by go_num, by rw [← HSK.out]; exact HO.out, HN.out⟩
        case measure => simp [intOf]; omega
    · have hks : k = size := by omega
      subst hks
      have hcv := run_convert_bytes_arg (P := Try.prog) wr 82 5 Try.underlying82 Try.underlying5 w.heap.size 0 k k (textL n k k) (textL_length _ _ _) (fun i hi => by
        have h := HO.out.cellAt i (by omega)
        rw [Nat.zero_add, h, List.getElem?_map, List.getElem?_eq_getElem (by rw [textL_length]; exact hi)]
        simp [List.getD, List.getElem?_eq_getElem (show i < (textL n k k).length by rw [textL_length]; exact hi)]) 9 Try.underlying9
      go_wp2_with fail
      go_ret
      exact ⟨rfl, HN.out⟩

end Go.Proofs.Ytdlnnkbigeiilaa

/- The package group: with. No condition. -/
namespace Go.Proofs.Ytdlnnkbigeiilaa
open Go.RowKit

/-- What a face of the group answers: a value and an errno. -/
def Ans (v : Value) (er : Int) (w : World) (e : Ending) (w' : World) : Prop := e = .returned (.tuple #[v, .int .i64 er]) ∧ Below w.heap.size w w'


set_option maxRecDepth 100000 in
set_option maxHeartbeats 1000000 in
theorem withS_none (k : Int) (hk : ¬ (1 ≤ k ∧ k ≤ 3)) (fv : Value) (w : World) : Calls Try.prog 84 #[.int .i64 k, fv] w (Ans (.string ⟨#[]⟩) 1 w) := by
  go_enter Try.func84, Try.ntmps84
  go_wp2_with fail
  refine (of_none k hk w).mono ?_
  rintro e w1 ⟨rfl, rfl⟩
  go_wp2_with fail
  go_ret2
  exact ⟨rfl, Below.refl _ _⟩

set_option maxRecDepth 100000 in
set_option maxHeartbeats 1000000 in
theorem withS_some (k : Nat) (h1 : 1 ≤ k) (h3 : k ≤ 3) (f : FuncId) (caps : Array Value) (v : Value) (er : Int) (hent : Enters Try.prog f) (w : World)
    (hcall : ∀ w1, Below w.heap.size w w1 → GroupAt w1 w.heap.size (grp k) → Calls Try.prog f (#[.pointer (some ⟨w.heap.size, 0, none⟩)] ++ caps) w1 (Ans v er w1)) :
    Calls Try.prog 84 #[.int .i64 (k : Int), .func (.func f) #[] caps] w (Ans v er w) := by
  have HC := Lib.hid hcall
  clear hcall
  have hcf : ∀ (args : Array Value) (w : World), (callFunc f args).run Try.prog w = .ok (.enter f args) w := hent
  clear hent
  go_enter Try.func84, Try.ntmps84
  go_wp2_with fail
  refine (of_some k h1 h3 w).mono ?_
  rintro e w1 ⟨rfl, hg, hb⟩
  have HG := Lib.hid hg
  have HB := Lib.hid hb
  clear hg hb
  go_wp2_with fail
  refine (HC.out w1 HB.out HG.out).mono ?_
  rintro e w2 ⟨rfl, hb2⟩
  have HB2 := Lib.hid (below_up HB.out hb2)
  clear hb2
  go_wp2_with fail
  go_ret2
  exact ⟨rfl, HB2.out⟩

end Go.Proofs.Ytdlnnkbigeiilaa

/- The package group: what a kind has. No condition. -/
namespace Go.Proofs.Ytdlnnkbigeiilaa
open Go.RowKit

set_option maxRecDepth 100000 in
set_option maxHeartbeats 1000000 in
theorem fixed1_any (gb b : Nat) (f : FuncId) (caps : Array Value) (s : ByteArray) (hent : Enters Try.prog f) (w : World) (hc : w.cell? ⟨b, 0, none⟩ = some (.func (.func f) #[] caps))
    (hcall : Calls Try.prog f (#[.pointer (some ⟨gb, 0, none⟩)] ++ caps) w fun e w' => e = .returned (.string s) ∧ Below w.heap.size w w') :
    Calls Try.prog 85 #[.pointer (some ⟨gb, 0, none⟩), .pointer (some ⟨b, 0, none⟩)] w (Ans (.string s) 0 w) := by
  have HC := Lib.hid hcall
  clear hcall
  have hcf : ∀ (args : Array Value) (w : World), (callFunc f args).run Try.prog w = .ok (.enter f args) w := hent
  clear hent
  go_enter Try.func85, Try.ntmps85
  go_wp2_with fail
  refine HC.out.mono ?_
  rintro e w2 ⟨rfl, hb2⟩
  have HB2 := Lib.hid hb2
  clear hb2 hc
  go_wp2_with fail
  go_ret2
  exact ⟨rfl, HB2.out⟩

set_option maxRecDepth 100000 in
set_option maxHeartbeats 1000000 in
theorem fixed_some (k : Nat) (h1 : 1 ≤ k) (h3 : k ≤ 3) (f : FuncId) (caps : Array Value) (s : ByteArray) (hent : Enters Try.prog f) (w : World)
    (hcall : ∀ w1 gb, Below w.heap.size w w1 → GroupAt w1 gb (grp k) → Calls Try.prog f (#[.pointer (some ⟨gb, 0, none⟩)] ++ caps) w1 fun e w' => e = .returned (.string s) ∧ Below w1.heap.size w1 w') :
    Calls Try.prog 37 #[.int .i64 (k : Int), .func (.func f) #[] caps] w (Ans (.string s) 0 w) := by
  have HC := Lib.hid hcall
  have HE := Lib.hid hent
  clear hcall hent
  go_enter Try.func37, Try.ntmps37
  go_wp2_with fail
  have hb0 : Below w.heap.size w (w.alloc (.cells #[.func (.func f) #[] caps] 80)) := (Below.refl _ _).alloc (Nat.le_refl _) _
  have hz0 : Bx (w.alloc (.cells #[.func (.func f) #[] caps] 80)) w.heap.size 80 [.func (.func f) #[] caps] := Bx.new w _ _ _ rfl
  obtain ⟨W0, hW0⟩ : ∃ W9 : World, (w.alloc (.cells #[.func (.func f) #[] caps] 80)) = W9 := ⟨_, rfl⟩
  rw [hW0] at hb0 hz0 ⊢
  have HB0 := Lib.hid hb0
  have HZ0 := Lib.hid hz0
  clear hW0 hb0 hz0
  refine (withS_some k h1 h3 85 #[.pointer (some ⟨w.heap.size, 0, none⟩)] (.string s) 0 (enters_of Try.func85 (by kernel_rfl) rfl) W0 (fun w1 hb hg => ?_)).mono ?_
  · exact fixed1_any _ _ f caps s HE.out w1 ((HZ0.out.up hb).cell (i := 0) rfl) (HC.out w1 _ (below_up HB0.out hb) hg)
  · rintro e w2 ⟨rfl, hb2⟩
    have HB2 := Lib.hid (below_up HB0.out hb2)
    clear hb2
    go_wp2_with fail
    go_ret2
    exact ⟨rfl, HB2.out⟩

set_option maxRecDepth 100000 in
set_option maxHeartbeats 1000000 in
theorem fixed_none (k : Int) (hk : ¬ (1 ≤ k ∧ k ≤ 3)) (f : FuncId) (caps : Array Value) (w : World) : Calls Try.prog 37 #[.int .i64 k, .func (.func f) #[] caps] w (Ans (.string ⟨#[]⟩) 1 w) := by
  go_enter Try.func37, Try.ntmps37
  go_wp2_with fail
  refine (withS_none k hk _ _).mono ?_
  rintro e w1 ⟨rfl, hb⟩
  have HB := Lib.hid (((Below.refl w.heap.size w).alloc (Nat.le_refl _) _).trans (hb.mono (by simp)))
  clear hb
  go_wp2_with fail
  go_ret2
  exact ⟨rfl, HB.out⟩


set_option maxHeartbeats 1000000 in
theorem base1_any (G : GP) (ok : G.Ok) (gb : Nat) (w : World) (hG : GroupAt w gb G) : Calls Try.prog 102 #[.pointer (some ⟨gb, 0, none⟩)] w fun e w' => e = .returned (.string (textS (lowN G 2) G.size)) ∧ Below w.heap.size w w' := by
  have HG := Lib.hid hG
  have OK := Lib.hid ok
  clear hG ok
  go_enter Try.func102, Try.ntmps102
  go_wp2_with fail
  refine (gBase_any G OK.out gb w HG.out).mono ?_
  rintro e w1 ⟨rfl, hb1⟩
  have HB1 := Lib.hid hb1
  clear hb1
  go_wp2_with fail
  refine (gText_any G OK.out gb 2 w1 (HG.out.up HB1.out)).mono ?_
  rintro e w2 ⟨rfl, hb2⟩
  have HB2 := Lib.hid (below_up HB1.out hb2)
  clear hb2
  go_wp2_with fail
  go_ret
  exact ⟨rfl, HB2.out⟩

theorem low2 (k : Nat) (h1 : 1 ≤ k) (h3 : k ≤ 3) : lowN (grp k) 2 = 2 := by
  obtain rfl | rfl | rfl : k = 1 ∨ k = 2 ∨ k = 3 := by omega
  all_goals decide

set_option maxRecDepth 100000 in
set_option maxHeartbeats 1000000 in
theorem Base_some (k : Nat) (h1 : 1 ≤ k) (h3 : k ≤ 3) (w : World) : Calls Try.prog 62 #[.int .i64 (k : Int)] w (Ans (.string (textS 2 (grp k).size)) 0 w) := by
  go_enter Try.func62, Try.ntmps62
  go_wp2_with fail
  refine (fixed_some k h1 h3 102 #[] ((textS 2 (grp k).size)) (enters_of Try.func102 (by kernel_rfl) rfl) w (fun w1 gb hb hg => by rw [← low2 k h1 h3]; exact base1_any (grp k) (grp_ok k h1 h3) gb w1 hg)).mono ?_
  rintro e w2 ⟨rfl, hb2⟩
  have HB2 := Lib.hid hb2
  clear hb2
  go_wp2_with fail
  go_ret2
  exact ⟨rfl, HB2.out⟩

set_option maxRecDepth 100000 in
set_option maxHeartbeats 1000000 in
theorem Base_none (k : Int) (hk : ¬ (1 ≤ k ∧ k ≤ 3)) (w : World) : Calls Try.prog 62 #[.int .i64 k] w (Ans (.string ⟨#[]⟩) 1 w) := by
  go_enter Try.func62, Try.ntmps62
  go_wp2_with fail
  refine (fixed_none k hk _ _ w).mono ?_
  rintro e w2 ⟨rfl, hb2⟩
  have HB2 := Lib.hid hb2
  clear hb2
  go_wp2_with fail
  go_ret2
  exact ⟨rfl, HB2.out⟩

def Ans3 (a b c : Int) (w : World) (e : Ending) (w' : World) : Prop := e = .returned (.tuple #[.int .i64 a, .int .i64 b, .int .i64 c]) ∧ Below w.heap.size w w'

set_option maxHeartbeats 1000000 in
theorem lawText_ok (s : ByteArray) (w : World) : Calls Try.prog 15 #[.string s, .int .i64 0, .int .i64 0, .string s] w fun e w' => e = .returned (.bool true) ∧ Below w.heap.size w w' := by
  go_enter Try.func15, Try.ntmps15
  go_wp2_with fail
  go_ret
  exact ⟨rfl, Below.refl _ _⟩

set_option maxHeartbeats 1000000 in
theorem lawText_err (s : ByteArray) (er : Int) (he : er ≠ 0) (w : World) : Calls Try.prog 15 #[.string ⟨#[]⟩, .int .i64 er, .int .i64 er, .string s] w fun e w' => e = .returned (.bool true) ∧ Below w.heap.size w w' := by
  have h1 : (er != 0) = true := by simpa using he
  go_enter Try.func15, Try.ntmps15
  go_wp2_with fail
  go_ret
  exact ⟨rfl, Below.refl _ _⟩

end Go.Proofs.Ytdlnnkbigeiilaa

/- The document's numbers: compared, and read. No condition. -/
namespace Go.Proofs.Ytdlnnkbigeiilaa
open Go.RowKit

set_option maxHeartbeats 1000000 in
theorem refCompare_len (a b : Nat) (aa ab : Option Addr) (ca cb : Nat) (h : dl a ≠ dl b) (w : World) :
    Calls Try.prog 89 #[.slice aa (dl a) ca, .slice ab (dl b) cb] w fun e w' => e = .returned (.int .i64 (cmpI a b)) ∧ Below w.heap.size w w' := by
  rcases Nat.lt_or_ge (dl a) (dl b) with h1 | h1
  · have HC : Hid (cmpI a b = -1) := by show _ = _; unfold cmpI; rw [if_pos (lt_of_dl a b h1)]
    have hne : ((dl a : Int) != (dl b : Int)) = true := by simp; omega
    clear h
    go_enter Try.func89, Try.ntmps89
    go_wp2_with fail
    go_ret
    exact ⟨ret_int HC.out.symm, Below.refl _ _⟩
  · have h2 : dl b < dl a := by omega
    have h3 := lt_of_dl b a h2
    have HC : Hid (cmpI a b = 1) := by show _ = _; unfold cmpI; rw [if_neg (by omega), if_pos h3]
    have hne : ((dl a : Int) != (dl b : Int)) = true := by simp; omega
    have h4 : ¬ dl a < dl b := by omega
    clear h h1 h3
    go_enter Try.func89, Try.ntmps89
    go_wp2_with fail
    go_ret
    exact ⟨ret_int HC.out.symm, Below.refl _ _⟩

set_option maxHeartbeats 1000000 in
theorem refCompare_same (a b : Nat) (aa ab : Option Addr) (ca cb L : Nat) (ha : dl a = L) (hb : dl b = L) (hL : L ≤ 1048576) (w : World) (hA : NumAt w aa a) (hB : NumAt w ab b) :
    Calls Try.prog 89 #[.slice aa L ca, .slice ab L cb] w fun e w' => e = .returned (.int .i64 (cmpI a b)) ∧ Below w.heap.size w w' := by
  have HDA := Lib.hid ha
  have HDB := Lib.hid hb
  have HA := Lib.hid hA
  have HB := Lib.hid hB
  clear ha hb hA hB
  have hne : ((L : Int) != (L : Int)) = false := by simp
  go_enter Try.func89, Try.ntmps89
  go_wp2_with fail
  go_loopw [5] (fun x wr => ∃ j : Nat, j ≤ L ∧ x = .int .i64 ((j : Int) - 1) ∧ Hid (a / DD ^ j = b / DD ^ j) ∧ Hid (Below w.heap.size w wr)) (fun x _ => (intOf x + 1).toNat)
  case atStart => exact ⟨L, Nat.le_refl _, rfl, by
    show _ = _
    have h1 := lt_dl a
    have h2 := lt_dl b
    rw [HDA.out] at h1
    rw [HDB.out] at h2
    rw [Nat.div_eq_of_lt h1, Nat.div_eq_of_lt h2], Below.refl _ _⟩
  case round =>
    obtain ⟨j, hj, hi, HE, HN⟩ := hrel
    rcases Nat.eq_zero_or_pos j with rfl | hjp
    · subst hi
      go_wp2_with fail
      go_ret
      have h := HE.out
      rw [Nat.pow_zero, Nat.div_one, Nat.div_one] at h
      exact ⟨ret_int (by unfold cmpI; rw [if_neg (by omega), if_neg (by omega)]), HN.out⟩
    · obtain ⟨p, rfl⟩ : ∃ p, j = p + 1 := ⟨j - 1, by omega⟩
      have ei : ((p + 1 : Nat) : Int) - 1 = (p : Int) := by omega
      rw [ei] at hi
      subst hi
      clear ei hjp
      obtain ⟨b1, o1, rfl, hb1, hcell1⟩ := HA.out.all (by rw [HDA.out]; omega)
      obtain ⟨b2, o2, rfl, hb2, hcell2⟩ := HB.out.all (by rw [HDB.out]; omega)
      have hx1 : wr.cell? ⟨b1, o1 + p, none⟩ = some (.int .i64 (dg DD a p : Int)) := by rw [HN.out.cell (p := ⟨b1, o1 + p, none⟩) hb1]; exact hcell1 _ (by rw [HDA.out]; omega)
      have hx2 : wr.cell? ⟨b2, o2 + p, none⟩ = some (.int .i64 (dg DD b p : Int)) := by rw [HN.out.cell (p := ⟨b2, o2 + p, none⟩) hb2]; exact hcell2 _ (by rw [HDB.out]; omega)
      clear hcell1 hcell2
      rcases Nat.lt_trichotomy (dg DD a p) (dg DD b p) with hd | hd | hd
      · have hcmp : Hid (a < b) := lt_of_dg a b p HE.out hd
        have hd1 : ((dg DD a p : Int) != (dg DD b p : Int)) = true := by simp; omega
        go_wp2_with fail
        go_quiet (fail)
        go_wp2_with fail
        go_quiet (fail)
        go_wp2_with fail
        go_ret
        exact ⟨ret_int (by unfold cmpI; rw [if_pos hcmp.out]), by first | exact below_drewN (below_drewN HN.out _) _ | exact below_drewN HN.out _⟩
      · have HE2 := Lib.hid (same_of_dg a b p HE.out hd)
        have hd1 : ((dg DD a p : Int) != (dg DD b p : Int)) = false := by simp; omega
        have hd2 : ¬ dg DD a p < dg DD b p := by omega
        have hd3 : ¬ dg DD b p < dg DD a p := by omega
        clear hd
        go_wp2_with fail
        go_quiet (fail)
        go_wp2_with fail
        go_roundw
        case rel => exact ⟨p, by omega, rfl, HE2.out, below_drewN HN.out _⟩
        case measure => first | (simp [intOf]; done) | (simp [intOf]; omega)
      · have hcmp : Hid (b < a) := lt_of_dg b a p HE.out.symm hd
        have hd1 : ((dg DD a p : Int) != (dg DD b p : Int)) = true := by simp; omega
        have hd2 : ¬ dg DD a p < dg DD b p := by omega
        go_wp2_with fail
        go_quiet (fail)
        go_wp2_with fail
        go_quiet (fail)
        go_wp2_with fail
        go_ret
        exact ⟨ret_int (by have := hcmp.out; unfold cmpI; rw [if_neg (by omega), if_pos this]), by first | exact below_drewN (below_drewN HN.out _) _ | exact below_drewN HN.out _⟩

theorem refCompare_any (a b : Nat) (aa ab : Option Addr) (ca cb : Nat) (hla : dl a ≤ 1048576) (w : World) (hA : NumAt w aa a) (hB : NumAt w ab b) :
    Calls Try.prog 89 #[.slice aa (dl a) ca, .slice ab (dl b) cb] w fun e w' => e = .returned (.int .i64 (cmpI a b)) ∧ Below w.heap.size w w' := by
  by_cases h : dl a = dl b
  · have h1 := refCompare_same a b aa ab ca cb (dl a) rfl h.symm hla w hA hB
    rw [← h]
    exact h1
  · exact refCompare_len a b aa ab ca cb h w


set_option maxHeartbeats 1000000 in
theorem refRead_any (s : ByteArray) (hs : s.size ≤ 1048576) (w : World) :
    Calls Try.prog 42 #[.string s] w fun e w' => NumR w e w' (numOf s) := by
  obtain ⟨i0, hi, hz0, hz1, hz2⟩ := info_parts infoInt3
  obtain ⟨K, hK⟩ : ∃ K, (s.size + 1) / 2 = K := ⟨_, rfl⟩
  have hK1 : ((s.size : Int) + 1) / 2 = (K : Int) := by omega
  go_enter Try.func42, Try.ntmps42
  go_wp2_with (at_make; refine wpList_make_full _ rfl _ _ 31 rfl 0 3 i0 (.int .i64 0) 1 Try.underlying31 hi hz0 hz1 _ _ _ _ K rfl rfl ?c1 ?c2 ?c3 ?c4 ?c5 ?_)
  case c1 => exact hK1
  case c2 => exact hK1
  case c3 => rw [hz2]; omega
  case c4 => unfold maxLen; omega
  case c5 => omega
  intro w1 hown hgrow
  have e0 : digsTo 0 K = digsTo (numTo s 0) K := by rw [numTo_zero]
  rw [zeros_made, e0] at hown
  have HO1 := Lib.hid hown
  have HB1 : Hid (Below w.heap.size w w1) := (Below.refl _ _).grown hgrow (Nat.le_refl _) (by simp)
  have HK := Lib.hid hK
  have hKs : K ≤ 1048576 := by omega
  clear hown hgrow hi hz0 hz1 hz2 e0 hK hK1
  go_wp2_with fail
  go_loopw [4, 5] (fun x _ wr => ∃ k : Nat, k ≤ s.size ∧ x = .int .i64 k ∧ Hid (wr.ownsRow 0 3 1 (.slice (some ⟨w.heap.size, 0, none⟩) K K) K ((digsTo (numTo s k) K).map dV)) ∧ Hid (Below w.heap.size w wr)) (fun x _ _ => s.size - (intOf x).toNat)
  case atStart => exact ⟨0, Nat.zero_le _, rfl, HO1.out, HB1.out⟩
  case round =>
    clear HO1 HB1
    obtain ⟨k, hk, rfl, HO, HN⟩ := hrel
    by_cases hkl : k < s.size
    · have hkK : k / 2 < K := by have := HK.out; omega
      have hx := HO.out.cellAt (k / 2) (by omega)
      have hxv : ((digsTo (numTo s k) K).map dV)[k / 2]? = some (.int .i64 (dg DD (numTo s k) (k / 2) : Int)) := by simp [digsTo, hkK, dV]
      rw [hxv] at hx
      have hf := HO.out.frozenAt (k / 2)
      have hidx : (s.size : Int) - 1 - (k : Int) = ((s.size - 1 - k : Nat) : Int) := by omega
      have hlt : s.size - 1 - k < s.size := by omega
      have hc256 := (s[s.size - 1 - k]'hlt).toNat_lt
      have hdlt : dg DD (numTo s k) (k / 2) < 65536 := dg_lt (B := DD) (by decide) _ _
      have HNS := Lib.hid (numTo_succ s k hkl)
      clear hxv
      generalize hcc : (s[s.size - 1 - k]'hlt).toNat = c at *
      have hk1 : k % 2 = 0 ∨ k % 2 = 1 := by omega
      rcases hk1 with hk1 | hk1
      · have hodd : ((k : Int) % 2 == 1) = false := by simp; omega
        have HK1 := Lib.hid hk1
        clear hk1
        have hput := digsTo_put (numTo s k) c k K (numTo_lt s k hk) hc256
        rw [← HNS.out, HK1.out, Nat.pow_zero, Nat.mul_one] at hput
        have hst := (HO.out.stored (k / 2) (.int .i64 ((dg DD (numTo s k) (k / 2) : Int) + (c : Int)))).1
        rw [show (Value.int .i64 ((dg DD (numTo s k) (k / 2) : Int) + (c : Int))) = dV (dg DD (numTo s k) (k / 2) + c) from by unfold dV; congr 1, ← List.map_set, hput] at hst
        have HS := Lib.hid hst
        have HSB := Lib.hid (HN.out.setCell (p := ⟨w.heap.size, k / 2, none⟩) (Nat.le_refl _) (.int .i64 ((dg DD (numTo s k) (k / 2) : Int) + (c : Int))))
        clear hst hput
        go_wp2_with fail
        go_roundw
        case rel => exact ⟨k + 1, by omega, by go_num, HS.out, HSB.out⟩
        case measure => simp [intOf]; omega
      · have hodd : ((k : Int) % 2 == 1) = true := by simp; omega
        have HK1 := Lib.hid hk1
        clear hk1
        have hput := digsTo_put (numTo s k) c k K (numTo_lt s k hk) hc256
        rw [← HNS.out, HK1.out, Nat.pow_one] at hput
        have hst := (HO.out.stored (k / 2) (.int .i64 ((dg DD (numTo s k) (k / 2) : Int) + (c : Int) * 256))).1
        rw [show (Value.int .i64 ((dg DD (numTo s k) (k / 2) : Int) + (c : Int) * 256)) = dV (dg DD (numTo s k) (k / 2) + c * 256) from by unfold dV; congr 1, ← List.map_set, hput] at hst
        have HS := Lib.hid hst
        have HSB := Lib.hid (HN.out.setCell (p := ⟨w.heap.size, k / 2, none⟩) (Nat.le_refl _) (.int .i64 ((dg DD (numTo s k) (k / 2) : Int) + (c : Int) * 256)))
        clear hst hput
        go_wp2_with fail
        go_roundw
        case rel => exact ⟨k + 1, by omega, by go_num, HS.out, HSB.out⟩
        case measure => simp [intOf]; omega
    · have hks : k = s.size := by omega
      subst hks
      rw [numTo_all] at HO
      have hlt : numOf s < DD ^ K := by
        have h := numL_lt s.data.toList
        have e : s.data.toList.length = s.size := rfl
        rw [e] at h
        refine Nat.lt_of_lt_of_le h ?_
        show 256 ^ s.size ≤ (256 ^ 2) ^ K
        rw [← Nat.pow_mul]
        exact Nat.pow_le_pow_right (by omega) (by have := HK.out; omega)
      have HLT := Lib.hid hlt
      clear hlt
      go_wp2_with fail
      refine (trim_own HO.out HLT.out (by omega)).mono ?_
      rintro e w' ⟨a', cap', rfl, hN, _, rfl⟩
      have HNN := Lib.hid hN
      clear hN
      go_wp2_with fail
      go_ret
      exact ⟨a', cap', rfl, HNN.out, HN.out⟩

end Go.Proofs.Ytdlnnkbigeiilaa

/- The document's numbers: what is taken off; what is left of a modulus. No condition. -/
namespace Go.Proofs.Ytdlnnkbigeiilaa
open Go.RowKit

/-- A row of K cells of which the first i are written. -/
def rowZ (n i K : Nat) : List Nat := (List.range K).map fun p => if p < i then dg DD n p else 0
theorem rowZ_zero (n K : Nat) : rowZ n 0 K = digsTo 0 K := by
  unfold rowZ digsTo
  refine List.map_congr_left fun p _ => ?_
  simp [dg]
theorem rowZ_at (n i K : Nat) (h : i < K) : ((rowZ n i K).map dV)[i]? = some (.int .i64 0) := by
  simp [rowZ, h, dV]
theorem rowZ_set (n i K : Nat) : ((rowZ n i K).map dV).set i (.int .i64 (dg DD n i : Int)) = (rowZ n (i + 1) K).map dV := by
  rw [show (Value.int .i64 (dg DD n i : Int)) = dV (dg DD n i) from rfl, ← List.map_set]
  congr 1
  refine List.ext_getElem (by simp [rowZ]) (fun p h1 h2 => ?_)
  rw [List.getElem_set]
  simp only [rowZ, List.getElem_map, List.getElem_range]
  by_cases h : i = p
  · subst h; rw [if_pos rfl, if_pos (by omega)]
  · rw [if_neg h]
    by_cases h3 : p < i
    · rw [if_pos h3, if_pos (by omega)]
    · rw [if_neg h3, if_neg (by omega)]
theorem rowZ_end (n K : Nat) : rowZ n K K = digsTo n K := by
  unfold rowZ digsTo
  refine List.map_congr_left fun p hp => ?_
  rw [if_pos (by simpa using hp)]

/-- What stands in a digit when something is taken off. -/
theorem take_digit (r s n i : Nat) : (dg DD (r + n * s) i : Int) - (mcB DD r s n i : Int) - (n : Int) * (dg DD s i : Int) = (dg DD r i : Int) - 65536 * (mcB DD r s n (i + 1) : Int) := by
  have h1 := mcB_dig (B := DD) (by decide) r s n i
  have h2 := mcB_succ (B := DD) (by decide) r s n i
  have h3 := Nat.div_add_mod (dg DD r i + n * dg DD s i + mcB DD r s n i) DD
  rw [h1, h2] at h3
  have h4 : (n : Int) * (dg DD s i : Int) = ((n * dg DD s i : Nat) : Int) := by simp
  rw [h4]
  have h5 : 65536 * mcB DD r s n (i + 1) + dg DD (r + n * s) i = dg DD r i + n * dg DD s i + mcB DD r s n i := h3
  omega


set_option maxHeartbeats 2000000 in
theorem refTake_any (a b n k R : Nat) (aa ab : Option Addr) (ca cb : Nat) (hla : dl a ≤ 1048576) (hlb : dl b ≤ 1048576) (hn : n ≤ 1099511627776) (hk : k ≤ 1048576) (hR : a = R + n * (b * DD ^ k)) (w : World) (hA : NumAt w aa a) (hB : NumAt w ab b) :
    Calls Try.prog 90 #[.slice aa (dl a) ca, .slice ab (dl b) cb, .int .i64 (n : Int), .int .i64 (k : Int)] w fun e w' => NumR w e w' R := by
  obtain ⟨i0, hi, hz0, hz1, hz2⟩ := info_parts infoInt3
  have HA := Lib.hid hA
  have HB := Lib.hid hB
  have HR := Lib.hid hR
  clear hA hB hR
  go_enter Try.func90, Try.ntmps90
  go_wp2_with (at_make; refine wpList_make_full _ rfl _ _ 31 rfl 0 3 i0 (.int .i64 0) 1 Try.underlying31 hi hz0 hz1 _ _ _ _ (dl a) rfl rfl ?c1 ?c2 ?c3 ?c4 ?c5 ?_)
  case c1 => rfl
  case c2 => rfl
  case c3 => rw [hz2]; omega
  case c4 => unfold maxLen; omega
  case c5 => omega
  intro w1 hown hgrow
  rw [zeros_made, ← rowZ_zero R] at hown
  have HO1 := Lib.hid hown
  have HB1 : Hid (Below w.heap.size w w1) := (Below.refl _ _).grown hgrow (Nat.le_refl _) (by simp)
  clear hown hgrow hi hz0 hz1 hz2
  go_wp2_with fail
  go_loopw [10, 11, 12] (fun c x _ wr => ∃ i : Nat, i ≤ dl a ∧ x = .int .i64 i ∧ c = .int .i64 (mcB DD R (b * DD ^ k) n i : Nat) ∧ Hid (wr.ownsRow 0 3 1 (.slice (some ⟨w.heap.size, 0, none⟩) (dl a) (dl a)) (dl a) ((rowZ R i (dl a)).map dV)) ∧ Hid (Below w.heap.size w wr)) (fun _ x _ _ => dl a - (intOf x).toNat)
  case atStart => exact ⟨0, Nat.zero_le _, rfl, by rw [mcB_zero]; rfl, HO1.out, HB1.out⟩
  case round =>
    clear HO1 HB1
    obtain ⟨i, hi, rfl, rfl, HO, HN⟩ := hrel
    by_cases hil : i < dl a
    · obtain ⟨b1, o1, rfl, hb1, hcell1⟩ := HA.out.all (by omega)
      have hx1 : wr.cell? ⟨b1, o1 + i, none⟩ = some (.int .i64 (dg DD a i : Int)) := by rw [HN.out.cell (p := ⟨b1, o1 + i, none⟩) hb1]; exact hcell1 _ hil
      have hda : dg DD a i < 65536 := dg_lt (B := DD) (by decide) _ _
      have hdr : dg DD R i < 65536 := dg_lt (B := DD) (by decide) _ _
      have hc1 := mcB_le (B := DD) (by decide) R (b * DD ^ k) n i
      have hc2 := mcB_le (B := DD) (by decide) R (b * DD ^ k) n (i + 1)
      have htd := take_digit R (b * DD ^ k) n i
      rw [← HR.out] at htd
      have hx3 := HO.out.cellAt i (by omega)
      rw [rowZ_at R i (dl a) hil] at hx3
      have hf3 := HO.out.frozenAt i
      generalize mcB DD R (b * DD ^ k) n i = c at *
      generalize hcc : mcB DD R (b * DD ^ k) n (i + 1) = c2 at *
      have HC2 : Hid (mcB DD R (b * DD ^ k) n (i + 1) = c2) := hcc
      clear hcell1 hcc
      by_cases hik : k ≤ i ∧ i - k < dl b
      · obtain ⟨hik1, hik2⟩ := hik
        obtain ⟨b2, o2, rfl, hb2, hcell2⟩ := HB.out.all (by omega)
        have hx2 : wr.cell? ⟨b2, o2 + (i - k), none⟩ = some (.int .i64 (dg DD b (i - k) : Int)) := by rw [HN.out.cell (p := ⟨b2, o2 + (i - k), none⟩) hb2]; exact hcell2 _ hik2
        have hdb : dg DD b (i - k) < 65536 := dg_lt (B := DD) (by decide) _ _
        have hsh := dg_shift b k (i - k)
        rw [show k + (i - k) = i by omega] at hsh
        rw [hsh] at htd
        have hidx : (i : Int) - (k : Int) = ((i - k : Nat) : Int) := by omega
        clear hcell2 hsh
        generalize dg DD b (i - k) = db at *
        generalize hda' : dg DD a i = da at *
        have hprod : n * db ≤ 1099511627776 * 65535 := Nat.mul_le_mul hn (by omega)
        have hpi : (n : Int) * (db : Int) = ((n * db : Nat) : Int) := by simp
        rw [hpi] at htd
        generalize hpr : n * db = pr at *
        have HDA := Lib.hid hda'
        have HPR := Lib.hid hpr
        clear hda' hpr
        have hkI : (k : Int) ≤ (i : Int) := by omega
        have hst := (HO.out.stored i (.int .i64 (dg DD R i : Int))).1
        rw [rowZ_set] at hst
        have HS := Lib.hid hst
        have HSB := Lib.hid (HN.out.setCell (p := ⟨w.heap.size, i, none⟩) (Nat.le_refl _) (.int .i64 (dg DD R i : Int)))
        clear hst
        obtain ⟨d, hd⟩ : ∃ d : Int, (da : Int) - (c : Int) - (pr : Int) = d := ⟨_, rfl⟩
        rw [hd] at htd
        have hdlo : -72057594037927936 ≤ d := by omega
        have hdhi : d ≤ 65535 := by omega
        by_cases hneg : 0 < c2
        · have hd2 : d < 0 := by omega
          have hdn : (65535 - d) / 65536 = (c2 : Int) := by omega
          have hds : d + (c2 : Int) * 65536 = (dg DD R i : Int) := by omega
          have HTD := Lib.hid htd
          clear htd
          go_wp2_with fail
          go_roundw
          case rel => exact ⟨i + 1, by omega, by go_num, by first | rw [hdn, HC2.out] | rw [HC2.out], HS.out, HSB.out⟩
          case measure => simp [intOf]; omega
        · have hc0 : c2 = 0 := by omega
          have hd2 : ¬ d < 0 := by omega
          have hds : d = (dg DD R i : Int) := by omega
          have HC0 := Lib.hid hc0
          have HDS := Lib.hid hds
          have HTD := Lib.hid htd
          rw [← hds] at HS HSB
          clear hc0 hds htd
          go_wp2_with fail
          go_roundw
          case rel => exact ⟨i + 1, by omega, by go_num, by rw [HC2.out, HC0.out]; rfl, HS.out, HSB.out⟩
          case measure => simp [intOf]; omega
      · have h0 : dg DD (b * DD ^ k) i = 0 := by
          rcases Nat.lt_or_ge i k with h | h
          · unfold dg
            have e : DD ^ k = DD ^ i * (DD * DD ^ (k - i - 1)) := by rw [← Nat.pow_succ', ← Nat.pow_add]; congr 1; omega
            rw [e, Nat.mul_left_comm, Nat.mul_div_cancel_left _ (Nat.pow_pos (by decide)), Nat.mul_left_comm, Nat.mul_mod_right]
          · have hsh := dg_shift b k (i - k)
            rw [show k + (i - k) = i by omega] at hsh
            rw [hsh]
            exact dg_nought b _ (by omega)
        rw [h0] at htd
        have htd2 : (dg DD a i : Int) - (c : Int) = (dg DD R i : Int) - 65536 * (c2 : Int) := by simpa using htd
        clear h0 htd
        have htd := htd2
        clear htd2
        generalize hda' : dg DD a i = da at *
        have HDA := Lib.hid hda'
        clear hda'
        by_cases hik1 : k ≤ i
        · have hik2 : ¬ i - k < dl b := fun h => hik ⟨hik1, h⟩
          have hidx : (i : Int) - (k : Int) = ((i - k : Nat) : Int) := by omega
          clear hik
          have hst := (HO.out.stored i (.int .i64 (dg DD R i : Int))).1
          rw [rowZ_set] at hst
          have HS := Lib.hid hst
          have HSB := Lib.hid (HN.out.setCell (p := ⟨w.heap.size, i, none⟩) (Nat.le_refl _) (.int .i64 (dg DD R i : Int)))
          clear hst
          obtain ⟨d, hd⟩ : ∃ d : Int, (da : Int) - (c : Int) = d := ⟨_, rfl⟩
          rw [hd] at htd
          have hdlo : -72057594037927936 ≤ d := by omega
          have hdhi : d ≤ 65535 := by omega
          by_cases hneg : 0 < c2
          · have hd2 : d < 0 := by omega
            have hdn : (65535 - d) / 65536 = (c2 : Int) := by omega
            have hds : d + (c2 : Int) * 65536 = (dg DD R i : Int) := by omega
            have HTD := Lib.hid htd
            clear htd
            go_wp2_with fail
            go_roundw
            case rel => exact ⟨i + 1, by omega, by go_num, by first | rw [hdn, HC2.out] | rw [HC2.out], HS.out, HSB.out⟩
            case measure => simp [intOf]; omega
          · have hc0 : c2 = 0 := by omega
            have hd2 : ¬ d < 0 := by omega
            have hds : d = (dg DD R i : Int) := by omega
            have HC0 := Lib.hid hc0
            have HDS := Lib.hid hds
            have HTD := Lib.hid htd
            rw [← hds] at HS HSB
            clear hc0 hds htd
            go_wp2_with fail
            go_roundw
            case rel => exact ⟨i + 1, by omega, by go_num, by rw [HC2.out, HC0.out]; rfl, HS.out, HSB.out⟩
            case measure => simp [intOf]; omega
        · clear hik
          have hst := (HO.out.stored i (.int .i64 (dg DD R i : Int))).1
          rw [rowZ_set] at hst
          have HS := Lib.hid hst
          have HSB := Lib.hid (HN.out.setCell (p := ⟨w.heap.size, i, none⟩) (Nat.le_refl _) (.int .i64 (dg DD R i : Int)))
          clear hst
          obtain ⟨d, hd⟩ : ∃ d : Int, (da : Int) - (c : Int) = d := ⟨_, rfl⟩
          rw [hd] at htd
          have hdlo : -72057594037927936 ≤ d := by omega
          have hdhi : d ≤ 65535 := by omega
          by_cases hneg : 0 < c2
          · have hd2 : d < 0 := by omega
            have hdn : (65535 - d) / 65536 = (c2 : Int) := by omega
            have hds : d + (c2 : Int) * 65536 = (dg DD R i : Int) := by omega
            have HTD := Lib.hid htd
            clear htd
            go_wp2_with fail
            go_roundw
            case rel => exact ⟨i + 1, by omega, by go_num, by first | rw [hdn, HC2.out] | rw [HC2.out], HS.out, HSB.out⟩
            case measure => simp [intOf]; omega
          · have hc0 : c2 = 0 := by omega
            have hd2 : ¬ d < 0 := by omega
            have hds : d = (dg DD R i : Int) := by omega
            have HC0 := Lib.hid hc0
            have HDS := Lib.hid hds
            have HTD := Lib.hid htd
            rw [← hds] at HS HSB
            clear hc0 hds htd
            go_wp2_with fail
            go_roundw
            case rel => exact ⟨i + 1, by omega, by go_num, by rw [HC2.out, HC0.out]; rfl, HS.out, HSB.out⟩
            case measure => simp [intOf]; omega
    · have hia : i = dl a := by omega
      subst hia
      rw [rowZ_end] at HO
      have hlt : R < DD ^ dl a := Nat.lt_of_le_of_lt (by have := HR.out; omega) (lt_dl a)
      have HLT := Lib.hid hlt
      clear hlt
      go_wp2_with fail
      refine (trim_own HO.out HLT.out (by omega)).mono ?_
      rintro e w' ⟨a', cap', rfl, hN, _, rfl⟩
      have HNN := Lib.hid hN
      clear hN
      go_wp2_with fail
      go_ret
      exact ⟨a', cap', rfl, HNN.out, HN.out⟩

end Go.Proofs.Ytdlnnkbigeiilaa

/- The document's numbers: what is left of a modulus. No condition. -/
namespace Go.Proofs.Ytdlnnkbigeiilaa
open Go.RowKit

theorem top_div (n : Nat) (h : n ≠ 0) : n / DD ^ (dl n - 1) = dg DD n (dl n - 1) := by
  have h2 := lt_dl n
  have hp := dl_pos n h
  have e : DD ^ dl n = DD ^ (dl n - 1) * DD := by rw [← Nat.pow_succ]; congr 1; omega
  unfold dg
  rw [Nat.mod_eq_of_lt (Nat.div_lt_of_lt_mul (by rw [← e]; exact h2))]

theorem top_lt (m : Nat) (h : m ≠ 0) : m < (dg DD m (dl m - 1) + 1) * DD ^ (dl m - 1) := by
  have h1 := top_div m h
  have h2 := Nat.div_add_mod m (DD ^ (dl m - 1))
  have h3 := Nat.mod_lt m (Nat.pow_pos (n := dl m - 1) (show 0 < DD by decide))
  rw [h1] at h2
  rw [Nat.add_mul, Nat.one_mul, Nat.mul_comm (dg DD m (dl m - 1))]
  omega

theorem quo_step (A m x q e : Nat) (hm : m ≠ 0) (hx : x * DD ^ e ≤ A) (hq : q = x / (dg DD m (dl m - 1) + 1)) (he : dl m - 1 ≤ e) : q * (m * DD ^ (e - (dl m - 1))) ≤ A := by
  have h1 := top_lt m hm
  have h2 : q * (dg DD m (dl m - 1) + 1) ≤ x := by rw [hq]; exact Nat.div_mul_le_self _ _
  have h3 : DD ^ e = DD ^ (dl m - 1) * DD ^ (e - (dl m - 1)) := by rw [← Nat.pow_add]; congr 1; omega
  generalize dg DD m (dl m - 1) + 1 = t at *
  generalize DD ^ (dl m - 1) = P at *
  generalize DD ^ (e - (dl m - 1)) = S at *
  calc q * (m * S) ≤ q * (t * P * S) := Nat.mul_le_mul_left _ (Nat.mul_le_mul_right _ (Nat.le_of_lt h1))
    _ = q * t * (P * S) := by rw [Nat.mul_assoc t, Nat.mul_assoc q]
    _ ≤ x * (P * S) := Nat.mul_le_mul_right _ h2
    _ = x * DD ^ e := by rw [h3]
    _ ≤ A := hx

theorem mod_one (A m : Nat) (hA : A ≠ 0) (hm : m ≠ 0) (hle : dl m ≤ dl A) : dg DD A (dl A - 1) / (dg DD m (dl m - 1) + 1) * (m * DD ^ (dl A - dl m)) ≤ A := by
  have h := quo_step A m (dg DD A (dl A - 1)) _ (dl A - 1) hm (by rw [← top_div A hA]; exact Nat.div_mul_le_self _ _) rfl (by omega)
  have := dl_pos m hm
  rwa [show dl A - 1 - (dl m - 1) = dl A - dl m by omega] at h
theorem mod_two (A m : Nat) (hA : A ≠ 0) (hm : m ≠ 0) (hle : dl m < dl A) : (dg DD A (dl A - 1) * DD + dg DD A (dl A - 2)) / (dg DD m (dl m - 1) + 1) * (m * DD ^ (dl A - dl m - 1)) ≤ A := by
  have hp := dl_pos m hm
  have h2 := dg_div (B := DD) A (dl A - 2)
  rw [show dl A - 2 + 1 = dl A - 1 by omega, top_div A hA, Nat.mul_comm] at h2
  have h := quo_step A m (dg DD A (dl A - 1) * DD + dg DD A (dl A - 2)) _ (dl A - 2) hm (by rw [← h2]; exact Nat.div_mul_le_self _ _) rfl (by omega)
  rwa [show dl A - 2 - (dl m - 1) = dl A - dl m - 1 by omega] at h

theorem take_mod (A m n s : Nat) (h : n * (m * s) ≤ A) : (A - n * (m * s)) % m = A % m := by
  have e : A = (A - n * (m * s)) + m * (n * s) := by rw [show m * (n * s) = n * (m * s) by rw [Nat.mul_left_comm]]; omega
  rw [← Nat.add_mul_mod_self_left (A - n * (m * s)) m (n * s), ← e]


set_option maxHeartbeats 2000000 in
theorem refMod_any (a m : Nat) (aa am : Option Addr) (ca cm : Nat) (hla : dl a ≤ 1048576) (hm0 : 0 < m) (w : World) (hA : NumAt w aa a) (hM : NumAt w am m) :
    Calls Try.prog 41 #[.slice aa (dl a) ca, .slice am (dl m) cm] w fun e w' => NumR w e w' (a % m) := by
  have HA := Lib.hid hA
  have HMM := Lib.hid hM
  clear hA hM
  go_enter Try.func41, Try.ntmps41
  go_wp2_with fail
  go_loopg [0, 5, 6] a (fun g v _ _ wr => ∃ (A : Nat) (a1 : Option Addr) (c1 : Nat), g = A ∧ v = .slice a1 (dl A) c1 ∧ Hid (A % m = a % m) ∧ A ≤ a ∧ Hid (NumAt wr a1 A) ∧ Hid (Below w.heap.size w wr))
  case atStart => exact ⟨a, aa, ca, rfl, rfl, rfl, Nat.le_refl _, HA.out, Below.refl _ _⟩
  case round =>
    obtain ⟨A, a1, c1, hg, rfl, HM, hAa, HN, HB⟩ := hrel
    obtain ⟨G9, hG9⟩ : ∃ G9, gk = G9 := ⟨_, rfl⟩
    rw [hG9] at hg
    subst hg
    subst hG9
    obtain ⟨A, rfl⟩ : ∃ A, A = gk := ⟨_, rfl⟩
    clear HA
    have hdA := dl_mono _ _ hAa
    go_wp2_with fail
    refine (refCompare_any A m a1 am c1 cm (by omega) wr HN.out (HMM.out.up HB.out)).mono ?_
    rintro e w2 ⟨rfl, hb2⟩
    have HB2 := Lib.hid (below_up HB.out hb2)
    have HN2 := Lib.hid (HN.out.up hb2)
    have HMM2 := Lib.hid (HMM.out.up HB2.out)
    clear hb2 HN HB
    by_cases hlt : A < m
    · have hc : cmpI A m = -1 := by unfold cmpI; rw [if_pos hlt]
      rw [hc]
      clear hc
      have HRES : Hid (A = a % m) := by show _ = _; rw [← HM.out, Nat.mod_eq_of_lt hlt]
      go_wp2_with fail
      go_ret
      exact ⟨a1, c1, by rw [← HRES.out]; rfl, by rw [← HRES.out]; exact HN2.out, HB2.out⟩
    · have hle : m ≤ A := by omega
      have HLEM := Lib.hid hle
      obtain ⟨c, hc, hc0⟩ : ∃ c, cmpI A m = c ∧ 0 ≤ c := ⟨_, rfl, by unfold cmpI; rw [if_neg hlt]; split <;> omega⟩
      rw [hc]
      clear hc hlt hle
      have hA0 : A ≠ 0 := by have := HLEM.out; omega
      have hm1 : m ≠ 0 := by omega
      have hlm := dl_mono _ _ HLEM.out
      have hpA := dl_pos A hA0
      have hpm := dl_pos m hm1
      have htA := dl_top A hA0
      have h1 := mod_one A m hA0 hm1 hlm
      have hdA : dg DD A (dl A - 1) < 65536 := dg_lt (B := DD) (by decide) _ _
      have hdA2 : dg DD A (dl A - 2) < 65536 := dg_lt (B := DD) (by decide) _ _
      have hdm : dg DD m (dl m - 1) < 65536 := dg_lt (B := DD) (by decide) _ _
      have H2 : Hid (dl m < dl A → (dg DD A (dl A - 1) * DD + dg DD A (dl A - 2)) / (dg DD m (dl m - 1) + 1) * (m * DD ^ (dl A - dl m - 1)) ≤ A) := fun h => mod_two A m hA0 hm1 h
      obtain ⟨b1, o1, rfl, hb1, hcell1⟩ := HN2.out.all hpA
      obtain ⟨b2, o2, rfl, hb2, hcell2⟩ := HMM2.out.all hpm
      have hx1 := hcell1 (dl A - 1) (by omega)
      have hx2 := hcell2 (dl m - 1) (by omega)
      have hx3 : dl m < dl A → w2.cell? ⟨b1, o1 + (dl A - 2), none⟩ = some (.int .i64 (dg DD A (dl A - 2) : Int)) := fun h => hcell1 (dl A - 2) (by omega)
      have HX3 := Lib.hid hx3
      have hi1 : (dl A : Int) - 1 = ((dl A - 1 : Nat) : Int) := by omega
      have hi2 : (dl m : Int) - 1 = ((dl m - 1 : Nat) : Int) := by omega
      have hi3 : (dl A : Int) - (dl m : Int) = ((dl A - dl m : Nat) : Int) := by omega
      have H1 := Lib.hid h1
      clear hcell1 hcell2 hx3 h1
      generalize hat : dg DD A (dl A - 1) = at1 at *
      generalize han : dg DD A (dl A - 2) = an1 at *
      generalize hmt : dg DD m (dl m - 1) = mt1 at *
      have HAT := Lib.hid hat
      have HAN := Lib.hid han
      have HMT := Lib.hid hmt
      clear hat han hmt
      obtain ⟨q, hq⟩ : ∃ q, at1 / (mt1 + 1) = q := ⟨_, rfl⟩
      have hqI : (at1 : Int) / ((mt1 : Int) + 1) = (q : Int) := by rw [← hq]; simp
      have hq9 : q ≤ 65535 := by rw [← hq]; exact Nat.le_trans (Nat.div_le_self _ _) (by omega)
      have H1' := H1.out
      rw [hq] at H1'
      have HLE1 := Lib.hid H1'
      clear H1' H1 hq
      go_wp2_with fail
      go_quiet (fail)
      have HN3 := Lib.hid (HN2.out.up (below_drewN (Below.refl _ w2) nq))
      have HMM3 := Lib.hid (HMM2.out.up (below_drewN (Below.refl _ w2) nq))
      have HB3 := Lib.hid (below_drewN HB2.out nq)
      by_cases hq0 : q = 0
      · subst hq0
        by_cases hk0 : dl m < dl A
        · have hx3 := HX3.out hk0
          have h2 := H2.out hk0
          have hkp : 0 < dl A - dl m := by omega
          have hi4 : (dl A : Int) - 2 = ((dl A - 2 : Nat) : Int) := by omega
          have hi5 : ((dl A - dl m : Nat) : Int) - 1 = ((dl A - dl m - 1 : Nat) : Int) := by omega
          obtain ⟨q2, hq2⟩ : ∃ q2, (at1 * DD + an1) / (mt1 + 1) = q2 := ⟨_, rfl⟩
          rw [hq2] at h2
          have hqI2 : ((at1 : Int) * 65536 + (an1 : Int)) / ((mt1 : Int) + 1) = (q2 : Int) := by rw [← hq2]; simp
          have hq29 : q2 ≤ 4294967295 := by rw [← hq2]; exact Nat.le_trans (Nat.div_le_self _ _) (by show at1 * 65536 + an1 ≤ _; omega)
          have hq21 : 1 ≤ q2 := by rw [← hq2]; exact (Nat.le_div_iff_mul_le (by omega)).2 (by show 1 * (mt1 + 1) ≤ at1 * 65536 + an1; omega)
          have hq20 : ((q2 : Int) == 0) = false := by simp; omega
          have HLE := Lib.hid h2
          clear h2 hq2 HLE1
          go_wp2_with fail
          go_quiet (fail)
          have hsub : A - q2 * (m * DD ^ (dl A - dl m - 1)) < A := by
            have h1 : 0 < q2 * (m * DD ^ (dl A - dl m - 1)) := Nat.mul_pos (by omega) (Nat.mul_pos (by omega) (Nat.pow_pos (by decide)))
            omega
          have HSUB := Lib.hid hsub
          have HTM := Lib.hid (take_mod A m (q2) (DD ^ (dl A - dl m - 1)) HLE.out)
          clear hsub
          go_wp2_with fail
          refine (refTake_any A m (q2) (dl A - dl m - 1) (A - q2 * (m * DD ^ (dl A - dl m - 1))) _ _ _ _ (by omega) (by omega) (by omega) (by omega) (by have := HLE.out; omega) _ (NumAt.up HN2.out (below_drewN (Below.refl _ w2) _)) (NumAt.up HMM2.out (below_drewN (Below.refl _ w2) _))).mono ?_
          rintro e w4 ⟨a4, c4, rfl, hn4, hb4⟩
          have HN4 := Lib.hid hn4
          have HB4 := Lib.hid (below_up (below_drewN HB2.out _) hb4)
          clear hn4 hb4
          go_wp2_with fail
          go_roundg (A - q2 * (m * DD ^ (dl A - dl m - 1)))
          case measure => exact HSUB.out
          case rel => exact ⟨_, a4, c4, rfl, by first | rfl | rw [Nat.one_mul], by rw [HTM.out]; exact HM.out, Nat.le_trans (Nat.le_of_lt HSUB.out) hAa, HN4.out, HB4.out⟩
        · have hk00 : dl A - dl m = 0 := by omega
          have hkp : ¬ 0 < dl A - dl m := by omega
          have HLE : Hid (1 * (m * DD ^ (dl A - dl m)) ≤ A) := by
            show _ ≤ _
            rw [hk00, Nat.pow_zero, Nat.mul_one, Nat.one_mul]
            exact HLEM.out
          have hkI : ¬ (0 : Int) < ((dl A - dl m : Nat) : Int) := by omega
          clear hk00 HLE1
          have hsub : A - 1 * (m * DD ^ (dl A - dl m)) < A := by
            have h1 : 0 < 1 * (m * DD ^ (dl A - dl m)) := Nat.mul_pos (by omega) (Nat.mul_pos (by omega) (Nat.pow_pos (by decide)))
            omega
          have HSUB := Lib.hid hsub
          have HTM := Lib.hid (take_mod A m (1) (DD ^ (dl A - dl m)) HLE.out)
          clear hsub
          go_wp2_with fail
          refine (refTake_any A m (1) (dl A - dl m) (A - 1 * (m * DD ^ (dl A - dl m))) _ _ _ _ (by omega) (by omega) (by omega) (by omega) (by have := HLE.out; omega) _ HN3.out HMM3.out).mono ?_
          rintro e w4 ⟨a4, c4, rfl, hn4, hb4⟩
          have HN4 := Lib.hid hn4
          have HB4 := Lib.hid (below_up HB3.out hb4)
          clear hn4 hb4
          go_wp2_with fail
          go_roundg (A - 1 * (m * DD ^ (dl A - dl m)))
          case measure => exact HSUB.out
          case rel => exact ⟨_, a4, c4, rfl, by first | rfl | rw [Nat.one_mul], by rw [HTM.out]; exact HM.out, Nat.le_trans (Nat.le_of_lt HSUB.out) hAa, HN4.out, HB4.out⟩
      · have hq1 : ((q : Int) == 0) = false := by simp; omega
        have HLE := HLE1
        clear HLE1
        have hsub : A - q * (m * DD ^ (dl A - dl m)) < A := by
          have h1 : 0 < q * (m * DD ^ (dl A - dl m)) := Nat.mul_pos (by omega) (Nat.mul_pos (by omega) (Nat.pow_pos (by decide)))
          omega
        have HSUB := Lib.hid hsub
        have HTM := Lib.hid (take_mod A m (q) (DD ^ (dl A - dl m)) HLE.out)
        clear hsub
        go_wp2_with fail
        refine (refTake_any A m (q) (dl A - dl m) (A - q * (m * DD ^ (dl A - dl m))) _ _ _ _ (by omega) (by omega) (by omega) (by omega) (by have := HLE.out; omega) _ HN3.out HMM3.out).mono ?_
        rintro e w4 ⟨a4, c4, rfl, hn4, hb4⟩
        have HN4 := Lib.hid hn4
        have HB4 := Lib.hid (below_up HB3.out hb4)
        clear hn4 hb4
        go_wp2_with fail
        go_roundg (A - q * (m * DD ^ (dl A - dl m)))
        case measure => exact HSUB.out
        case rel => exact ⟨_, a4, c4, rfl, by first | rfl | rw [Nat.one_mul], by rw [HTM.out]; exact HM.out, Nat.le_trans (Nat.le_of_lt HSUB.out) hAa, HN4.out, HB4.out⟩

end Go.Proofs.Ytdlnnkbigeiilaa

/- The document's powers. No condition. -/
namespace Go.Proofs.Ytdlnnkbigeiilaa
open Go.RowKit

def bitAt (n k : Nat) : Nat := n / 2 ^ k % 2
/-- The highest t of L bits, the highest first. -/
def bitsTo (n L t : Nat) : List Nat := (List.range t).map fun s => bitAt n (L - 1 - s)
theorem bitsTo_succ (n L t : Nat) : bitsTo n L (t + 1) = bitsTo n L t ++ [bitAt n (L - 1 - t)] := by simp [bitsTo, List.range_succ]
theorem bitsTo_at (n L t s : Nat) (h : s < t) : (bitsTo n L t)[s]? = some (bitAt n (L - 1 - s)) := by simp [bitsTo, h]

theorem bit_dg (n i j : Nat) (hj : j ≤ 15) : dg DD n i / 2 ^ (15 - j) % 2 = bitAt n (16 * i + (15 - j)) := by
  unfold dg bitAt
  have hb : DD = 2 ^ 16 := rfl
  rw [hb, ← Nat.pow_mul]
  have e : (2 : Nat) ^ 16 = 2 ^ (15 - j) * (2 * 2 ^ j) := by
    rw [← Nat.pow_succ', ← Nat.pow_add]; congr 1; omega
  rw [e, Nat.mod_mul_right_div_self, Nat.mod_mul_right_mod, Nat.div_div_eq_div_mul, ← Nat.pow_add]

structure OwnB (W w : World) (v : Value) (n L t : Nat) : Prop where
  own : w.ownsRow 0 3 1 v t ((bitsTo n L t).map dV)
  new_ : ∀ q, v.ownBlock = some q → W.heap.size ≤ q
  below : Below W.heap.size W w
theorem OwnB.nil (W : World) (n L : Nat) : OwnB W W (.slice none 0 0) n L 0 := ⟨World.ownsRow_nil _ _ _ _, fun q h => by simp [Value.ownBlock] at h, Below.refl _ _⟩
theorem OwnB.push {W w w1 : World} {v : Value} {n L k g c : Nat} (h : OwnB W w v n L k) (hown : w1.ownsRow 0 3 1 (.slice (some ⟨g, 0, none⟩) (k + 1) c) (k + 1) ((bitsTo n L k).map dV ++ [.int .i64 (bitAt n (L - 1 - k) : Int)])) (hp : Pushed w w1 v g) : OwnB W w1 (.slice (some ⟨g, 0, none⟩) (k + 1) c) n L (k + 1) :=
  ⟨by rw [bitsTo_succ, List.map_append]; exact hown, hp.from_ h.below.size h.new_, hp.below h.below h.below.size h.new_⟩

def BitsR (n : Nat) (w : World) (e : Ending) (w' : World) : Prop := ∃ a cap, e = .returned (.slice a (16 * dl n) cap) ∧ Sl w' w'.heap.size a ((bitsTo n (16 * dl n) (16 * dl n)).map dV) ∧ Below w.heap.size w w'


theorem lt32 (x y : Nat) (hx : x < DD ^ 16) (hy : y < DD ^ 16) : dl (x * y) ≤ 1048576 := by
  refine Nat.le_trans (dl_of_lt (x * y) 32 ?_) (by decide)
  have e : DD ^ 32 = DD ^ 16 * DD ^ 16 := by rw [← Nat.pow_add]
  rw [e]
  exact Nat.lt_of_le_of_lt (Nat.mul_le_mul_left _ (Nat.le_of_lt hy)) (Nat.mul_lt_mul_of_pos_right hx (Nat.pow_pos (by decide)))
theorem lt16 (x : Nat) (hx : x < DD ^ 16) : dl x ≤ 1048576 := small_dl x hx

theorem pow_sq (a e m : Nat) : (a ^ e % m * (a ^ e % m)) % m = a ^ (2 * e) % m := by
  rw [← Nat.mul_mod, ← Nat.pow_add, Nat.two_mul]
theorem pow_one_more (a e m : Nat) : (a ^ (2 * e) % m * a) % m = a ^ (2 * e + 1) % m := by
  rw [Nat.mod_mul_mod, ← Nat.pow_succ]
theorem dl_one_of (v : Nat) (h : dl v = 1) : dg DD v 0 = v := by
  have := lt_dl v
  rw [h, Nat.pow_one] at this
  unfold dg
  rw [Nat.pow_zero, Nat.div_one, Nat.mod_eq_of_lt this]



end Go.Proofs.Ytdlnnkbigeiilaa

/- The document's scalars: Minus, Add, Sub, Mul. No condition. -/
namespace Go.Proofs.Ytdlnnkbigeiilaa
open Go.RowKit

/-- The document's group, as a value. -/
def gR (sz q p : Nat) (aq ap : Option Addr) (cq cp : Nat) : List Value := [.int .i64 (sz : Int), .slice aq (dl q) cq, .slice ap (dl p) cp]

theorem take_minus (a b R : Nat) (h : a = R + b) : a = R + 1 * (b * DD ^ 0) := by rw [Nat.pow_zero, Nat.mul_one, Nat.one_mul]; exact h

theorem plus_dl (a b : Nat) (ha : a < DD ^ 16) (hb : b < DD ^ 16) : dl (a + b) ≤ 1048576 := by
  refine Nat.le_trans (dl_of_lt (a + b) 17 ?_) (by decide)
  have : DD ^ 17 = DD ^ 16 * 65536 := Nat.pow_succ ..
  omega

end Go.Proofs.Ytdlnnkbigeiilaa

/- The document's elements: low, Product, Power, Under, Inv. No condition. -/
namespace Go.Proofs.Ytdlnnkbigeiilaa
open Go.RowKit

def lowR (q p x : Nat) : Nat := if q < x then p - x else x





theorem lowR_le (q p x : Nat) (h : x ≤ p) : lowR q p x ≤ p := by unfold lowR; split <;> omega

end Go.Proofs.Ytdlnnkbigeiilaa

/- The document's IsScalar, IsElem, Number. No condition. -/
namespace Go.Proofs.Ytdlnnkbigeiilaa
open Go.RowKit






def isSc (q sz : Nat) (s : ByteArray) : Bool := decide (s.size = sz) && decide (numOf s < q)
def isEl (q sz : Nat) (s : ByteArray) : Bool := decide (s.size = sz) && decide (0 < numOf s) && decide (numOf s ≤ q)

theorem cmpI_lt (a b : Nat) : decide (cmpI a b < 0) = decide (a < b) := by unfold cmpI; split; · simp [*]
                                                                           · split <;> simp <;> omega
theorem cmpI_le (a b : Nat) : decide (cmpI a b ≤ 0) = decide (a ≤ b) := by
  unfold cmpI
  split
  · simp; omega
  · split <;> simp <;> omega
theorem numOf_16 (s : ByteArray) (hs : s.size ≤ 32) : numOf s < DD ^ 16 := numOf_lt s hs

end Go.Proofs.Ytdlnnkbigeiilaa

/- The package group: Scalar, Member. No condition. -/
namespace Go.Proofs.Ytdlnnkbigeiilaa
open Go.RowKit

/-- What a reading of bytes answers: limbs, and whether it was good. -/
def ReadR (ok : Bool) (v : Value) (w : World) (e : Ending) (w' : World) : Prop := ∃ x : Nat, e = .returned (.tuple #[limbV x, .bool ok]) ∧ Below w.heap.size w w' ∧ (ok = true → limbV x = v)

theorem gScalar_any (G : GP) (ok : G.Ok) (gb : Nat) (s : ByteArray) (w : World) (hG : GroupAt w gb G) :
    Calls Try.prog 78 #[.pointer (some ⟨gb, 0, none⟩), .string s] w (ReadR (isSc G.q.m G.size s) (scV G (numOf s)) w) := by
  have no : isSc G.q.m G.size s = false → ∀ e w', (e = .returned (.tuple #[limbV 0, .bool false]) ∧ Below w.heap.size w w') → ReadR (isSc G.q.m G.size s) (scV G (numOf s)) w e w' := fun h e w' ⟨h1, h2⟩ => ⟨0, by rw [h]; exact h1, h2, fun hc => by rw [h] at hc; cases hc⟩
  by_cases h32 : 32 < s.size
  · exact (gScalar_long G ok gb s h32 w hG).mono (no (by have := ok.size_le; unfold isSc; simp; omega))
  by_cases hl : s.size = G.size
  · rcases Nat.lt_trichotomy (numOf s) G.q.m with hc | hc | hc
    · refine (gScalar_yes G ok gb s hl hc w hG).mono ?_
      rintro e w' ⟨h1, h2⟩
      exact ⟨mont G.q.m (numOf s), by rw [show isSc G.q.m G.size s = true by unfold isSc; simp [hl, hc]]; exact h1, h2, fun _ => rfl⟩
    · exact (gScalar_eq G ok gb s hl hc w hG).mono (no (by unfold isSc; simp; omega))
    · exact (gScalar_gt G ok gb s hl hc w hG).mono (no (by unfold isSc; simp; omega))
  · exact (gScalar_len G ok gb s (by omega) hl w hG).mono (no (by unfold isSc; simp [hl]))

theorem gElem_any (G : GP) (ok : G.Ok) (gb : Nat) (s : ByteArray) (w : World) (hG : GroupAt w gb G) :
    Calls Try.prog 105 #[.pointer (some ⟨gb, 0, none⟩), .string s] w (ReadR (isEl G.q.m G.size s) (elV G (numOf s)) w) := by
  have no : isEl G.q.m G.size s = false → ∀ e w', (e = .returned (.tuple #[limbV 0, .bool false]) ∧ Below w.heap.size w w') → ReadR (isEl G.q.m G.size s) (elV G (numOf s)) w e w' := fun h e w' ⟨h1, h2⟩ => ⟨0, by rw [h]; exact h1, h2, fun hc => by rw [h] at hc; cases hc⟩
  by_cases h32 : 32 < s.size
  · exact (gElem_long G ok gb s h32 w hG).mono (no (by have := ok.size_le; unfold isEl; simp; omega))
  by_cases hl : s.size = G.size
  · by_cases h0 : numOf s = 0
    · exact (gElem_zero G ok gb s hl h0 w hG).mono (no (by unfold isEl; simp [h0]))
    rcases Nat.lt_trichotomy (numOf s) G.q.m with hc | hc | hc
    · refine (gElem_lt G ok gb s hl (by omega) hc w hG).mono ?_
      rintro e w' ⟨h1, h2⟩
      exact ⟨mont G.p.m (numOf s), by rw [show isEl G.q.m G.size s = true by unfold isEl; simp [hl]; omega]; exact h1, h2, fun _ => rfl⟩
    · refine (gElem_eq G ok gb s hl (by omega) hc w hG).mono ?_
      rintro e w' ⟨h1, h2⟩
      exact ⟨mont G.p.m (numOf s), by rw [show isEl G.q.m G.size s = true by unfold isEl; simp [hl]; omega]; exact h1, h2, fun _ => rfl⟩
    · exact (gElem_gt G ok gb s hl hc w hG).mono (no (by unfold isEl; simp; omega))
  · exact (gElem_len G ok gb s (by omega) hl w hG).mono (no (by unfold isEl; simp [hl]))


set_option maxRecDepth 100000 in
set_option maxHeartbeats 1000000 in
theorem Scalar_none (k : Int) (hk : ¬ (1 ≤ k ∧ k ≤ 3)) (s : ByteArray) (w : World) : Calls Try.prog 61 #[.int .i64 k, .string s] w fun e w' => e = .returned (.bool false) ∧ Below w.heap.size w w' := by
  go_enter Try.func61, Try.ntmps61
  go_wp2_with fail
  refine (of_none k hk w).mono ?_
  rintro e w1 ⟨rfl, rfl⟩
  go_wp2_with fail
  go_ret
  exact ⟨rfl, Below.refl _ _⟩

set_option maxRecDepth 100000 in
set_option maxHeartbeats 1000000 in
theorem Scalar_some (k : Nat) (h1 : 1 ≤ k) (h3 : k ≤ 3) (s : ByteArray) (w : World) : Calls Try.prog 61 #[.int .i64 (k : Int), .string s] w fun e w' => e = .returned (.bool (isSc (grp k).q.m (grp k).size s)) ∧ Below w.heap.size w w' := by
  have OK := Lib.hid (grp_ok k h1 h3)
  go_enter Try.func61, Try.ntmps61
  go_wp2_with fail
  refine (of_some k h1 h3 w).mono ?_
  rintro e w1 ⟨rfl, hg, hb⟩
  have HG := Lib.hid hg
  have HB := Lib.hid hb
  clear hg hb
  go_wp2_with fail
  refine (gScalar_any (grp k) OK.out w.heap.size s w1 HG.out).mono ?_
  rintro e w2 ⟨x, rfl, hb2, -⟩
  have HB2 := Lib.hid (below_up HB.out hb2)
  clear hb2
  obtain ⟨b, hbb⟩ : ∃ b, isSc (grp k).q.m (grp k).size s = b := ⟨_, rfl⟩
  rw [hbb]
  have HBB := Lib.hid hbb
  clear hbb
  unfold limbV
  go_wp2_with fail
  go_ret
  exact ⟨by rw [HBB.out]; rfl, HB2.out.alloc HB2.out.size _⟩

set_option maxRecDepth 100000 in
set_option maxHeartbeats 1000000 in
theorem Member_none (k : Int) (hk : ¬ (1 ≤ k ∧ k ≤ 3)) (s : ByteArray) (w : World) : Calls Try.prog 63 #[.int .i64 k, .string s] w fun e w' => e = .returned (.bool false) ∧ Below w.heap.size w w' := by
  go_enter Try.func63, Try.ntmps63
  go_wp2_with fail
  refine (of_none k hk w).mono ?_
  rintro e w1 ⟨rfl, rfl⟩
  go_wp2_with fail
  go_ret
  exact ⟨rfl, Below.refl _ _⟩

set_option maxRecDepth 100000 in
set_option maxHeartbeats 1000000 in
theorem Member_some (k : Nat) (h1 : 1 ≤ k) (h3 : k ≤ 3) (s : ByteArray) (w : World) : Calls Try.prog 63 #[.int .i64 (k : Int), .string s] w fun e w' => e = .returned (.bool (isEl (grp k).q.m (grp k).size s)) ∧ Below w.heap.size w w' := by
  have OK := Lib.hid (grp_ok k h1 h3)
  go_enter Try.func63, Try.ntmps63
  go_wp2_with fail
  refine (of_some k h1 h3 w).mono ?_
  rintro e w1 ⟨rfl, hg, hb⟩
  have HG := Lib.hid hg
  have HB := Lib.hid hb
  clear hg hb
  go_wp2_with fail
  refine (gElem_any (grp k) OK.out w.heap.size s w1 HG.out).mono ?_
  rintro e w2 ⟨x, rfl, hb2, -⟩
  have HB2 := Lib.hid (below_up HB.out hb2)
  clear hb2
  obtain ⟨b, hbb⟩ : ∃ b, isEl (grp k).q.m (grp k).size s = b := ⟨_, rfl⟩
  rw [hbb]
  have HBB := Lib.hid hbb
  clear hbb
  unfold limbV
  go_wp2_with fail
  go_ret
  exact ⟨by rw [HBB.out]; rfl, HB2.out.alloc HB2.out.size _⟩


def redV (G : GP) (s : ByteArray) : ByteArray := if 1024 < s.size then ⟨#[]⟩ else textS (numOf s % G.q.m) G.size
def redE (s : ByteArray) : Int := if 1024 < s.size then 3 else 0

end Go.Proofs.Ytdlnnkbigeiilaa

/- The digest in plain words: words of 32 bits, steps, pieces. No Go. No condition beyond those that each fact names. -/
namespace Go.Proofs.Ytdlnnkbigeiilaa

/-- A step: word a becomes itself and word o (and word m of the piece, if there is one) in sum; or, where t is not nought, it and word o apart, turned by t. -/
structure Stp where
  a : Nat
  o : Nat
  m : Option Nat
  t : Nat
deriving DecidableEq
abbrev WL := List (BitVec 32)
def rotB (x : BitVec 32) (n : Nat) : BitVec 32 := BitVec.ofNat 32 (x.toNat / 2 ^ n + x.toNat % 2 ^ n * 2 ^ (32 - n))
def stepB (m v : WL) (s : Stp) : WL :=
  v.set s.a (if s.t = 0 then (v.getD s.a 0 + v.getD s.o 0) + (match s.m with | some k => m.getD k 0 | none => 0) else rotB (v.getD s.a 0 ^^^ v.getD s.o 0) s.t)
def ordL : List (List Nat) := [[0,1,2,3,4,5,6,7,8,9,10,11,12,13,14,15],[14,10,4,8,9,15,13,6,1,12,0,2,11,7,5,3],[11,8,12,0,5,2,15,13,10,14,3,6,7,1,9,4],[7,9,3,1,13,12,11,14,2,6,5,10,4,0,15,8],[9,0,5,7,2,4,10,15,14,1,11,12,6,8,3,13],
  [2,12,6,10,0,11,8,3,4,13,7,5,15,14,1,9],[12,5,1,15,14,13,4,10,0,7,6,3,9,2,8,11],[13,11,7,14,12,1,3,9,5,0,15,4,8,6,2,10],[6,15,14,9,11,3,0,8,12,2,13,7,1,4,10,5],[10,2,8,4,7,6,1,5,15,11,9,14,3,12,13,0]]
def ordN (r i : Nat) : Nat := (ordL.getD r []).getD i 0
def cA (i : Nat) : Nat := i % 4
def cB (i : Nat) : Nat := 4 + (i % 4 + i / 4) % 4
def cC (i : Nat) : Nat := 8 + (i % 4 + 2 * (i / 4)) % 4
def cD (i : Nat) : Nat := 12 + (i % 4 + 3 * (i / 4)) % 4
def quartL (i x y : Nat) : List Stp := [⟨cA i, cB i, some x, 0⟩, ⟨cD i, cA i, none, 16⟩, ⟨cC i, cD i, none, 0⟩, ⟨cB i, cC i, none, 12⟩, ⟨cA i, cB i, some y, 0⟩, ⟨cD i, cA i, none, 8⟩, ⟨cC i, cD i, none, 0⟩, ⟨cB i, cC i, none, 7⟩]
def quartB (m v : WL) (r i : Nat) : WL := (quartL i (ordN r (2 * i)) (ordN r (2 * i + 1))).foldl (stepB m) v
/-- The steps of a row, of all rows. -/
def rowL (r : Nat) : List Stp := (List.range 8).flatMap fun i => quartL i (ordN r (2 * i)) (ordN r (2 * i + 1))
def allL : List Stp := (List.range 10).flatMap rowL
def stirB (v m : WL) : WL := allL.foldl (stepB m) v

theorem stepB_len (m v : WL) (s : Stp) : (stepB m v s).length = v.length := by unfold stepB; rw [List.length_set]
theorem steps_len (m : WL) : ∀ (l : List Stp) (v : WL), (l.foldl (stepB m) v).length = v.length
  | [], _ => rfl
  | s :: l, v => by rw [List.foldl_cons, steps_len m l, stepB_len]
theorem quartB_len (m v : WL) (r i : Nat) : (quartB m v r i).length = v.length := steps_len _ _ _
theorem stirB_len (v m : WL) : (stirB v m).length = v.length := steps_len _ _ _

/-- Rounds, one by one. -/
def halfB (m : WL) (r i : Nat) (v : WL) : WL := ((List.range i).flatMap fun i => quartL i (ordN r (2 * i)) (ordN r (2 * i + 1))).foldl (stepB m) v
def roundsB (m : WL) (r : Nat) (v : WL) : WL := ((List.range r).flatMap rowL).foldl (stepB m) v
theorem halfB_succ (m : WL) (r i : Nat) (v : WL) : halfB m r (i + 1) v = quartB m (halfB m r i v) r i := by
  unfold halfB quartB
  rw [List.range_succ, List.flatMap_append, List.foldl_append]
  simp
theorem roundsB_succ (m : WL) (r : Nat) (v : WL) : roundsB m (r + 1) v = halfB m r 8 (roundsB m r v) := by
  unfold roundsB halfB
  rw [List.range_succ, List.flatMap_append, List.foldl_append]
  simp [rowL]
theorem halfB_zero (m : WL) (r : Nat) (v : WL) : halfB m r 0 v = v := rfl
theorem roundsB_zero (m : WL) (v : WL) : roundsB m 0 v = v := rfl
theorem roundsB_all (m : WL) (v : WL) : roundsB m 10 v = stirB v m := rfl
theorem halfB_len (m : WL) (r i : Nat) (v : WL) : (halfB m r i v).length = v.length := steps_len _ _ _
theorem roundsB_len (m : WL) (r : Nat) (v : WL) : (roundsB m r v).length = v.length := steps_len _ _ _

/-- What a quarter does, word by word. -/
theorem quart_words (m v : WL) (r i : Nat) (hv : v.length = 16) (a b c d x y : BitVec 32)
    (ha : v.getD (cA i) 0 = a) (hb : v.getD (cB i) 0 = b) (hc : v.getD (cC i) 0 = c) (hd : v.getD (cD i) 0 = d) (hx : m.getD (ordN r (2 * i)) 0 = x) (hy : m.getD (ordN r (2 * i + 1)) 0 = y) :
    let a1 := a + b + x
    let d1 := rotB (d ^^^ a1) 16
    let c1 := c + d1
    let b1 := rotB (b ^^^ c1) 12
    let a2 := a1 + b1 + y
    let d2 := rotB (d1 ^^^ a2) 8
    let c2 := c1 + d2
    let b2 := rotB (b1 ^^^ c2) 7
    quartB m v r i = (((((((v.set (cA i) a1).set (cD i) d1).set (cC i) c1).set (cB i) b1).set (cA i) a2).set (cD i) d2).set (cC i) c2).set (cB i) b2 := by
  intro a1 d1 c1 b1 a2 d2 c2 b2
  have hA : cA i < 4 := by unfold cA; omega
  have hB : 4 ≤ cB i ∧ cB i < 8 := by unfold cB; omega
  have hC : 8 ≤ cC i ∧ cC i < 12 := by unfold cC; omega
  have hD : 12 ≤ cD i ∧ cD i < 16 := by unfold cD; omega
  unfold quartB quartL
  generalize cA i = A at *
  generalize cB i = B at *
  generalize cC i = C at *
  generalize cD i = D at *
  simp only [List.foldl_cons, List.foldl_nil]
  have gs : ∀ (l : WL) (k : Nat) (u : BitVec 32), k < l.length → (l.set k u).getD k 0 = u := fun l k u h => by simp [List.getD, h]
  have gn : ∀ (l : WL) (k j : Nat) (u : BitVec 32), k ≠ j → (l.set k u).getD j 0 = l.getD j 0 := fun l k j u h => by simp [List.getD, List.getElem?_set_ne h]
  have e1 : stepB m v ⟨A, B, some (ordN r (2 * i)), 0⟩ = v.set A a1 := by unfold stepB; simp only [if_pos, ha, hb, hx]; rfl
  rw [e1]
  have e2 : stepB m (v.set A a1) ⟨D, A, none, 16⟩ = (v.set A a1).set D d1 := by
    unfold stepB; rw [if_neg (by simp), gn _ A D _ (by omega), gs _ A _ (by omega), hd]
  rw [e2]
  have e3 : stepB m ((v.set A a1).set D d1) ⟨C, D, none, 0⟩ = ((v.set A a1).set D d1).set C c1 := by
    unfold stepB; rw [if_pos rfl, gn _ D C _ (by omega), gn _ A C _ (by omega), gs _ D _ (by simp; omega), hc]; simp [c1]
  rw [e3]
  have e4 : stepB m (((v.set A a1).set D d1).set C c1) ⟨B, C, none, 12⟩ = (((v.set A a1).set D d1).set C c1).set B b1 := by
    unfold stepB; rw [if_neg (by simp), gn _ C B _ (by omega), gn _ D B _ (by omega), gn _ A B _ (by omega), gs _ C _ (by simp; omega), hb]
  rw [e4]
  have e5 : stepB m ((((v.set A a1).set D d1).set C c1).set B b1) ⟨A, B, some (ordN r (2 * i + 1)), 0⟩ = ((((v.set A a1).set D d1).set C c1).set B b1).set A a2 := by
    unfold stepB; rw [if_pos rfl, gn _ B A _ (by omega), gn _ C A _ (by omega), gn _ D A _ (by omega), gs _ A _ (by omega), gs _ B _ (by simp; omega)]; rw [show (match (some (ordN r (2 * i + 1)) : Option Nat) with | some k => m.getD k 0 | none => 0) = y from hy]
  rw [e5]
  have e6 : stepB m (((((v.set A a1).set D d1).set C c1).set B b1).set A a2) ⟨D, A, none, 8⟩ = (((((v.set A a1).set D d1).set C c1).set B b1).set A a2).set D d2 := by
    unfold stepB; rw [if_neg (by simp), gn _ A D _ (by omega), gn _ B D _ (by omega), gn _ C D _ (by omega), gs _ D _ (by simp; omega), gs _ A _ (by simp; omega)]
  rw [e6]
  have e7 : stepB m ((((((v.set A a1).set D d1).set C c1).set B b1).set A a2).set D d2) ⟨C, D, none, 0⟩ = ((((((v.set A a1).set D d1).set C c1).set B b1).set A a2).set D d2).set C c2 := by
    unfold stepB; rw [if_pos rfl, gn _ D C _ (by omega), gn _ A C _ (by omega), gn _ B C _ (by omega), gs _ C _ (by simp; omega), gs _ D _ (by simp; omega)]; simp [c2]
  rw [e7]
  unfold stepB; rw [if_neg (by simp), gn _ C B _ (by omega), gn _ D B _ (by omega), gn _ A B _ (by omega), gs _ B _ (by simp; omega), gs _ C _ (by simp; omega)]

/-- One turn to the right, and many. -/
def rot1 (x : BitVec 32) : BitVec 32 := BitVec.ofNat 32 (x.toNat / 2 + x.toNat % 2 * 2147483648)
def rotI : Nat → BitVec 32 → BitVec 32
  | 0, x => x
  | n + 1, x => rot1 (rotI n x)
theorem rotI_nat (x : BitVec 32) : ∀ n, n ≤ 16 → (rotI n x).toNat = x.toNat / 2 ^ n + x.toNat % 2 ^ n * 2 ^ (32 - n) := by
  have hx := x.isLt
  have key : ∀ (y : BitVec 32) (z : Nat), y.toNat = z → (rot1 y).toNat = z / 2 + z % 2 * 2147483648 := fun y z h => by
    have := y.isLt
    unfold rot1
    rw [BitVec.toNat_ofNat, h, Nat.mod_eq_of_lt]
    omega
  have h0 : (rotI 0 x).toNat = x.toNat / 2 ^ 0 + x.toNat % 2 ^ 0 * 2 ^ (32 - 0) := by simp [rotI]; omega
  intro n hn
  have st : ∀ n, n < 16 → (rotI n x).toNat = x.toNat / 2 ^ n + x.toNat % 2 ^ n * 2 ^ (32 - n) → (rotI (n + 1) x).toNat = x.toNat / 2 ^ (n + 1) + x.toNat % 2 ^ (n + 1) * 2 ^ (32 - (n + 1)) := by
    intro n hn h
    have h1 := key _ _ h
    show (rot1 (rotI n x)).toNat = _
    rw [h1]
    have hc : n = 0 ∨ n = 1 ∨ n = 2 ∨ n = 3 ∨ n = 4 ∨ n = 5 ∨ n = 6 ∨ n = 7 ∨ n = 8 ∨ n = 9 ∨ n = 10 ∨ n = 11 ∨ n = 12 ∨ n = 13 ∨ n = 14 ∨ n = 15 := by omega
    clear h h1 key h0
    generalize x.toNat = X at *
    rcases hc with rfl | rfl | rfl | rfl | rfl | rfl | rfl | rfl | rfl | rfl | rfl | rfl | rfl | rfl | rfl | rfl <;> simp <;> omega
  induction n with
  | zero => exact h0
  | succ n ih => exact st n (by omega) (ih (by omega))
theorem rotI_eq (x : BitVec 32) (n : Nat) (h : n ≤ 16) : rotI n x = rotB x n := by
  apply BitVec.eq_of_toNat_eq
  have e := rotI_nat x n h
  unfold rotB
  rw [BitVec.toNat_ofNat, ← e, Nat.mod_eq_of_lt (rotI n x).isLt]
theorem rot_or (x : BitVec 32) (n : Nat) (h0 : n = 16 ∨ n = 12 ∨ n = 8 ∨ n = 7) : (x >>> n) ||| (x <<< (32 - n)) = rotB x n := by
  apply BitVec.eq_of_toNat_eq
  have hx := x.isLt
  unfold rotB
  rw [BitVec.toNat_or, BitVec.toNat_ushiftRight, BitVec.toNat_shiftLeft, BitVec.toNat_ofNat, Nat.or_comm]
  have e : x.toNat <<< (32 - n) % 2 ^ 32 = (x.toNat % 2 ^ n) <<< (32 - n) := by
    rw [Nat.shiftLeft_eq, Nat.shiftLeft_eq]
    generalize x.toNat = X at *
    rcases h0 with rfl | rfl | rfl | rfl <;> omega
  rw [e, ← Nat.shiftLeft_add_eq_or_of_lt (by rw [Nat.shiftRight_eq_div_pow]; generalize x.toNat = X at *; rcases h0 with rfl | rfl | rfl | rfl <;> omega), Nat.shiftRight_eq_div_pow, Nat.shiftLeft_eq]
  generalize x.toNat = X at *
  rcases h0 with rfl | rfl | rfl | rfl <;> omega

/-- Eight words, sixteen of a piece, a count. -/
def startB : WL := [0x6a09e667, 0xbb67ae85, 0x3c6ef372, 0xa54ff53a, 0x510e527f, 0x9b05688c, 0x1f83d9ab, 0x5be0cd19]
def preB (h : WL) (n : Nat) (last : Bool) : WL :=
  let v := (h ++ startB).set 12 (startB.getD 4 0 ^^^ BitVec.ofNat 32 n)
  let v := v.set 13 (startB.getD 5 0 ^^^ BitVec.ofNat 32 (n / 4294967296))
  if last then v.set 14 (~~~ startB.getD 6 0) else v
def mixB (h w : WL) (k : Nat) : WL := (List.range 8).map fun i => if i < k then h.getD i 0 ^^^ w.getD i 0 ^^^ w.getD (i + 8) 0 else h.getD i 0
def pressB (h m : WL) (n : Nat) (last : Bool) : WL := mixB h (stirB (preB h n last) m) 8
theorem mixB_len (h w : WL) (k : Nat) : (mixB h w k).length = 8 := by unfold mixB; simp
theorem pressB_len (h m : WL) (n : Nat) (last : Bool) : (pressB h m n last).length = 8 := mixB_len _ _ _
theorem mixB_at (h w : WL) (k i : Nat) (hi : i < (mixB h w k).length) : (mixB h w k)[i] = if i < k then h.getD i 0 ^^^ w.getD i 0 ^^^ w.getD (i + 8) 0 else h.getD i 0 := by simp only [mixB, List.getElem_map, List.getElem_range]
theorem mixB_zero (h w : WL) (hh : h.length = 8) : mixB h w 0 = h := by
  apply List.ext_getElem (by rw [mixB_len, hh])
  intro i h1 h2
  rw [mixB_at, if_neg (by omega)]
  simp [List.getD, List.getElem?_eq_getElem h2]
theorem mixB_succ (h w : WL) (k : Nat) : mixB h w (k + 1) = (mixB h w k).set k (h.getD k 0 ^^^ w.getD k 0 ^^^ w.getD (k + 8) 0) := by
  apply List.ext_getElem (by rw [List.length_set, mixB_len, mixB_len])
  intro i h1 h2
  rw [List.getElem_set, mixB_at, mixB_at]
  by_cases e : k = i
  · subst e; rw [if_pos (by omega), if_pos rfl]
  · rw [if_neg e]
    by_cases e2 : i < k
    · rw [if_pos e2, if_pos (by omega)]
    · rw [if_neg e2, if_neg (by omega)]

/-- The words of bytes (no more than 64), of the first k of them. -/
def byteW (l : List UInt8) (k j : Nat) : Nat := if j < k then (l.getD j 0).toNat else 0
def wordB (l : List UInt8) (k j : Nat) : BitVec 32 := BitVec.ofNat 32 (byteW l k (4 * j) + byteW l k (4 * j + 1) * 256 + byteW l k (4 * j + 2) * 65536 + byteW l k (4 * j + 3) * 16777216)
def wordsB (l : List UInt8) (k : Nat) : WL := (List.range 16).map (wordB l k)
theorem wordsB_len (l : List UInt8) (k : Nat) : (wordsB l k).length = 16 := by unfold wordsB; simp
theorem byteW_lt (l : List UInt8) (k j : Nat) : byteW l k j < 256 := by
  unfold byteW
  split
  · exact (l.getD j 0).toNat_lt
  · omega
theorem wordsB_zero (l : List UInt8) : wordsB l 0 = List.replicate 16 0 := by
  unfold wordsB
  rw [List.map_congr_left (g := fun _ => (0 : BitVec 32)) (fun j _ => by unfold wordB byteW; simp)]
  rfl
theorem wordsB_at (l : List UInt8) (k j : Nat) (hj : j < (wordsB l k).length) : (wordsB l k)[j] = wordB l k j := by simp only [wordsB, List.getElem_map, List.getElem_range]
theorem wordsB_get (l : List UInt8) (k j : Nat) (h : j < 16) : (wordsB l k).getD j 0 = wordB l k j := by
  unfold wordsB
  simp [List.getD, h]
theorem wordsB_succ (l : List UInt8) (k : Nat) (hk : k < 64) : wordsB l (k + 1) = (wordsB l k).set (k / 4) ((wordsB l k).getD (k / 4) 0 + BitVec.ofNat 32 ((l.getD k 0).toNat * 256 ^ (k % 4))) := by
  apply List.ext_getElem (by rw [List.length_set, wordsB_len, wordsB_len])
  intro j h1 h2
  have hj : j < 16 := by rwa [wordsB_len] at h1
  rw [List.getElem_set]
  simp only [wordsB_get l k (k / 4) (show k / 4 < 16 by omega)]
  rw [wordsB_at, wordsB_at]
  by_cases e : k / 4 = j
  · rw [if_pos e, e]
    unfold wordB
    rw [← BitVec.ofNat_add]
    congr 1
    have hr : k % 4 = 0 ∨ k % 4 = 1 ∨ k % 4 = 2 ∨ k % 4 = 3 := by omega
    unfold byteW
    rcases hr with hr | hr | hr | hr
    · obtain rfl : k = 4 * j := by omega
      rw [hr]
      simp only [Nat.reducePow]
      (repeat' split) <;> omega
    · obtain rfl : k = 4 * j + 1 := by omega
      rw [hr]
      simp only [Nat.reducePow]
      (repeat' split) <;> omega
    · obtain rfl : k = 4 * j + 2 := by omega
      rw [hr]
      simp only [Nat.reducePow]
      (repeat' split) <;> omega
    · obtain rfl : k = 4 * j + 3 := by omega
      rw [hr]
      simp only [Nat.reducePow]
      (repeat' split) <;> omega
  · rw [if_neg e]
    unfold wordB
    congr 1
    have key : ∀ i, i ≠ k → byteW l (k + 1) i = byteW l k i := fun i hi => by
      unfold byteW
      by_cases h : i < k
      · rw [if_pos h, if_pos (by omega)]
      · rw [if_neg h, if_neg (by omega)]
    rw [key _ (by omega), key _ (by omega), key _ (by omega), key _ (by omega)]
theorem wordsB_congr (l l' : List UInt8) (k k' : Nat) (h : ∀ j, j < 64 → byteW l k j = byteW l' k' j) : wordsB l k = wordsB l' k' := by
  unfold wordsB
  apply List.map_congr_left
  intro j hj
  have hj := List.mem_range.1 hj
  unfold wordB
  rw [h _ (by omega), h _ (by omega), h _ (by omega), h _ (by omega)]

/-- The first word of all, for a key without bytes. -/
def h0B : WL := startB.set 0 0x6b08e647
/-- k whole pieces of the bytes s are pressed. -/
def pieceB (s : List UInt8) (k : Nat) : List UInt8 := (s.drop (64 * k)).take 64
def allB (s : List UInt8) : Nat → WL
  | 0 => h0B
  | k + 1 => pressB (allB s k) (wordsB (pieceB s k) 64) (64 * (k + 1)) false
def lastB (s : List UInt8) : Nat := (s.length - 1) / 64
def digW (s : List UInt8) : WL := pressB (allB s (lastB s)) (wordsB (pieceB s (lastB s)) 64) s.length true
theorem allB_len (s : List UInt8) : ∀ k, (allB s k).length = 8
  | 0 => rfl
  | _ + 1 => pressB_len _ _ _ _
theorem digW_len (s : List UInt8) : (digW s).length = 8 := pressB_len _ _ _ _
theorem pieceB_append (s t : List UInt8) (k : Nat) (h : 64 * (k + 1) ≤ s.length) : pieceB (s ++ t) k = pieceB s k := by
  unfold pieceB
  rw [List.drop_append_of_le_length (by omega), List.take_append_of_le_length (by rw [List.length_drop]; omega)]
theorem allB_append (s t : List UInt8) : ∀ k, 64 * k ≤ s.length → allB (s ++ t) k = allB s k
  | 0, _ => rfl
  | k + 1, h => by unfold allB; rw [allB_append s t k (by omega), pieceB_append s t k h]
/-- The bytes of words. -/
def outB (w : WL) : List UInt8 := w.flatMap fun x => [UInt8.ofNat (x.toNat % 256), UInt8.ofNat (x.toNat / 256 % 256), UInt8.ofNat (x.toNat / 65536 % 256), UInt8.ofNat (x.toNat / 16777216 % 256)]
theorem outB_len (w : WL) : (outB w).length = 4 * w.length := by
  unfold outB
  induction w with
  | nil => rfl
  | cons x w ih => rw [List.flatMap_cons, List.length_append, ih, List.length_cons]; simp; omega
def digB (s : List UInt8) : List UInt8 := outB (digW s)
theorem digB_len (s : List UInt8) : (digB s).length = 32 := by unfold digB; rw [outB_len, digW_len]
/-- A number in four bytes, the highest first. -/
def fourL (n : Nat) : List UInt8 := [UInt8.ofNat (n / 16777216 % 256), UInt8.ofNat (n / 65536 % 256), UInt8.ofNat (n / 256 % 256), UInt8.ofNat (n % 256)]
def bytesOf (s : ByteArray) : List UInt8 := s.data.toList
def pfxL (s : ByteArray) : List UInt8 := fourL s.size ++ bytesOf s
def joinL (label : ByteArray) (ps : List ByteArray) : List UInt8 := pfxL label ++ ps.flatMap pfxL
def digS (s : List UInt8) : ByteArray := ⟨(digB s).toArray⟩
def tagS (label : ByteArray) (ps : List ByteArray) : ByteArray := digS (joinL label ps)
def fourS (n : Nat) : ByteArray := ⟨(fourL n).toArray⟩
theorem digS_size (s : List UInt8) : (digS s).size = 32 := by
  show (digB s).toArray.size = 32
  rw [List.size_toArray, digB_len]
theorem tagS_size (l : ByteArray) (ps : List ByteArray) : (tagS l ps).size = 32 := digS_size _
theorem fourS_size (n : Nat) : (fourS n).size = 4 := rfl

/-- What a text that is folded piece by piece holds, behind the bytes s. -/
structure Fold (s : List UInt8) (h : WL) (n : Nat) (hb : List UInt8) (k : Nat) : Prop where
  le : k ≤ 64
  sum : n + k = s.length
  mod : n % 64 = 0
  hs : h = allB s (n / 64)
  held : hb.take k = s.drop n
  len : hb.length = 64
theorem Fold.nil (hb : List UInt8) (h : hb.length = 64) : Fold [] h0B 0 hb 0 := ⟨by omega, rfl, rfl, rfl, rfl, h⟩
/-- A full piece is pressed. -/
theorem Fold.press {s : List UInt8} {h : WL} {n : Nat} {hb : List UInt8} (f : Fold s h n hb 64) : Fold s (pressB h (wordsB hb 64) (n + 64) false) (n + 64) hb 0 := by
  obtain ⟨_, h1, h2, h3, h4, h5⟩ := f
  refine ⟨by omega, by omega, by omega, ?_, by rw [List.take_zero, List.drop_eq_nil_of_le (by omega)], h5⟩
  obtain ⟨q, rfl⟩ : ∃ q, n = 64 * q := ⟨n / 64, by omega⟩
  have e : (64 * q + 64) / 64 = q + 1 := by omega
  have e2 : 64 * q / 64 = q := by omega
  rw [e]
  rw [e2] at h3
  rw [h3]
  show _ = pressB (allB s q) (wordsB (pieceB s q) 64) (64 * (q + 1)) false
  have e3 : pieceB s q = hb := by
    unfold pieceB
    rw [← h4, List.take_take, Nat.min_self, List.take_of_length_le (by omega)]
  rw [e3, show 64 * (q + 1) = 64 * q + 64 by omega]
/-- Bytes are laid behind what is held. -/
theorem Fold.lay {s : List UInt8} {h : WL} {n : Nat} {hb : List UInt8} {k : Nat} (f : Fold s h n hb k) (t : List UInt8) (ht : k + t.length ≤ 64) : Fold (s ++ t) h n (hb.take k ++ t ++ hb.drop (k + t.length)) (k + t.length) := by
  obtain ⟨h0, h1, h2, h3, h4, h5⟩ := f
  have hk : (hb.take k).length = k := by rw [List.length_take]; omega
  refine ⟨ht, by rw [List.length_append]; omega, h2, ?_, ?_, ?_⟩
  · rw [allB_append _ _ _ (by omega)]; exact h3
  · rw [List.take_append_of_le_length (by rw [List.length_append, hk]; exact Nat.le_refl _), List.take_of_length_le (by rw [List.length_append, hk]; exact Nat.le_refl _), List.drop_append_of_le_length (by omega), h4]
  · simp; omega
/-- The end of it. -/
theorem Fold.fin {s : List UInt8} {h : WL} {n : Nat} {hb : List UInt8} {k : Nat} (f : Fold s h n hb k) (h0 : s = [] ∨ 0 < k) : pressB h (wordsB (hb.take k ++ List.replicate (64 - k) 0) 64) (n + k) true = digW s := by
  obtain ⟨hk, h1, h2, h3, h4, h5⟩ := f
  unfold digW
  have e1 : n / 64 = lastB s := by
    unfold lastB
    rcases h0 with rfl | h0
    · have : n = 0 := by simp at h1; omega
      subst this; rfl
    · omega
  have e2 : n = 64 * lastB s := by omega
  rw [h3, e1, h1]
  congr 1
  apply wordsB_congr
  intro j hj
  unfold byteW
  rw [if_pos hj, if_pos hj, h4]
  congr 1
  unfold pieceB
  rw [← e2]
  have e3 : (s.drop n).length = k := by rw [List.length_drop]; omega
  rw [List.take_of_length_le (by omega)]
  unfold List.getD
  by_cases h : j < k
  · rw [List.getElem?_append_left (by omega)]
  · rw [List.getElem?_append_right (by omega), List.getElem?_eq_none (l := s.drop n) (by omega), List.getElem?_replicate]
    split <;> rfl
end Go.Proofs.Ytdlnnkbigeiilaa

/- Words of 32 bits as the program reckons with them. No condition beyond those that each fact names. -/
namespace Go.Proofs.Ytdlnnkbigeiilaa
open Go.RowKit

theorem wrap32_nat (n : Nat) : IntKind.u32.wrap (n : Int) = ((n % 4294967296 : Nat) : Int) := by
  simp [IntKind.wrap, IntKind.signed, IntKind.bits]
theorem bv_of (x : BitVec 32) : BitVec.ofInt 32 (x.toNat : Int) = x := by apply BitVec.eq_of_toNat_eq; simp
theorem bv_nat (n : Nat) (h : n < 4294967296) : ((BitVec.ofNat 32 n).toNat : Int) = (n : Int) := by rw [BitVec.toNat_ofNat, Nat.mod_eq_of_lt h]
theorem wrap_bv (x : BitVec 32) : IntKind.u32.wrap (x.toNat : Int) = (x.toNat : Int) := by
  have := x.isLt
  rw [wrap32_nat, Nat.mod_eq_of_lt (by omega)]
theorem bits_xor (a b : BitVec 32) : bits BinOp.xor IntKind.u32 (a.toNat : Int) (b.toNat : Int) = ((a ^^^ b).toNat : Int) := by
  show IntKind.u32.wrap ((BitVec.ofInt 32 (a.toNat : Int) ^^^ BitVec.ofInt 32 (b.toNat : Int) : BitVec 32).toNat : Int) = _
  rw [bv_of, bv_of, wrap_bv]
theorem bits_not (a : BitVec 32) : bits BinOp.xor IntKind.u32 4294967295 (a.toNat : Int) = ((~~~ a).toNat : Int) := by
  have e : (4294967295 : Int) = ((4294967295#32).toNat : Int) := rfl
  rw [e, bits_xor, BitVec.not_def, show (4294967295#32) = BitVec.allOnes 32 from rfl]
theorem bits_or (a b : Nat) (ha : a < 4294967296) (hb : b < 4294967296) : bits BinOp.or IntKind.u32 (a : Int) (b : Int) = ((a ||| b : Nat) : Int) := by
  show IntKind.u32.wrap ((BitVec.ofInt 32 (a : Int) ||| BitVec.ofInt 32 (b : Int) : BitVec 32).toNat : Int) = _
  have e : ∀ n : Nat, BitVec.ofInt 32 (n : Int) = BitVec.ofNat 32 n := fun n => by apply BitVec.eq_of_toNat_eq; simp
  rw [e, e, wrap_bv, BitVec.toNat_or, BitVec.toNat_ofNat, BitVec.toNat_ofNat, Nat.mod_eq_of_lt (show a < 2 ^ 32 from ha), Nat.mod_eq_of_lt (show b < 2 ^ 32 from hb)]
theorem add32 (a b : BitVec 32) : ((a.toNat : Int) + (b.toNat : Int)) % 4294967296 = ((a + b).toNat : Int) := by
  rw [BitVec.toNat_add]; omega
/-- The words as cells. -/
def wlV (l : WL) : List Value := l.map fun x => .int .u32 (x.toNat : Int)
theorem wlV_len (l : WL) : (wlV l).length = l.length := List.length_map _
theorem wlV_get (l : WL) (i : Nat) (h : i < l.length) : (wlV l)[i]? = some (.int .u32 ((l.getD i 0).toNat : Int)) := by
  unfold wlV
  simp [List.getD, h]
theorem wlV_set (l : WL) (i : Nat) (x : BitVec 32) : (wlV l).set i (.int .u32 (x.toNat : Int)) = wlV (l.set i x) := by
  unfold wlV
  rw [List.map_set]
end Go.Proofs.Ytdlnnkbigeiilaa

/- More of slices that the call itself appends to: a whole argument appended; a slice written out. No condition beyond those that each fact names. -/
namespace Go.Proofs.Ytdlnnkbigeiilaa
open Go.RowKit

/-- A block that was just filled is such a row. -/
theorem RowO.of_bx {N b n : Nat} {w : World} {e : TypeId} {size : Nat} {cs : List Value} (h : Bx w b e cs) (hN : N ≤ b) (hn : cs.length = n * size) (hm : n ≤ maxLen) : RowO N w e size (.slice (some ⟨b, 0, none⟩) n n) n cs := by
  refine ⟨hn, Or.inr ⟨b, n, cs.toArray, rfl, hN, h, Nat.le_refl _, hm, by simpa using hn, ?_⟩⟩
  rw [← hn]; simp

theorem Sl.addr {w : World} {B : Nat} {ad : Addr} {cs : List Value} (h : Sl w B (some ad) cs) : ∀ j u, cs[j]? = some u → w.cell? (ad.add j) = some u := by
  intro j u hj
  rcases h with rfl | ⟨b, off, he, _, hc⟩
  · simp at hj
  · simp only [Option.some.injEq] at he
    subst he
    have : (⟨b, off, none⟩ : Addr).add j = ⟨b, off + j, none⟩ := by unfold Addr.add; split <;> simp_all
    rw [this]; exact hc j u hj

/-- 'append(x, a...)': x is the call's own, a an argument. -/
theorem wpList_joinR {P : Program} (N : Nat) (w : World) (hN : N ≤ w.heap.size) {ops : Array Oper} {rest : List Oper} {o : Oper} {a : Act} {Q : Exit → Act → World → Prop} (hgd : o.guard = none) (s x : Operand) (t : TypeId)
    (ho : o.op = .call { callee := .builtin .append, args := #[s, x], argTypes := #[t, t] })
    (e : TypeId) (i : TypeInfo) (z : Value) (size bytes : Nat) (ht : P.underlying t = some (.slice e)) (hi : P.info? e = some i) (hz : i.zero = some z)
    (hsize : i.size = size) (hby : i.bytes = bytes) (hzs : z.cells.size = size) (hsz : 0 < size)
    (v : Value) (n : Nat) (xs : List Value) (hs : a.eval s = v) (hown : RowO N w e size v n xs)
    (al : Option Addr) (m c : Nat) (news : List Value) (hx : a.eval x = .slice al m c) (hl : news.length = m * size) (hS : Sl w w.heap.size al news) (h0 : al = none → c = 0) (h1 : ∀ u ∈ news, u.oneCell' = true)
    (h63 : (n + m) * bytes ≤ 140737488355328) (hn : n + m ≤ maxLen)
    (h : ∀ a' c' w', RowO N w' e size (.slice a' (n + m) c') (n + m) (xs ++ news) → w.grownBy w' v.ownBlock → wpList P ops Q rest (a.put o.dst (.slice a' (n + m) c')) w') :
    wpList P ops Q (o :: rest) a w := by
  cases al with
  | none =>
    have hc := h0 rfl
    subst hc
    have hnews : news = [] := by
      rcases hS with h9 | ⟨b, off, h9, _⟩
      · exact h9
      · cases h9
    subst hnews
    have hm : m = 0 := by
      rcases Nat.mul_eq_zero.1 hl.symm with h9 | h9
      · exact h9
      · omega
    subst hm
    obtain ⟨a', c', rfl⟩ := RowO.form hown
    refine wpList_append_own_none hgd s x t ho N e i size ht hi _ n xs hs hown hx ?_
    exact h a' c' w (by simpa using hown) ⟨rfl, rfl, rfl, Nat.le_refl _, fun _ _ _ => rfl⟩
  | some ad =>
    refine wpList_plain hgd fun K hK => ?_
    obtain ⟨v', w', hr, h2, h3, _, _⟩ := run_append_own_at (P := P) w N t o.type e i z size bytes ht hi hz hsize hby hzs hsz v n xs hown ad m c news hl hS.addr h1 hn h63 hN
    obtain ⟨a', c', rfl⟩ := RowO.form (N := N) h2
    unfold Oper.wp execOp
    simp only [ho, resolve, invoke, builtin, Sem.run_bind, Sem.run_pure, Result.andThen_ok, List.map_toArray, List.map_cons, List.map_nil, hs, hx, hr]
    exact hK _ _ (h a' c' w' h2 h3)

/-- 'out = append(out, x)' at a step of a region that draws its order. -/
theorem step_pushR {P : Program} (N : Nat) (w0 : World) (hN : N ≤ w0.heap.size) {ops : Array Oper} {o : Oper} {a : Act} {K : Act → World → Prop} {Q : Exit → Act → World → Prop} {E : Prop} (hgd : o.guard = none) (s x : Operand) (t : TypeId)
    (ho : o.op = .call { callee := .builtin .append, args := #[s, x], argTypes := #[t, t] })
    (e : TypeId) (i : TypeInfo) (z : Value) (size bytes : Nat) (ht : P.underlying t = some (.slice e)) (hi : P.info? e = some i) (hz : i.zero = some z)
    (hsize : i.size = size) (hby : i.bytes = bytes) (hzs : z.cells.size = size) (hsz : 0 < size)
    (v : Value) (n : Nat) (xs : List Value) (hs : a.eval s = v) (hown : RowO N w0 e size v n xs)
    (news : Array Value) (e2 : TypeId) (b : Nat) (hb : w0.heap.size = b) (hx : a.eval x = .slice (some ⟨b, 0, none⟩) 1 1) (hl : news.size = size) (h1 : ∀ u ∈ news.toList, u.oneCell' = true)
    (h63 : (n + 1) * bytes ≤ 140737488355328) (hn : n + 1 ≤ maxLen)
    (h : ∀ g cap w', RowO N w' e size (.slice (some ⟨g, 0, none⟩) (n + 1) cap) (n + 1) (xs ++ news.toList) → w0.grownBy w' v.ownBlock → K (a.put o.dst (.slice (some ⟨g, 0, none⟩) (n + 1) cap)) w') :
    if Region.wanted o (yielded ops a.tmps) = true then Oper.wp P o a (w0.alloc (.cells news e2)) K Q else E := by
  subst hb
  refine step_append_lies _ hgd s x t ho N e i z size bytes ht hi hz hsize hby hzs hsz v n xs hs (World.ownsRow.alloc hown _) ⟨w0.heap.size, 0, none⟩ 1 1 news.toList hx (by simpa using hl)
    (World.news_of_block (heap_alloc_new w0 _)) h1 (by omega) hn h63 (by simp; omega) _ rfl ?_
  intro g cap w' hown' hg _ _
  refine h g cap w' hown' ⟨hg.os, hg.tape, hg.output, ?_, ?_⟩
  · have := hg.size; simp at this; omega
  · intro k hk hne
    rw [hg.block k (by simp; omega) hne]
    exact Below.heap_alloc _ _ _ hk

end Go.Proofs.Ytdlnnkbigeiilaa

/- Lists of lists that a call makes: what stays while one of them grows. No condition beyond those that each fact names. -/
namespace Go.Proofs.Ytdlnnkbigeiilaa
open Go.RowKit

theorem GroupAt.other {W : World} {gb c : Nat} {G : GP} (h : GroupAt W gb G) (hne : gb ≠ c) (i : Nat) (v : Value) : GroupAt (W.setCell ⟨c, i, none⟩ v) gb G := by
  have hc : ∀ o, (W.setCell ⟨c, i, none⟩ v).cell? ⟨gb, o, none⟩ = W.cell? ⟨gb, o, none⟩ := fun o => World.cell?_setCell_other _ _ _ _ (by intro e; exact hne (congrArg Addr.block e).symm)
  have hl : (W.setCell ⟨c, i, none⟩ v).heap.size = W.heap.size := by simp [World.setCell]
  exact ⟨by rw [hl]; exact h.lt, by rw [hc]; exact h.kind, by rw [hc]; exact h.size, ⟨by rw [hl]; exact h.p.lt, fun i x hx => by rw [hc]; exact h.p.cell i x hx⟩, ⟨by rw [hl]; exact h.q.lt, fun i x hx => by rw [hc]; exact h.q.cell i x hx⟩⟩

/-- All blocks of the world w0 but some are as they were. -/
structure Kept (P : Nat → Prop) (w0 w : World) : Prop where
  os : w.os = w0.os
  tape : w.tape = w0.tape
  output : w.output = w0.output
  size : w0.heap.size ≤ w.heap.size
  block : ∀ q, q < w0.heap.size → ¬ P q → w.heap[q]? = w0.heap[q]?
section
variable {P : Nat → Prop} {b c n gb : Nat} {w0 w w1 : World} {r : Option Nat} {t : TypeId} {cs : List Value} {G : GP}
theorem Kept.refl (P : Nat → Prop) (w : World) : Kept P w w := ⟨rfl, rfl, rfl, Nat.le_refl _, fun _ _ _ => rfl⟩
theorem Kept.grown (h : Kept P w0 w) (hg : w.grownBy w1 r) (hr : ∀ q, r = some q → w0.heap.size ≤ q ∨ P q) : Kept P w0 w1 :=
  ⟨hg.os.trans h.os, hg.tape.trans h.tape, hg.output.trans h.output, Nat.le_trans h.size hg.size, fun q hq hne => (hg.block q (Nat.lt_of_lt_of_le hq h.size) (fun e => by
    rcases hr q e.symm with h1 | h1
    · omega
    · exact hne h1)).trans (h.block q hq hne)⟩
theorem Kept.up (h : Kept P w0 w) (hb : Below w.heap.size w w1) : Kept P w0 w1 := h.grown (below_grown hb) (fun q e => by cases e)
theorem Kept.set (h : Kept P w0 w) (hp : P b) (i : Nat) (v : Value) : Kept P w0 (w.setCell ⟨b, i, none⟩ v) := h.grown (grown_set w b i v) (fun _ e => Or.inr ((Option.some.inj e) ▸ hp))
theorem Kept.other (h : Kept P w0 w) (hc : w0.heap.size ≤ c) (i : Nat) (v : Value) : Kept P w0 (w.setCell ⟨c, i, none⟩ v) := h.grown (grown_set w c i v) (fun _ e => Or.inl ((Option.some.inj e) ▸ hc))
theorem Kept.trans {w2 : World} (h : Kept P w0 w) (h1 : Kept P w w2) : Kept P w0 w2 :=
  ⟨h1.os.trans h.os, h1.tape.trans h.tape, h1.output.trans h.output, Nat.le_trans h.size h1.size, fun q hq hne => (h1.block q (Nat.lt_of_lt_of_le hq h.size) hne).trans (h.block q hq hne)⟩
theorem Sl.kept {a : Option Addr} (h : Sl w0 w0.heap.size a cs) (hk : Kept P w0 w) (hne : ∀ x, a = some x → ¬ P x.block) : Sl w w.heap.size a cs := by
  rcases h with h | ⟨q, off, rfl, hq, hc⟩
  · exact Or.inl h
  · refine Or.inr ⟨q, off, rfl, Nat.lt_of_lt_of_le hq hk.size, fun i v hv => ?_⟩
    rw [cell_of_block (hk.block q hq (hne _ rfl))]
    exact hc i v hv
theorem Bx.keptP (h : Bx w0 b t cs) (hk : Kept P w0 w) (hne : ¬ P b) : Bx w b t cs := (hk.block b h.lt hne).trans h
theorem GroupAt.keptP (h : GroupAt w0 gb G) (hk : Kept P w0 w) (hne : ¬ P gb) : GroupAt w gb G := by
  have hc := cell_of_block (hk.block gb h.lt hne)
  have hl := hk.size
  exact ⟨Nat.lt_of_lt_of_le h.lt hl, by rw [hc]; exact h.kind, by rw [hc]; exact h.size, ⟨Nat.lt_of_lt_of_le h.p.lt hl, fun i x hx => by rw [hc]; exact h.p.cell i x hx⟩, ⟨Nat.lt_of_lt_of_le h.q.lt hl, fun i x hx => by rw [hc]; exact h.q.cell i x hx⟩⟩
theorem Below.keptP {W : World} (h : Below n W w0) (hk : Kept P w0 w) (hn : n ≤ w0.heap.size) (hp : ∀ q, P q → n ≤ q) : Below n W w := by
  refine ⟨hk.os.trans h.os, hk.tape.trans h.tape, hk.output.trans h.output, Nat.le_trans h.size hk.size, fun q hq => ?_⟩
  rw [hk.block q (by omega) (fun e => by have := hp q e; omega)]
  exact h.block q hq
theorem Sl.lt {a : Option Addr} {B : Nat} (h : Sl w B a cs) (h0 : cs ≠ []) (x : Addr) (hx : a = some x) : x.block < B := by
  rcases h with h | ⟨q, off, rfl, hq, _⟩
  · exact absurd h h0
  · cases hx; exact hq
end

/-- 'out = append(out, x)': and the block it then lies in is the one of before, or a new one. -/
theorem wpList_pushF {P : Program} (N : Nat) (w0 : World) (hN : N ≤ w0.heap.size) {ops : Array Oper} {rest : List Oper} {o : Oper} {a : Act} {Q : Exit → Act → World → Prop} (hgd : o.guard = none) (s x : Operand) (t : TypeId)
    (ho : o.op = .call { callee := .builtin .append, args := #[s, x], argTypes := #[t, t] })
    (e : TypeId) (i : TypeInfo) (z : Value) (size bytes : Nat) (ht : P.underlying t = some (.slice e)) (hi : P.info? e = some i) (hz : i.zero = some z)
    (hsize : i.size = size) (hby : i.bytes = bytes) (hzs : z.cells.size = size) (hsz : 0 < size)
    (v : Value) (n : Nat) (xs : List Value) (hs : a.eval s = v) (hown : RowO N w0 e size v n xs)
    (news : Array Value) (e2 : TypeId) (b : Nat) (hb : w0.heap.size = b) (hx : a.eval x = .slice (some ⟨b, 0, none⟩) 1 1) (hl : news.size = size) (h1 : ∀ u ∈ news.toList, u.oneCell' = true)
    (h63 : (n + 1) * bytes ≤ 140737488355328) (hn : n + 1 ≤ maxLen)
    (h : ∀ g cap w', RowO N w' e size (.slice (some ⟨g, 0, none⟩) (n + 1) cap) (n + 1) (xs ++ news.toList) → w0.grownBy w' v.ownBlock → (v.ownBlock = some g ∨ w0.heap.size ≤ g) → wpList P ops Q rest (a.put o.dst (.slice (some ⟨g, 0, none⟩) (n + 1) cap)) w') :
    wpList P ops Q (o :: rest) a (w0.alloc (.cells news e2)) := by
  subst hb
  refine wpList_append_lies _ hgd s x t ho N e i z size bytes ht hi hz hsize hby hzs hsz v n xs hs (World.ownsRow.alloc hown _) ⟨w0.heap.size, 0, none⟩ 1 1 news.toList hx (by simpa using hl)
    (World.news_of_block (heap_alloc_new w0 _)) h1 (by omega) hn h63 (by simp; omega) _ rfl ?_
  intro g cap w' hown' hg hf _
  refine h g cap w' hown' ⟨hg.os, hg.tape, hg.output, ?_, ?_⟩ ?_
  · have := hg.size; simp at this; omega
  · intro k hk hne
    rw [hg.block k (by simp; omega) hne]
    exact Below.heap_alloc _ _ _ hk
  · rcases hf with h9 | h9
    · exact Or.inl h9
    · right; rw [h9]; simp

/-- The same at a step of a region that draws its order. -/
theorem step_pushF {P : Program} (N : Nat) (w0 : World) (hN : N ≤ w0.heap.size) {ops : Array Oper} {o : Oper} {a : Act} {K : Act → World → Prop} {Q : Exit → Act → World → Prop} {E : Prop} (hgd : o.guard = none) (s x : Operand) (t : TypeId)
    (ho : o.op = .call { callee := .builtin .append, args := #[s, x], argTypes := #[t, t] })
    (e : TypeId) (i : TypeInfo) (z : Value) (size bytes : Nat) (ht : P.underlying t = some (.slice e)) (hi : P.info? e = some i) (hz : i.zero = some z)
    (hsize : i.size = size) (hby : i.bytes = bytes) (hzs : z.cells.size = size) (hsz : 0 < size)
    (v : Value) (n : Nat) (xs : List Value) (hs : a.eval s = v) (hown : RowO N w0 e size v n xs)
    (news : Array Value) (e2 : TypeId) (b : Nat) (hb : w0.heap.size = b) (hx : a.eval x = .slice (some ⟨b, 0, none⟩) 1 1) (hl : news.size = size) (h1 : ∀ u ∈ news.toList, u.oneCell' = true)
    (h63 : (n + 1) * bytes ≤ 140737488355328) (hn : n + 1 ≤ maxLen)
    (h : ∀ g cap w', RowO N w' e size (.slice (some ⟨g, 0, none⟩) (n + 1) cap) (n + 1) (xs ++ news.toList) → w0.grownBy w' v.ownBlock → (v.ownBlock = some g ∨ w0.heap.size ≤ g) → K (a.put o.dst (.slice (some ⟨g, 0, none⟩) (n + 1) cap)) w') :
    if Region.wanted o (yielded ops a.tmps) = true then Oper.wp P o a (w0.alloc (.cells news e2)) K Q else E := by
  subst hb
  refine step_append_lies _ hgd s x t ho N e i z size bytes ht hi hz hsize hby hzs hsz v n xs hs (World.ownsRow.alloc hown _) ⟨w0.heap.size, 0, none⟩ 1 1 news.toList hx (by simpa using hl)
    (World.news_of_block (heap_alloc_new w0 _)) h1 (by omega) hn h63 (by simp; omega) _ rfl ?_
  intro g cap w' hown' hg hf _
  refine h g cap w' hown' ⟨hg.os, hg.tape, hg.output, ?_, ?_⟩ ?_
  · have := hg.size; simp at this; omega
  · intro k hk hne
    rw [hg.block k (by simp; omega) hne]
    exact Below.heap_alloc _ _ _ hk
  · rcases hf with h9 | h9
    · exact Or.inl h9
    · right; rw [h9]; simp

end Go.Proofs.Ytdlnnkbigeiilaa

/- The stir of the package fold: turn, place, corners, quarter. No condition beyond those that each fact names. -/
namespace Go.Proofs.Ytdlnnkbigeiilaa
open Go.RowKit

theorem turn_nat (x : BitVec 32) (n : Nat) (h0 : n = 16 ∨ n = 12 ∨ n = 8 ∨ n = 7) : x.toNat / 2 ^ n ||| x.toNat * 2 ^ (32 - n) % 4294967296 = (rotB x n).toNat := by
  rw [← rot_or x n h0, BitVec.toNat_or, BitVec.toNat_ushiftRight, BitVec.toNat_shiftLeft, Nat.shiftRight_eq_div_pow, Nat.shiftLeft_eq]
set_option maxHeartbeats 1000000 in
theorem turn_any (x : BitVec 32) (n : Nat) (h0 : n = 16 ∨ n = 12 ∨ n = 8 ∨ n = 7) (w : World) : Calls Try.prog 169 #[.int .u32 (x.toNat : Int), .int .i64 (n : Int)] w fun e w' => e = .returned (.int .u32 ((rotB x n).toNat : Int)) ∧ Below w.heap.size w w' := by
  have hx := x.isLt
  have ht := turn_nat x n h0
  have HB := Lib.hid (bits_or (x.toNat / 2 ^ n) (x.toNat * 2 ^ (32 - n) % 4294967296) (Nat.lt_of_le_of_lt (Nat.div_le_self _ _) hx) (Nat.mod_lt _ (by decide)))
  rw [ht] at HB
  have HBo := HB.out
  clear ht HB
  rcases h0 with rfl | rfl | rfl | rfl <;> simp at HBo
  all_goals
    go_enter Try.func169, Try.ntmps169
    go_wp2_with fail
    refine wp_region_over (by kernel_rfl) (by kernel_rfl) ?_
    repeat (go_big_quiet_step (first | fail))
    all_goals (try unfold elV limbV)
    repeat (go_big_quiet_step (first | fail))
    all_goals (try unfold elV limbV)
    repeat (go_big_quiet_step (first | fail))
    all_goals (try unfold ciphV)
    refine wpQuiet_nil ?_
    rintro _ ⟨E, rfl⟩
    have HB := Lib.hid E.h
    have HZS := Lib.hid E.h.size
    obtain ⟨w1, hq9⟩ : ∃ W9 : World, E.w = W9 := ⟨_, rfl⟩
    rw [hq9] at HB HZS ⊢
    clear hq9 E
    go_wp2_with fail
    go_ret
    exact ⟨rfl, HB.out⟩

def ordB : ByteArray := ⟨#[48, 49, 50, 51, 52, 53, 54, 55, 56, 57, 97, 98, 99, 100, 101, 102, 101, 97, 52, 56, 57, 102, 100, 54, 49, 99, 48, 50, 98, 55, 53, 51, 98, 56, 99, 48, 53, 50, 102, 100, 97, 101, 51, 54, 55, 49, 57, 52, 55, 57, 51, 49, 100, 99, 98, 101, 50, 54, 53, 97, 52, 48, 102, 56, 57, 48, 53, 55, 50, 52, 97, 102, 101, 49, 98, 99, 54, 56, 51, 100, 50, 99, 54, 97, 48, 98, 56, 51, 52, 100, 55, 53, 102, 101, 49, 57, 99, 53, 49, 102, 101, 100, 52, 97, 48, 55, 54, 51, 57, 50, 56, 98, 100, 98, 55, 101, 99, 49, 51, 57, 53, 48, 102, 52, 56, 54, 50, 97, 54, 102, 101, 57, 98, 51, 48, 56, 99, 50, 100, 55, 49, 52, 97, 53, 97, 50, 56, 52, 55, 54, 49, 53, 102, 98, 57, 101, 51, 99, 100, 48]⟩
theorem ord_tab : ∀ k : Fin 160, (ordB.data.getD k.1 0).toNat = if ordN (k.1 / 16) (k.1 % 16) < 10 then 48 + ordN (k.1 / 16) (k.1 % 16) else 87 + ordN (k.1 / 16) (k.1 % 16) := by decide +kernel
theorem ord_lt : ∀ k : Fin 160, ordN (k.1 / 16) (k.1 % 16) < 16 := by decide +kernel
theorem ordN_lt {r i : Nat} (hr : r < 10) (hi : i < 16) : ordN r i < 16 := by
  have h := ord_lt ⟨16 * r + i, by omega⟩
  simp only at h
  rwa [show (16 * r + i) / 16 = r by omega, show (16 * r + i) % 16 = i by omega] at h
theorem place_at {r i : Nat} (hr : r < 10) (hi : i < 16) (h : 16 * r + i < ordB.size) : (ordB[16 * r + i].toNat : Int) = if ordN r i < 10 then 48 + (ordN r i : Int) else 87 + (ordN r i : Int) := by
  have h1 := ord_tab ⟨16 * r + i, by omega⟩
  simp only at h1
  rw [show (16 * r + i) / 16 = r by omega, show (16 * r + i) % 16 = i by omega] at h1
  have e : ordB[16 * r + i] = ordB.data.getD (16 * r + i) 0 := by
    show ordB.data[16 * r + i]'h = _
    unfold Array.getD
    exact (dif_pos h).symm
  rw [e, h1]
  split <;> simp
theorem place_lo {r i : Nat} (hr : r < 10) (hi : i < 16) (h : 16 * r + i < ordB.size) (hc : (ordB[16 * r + i].toNat : Int) < 97) : ((ordB[16 * r + i].toNat : Int) - 48) % 256 = (ordN r i : Int) := by
  rw [place_at hr hi h] at *
  have := ordN_lt hr hi
  split at * <;> omega
theorem place_hi {r i : Nat} (hr : r < 10) (hi : i < 16) (h : 16 * r + i < ordB.size) (hc : 97 ≤ (ordB[16 * r + i].toNat : Int)) : ((ordB[16 * r + i].toNat : Int) - 97) % 256 + 10 = (ordN r i : Int) := by
  rw [place_at hr hi h] at *
  have := ordN_lt hr hi
  split at * <;> omega
set_option maxHeartbeats 1000000 in
set_option maxRecDepth 100000 in
theorem place_any (r i : Nat) (hr : r < 10) (hi : i < 16) (w : World) : Calls Try.prog 162 #[.int .i64 (r : Int), .int .i64 (i : Int)] w fun e w' => e = .returned (.int .i64 (ordN r i : Int)) ∧ Below w.heap.size w w' := by
  go_enter Try.func162, Try.ntmps162
  go_wp2_with fail
  · go_ret
    exact ⟨ret_int (place_hi hr hi (show 16 * r + i < 160 by omega) (by assumption)), Below.refl _ _⟩
  · go_ret
    exact ⟨ret_int (place_lo hr hi (show 16 * r + i < 160 by omega) (by assumption)), Below.refl _ _⟩
set_option maxHeartbeats 1000000 in
theorem corners_any (pb i : Nat) (hi : i < 8) (w : World) : Calls Try.prog 168 #[.pointer (some ⟨pb, 0, none⟩), .int .i64 (i : Int)] w fun e w' => e = .returned (.tuple #[.pointer (some ⟨pb, cA i, none⟩), .pointer (some ⟨pb, cB i, none⟩), .pointer (some ⟨pb, cC i, none⟩), .pointer (some ⟨pb, cD i, none⟩)]) ∧ Below w.heap.size w w' := by
  have h8 : i = 0 ∨ i = 1 ∨ i = 2 ∨ i = 3 ∨ i = 4 ∨ i = 5 ∨ i = 6 ∨ i = 7 := by omega
  clear hi
  rcases h8 with rfl | rfl | rfl | rfl | rfl | rfl | rfl | rfl
  all_goals
    go_enter Try.func168, Try.ntmps168
    go_wp2_with fail
    refine wp_region_over (by kernel_rfl) (by kernel_rfl) ?_
    repeat (go_big_quiet_step (first | fail))
    all_goals (try unfold elV limbV)
    repeat (go_big_quiet_step (first | fail))
    all_goals (try unfold elV limbV)
    repeat (go_big_quiet_step (first | fail))
    all_goals (try unfold ciphV)
    refine wpQuiet_nil ?_
    rintro _ ⟨E, rfl⟩
    have HB := Lib.hid E.h
    have HZS := Lib.hid E.h.size
    obtain ⟨w1, hq9⟩ : ∃ W9 : World, E.w = W9 := ⟨_, rfl⟩
    rw [hq9] at HB HZS ⊢
    clear hq9 E
    go_wp2_with fail
    simp [bodyPost, results, Try.results168, go_sem, cA, cB, cC, cD]
    exact HB.out

structure W4 (l : WL) (A B C D : Nat) (a b c d : BitVec 32) : Prop where
  len : l.length = 16
  bd : A < 4 ∧ 4 ≤ B ∧ B < 8 ∧ 8 ≤ C ∧ C < 12 ∧ 12 ≤ D ∧ D < 16
  ha : l.getD A 0 = a
  hb : l.getD B 0 = b
  hc : l.getD C 0 = c
  hd : l.getD D 0 = d
section
variable {l : WL} {A B C D : Nat} {a b c d z : BitVec 32}
theorem W4.ca (h : W4 l A B C D a b c d) : (wlV l)[A]? = some (.int .u32 (a.toNat : Int)) := h.ha ▸ wlV_get l A (by have := h.len; have := h.bd; omega)
theorem W4.cb (h : W4 l A B C D a b c d) : (wlV l)[B]? = some (.int .u32 (b.toNat : Int)) := h.hb ▸ wlV_get l B (by have := h.len; have := h.bd; omega)
theorem W4.cc (h : W4 l A B C D a b c d) : (wlV l)[C]? = some (.int .u32 (c.toNat : Int)) := h.hc ▸ wlV_get l C (by have := h.len; have := h.bd; omega)
theorem W4.cd (h : W4 l A B C D a b c d) : (wlV l)[D]? = some (.int .u32 (d.toNat : Int)) := h.hd ▸ wlV_get l D (by have := h.len; have := h.bd; omega)
theorem set_same (l : WL) (k : Nat) (u : BitVec 32) (h : k < l.length) : (l.set k u).getD k 0 = u := by simp [List.getD, h]
theorem set_other (l : WL) (k j : Nat) (u : BitVec 32) (h : k ≠ j) : (l.set k u).getD j 0 = l.getD j 0 := by simp [List.getD, List.getElem?_set_ne h]
theorem W4.sa (h : W4 l A B C D a b c d) : W4 (l.set A z) A B C D z b c d := by
  have h1 := h.len; have h2 := h.bd
  exact ⟨by rw [List.length_set]; exact h1, h2, set_same _ _ _ (by omega), by rw [set_other _ _ _ _ (by omega)]; exact h.hb, by rw [set_other _ _ _ _ (by omega)]; exact h.hc, by rw [set_other _ _ _ _ (by omega)]; exact h.hd⟩
theorem W4.sb (h : W4 l A B C D a b c d) : W4 (l.set B z) A B C D a z c d := by
  have h1 := h.len; have h2 := h.bd
  exact ⟨by rw [List.length_set]; exact h1, h2, by rw [set_other _ _ _ _ (by omega)]; exact h.ha, set_same _ _ _ (by omega), by rw [set_other _ _ _ _ (by omega)]; exact h.hc, by rw [set_other _ _ _ _ (by omega)]; exact h.hd⟩
theorem W4.sc (h : W4 l A B C D a b c d) : W4 (l.set C z) A B C D a b z d := by
  have h1 := h.len; have h2 := h.bd
  exact ⟨by rw [List.length_set]; exact h1, h2, by rw [set_other _ _ _ _ (by omega)]; exact h.ha, by rw [set_other _ _ _ _ (by omega)]; exact h.hb, set_same _ _ _ (by omega), by rw [set_other _ _ _ _ (by omega)]; exact h.hd⟩
theorem W4.sd (h : W4 l A B C D a b c d) : W4 (l.set D z) A B C D a b c z := by
  have h1 := h.len; have h2 := h.bd
  exact ⟨by rw [List.length_set]; exact h1, h2, by rw [set_other _ _ _ _ (by omega)]; exact h.ha, by rw [set_other _ _ _ _ (by omega)]; exact h.hb, by rw [set_other _ _ _ _ (by omega)]; exact h.hc, set_same _ _ _ (by omega)⟩
theorem Bx.wset {W : World} {b i : Nat} {t : TypeId} {l : WL} {x : BitVec 32} (h : Bx W b t ((wlV l).set i (.int .u32 (x.toNat : Int)))) : Bx W b t (wlV (l.set i x)) := wlV_set l i x ▸ h
end
set_option maxRecDepth 100000 in
set_option maxHeartbeats 4000000 in
theorem quarter_any (m v : WL) (r i : Nat) (hi : i < 8) (hv : v.length = 16) (pb : Nat) (w : World) (hp : Bx w pb 228 (wlV v)) :
    Calls Try.prog 161 #[.pointer (some ⟨pb, 0, none⟩), .int .i64 (i : Int), .int .u32 ((m.getD (ordN r (2 * i)) 0).toNat : Int), .int .u32 ((m.getD (ordN r (2 * i + 1)) 0).toNat : Int)] w
      fun e w' => e = .returned (.tuple #[]) ∧ Bx w' pb 228 (wlV (quartB m v r i)) ∧ Kept (fun q => q = pb) w w' := by
  have hq := quart_words m v r i hv _ _ _ _ _ _ rfl rfl rfl rfl rfl rfl
  have HC := Lib.hid (fun w => corners_any pb i hi w)
  have HW := Lib.hid (show W4 v (cA i) (cB i) (cC i) (cD i) _ _ _ _ from ⟨hv, by unfold cA cB cC cD; omega, rfl, rfl, rfl, rfl⟩)
  generalize quartB m v r i = V at *
  generalize m.getD (ordN r (2 * i)) 0 = x at *
  generalize m.getD (ordN r (2 * i + 1)) 0 = y at *
  generalize v.getD (cA i) 0 = a at *
  generalize v.getD (cB i) 0 = b at *
  generalize v.getD (cC i) 0 = c at *
  generalize v.getD (cD i) 0 = d at *
  generalize cA i = A at *
  generalize cB i = B at *
  generalize cC i = C at *
  generalize cD i = D at *
  have HQ := Lib.hid hq
  have Hp := Lib.hid hp
  clear hp hv hi hq
  go_enter Try.func161, Try.ntmps161
  go_wp2_with fail
  have HK := Lib.hid (Kept.refl (fun q9 => q9 = pb) w)
  refine (HC.out w).mono ?_
  rintro e w1 ⟨rfl, hb9⟩
  replace Hp := Lib.hid (Hp.out.up hb9)
  replace HK := Lib.hid (Kept.up HK.out hb9)
  have HZS := Lib.hid hb9.size
  clear hb9
  go_wp2_with fail
  have g1 := add32 b x
  obtain ⟨za1, e0⟩ : ∃ z, b + x = z := ⟨_, rfl⟩
  rw [e0] at g1
  have g2 := add32 a za1
  obtain ⟨a1, e1⟩ : ∃ z, a + za1 = z := ⟨_, rfl⟩
  rw [e1] at g2
  have Eza1 := Lib.hid e0
  have Ea1 := Lib.hid e1
  clear e1 e0
  have hlp := Hp.out.lt
  have hcA := Hp.out.cell HW.out.ca
  have hcB := Hp.out.cell HW.out.cb
  have hcC := Hp.out.cell HW.out.cc
  have hcD := Hp.out.cell HW.out.cd
  refine wp_region_otail 10 (by kernel_rfl) (by kernel_rfl) ?_
  simp only [List.take_succ_cons, List.take_zero, List.drop_succ_cons, List.drop_zero]
  have hov_pb := fun (E : Over w1) o => E.cell (b := pb) o hlp
  repeat (go_big_quiet_step (first | fail))
  all_goals (try unfold elV limbV)
  repeat (go_big_quiet_step (first | fail))
  all_goals (try unfold elV limbV)
  repeat (go_big_quiet_step (first | fail))
  all_goals (try unfold ciphV)
  refine wpQuiet_nil ?_
  rintro _ ⟨E, rfl⟩
  clear hov_pb
  replace Hp := Lib.hid (Hp.out.up E.h)
  replace HK := Lib.hid (Kept.up HK.out E.h)
  replace HZS := sz HZS E.h.size
  obtain ⟨w2, hq9⟩ : ∃ W9 : World, E.w = W9 := ⟨_, rfl⟩
  rw [hq9] at Hp HK HZS ⊢
  clear hq9 E
  clear hcA hcB hcC hcD hlp
  have hcT := Hp.out.cell HW.out.ca
  have f3_p := Hp.out.frozen
  obtain ⟨w3, hq3, hg9, hz9, hx9⟩ := put1 Hp A (.int .u32 (a1.toNat : Int)) _ rfl
  replace HK := Lib.hid (Kept.grown HK.out hg9.out (fun q9 e9 => by obtain rfl := Option.some.inj e9; exact Or.inr (rfl)))
  replace HZS := sz HZS hz9.out
  replace Hp := hx9
  clear hx9 hg9 hz9
  replace Hp := Lib.hid Hp.out.wset
  replace HW := Lib.hid (HW.out.sa (z := a1))
  go_wp2_with fail
  clear hq3 f3_p
  clear hcT g1 g2
  have g1 := bits_xor d a1
  obtain ⟨zd1, e0⟩ : ∃ z, d ^^^ a1 = z := ⟨_, rfl⟩
  rw [e0] at g1
  obtain ⟨d1, e1⟩ : ∃ z, rotB zd1 16 = z := ⟨_, rfl⟩
  have HT := Lib.hid (fun w => turn_any zd1 16 (by omega) w)
  rw [e1] at HT
  have Ezd1 := Lib.hid e0
  have Ed1 := Lib.hid e1
  clear e1 e0
  have hlp := Hp.out.lt
  have hcA := Hp.out.cell HW.out.ca
  have hcB := Hp.out.cell HW.out.cb
  have hcC := Hp.out.cell HW.out.cc
  have hcD := Hp.out.cell HW.out.cd
  refine wp_region_otail 10 (by kernel_rfl) (by kernel_rfl) ?_
  simp only [List.take_succ_cons, List.take_zero, List.drop_succ_cons, List.drop_zero]
  have hov_pb := fun (E : Over w3) o => E.cell (b := pb) o hlp
  repeat (go_big_quiet_step (first | (go_at_call 169; exact calls_over (HT.out _))))
  all_goals (try unfold elV limbV)
  repeat (go_big_quiet_step (first | (go_at_call 169; exact calls_over (HT.out _))))
  all_goals (try unfold elV limbV)
  repeat (go_big_quiet_step (first | (go_at_call 169; exact calls_over (HT.out _))))
  all_goals (try unfold ciphV)
  refine wpQuiet_nil ?_
  rintro _ ⟨E, rfl⟩
  clear hov_pb
  replace Hp := Lib.hid (Hp.out.up E.h)
  replace HK := Lib.hid (Kept.up HK.out E.h)
  replace HZS := sz HZS E.h.size
  obtain ⟨w4, hq9⟩ : ∃ W9 : World, E.w = W9 := ⟨_, rfl⟩
  rw [hq9] at Hp HK HZS ⊢
  clear hq9 E
  clear hcA hcB hcC hcD hlp
  have hcT := Hp.out.cell HW.out.cd
  have f5_p := Hp.out.frozen
  obtain ⟨w5, hq5, hg9, hz9, hx9⟩ := put1 Hp D (.int .u32 (d1.toNat : Int)) _ rfl
  replace HK := Lib.hid (Kept.grown HK.out hg9.out (fun q9 e9 => by obtain rfl := Option.some.inj e9; exact Or.inr (rfl)))
  replace HZS := sz HZS hz9.out
  replace Hp := hx9
  clear hx9 hg9 hz9
  replace Hp := Lib.hid Hp.out.wset
  replace HW := Lib.hid (HW.out.sd (z := d1))
  go_wp2_with fail
  clear hq5 f5_p
  clear hcT g1 HT
  have g2 := add32 c d1
  obtain ⟨c1, e1⟩ : ∃ z, c + d1 = z := ⟨_, rfl⟩
  rw [e1] at g2
  have Ec1 := Lib.hid e1
  clear e1
  have hlp := Hp.out.lt
  have hcA := Hp.out.cell HW.out.ca
  have hcB := Hp.out.cell HW.out.cb
  have hcC := Hp.out.cell HW.out.cc
  have hcD := Hp.out.cell HW.out.cd
  refine wp_region_otail 8 (by kernel_rfl) (by kernel_rfl) ?_
  simp only [List.take_succ_cons, List.take_zero, List.drop_succ_cons, List.drop_zero]
  have hov_pb := fun (E : Over w5) o => E.cell (b := pb) o hlp
  repeat (go_big_quiet_step (first | fail))
  all_goals (try unfold elV limbV)
  repeat (go_big_quiet_step (first | fail))
  all_goals (try unfold elV limbV)
  repeat (go_big_quiet_step (first | fail))
  all_goals (try unfold ciphV)
  refine wpQuiet_nil ?_
  rintro _ ⟨E, rfl⟩
  clear hov_pb
  replace Hp := Lib.hid (Hp.out.up E.h)
  replace HK := Lib.hid (Kept.up HK.out E.h)
  replace HZS := sz HZS E.h.size
  obtain ⟨w6, hq9⟩ : ∃ W9 : World, E.w = W9 := ⟨_, rfl⟩
  rw [hq9] at Hp HK HZS ⊢
  clear hq9 E
  clear hcA hcB hcC hcD hlp
  have hcT := Hp.out.cell HW.out.cc
  have f7_p := Hp.out.frozen
  obtain ⟨w7, hq7, hg9, hz9, hx9⟩ := put1 Hp C (.int .u32 (c1.toNat : Int)) _ rfl
  replace HK := Lib.hid (Kept.grown HK.out hg9.out (fun q9 e9 => by obtain rfl := Option.some.inj e9; exact Or.inr (rfl)))
  replace HZS := sz HZS hz9.out
  replace Hp := hx9
  clear hx9 hg9 hz9
  replace Hp := Lib.hid Hp.out.wset
  replace HW := Lib.hid (HW.out.sc (z := c1))
  go_wp2_with fail
  clear hq7 f7_p
  clear hcT g2
  have g1 := bits_xor b c1
  obtain ⟨zb1, e0⟩ : ∃ z, b ^^^ c1 = z := ⟨_, rfl⟩
  rw [e0] at g1
  obtain ⟨b1, e1⟩ : ∃ z, rotB zb1 12 = z := ⟨_, rfl⟩
  have HT := Lib.hid (fun w => turn_any zb1 12 (by omega) w)
  rw [e1] at HT
  have Ezb1 := Lib.hid e0
  have Eb1 := Lib.hid e1
  clear e1 e0
  have hlp := Hp.out.lt
  have hcA := Hp.out.cell HW.out.ca
  have hcB := Hp.out.cell HW.out.cb
  have hcC := Hp.out.cell HW.out.cc
  have hcD := Hp.out.cell HW.out.cd
  refine wp_region_otail 10 (by kernel_rfl) (by kernel_rfl) ?_
  simp only [List.take_succ_cons, List.take_zero, List.drop_succ_cons, List.drop_zero]
  have hov_pb := fun (E : Over w7) o => E.cell (b := pb) o hlp
  repeat (go_big_quiet_step (first | (go_at_call 169; exact calls_over (HT.out _))))
  all_goals (try unfold elV limbV)
  repeat (go_big_quiet_step (first | (go_at_call 169; exact calls_over (HT.out _))))
  all_goals (try unfold elV limbV)
  repeat (go_big_quiet_step (first | (go_at_call 169; exact calls_over (HT.out _))))
  all_goals (try unfold ciphV)
  refine wpQuiet_nil ?_
  rintro _ ⟨E, rfl⟩
  clear hov_pb
  replace Hp := Lib.hid (Hp.out.up E.h)
  replace HK := Lib.hid (Kept.up HK.out E.h)
  replace HZS := sz HZS E.h.size
  obtain ⟨w8, hq9⟩ : ∃ W9 : World, E.w = W9 := ⟨_, rfl⟩
  rw [hq9] at Hp HK HZS ⊢
  clear hq9 E
  clear hcA hcB hcC hcD hlp
  have hcT := Hp.out.cell HW.out.cb
  have f9_p := Hp.out.frozen
  obtain ⟨w9, hq9, hg9, hz9, hx9⟩ := put1 Hp B (.int .u32 (b1.toNat : Int)) _ rfl
  replace HK := Lib.hid (Kept.grown HK.out hg9.out (fun q9 e9 => by obtain rfl := Option.some.inj e9; exact Or.inr (rfl)))
  replace HZS := sz HZS hz9.out
  replace Hp := hx9
  clear hx9 hg9 hz9
  replace Hp := Lib.hid Hp.out.wset
  replace HW := Lib.hid (HW.out.sb (z := b1))
  go_wp2_with fail
  clear hq9 f9_p
  clear hcT g1 HT
  have g1 := add32 b1 y
  obtain ⟨za2, e0⟩ : ∃ z, b1 + y = z := ⟨_, rfl⟩
  rw [e0] at g1
  have g2 := add32 a1 za2
  obtain ⟨a2, e1⟩ : ∃ z, a1 + za2 = z := ⟨_, rfl⟩
  rw [e1] at g2
  have Eza2 := Lib.hid e0
  have Ea2 := Lib.hid e1
  clear e1 e0
  have hlp := Hp.out.lt
  have hcA := Hp.out.cell HW.out.ca
  have hcB := Hp.out.cell HW.out.cb
  have hcC := Hp.out.cell HW.out.cc
  have hcD := Hp.out.cell HW.out.cd
  refine wp_region_otail 10 (by kernel_rfl) (by kernel_rfl) ?_
  simp only [List.take_succ_cons, List.take_zero, List.drop_succ_cons, List.drop_zero]
  have hov_pb := fun (E : Over w9) o => E.cell (b := pb) o hlp
  repeat (go_big_quiet_step (first | fail))
  all_goals (try unfold elV limbV)
  repeat (go_big_quiet_step (first | fail))
  all_goals (try unfold elV limbV)
  repeat (go_big_quiet_step (first | fail))
  all_goals (try unfold ciphV)
  refine wpQuiet_nil ?_
  rintro _ ⟨E, rfl⟩
  clear hov_pb
  replace Hp := Lib.hid (Hp.out.up E.h)
  replace HK := Lib.hid (Kept.up HK.out E.h)
  replace HZS := sz HZS E.h.size
  obtain ⟨w10, hq9⟩ : ∃ W9 : World, E.w = W9 := ⟨_, rfl⟩
  rw [hq9] at Hp HK HZS ⊢
  clear hq9 E
  clear hcA hcB hcC hcD hlp
  have hcT := Hp.out.cell HW.out.ca
  have f11_p := Hp.out.frozen
  obtain ⟨w11, hq11, hg9, hz9, hx9⟩ := put1 Hp A (.int .u32 (a2.toNat : Int)) _ rfl
  replace HK := Lib.hid (Kept.grown HK.out hg9.out (fun q9 e9 => by obtain rfl := Option.some.inj e9; exact Or.inr (rfl)))
  replace HZS := sz HZS hz9.out
  replace Hp := hx9
  clear hx9 hg9 hz9
  replace Hp := Lib.hid Hp.out.wset
  replace HW := Lib.hid (HW.out.sa (z := a2))
  go_wp2_with fail
  clear hq11 f11_p
  clear hcT g1 g2
  have g1 := bits_xor d1 a2
  obtain ⟨zd2, e0⟩ : ∃ z, d1 ^^^ a2 = z := ⟨_, rfl⟩
  rw [e0] at g1
  obtain ⟨d2, e1⟩ : ∃ z, rotB zd2 8 = z := ⟨_, rfl⟩
  have HT := Lib.hid (fun w => turn_any zd2 8 (by omega) w)
  rw [e1] at HT
  have Ezd2 := Lib.hid e0
  have Ed2 := Lib.hid e1
  clear e1 e0
  have hlp := Hp.out.lt
  have hcA := Hp.out.cell HW.out.ca
  have hcB := Hp.out.cell HW.out.cb
  have hcC := Hp.out.cell HW.out.cc
  have hcD := Hp.out.cell HW.out.cd
  refine wp_region_otail 10 (by kernel_rfl) (by kernel_rfl) ?_
  simp only [List.take_succ_cons, List.take_zero, List.drop_succ_cons, List.drop_zero]
  have hov_pb := fun (E : Over w11) o => E.cell (b := pb) o hlp
  repeat (go_big_quiet_step (first | (go_at_call 169; exact calls_over (HT.out _))))
  all_goals (try unfold elV limbV)
  repeat (go_big_quiet_step (first | (go_at_call 169; exact calls_over (HT.out _))))
  all_goals (try unfold elV limbV)
  repeat (go_big_quiet_step (first | (go_at_call 169; exact calls_over (HT.out _))))
  all_goals (try unfold ciphV)
  refine wpQuiet_nil ?_
  rintro _ ⟨E, rfl⟩
  clear hov_pb
  replace Hp := Lib.hid (Hp.out.up E.h)
  replace HK := Lib.hid (Kept.up HK.out E.h)
  replace HZS := sz HZS E.h.size
  obtain ⟨w12, hq9⟩ : ∃ W9 : World, E.w = W9 := ⟨_, rfl⟩
  rw [hq9] at Hp HK HZS ⊢
  clear hq9 E
  clear hcA hcB hcC hcD hlp
  have hcT := Hp.out.cell HW.out.cd
  have f13_p := Hp.out.frozen
  obtain ⟨w13, hq13, hg9, hz9, hx9⟩ := put1 Hp D (.int .u32 (d2.toNat : Int)) _ rfl
  replace HK := Lib.hid (Kept.grown HK.out hg9.out (fun q9 e9 => by obtain rfl := Option.some.inj e9; exact Or.inr (rfl)))
  replace HZS := sz HZS hz9.out
  replace Hp := hx9
  clear hx9 hg9 hz9
  replace Hp := Lib.hid Hp.out.wset
  replace HW := Lib.hid (HW.out.sd (z := d2))
  go_wp2_with fail
  clear hq13 f13_p
  clear hcT g1 HT
  have g2 := add32 c1 d2
  obtain ⟨c2, e1⟩ : ∃ z, c1 + d2 = z := ⟨_, rfl⟩
  rw [e1] at g2
  have Ec2 := Lib.hid e1
  clear e1
  have hlp := Hp.out.lt
  have hcA := Hp.out.cell HW.out.ca
  have hcB := Hp.out.cell HW.out.cb
  have hcC := Hp.out.cell HW.out.cc
  have hcD := Hp.out.cell HW.out.cd
  refine wp_region_otail 8 (by kernel_rfl) (by kernel_rfl) ?_
  simp only [List.take_succ_cons, List.take_zero, List.drop_succ_cons, List.drop_zero]
  have hov_pb := fun (E : Over w13) o => E.cell (b := pb) o hlp
  repeat (go_big_quiet_step (first | fail))
  all_goals (try unfold elV limbV)
  repeat (go_big_quiet_step (first | fail))
  all_goals (try unfold elV limbV)
  repeat (go_big_quiet_step (first | fail))
  all_goals (try unfold ciphV)
  refine wpQuiet_nil ?_
  rintro _ ⟨E, rfl⟩
  clear hov_pb
  replace Hp := Lib.hid (Hp.out.up E.h)
  replace HK := Lib.hid (Kept.up HK.out E.h)
  replace HZS := sz HZS E.h.size
  obtain ⟨w14, hq9⟩ : ∃ W9 : World, E.w = W9 := ⟨_, rfl⟩
  rw [hq9] at Hp HK HZS ⊢
  clear hq9 E
  clear hcA hcB hcC hcD hlp
  have hcT := Hp.out.cell HW.out.cc
  have f15_p := Hp.out.frozen
  obtain ⟨w15, hq15, hg9, hz9, hx9⟩ := put1 Hp C (.int .u32 (c2.toNat : Int)) _ rfl
  replace HK := Lib.hid (Kept.grown HK.out hg9.out (fun q9 e9 => by obtain rfl := Option.some.inj e9; exact Or.inr (rfl)))
  replace HZS := sz HZS hz9.out
  replace Hp := hx9
  clear hx9 hg9 hz9
  replace Hp := Lib.hid Hp.out.wset
  replace HW := Lib.hid (HW.out.sc (z := c2))
  go_wp2_with fail
  clear hq15 f15_p
  clear hcT g2
  have g1 := bits_xor b1 c2
  obtain ⟨zb2, e0⟩ : ∃ z, b1 ^^^ c2 = z := ⟨_, rfl⟩
  rw [e0] at g1
  obtain ⟨b2, e1⟩ : ∃ z, rotB zb2 7 = z := ⟨_, rfl⟩
  have HT := Lib.hid (fun w => turn_any zb2 7 (by omega) w)
  rw [e1] at HT
  have Ezb2 := Lib.hid e0
  have Eb2 := Lib.hid e1
  clear e1 e0
  have hlp := Hp.out.lt
  have hcA := Hp.out.cell HW.out.ca
  have hcB := Hp.out.cell HW.out.cb
  have hcC := Hp.out.cell HW.out.cc
  have hcD := Hp.out.cell HW.out.cd
  refine wp_region_otail 10 (by kernel_rfl) (by kernel_rfl) ?_
  simp only [List.take_succ_cons, List.take_zero, List.drop_succ_cons, List.drop_zero]
  have hov_pb := fun (E : Over w15) o => E.cell (b := pb) o hlp
  repeat (go_big_quiet_step (first | (go_at_call 169; exact calls_over (HT.out _))))
  all_goals (try unfold elV limbV)
  repeat (go_big_quiet_step (first | (go_at_call 169; exact calls_over (HT.out _))))
  all_goals (try unfold elV limbV)
  repeat (go_big_quiet_step (first | (go_at_call 169; exact calls_over (HT.out _))))
  all_goals (try unfold ciphV)
  refine wpQuiet_nil ?_
  rintro _ ⟨E, rfl⟩
  clear hov_pb
  replace Hp := Lib.hid (Hp.out.up E.h)
  replace HK := Lib.hid (Kept.up HK.out E.h)
  replace HZS := sz HZS E.h.size
  obtain ⟨w16, hq9⟩ : ∃ W9 : World, E.w = W9 := ⟨_, rfl⟩
  rw [hq9] at Hp HK HZS ⊢
  clear hq9 E
  clear hcA hcB hcC hcD hlp
  have hcT := Hp.out.cell HW.out.cb
  have f17_p := Hp.out.frozen
  obtain ⟨w17, hq17, hg9, hz9, hx9⟩ := put1 Hp B (.int .u32 (b2.toNat : Int)) _ rfl
  replace HK := Lib.hid (Kept.grown HK.out hg9.out (fun q9 e9 => by obtain rfl := Option.some.inj e9; exact Or.inr (rfl)))
  replace HZS := sz HZS hz9.out
  replace Hp := hx9
  clear hx9 hg9 hz9
  replace Hp := Lib.hid Hp.out.wset
  replace HW := Lib.hid (HW.out.sb (z := b2))
  go_wp2_with fail
  clear hq17 f17_p
  clear hcT g1 HT
  go_end0
  have h := HQ.out
  rw [BitVec.add_assoc a b x, Eza1.out, Ea1.out, Ezd1.out, Ed1.out, Ec1.out, Ezb1.out, Eb1.out, BitVec.add_assoc a1 b1 y, Eza2.out, Ea2.out, Ezd2.out, Ed2.out, Ec2.out, Ezb2.out, Eb2.out] at h
  exact ⟨rfl, h ▸ Hp.out, HK.out⟩
end Go.Proofs.Ytdlnnkbigeiilaa

/- Several elements are appended at once to a row of one's own. No condition beyond those that each fact names. -/
namespace Go.Proofs.Ytdlnnkbigeiilaa
open Go.RowKit

/-- 'out = append(out, x1, .., xm)': they have just been laid into a block of their own. -/
theorem wpList_pushM {P : Program} (N : Nat) (w0 : World) (hN : N ≤ w0.heap.size) {ops : Array Oper} {rest : List Oper} {o : Oper} {a : Act} {Q : Exit → Act → World → Prop} (hgd : o.guard = none) (s x : Operand) (t : TypeId)
    (ho : o.op = .call { callee := .builtin .append, args := #[s, x], argTypes := #[t, t] })
    (e : TypeId) (i : TypeInfo) (z : Value) (size bytes m : Nat) (ht : P.underlying t = some (.slice e)) (hi : P.info? e = some i) (hz : i.zero = some z)
    (hsize : i.size = size) (hby : i.bytes = bytes) (hzs : z.cells.size = size) (hsz : 0 < size) (hm : 0 < m)
    (v : Value) (n : Nat) (xs : List Value) (hs : a.eval s = v) (hown : RowO N w0 e size v n xs)
    (news : Array Value) (e2 : TypeId) (b : Nat) (hb : w0.heap.size = b) (hx : a.eval x = .slice (some ⟨b, 0, none⟩) m m) (hl : news.size = m * size) (h1 : ∀ u ∈ news.toList, u.oneCell' = true)
    (h63 : (n + m) * bytes ≤ 140737488355328) (hn : n + m ≤ maxLen)
    (h : ∀ g cap w', RowO N w' e size (.slice (some ⟨g, 0, none⟩) (n + m) cap) (n + m) (xs ++ news.toList) → w0.grownBy w' v.ownBlock → wpList P ops Q rest (a.put o.dst (.slice (some ⟨g, 0, none⟩) (n + m) cap)) w') :
    wpList P ops Q (o :: rest) a (w0.alloc (.cells news e2)) := by
  subst hb
  refine wpList_append_lies _ hgd s x t ho N e i z size bytes ht hi hz hsize hby hzs hsz v n xs hs (World.ownsRow.alloc hown _) ⟨w0.heap.size, 0, none⟩ m m news.toList hx (by simpa using hl)
    (World.news_of_block (heap_alloc_new w0 _)) h1 hm hn h63 (by simp; omega) _ rfl ?_
  intro g cap w' hown' hg _ _
  refine h g cap w' hown' ⟨hg.os, hg.tape, hg.output, ?_, ?_⟩
  · have := hg.size; simp at this; omega
  · intro k hk hne
    rw [hg.block k (by simp; omega) hne]
    exact Below.heap_alloc _ _ _ hk
end Go.Proofs.Ytdlnnkbigeiilaa

/- Arrays in boxes: read whole, stored whole, in the midst of a box; text copied into a box. No condition beyond those that each fact names. -/
namespace Go.Proofs.Ytdlnnkbigeiilaa
open Go.RowKit

def putL (cs : List Value) (o : Nat) : List Value → List Value
  | [] => cs
  | v :: vs => putL (cs.set o v) (o + 1) vs
theorem putL_eq : ∀ (vs cs : List Value) (o : Nat), o + vs.length ≤ cs.length → putL cs o vs = cs.take o ++ vs ++ cs.drop (o + vs.length)
  | [], cs, o, _ => by simp [putL]
  | v :: vs, cs, o, h => by
      rw [List.length_cons] at h
      rw [putL, putL_eq vs _ _ (by rw [List.length_set]; omega)]
      have h1 : (cs.set o v).take (o + 1) = cs.take o ++ [v] := by
        rw [List.take_succ_eq_append_getElem (by rw [List.length_set]; omega), List.take_set_of_le (Nat.le_refl _), List.getElem_set_self]
      have h2 : (cs.set o v).drop (o + 1 + vs.length) = cs.drop (o + (v :: vs).length) := by
        rw [List.drop_set_of_lt (by omega), List.length_cons, show o + 1 + vs.length = o + (vs.length + 1) by omega]
      rw [h1, h2]
      simp
theorem putL_all (cs vs : List Value) (h : vs.length = cs.length) : putL cs 0 vs = vs := by
  rw [putL_eq _ _ _ (by omega)]
  simp [h]
section
variable {W w0 w : World} {b o n : Nat} {t : TypeId} {cs vs : List Value} {P : Program}
theorem Bx.range (h : Bx W b t cs) : W.rangeAt b 0 cs := fun j v hv => by rw [Nat.zero_add]; exact h.cell hv
theorem Bx.part {as1 bs : List Value} (h : Bx W b t (as1 ++ (cs ++ bs))) (ho : as1.length = o) : W.rangeAt b o cs := fun j v hv => h.cell (by
  have hj := (List.getElem?_eq_some_iff.1 hv).1
  rw [List.getElem?_append_right (by omega), show o + j - as1.length = j by omega, List.getElem?_append_left hj, hv])
theorem Bx.there (h : Bx W b t cs) (hn : o + n ≤ cs.length) : W.there b o n := fun j hj => ⟨by rw [h.cell (List.getElem?_eq_getElem (show o + j < cs.length by omega))]; rfl, h.frozen _⟩
theorem Bx.put : ∀ (vs : List Value) {W : World} {cs : List Value} {o : Nat}, Bx W b t cs → Bx (W.setCells b o vs) b t (putL cs o vs)
  | [], _, _, _, h => h
  | v :: vs, _, _, _, h => Bx.put vs (h.set _ v)
theorem grown_put (b : Nat) : ∀ (vs : List Value) (W : World) (o : Nat), W.grownBy (W.setCells b o vs) (some b)
  | [], W, _ => ⟨rfl, rfl, rfl, Nat.le_refl _, fun _ _ _ => rfl⟩
  | v :: vs, W, o => (grown_set W b o v).trans (grown_put b vs _ _)
theorem size_put (b : Nat) : ∀ (vs : List Value) (W : World) (o : Nat), (W.setCells b o vs).heap.size = W.heap.size
  | [], _, _ => rfl
  | v :: vs, W, o => by
      show ((W.setCell ⟨b, o, none⟩ v).setCells b (o + 1) vs).heap.size = _
      rw [size_put b vs]
      simp [World.setCell]
/-- A box is stored into from o on. -/
theorem puts (h : Hid (Bx W b t cs)) (o : Nat) (vs cs' : List Value) (hc : putL cs o vs = cs') : ∃ W', W.setCells b o vs = W' ∧ Hid (W.grownBy W' (some b)) ∧ Hid (W'.heap.size = W.heap.size) ∧ Hid (Bx W' b t cs') :=
  ⟨_, rfl, Lib.hid (grown_put b vs W o), Lib.hid (size_put b vs W o), Lib.hid (hc ▸ h.out.put vs)⟩
theorem wp_store_new {op : Oper} {a : Act} {K : Act → World → Prop} {Q : Exit → Act → World → Prop} (ty t : TypeId) (x y : Operand) (ho : op.op = .store ty x y) (c c' : List Value)
    (hx : a.eval x = .pointer (some ⟨w.heap.size, 0, none⟩)) (hy : a.eval y = .agg c'.toArray) (hi : (P.info? ty).map (·.size) = some c'.length) (hc : c.length = c'.length) (h1 : ∀ v ∈ c', v.oneCell' = true)
    (h : K (a.put op.dst undef) (w.alloc (.cells c'.toArray t))) : op.wp P a (w.alloc (.cells c.toArray t)) K Q := by
  refine wp_store_mid ty x y ho w.heap.size 0 c'.toArray hx hy ?_ (by simpa using hi) (all_oneCell_toArray h1) ?_
  · have hb : Bx (w.alloc (.cells c.toArray t)) w.heap.size t c := Bx.new w t c _ rfl
    exact hb.there (by simp; omega)
  · have hb : Bx (w.alloc (.cells c.toArray t)) w.heap.size t c := Bx.new w t c _ rfl
    have e : (w.alloc (.cells c.toArray t)).setCells w.heap.size 0 c' = w.alloc (.cells c'.toArray t) := by
      have key : ∀ (vs c : List Value) (o : Nat), (w.alloc (.cells c.toArray t)).setCells w.heap.size o vs = w.alloc (.cells (putL c o vs).toArray t) := by
        intro vs
        induction vs with
        | nil => intro c o; rfl
        | cons v vs ih =>
          intro c o
          show ((w.alloc (.cells c.toArray t)).setCell ⟨w.heap.size, o, none⟩ v).setCells w.heap.size (o + 1) vs = _
          rw [World.setCell_alloc_at _ _ _ _ _ rfl]
          simp only [List.setIfInBounds_toArray]
          exact ih _ _
      rw [key, putL_all _ _ hc.symm]
    simp only
    rw [e]
    exact h
theorem wpList_store_new {ops : Array Oper} {rest : List Oper} {op : Oper} {a : Act} {Q : Exit → Act → World → Prop} (hgd : op.guard = none) (ty t : TypeId) (x y : Operand) (ho : op.op = .store ty x y) (c c' : List Value)
    (hx : a.eval x = .pointer (some ⟨w.heap.size, 0, none⟩)) (hy : a.eval y = .agg c'.toArray) (hi : (P.info? ty).map (·.size) = some c'.length) (hc : c.length = c'.length) (h1 : ∀ v ∈ c', v.oneCell' = true)
    (h : wpList P ops Q rest (a.put op.dst undef) (w.alloc (.cells c'.toArray t))) : wpList P ops Q (op :: rest) a (w.alloc (.cells c.toArray t)) :=
  wpList_plain hgd fun _ hK => wp_store_new ty t x y ho c c' hx hy hi hc h1 (hK _ _ h)
theorem grown_row {g : Nat} (w : World) (cs : Array Value) : w.grownBy (w.setRow g cs) (some g) :=
  ⟨rfl, rfl, rfl, by simp [World.setRow], fun k _ hk => setRow_other w g k cs (fun e => hk (by rw [e]))⟩
/-- Cells are copied out of a box into a box. -/
theorem wpList_copyB {ops : Array Oper} {rest : List Oper} {op : Oper} {a : Act} {Q : Exit → Act → World → Prop} (hgd : op.guard = none) (d s : Operand) (dT sT : TypeId)
    (ho : op.op = .call { callee := .builtin .copy, args := #[d, s], argTypes := #[dT, sT] }) (elem : TypeId) (hu : P.underlying dT = some (.slice elem)) (hsz : (P.info? elem).map (·.size) = some 1)
    (g off dLen dCap : Nat) (ad : Addr) (sLen sCap : Nat) (hd : a.eval d = .slice (some ⟨g, off, none⟩) dLen dCap) (hs : a.eval s = .slice (some ad) sLen sCap)
    (cur : List Value) (t : TypeId) (hg : Bx w g t cur) (cs : List Value) (hn : cs.length = Nat.min sLen dLen)
    (hsrc : ∀ j v, cs[j]? = some v → w.cell? (ad.add j) = some v) (hfit : off + cs.length ≤ cur.length) (h1 : ∀ v ∈ cs, v.oneCell' = true) (cs' : List Value) (hc : putL cur off cs = cs')
    (h : ∀ w', Hid (w.grownBy w' (some g)) → Hid (w'.heap.size = w.heap.size) → Hid (Bx w' g t cs') → wpList P ops Q rest (a.put op.dst (goInt cs.length)) w') : wpList P ops Q (op :: rest) a w := by
  refine wpList_copy_own hgd d s dT sT ho elem hu hsz g off dLen dCap ad sLen sCap hd hs cur.toArray t hg cs hn hsrc (by simpa using hfit) h1 ?_
  refine h _ (Lib.hid (grown_row _ _)) (Lib.hid (by simp [World.setRow])) (Lib.hid ?_)
  show (w.setRow g _).heap[g]? = _
  rw [setRow_heap w g _ _ t _ hg, ← hc, putL_eq _ _ _ hfit]
  simp
/-- A text's beginning is copied into a box. -/
theorem run_copy_str (w : World) (dT sT ty elem : TypeId) (g o dLen dCap : Nat) (s : ByteArray) (cur : Array Value) (t : TypeId)
    (hu : P.underlying dT = some (.slice elem)) (hs : (P.info? elem).map (·.size) = some 1) (hg : w.heap[g]? = some (.cells cur t (0, 0))) (hfit : o + dLen ≤ cur.size) :
    (Builtin.copy_ #[dT, sT] ty #[.slice (some ⟨g, o, none⟩) dLen dCap, .string s]).run P w =
      .ok (goInt (Nat.min s.size dLen)) (w.setRow g (cur.toList.take o ++ (Lib.byteCells s.data.toList).take dLen ++ cur.toList.drop (o + ((Lib.byteCells s.data.toList).take dLen).length)).toArray) := by
  have hlen : ((Lib.byteCells s.data.toList).take dLen).length = Nat.min s.size dLen := by
    rw [List.length_take, Lib.byteCells_length, ← Lib.size_eq, Nat.min_comm]
  have hst := run_storeCells_at P g o t ((Lib.byteCells s.data.toList).take dLen) 0 cur w hg (by rw [hlen]; have := Nat.min_le_right s.size dLen; simp only [Nat.add_zero]; exact Nat.le_trans (Nat.add_le_add_left this _) hfit) (fun v hv => Lib.byteCells_one _ v (List.mem_of_mem_take hv))
  have htk : List.take (Nat.min s.size dLen) (List.map (fun b : UInt8 => Value.int IntKind.u8 (b.toNat : Int)) s.data.toList) = (Lib.byteCells s.data.toList).take dLen := by
    unfold Lib.byteCells
    show List.take (min s.size dLen) _ = _
    rw [Nat.min_comm, ← List.take_take, List.take_of_length_le (i := s.size) (by rw [List.length_map, ← Lib.size_eq]; exact Nat.le_refl _)]
  simp only [Nat.add_zero] at hst
  cases hq : P.info? elem with
  | none => simp [hq] at hs
  | some i =>
    simp [Builtin.copy_, run_underlying hu, Builtin.lenOf, Builtin.firstCells, sizeOf, typeInfo, hq]
    rw [htk, hst]
    simp [Result.andThen]
/-- A text's beginning is copied into a box. -/
theorem wpList_copyS {ops : Array Oper} {rest : List Oper} {op : Oper} {a : Act} {Q : Exit → Act → World → Prop} (hgd : op.guard = none) (d s : Operand) (dT sT : TypeId)
    (ho : op.op = .call { callee := .builtin .copy, args := #[d, s], argTypes := #[dT, sT] }) (elem : TypeId) (hu : P.underlying dT = some (.slice elem)) (hsz : (P.info? elem).map (·.size) = some 1)
    (g off dLen dCap : Nat) (x : ByteArray) (hd : a.eval d = .slice (some ⟨g, off, none⟩) dLen dCap) (hs : a.eval s = .string x)
    (cur : List Value) (t : TypeId) (hg : Bx w g t cur) (hfit : off + dLen ≤ cur.length) (cs' : List Value) (hc : putL cur off ((Lib.byteCells x.data.toList).take dLen) = cs')
    (h : ∀ w', Hid (w.grownBy w' (some g)) → Hid (w'.heap.size = w.heap.size) → Hid (Bx w' g t cs') → wpList P ops Q rest (a.put op.dst (goInt (Nat.min x.size dLen))) w') : wpList P ops Q (op :: rest) a w := by
  refine wpList_plain hgd fun K hK => ?_
  have hrun := run_copy_str (P := P) w dT sT op.type elem g off dLen dCap x cur.toArray t hu hsz hg (by simpa using hfit)
  have hl : off + ((Lib.byteCells x.data.toList).take dLen).length ≤ cur.length := by rw [List.length_take]; have := Nat.min_le_left dLen (Lib.byteCells x.data.toList).length; omega
  unfold Oper.wp
  simp [execOp, ho, resolve, invoke, builtin, hd, hs, hrun, Result.andThen]
  refine hK _ _ (h _ (Lib.hid (grown_row _ _)) (Lib.hid (by simp [World.setRow])) (Lib.hid ?_))
  show (w.setRow g _).heap[g]? = _
  rw [setRow_heap w g _ _ t _ hg, ← hc, putL_eq _ _ _ hl]
  simp
/-- A piece of a box is cleared. -/
theorem wpList_clearB {ops : Array Oper} {rest : List Oper} {op : Oper} {a : Act} {Q : Exit → Act → World → Prop} (hgd : op.guard = none) (x : Operand) (T : TypeId)
    (ho : op.op = .call { callee := .builtin .clear, args := #[x], argTypes := #[T] }) (e : TypeId) (z : Value) (ht : P.underlying T = some (.slice e)) (hv : ∀ w, (zeroValue e).run P w = .ok z w) (hz : z.cells = #[z]) (h1 : z.oneCell' = true)
    (g off n c : Nat) (hx : a.eval x = .slice (some ⟨g, off, none⟩) n c) (cur : List Value) (t : TypeId) (hg : Bx w g t cur) (hfit : off + n ≤ cur.length) (cs' : List Value) (hc : putL cur off (List.replicate n z) = cs')
    (h : ∀ w', Hid (w.grownBy w' (some g)) → Hid (w'.heap.size = w.heap.size) → Hid (Bx w' g t cs') → wpList P ops Q rest (a.put op.dst (.tuple #[])) w') : wpList P ops Q (op :: rest) a w := by
  refine wpList_plain hgd fun K hK => ?_
  by_cases hn : n = 0
  · subst hn
    have hrun : (Builtin.clear_ #[T] op.type #[.slice (some ⟨g, off, none⟩) 0 c]).run P w = .ok (.tuple #[]) w := by simp [Builtin.clear_, run_underlying ht]
    unfold Oper.wp
    simp [execOp, ho, resolve, invoke, builtin, hx, hrun, Result.andThen]
    exact hK _ _ (h w (Lib.hid ⟨rfl, rfl, rfl, Nat.le_refl _, fun _ _ _ => rfl⟩) (Lib.hid rfl) (Lib.hid (hc ▸ hg)))
  · have hrun := Lib.run_clear_slice (P := P) w T e op.type z ht hv hz h1 g off n c (by omega) (fun j hj => (hg.there hfit j hj).1) (fun j hj => (hg.there hfit j hj).2)
    unfold Oper.wp
    simp [execOp, ho, resolve, invoke, builtin, hx, hrun, Result.andThen]
    exact hK _ _ (h _ (Lib.hid (grown_put g _ w off)) (Lib.hid (size_put g _ w off)) (Lib.hid (hc ▸ hg.put _)))
/-- A whole array is read in a region whose order is drawn. -/
theorem wpQuiet_load {ops : Array Oper} {C : World → Prop} {Q : Act → Prop} {rest : List Oper} {op : Oper} {a : Act} (hgd : op.guard = none) (ty : TypeId) (x : Operand) (ho : op.op = .load ty x)
    (b o : Nat) (hx : a.eval x = .pointer (some ⟨b, o, none⟩)) (cs : List Value) (d : TypeDesc) (hC : ∀ w, C w → w.rangeAt b o cs) (hu : P.underlying ty = some d) (hd : d.isRow = true) (hi : (P.info? ty).map (·.size) = some cs.length)
    (h : wpQuiet P ops C Q rest (a.put op.dst (.agg cs.toArray))) : wpQuiet P ops C Q (op :: rest) a := by
  refine BigFrame.wpQuiet_want (by simp [Region.wanted, hgd]) fun K hK => ⟨_, fun w hw => ?_, hK _ h⟩
  unfold Oper.quietAt execOp
  simp only [ho, hx, Instr.loadAt, Instr.sureAddr, Sem.run_bind, Sem.run_pure, Result.andThen_ok, run_loadVar_mid w b o ty cs d (hC w hw) hu hd hi]
  exact ⟨rfl, rfl⟩
end
theorem ret_arr {P : Program} {fn : Func} {R : Ending → World → Prop} {a : Act} {w : World} {p : Tmp} {ty : TypeId} (h : fn.results = #[.cell p ty]) {b : Nat} {t : TypeId} {cs : List Value} (hb : Bx w b t cs) (d : TypeDesc)
    (hp : a.tmps.getD p undef = .pointer (some ⟨b, 0, none⟩)) (hu : P.underlying ty = some d) (hd : d.isRow = true) (hi : (P.info? ty).map (·.size) = some cs.length) (ha : a.defers = []) (hR : R (.returned (.agg cs.toArray)) w) : bodyPost P fn R .ret a w :=
  bodyPost_ret (results_cell_row h a.tmps w b t cs.toArray (0, 0) d hp hb hu (by cases d <;> simp_all) (by simpa using hi)) ha hR
/-- A cell of an array in hand. -/
theorem run_index_arr {P : Program} (w : World) (t e : TypeId) (k : IntKind) (n : Nat) (cs : List Value) (i : Nat) (v : Value) (hv : cs[i]? = some v) (hu : P.underlying t = some (.array n e)) (hn : cs.length = n) (hs : (P.info? e).map (·.size) = some 1) (he : P.underlying e = some (.int k)) :
    (Instr.index t (.agg cs.toArray) (.int .i64 (i : Int))).run P w = .ok v w := by
  have hi : i < n := hn ▸ (List.getElem?_eq_some_iff.1 hv).1
  cases hq : P.info? e with
  | none => simp [hq] at hs
  | some inf =>
    have h1 : inf.size = 1 := by simpa [hq] using hs
    simp [Instr.index, asIntOf, run_underlying hu, hi, sizeOf, typeInfo, hq, h1, part, isAgg, run_underlying he, hv]
theorem wl_one (l : WL) : ∀ v ∈ wlV l, v.oneCell' = true := fun v hv => by
  unfold wlV at hv
  obtain ⟨x, _, rfl⟩ := List.mem_map.1 hv
  rfl
end Go.Proofs.Ytdlnnkbigeiilaa

/- The document's stir: digit, rows, four, right. No condition beyond those that each fact names. -/
namespace Go.Proofs.Ytdlnnkbigeiilaa
open Go.RowKit

theorem rot1_nat (x : BitVec 32) : ((rot1 x).toNat : Int) = (x.toNat : Int) / 2 + (x.toNat : Int) % 2 * 2147483648 := by
  have := x.isLt
  unfold rot1
  rw [BitVec.toNat_ofNat, Nat.mod_eq_of_lt (by omega)]
  omega
set_option maxHeartbeats 1000000 in
theorem right_any (x : BitVec 32) (n : Nat) (hn : n ≤ 16) (w : World) : Calls Try.prog 164 #[.int .u32 (x.toNat : Int), .int .i64 (n : Int)] w fun e w' => e = .returned (.int .u32 ((rotB x n).toNat : Int)) ∧ Below w.heap.size w w' := by
  have HR := Lib.hid (rotI_eq x n hn)
  go_enter Try.func164, Try.ntmps164
  go_wp2_with fail
  go_loop [0, 5] (fun v c => ∃ j : Nat, j ≤ n ∧ c = .int .i64 j ∧ v = .int .u32 ((rotI j x).toNat : Int)) (fun _ c => n - (intOf c).toNat)
  case atStart => exact ⟨0, by omega, rfl, rfl⟩
  case round =>
    obtain ⟨j, hj, rfl, rfl⟩ := hrel
    by_cases hjn : j < n
    · have hr := rot1_nat (rotI j x)
      have HS := Lib.hid (show rotI (j + 1) x = rot1 (rotI j x) from rfl)
      generalize rot1 (rotI j x) = z at *
      generalize rotI j x = y at *
      have hy := y.isLt
      have HRN := Lib.hid hr
      clear hr
      go_wp2_with fail
      go_round
      case rel => exact ⟨j + 1, by omega, by go_num, by rw [HS.out, HRN.out]⟩
      case measure => simp [intOf]; omega
    · have hjn' : j = n := by omega
      subst hjn'
      go_wp2_with fail
      go_ret
      exact ⟨by rw [HR.out]; rfl, Below.refl _ _⟩
def hexN (d : Nat) : Nat := if d < 10 then 48 + d else 87 + d
def hexB : ByteArray := ⟨#[48, 49, 50, 51, 52, 53, 54, 55, 56, 57, 97, 98, 99, 100, 101, 102]⟩
theorem hex_tab : ∀ k : Fin 16, (hexB.data.getD k.1 0).toNat = hexN k.1 := by decide +kernel
theorem hex_at (i : Nat) (h : i < hexB.size) : (hexB[i].toNat : Int) = (hexN i : Int) := by
  rw [← hex_tab ⟨i, h⟩]
  congr 2
  unfold Array.getD
  exact (dif_pos h).symm
theorem hexN_inj {i d : Nat} (hi : i < 16) (hd : d < 16) (h : hexN i = hexN d) : i = d := by unfold hexN at h; split at h <;> split at h <;> omega
set_option maxRecDepth 100000 in
set_option maxHeartbeats 1000000 in
theorem digit_any (d : Nat) (hd : d < 16) (w : World) : Calls Try.prog 172 #[.int .u8 (hexN d : Int)] w fun e w' => e = .returned (.int .i64 (d : Int)) ∧ Below w.heap.size w w' := by
  have HI := Lib.hid (fun (i : Nat) (hi : i < 16) => hexN_inj (d := d) hi hd)
  obtain ⟨c, hc⟩ : ∃ c, hexN d = c := ⟨_, rfl⟩
  have HC := Lib.hid hc
  rw [hc] at HI ⊢
  clear hc
  go_enter Try.func172, Try.ntmps172
  go_wp2_with fail
  go_loop [3] (fun v => ∃ j : Nat, j ≤ d ∧ v = .int .i64 j) (fun v => d - (intOf v).toNat)
  case atStart => exact ⟨0, by omega, rfl⟩
  case round =>
    obtain ⟨j, hj, rfl⟩ := hrel
    have hj6 : j < 16 := by omega
    have hb := hex_at j hj6
    unfold hexB at hb
    by_cases hjd : j = d
    · have hcj : ((hexN j : Int) == (c : Int)) = true := by rw [hjd, HC.out]; simp
      subst hjd
      clear HC
      go_wp2_with fail
      go_ret
      exact ⟨rfl, Below.refl _ _⟩
    · have hcj : ((hexN j : Int) == (c : Int)) = false := by
        rw [beq_eq_false_iff_ne]
        intro e
        exact hjd (HI.out j hj6 (by omega))
      have hjd2 : j < d := by omega
      clear hjd
      go_wp2_with fail
      exact ⟨⟨j + 1, by omega, by go_num⟩, by simp [intOf]; omega⟩
def rowB (r : Nat) : ByteArray := ⟨((List.range 16).map fun i => UInt8.ofNat (hexN (ordN r i))).toArray⟩
def rowsV : List Value := (List.range 10).map fun r => .string (rowB r)
set_option maxRecDepth 100000 in
set_option maxHeartbeats 1000000 in
theorem rows_any (w : World) : Calls Try.prog 170 #[] w fun e w' => ∃ b, e = .returned (.slice (some ⟨b, 0, none⟩) 10 10) ∧ Bx w' b 9 rowsV ∧ w.heap.size ≤ b ∧ Below w.heap.size w w' := by
  go_enter Try.func170, Try.ntmps170
  go_wp2_with fail
  go_ret
  refine ⟨_, rfl, Bx.new w _ rowsV _ ?_, Nat.le_refl _, (Below.refl _ _).alloc (Nat.le_refl _) _⟩
  kernel_rfl
def quad (i : Nat) : List Value := [.int .i64 (cA i : Int), .int .i64 (cB i : Int), .int .i64 (cC i : Int), .int .i64 (cD i : Int)]
def quads : List Value := (List.range 8).flatMap quad
theorem quads_at : ∀ (i : Fin 8) (k : Fin 4), quads[i.1 * 4 + k.1]? = (quad i.1)[k.1]? := by
  intro i k
  have h := flat_at quad 4 (fun _ => rfl) (List.range 8) i.1 k.1 (by simp) k.2
  rw [List.getElem_range] at h
  exact h
theorem infoQ : (Try.prog.info? 247).map (·.size) = some 32 := by kernel_rfl
set_option maxRecDepth 100000 in
set_option maxHeartbeats 4000000 in
theorem rfour_any (i : Nat) (hi : i < 8) (w : World) : Calls Try.prog 171 #[.int .i64 (i : Int)] w fun e w' => e = .returned (.agg #[.int .i64 (cA i : Int), .int .i64 (cB i : Int), .int .i64 (cC i : Int), .int .i64 (cD i : Int)]) ∧ Below w.heap.size w w' := by
  have q0 := quads_at ⟨i, hi⟩ 0
  have q1 := quads_at ⟨i, hi⟩ 1
  have q2 := quads_at ⟨i, hi⟩ 2
  have q3 := quads_at ⟨i, hi⟩ 3
  have HQ0 := Lib.hid (show quads[i * 4]? = some (.int .i64 (cA i : Int)) from q0)
  have HQ1 := Lib.hid (show quads[i * 4 + 1]? = some (.int .i64 (cB i : Int)) from q1)
  have HQ2 := Lib.hid (show quads[i * 4 + 2]? = some (.int .i64 (cC i : Int)) from q2)
  have HQ3 := Lib.hid (show quads[i * 4 + 3]? = some (.int .i64 (cD i : Int)) from q3)
  clear q0 q1 q2 q3
  generalize cA i = A at *
  generalize cB i = B at *
  generalize cC i = C at *
  generalize cD i = D at *
  go_enter Try.func171, Try.ntmps171
  go_upto_region 1 with (fail)
  obtain ⟨w1, hq1, hb9, hz9, Hr⟩ := new1 w 244 [.int .i64 0, .int .i64 0, .int .i64 0, .int .i64 0]
  rw [hq1]
  clear hq1
  have HB := Lib.hid hb9
  have HZS := hz9
  clear hb9 hz9
  have r_ := Hr.out.c4
  go_upto_region 2 with (refine wpList_store_new rfl 247 247 (.tmp 3) (.tmp 12) rfl (List.replicate 32 (.int .i64 0)) quads rfl rfl infoQ rfl (by decide) ?_)
  clear r_
  obtain ⟨w2, hq2, hb9, hz9, Hq⟩ := new1 w1 247 (quads)
  rw [hq2]
  clear hq2
  replace Hr := Lib.hid (Hr.out.up hb9)
  replace HB := hbu HB hb9
  replace HZS := sz HZS hz9.out
  clear hb9 hz9
  have r_ := Hr.out.c4
  have c0 := Hq.out.cell HQ0.out
  have c1 := Hq.out.cell HQ1.out
  have c2 := Hq.out.cell HQ2.out
  have c3 := Hq.out.cell HQ3.out
  have a1 : (0 : Int) ≤ (i : Int) := by omega
  have a2 : (i : Int) < 8 := by omega
  have f3_r := Hr.out.frozen
  have o3_r_ := r_; clear r_
  obtain ⟨w3, hq3, hg9, hz9, hx9⟩ := put4 Hr 0 (.int .i64 (A : Int)) 1 (.int .i64 (B : Int)) 2 (.int .i64 (C : Int)) 3 (.int .i64 (D : Int)) [.int .i64 (A : Int), .int .i64 (B : Int), .int .i64 (C : Int), .int .i64 (D : Int)] rfl
  replace Hq := Lib.hid (Hq.out.grown hg9.out (sne (by have g0 := HZS.out; omega)))
  replace HB := hbg HB hg9 (by have g0 := HZS.out; omega)
  replace HZS := sz HZS hz9.out
  replace Hr := hx9
  clear hx9 hg9 hz9
  have r_ := Hr.out.c4
  go_wp2_with fail
  clear hq3 o3_r_ f3_r
  simp [bodyPost, results, Try.results171, go_sem, r_]
  exact HB.out
end Go.Proofs.Ytdlnnkbigeiilaa
