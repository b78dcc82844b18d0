/- Limbs: plus, minus, cmp. No condition. -/
import Derived.Test.YtdmldnpadojflaaOrd
import Derived.Test.YtdmldnpadojflaaLimbPlain
import Derived.Test.YtdmldnpadojflaaShelf
import Derived.Shelf.Spec.BitsCarry
import Derived.BigRegion
namespace Go.Proofs.Ytdmldnpadojflaa
open Go.RowKit

theorem add64 (x y c : Int) (hx : 0 ≤ x) (hy : 0 ≤ y) (hc0 : 0 ≤ c) (hc : c ≤ 1) (w : World) : (callFunc 131 #[.int .u64 x, .int .u64 y, .int .u64 c]).run Try.prog w =
    .ok (.value (.tuple #[.int .u64 ((x + y + c) % 18446744073709551616), .int .u64 ((x + y + c) / 18446744073709551616)])) w := by
  obtain ⟨x, rfl⟩ := Int.eq_ofNat_of_zero_le hx
  obtain ⟨y, rfl⟩ := Int.eq_ofNat_of_zero_le hy
  obtain ⟨c, rfl⟩ := Int.eq_ofNat_of_zero_le hc0
  rw [run_callFunc_extern Try.func131 (by kernel_rfl) (by kernel_rfl) (by kernel_rfl) (e := add64Entry) (by kernel_rfl), run_add64 x y c (by omega) (by omega) (by omega) (by omega)]
  rfl

theorem sub64 (x y b : Nat) (hb : b ≤ 1) (w : World) : (callFunc 127 #[.int .u64 x, .int .u64 y, .int .u64 b]).run Try.prog w =
    .ok (.value (.tuple #[.int .u64 (((x + 18446744073709551616 - y - b) % 18446744073709551616 : Nat) : Int), .int .u64 ((if x < y + b then 1 else 0 : Nat) : Int)])) w := by
  rw [run_callFunc_extern Try.func127 (by kernel_rfl) (by kernel_rfl) (by kernel_rfl) (e := sub64Entry) (by kernel_rfl), run_sub64 x y b hb]
  rfl

/-- A block of 64-bit words. -/
def Blk (W : World) (b : Nat) (t : TypeId) (xs : List Int) : Prop := W.heap[b]? = some (.cells (xs.map (Value.int .u64)).toArray t (0, 0))

section
variable {W W' : World} {b c i n : Nat} {t : TypeId} {xs : List Int} {x : Int} {v : Value}
theorem Blk.lt (h : Blk W b t xs) : b < W.heap.size := (Array.getElem?_eq_some_iff.1 h).1
theorem Blk.cell (h : Blk W b t xs) (hx : xs[i]? = some x) : W.cell? ⟨b, i, none⟩ = some (.int .u64 x) := by
  simp [World.cell?, show W.heap[b]? = _ from h, hx]
theorem Blk.frozen (h : Blk W b t xs) (i : Nat) : W.frozen? ⟨b, i, none⟩ = false := by
  simp [World.frozen?, show W.heap[b]? = _ from h]
theorem Blk.below (h : Blk W b t xs) (hb : Below n W W') (hn : b < n) : Blk W' b t xs := (hb.block b hn).trans h
theorem Blk.alloc (h : Blk W b t xs) (o : Obj) : Blk (W.alloc o) b t xs := (Below.heap_alloc W o b h.lt).trans h
theorem Blk.new (W : World) (t : TypeId) (xs : List Int) (cs : Array Value) (hcs : cs = (xs.map (Value.int .u64)).toArray) : Blk (W.alloc (.cells cs t)) W.heap.size t xs := by
  subst hcs; exact heap_alloc_new W _
theorem Blk.set (h : Blk W b t xs) (i : Nat) (x : Int) : Blk (W.setCell ⟨b, i, none⟩ (.int .u64 x)) b t (xs.set i x) := by
  obtain ⟨hlt, hk⟩ := Array.getElem?_eq_some_iff.1 h
  show (W.heap.modify b _)[b]? = _
  rw [Array.getElem?_eq_getElem (by rw [Array.size_modify]; exact hlt), Array.getElem_modify_self, hk]
  simp [List.map_set]
theorem Blk.other (h : Blk W b t xs) (hne : b ≠ c) (i : Nat) (v : Value) : Blk (W.setCell ⟨c, i, none⟩ v) b t xs := (Below.heap_setCell W ⟨c, i, none⟩ v b hne).trans h
end

/-- A number below 2^256 as a value. -/
def limbV (n : Nat) : Value := .agg #[.int .u64 (dig n 0 : Int), .int .u64 (dig n 1 : Int), .int .u64 (dig n 2 : Int), .int .u64 (dig n 3 : Int)]

theorem grownBy_refl_set (W : World) (b i : Nat) (v : Value) : W.grownBy (W.drew.setCell ⟨b, i, none⟩ v) (some b) :=
  ⟨rfl, rfl, rfl, by show W.heap.size ≤ (W.heap.modify _ _).size; rw [Array.size_modify]; exact Nat.le_refl _, fun k _ hk => Below.heap_setCell W.drew ⟨b, i, none⟩ v k (fun e => hk (by rw [e]))⟩

set_option maxHeartbeats 1000000 in
theorem plus_any (a b : Nat) (w : World) : Calls Try.prog 129 #[limbV a, limbV b] w fun e w' => e = .returned (limbV (a + b)) ∧ Below w.heap.size w w' := by
  unfold limbV
  go_enter Try.func129, Try.ntmps129
  go_wp2_with fail
  generalize hW0 : ((w.alloc (.cells #[.int .u64 (dig a 0 : Int), .int .u64 (dig a 1 : Int), .int .u64 (dig a 2 : Int), .int .u64 (dig a 3 : Int)] 76)).alloc (.cells #[.int .u64 (dig b 0 : Int), .int .u64 (dig b 1 : Int), .int .u64 (dig b 2 : Int), .int .u64 (dig b 3 : Int)] 76)).alloc (.cells #[.int .u64 0, .int .u64 0, .int .u64 0, .int .u64 0] 76) = W0 at *
  have hA : Blk W0 w.heap.size 76 (lim a) := by rw [← hW0]; exact ((Blk.new w _ (lim a) _ rfl).alloc _).alloc _
  have hB : Blk W0 (w.heap.size + 1) 76 (lim b) := by
    rw [← hW0]
    have h := (Blk.new (w.alloc (.cells #[.int .u64 (dig a 0 : Int), .int .u64 (dig a 1 : Int), .int .u64 (dig a 2 : Int), .int .u64 (dig a 3 : Int)] 76)) 76 (lim b) _ rfl).alloc (.cells #[.int .u64 0, .int .u64 0, .int .u64 0, .int .u64 0] 76)
    rwa [World.size_alloc] at h
  have hC : Blk W0 (w.heap.size + 2) 76 (limTo (a + b) 0) := by
    rw [← hW0]
    have h := Blk.new ((w.alloc (.cells #[.int .u64 (dig a 0 : Int), .int .u64 (dig a 1 : Int), .int .u64 (dig a 2 : Int), .int .u64 (dig a 3 : Int)] 76)).alloc (.cells #[.int .u64 (dig b 0 : Int), .int .u64 (dig b 1 : Int), .int .u64 (dig b 2 : Int), .int .u64 (dig b 3 : Int)] 76)) 76 [0, 0, 0, 0] _ rfl
    rw [World.size_alloc, World.size_alloc] at h
    exact h
  have hBW : Below w.heap.size w W0 := by rw [← hW0]; exact (((Below.refl _ _).alloc (Nat.le_refl _) _).alloc (by simp) _).alloc (by simp; omega) _
  clear hW0
  go_loopw [5, 7] (fun c i wr => ∃ j : Nat, j ≤ 4 ∧ i = .int .i64 j ∧ c = .int .u64 (carry a b j : Int) ∧ Blk wr (w.heap.size + 2) 76 (limTo (a + b) j) ∧ Below (w.heap.size + 2) W0 wr) (fun _ i _ => 4 - (intOf i).toNat)
  case atStart => exact ⟨0, Nat.zero_le _, rfl, by simp [carry_zero], hC, Below.refl _ _⟩
  case round =>
    obtain ⟨j, hj, rfl, rfl, hc, hb⟩ := hrel
    by_cases hjl : j < 4
    · have hxa := (hA.below hb (by omega)).cell (lim_at a j hjl)
      have hxb := (hB.below hb (by omega)).cell (lim_at b j hjl)
      have hlen : j < (limTo (a + b) j).length := by simp [limTo]; omega
      have hxc := hc.cell (List.getElem?_eq_getElem hlen)
      have hfc := hc.frozen j
      have hcall : ∀ W, (callFunc 131 #[.int .u64 (dig a j : Int), .int .u64 (dig b j : Int), .int .u64 (carry a b j : Int)]).run Try.prog W = .ok (.value (.tuple #[.int .u64 (dig (a + b) j : Int), .int .u64 (carry a b (j + 1) : Int)])) W := by
        intro W
        rw [add64 _ _ _ (by omega) (by omega) (by omega) (by have := carry_le a b j; omega), ← plus_dig a b j, ← plus_carry a b j]
        simp [BB]
      have hset := hc.set j (dig (a + b) j : Int)
      rw [limTo_set _ _ hjl] at hset
      have HSET := Lib.hid hset
      have HB := Lib.hid hb
      have hsz := hb.size
      have hsz2 := hC.lt
      clear hset hb hc
      generalize (limTo (a + b) j)[j] = old at hxc
      generalize dig a j = x at *
      generalize dig b j = y at *
      generalize dig (a + b) j = z at *
      generalize carry a b j = c at *
      generalize hc' : carry a b (j + 1) = c' at *
      have HC' := Lib.hid hc'
      clear hc'
      go_wp2_with fail
      refine wp_region_flat (fun w' => ∃ E : But wr (some (w.heap.size + 2)), w' = E.w) [(0, true), (1, true), (2, true), (3, true), (4, true), (5, true), (6, true), (7, true), (8, false), (9, true), (10, true), (11, true), (12, true), (13, false), (14, true)] (by kernel_rfl) (by kernel_rfl) (fun _ _ d _ _ h => by cases d <;> exact h) (but_of (grownBy_drew (grownBy_refl _ _))) ?_
      have hov := fun (E : But wr (some (w.heap.size + 2))) o => E.cell (b := w.heap.size) o (by omega) (by simp)
      have hov2 := fun (E : But wr (some (w.heap.size + 2))) o => E.cell (b := w.heap.size + 1) o (by omega) (by simp)
      repeat (refine flat_q rfl rfl ?_; go_big_quiet_step (fail); refine wpQuiet_nil ?_)
      refine flat_a rfl (fun K hK => ?_)
      go_simp
      refine hK _ _ ⟨but_of (grownBy_drew (grownBy_refl _ _)), ?_⟩
      clear hK K
      repeat (refine flat_q rfl rfl ?_; go_big_quiet_step (fail); refine wpQuiet_nil ?_)
      refine flat_a rfl (fun K hK => ?_)
      go_simp
      refine hK _ _ ⟨but_of (grownBy_refl_set _ _ _ _), ?_⟩
      clear hK K
      refine flat_q rfl rfl ?_
      go_big_quiet_step (fail)
      refine wpQuiet_nil ?_
      refine flat_end ?_
      go_wp2_with fail
      go_roundw
      case rel => exact ⟨j + 1, by omega, by go_num, by rw [HC'.out], HSET.out, by have h := HB.out; exact (h.drew).setCell (by simp) _⟩
      case measure => simp [intOf]; omega
    · have hj4 : j = 4 := by omega
      subst hj4
      have hx0 := hc.cell (i := 0) (x := (dig (a + b) 0 : Int)) rfl
      have hx1 := hc.cell (i := 1) (x := (dig (a + b) 1 : Int)) rfl
      have hx2 := hc.cell (i := 2) (x := (dig (a + b) 2 : Int)) rfl
      have hx3 := hc.cell (i := 3) (x := (dig (a + b) 3 : Int)) rfl
      have hf0 := hc.frozen 0
      have hf1 := hc.frozen 1
      have hf2 := hc.frozen 2
      have hf3 := hc.frozen 3
      have HB := Lib.hid (hBW.trans (hb.mono (by omega)))
      clear hb hA hB hC hBW
      have hset : Blk ((((wr.setCell ⟨w.heap.size + 1 + 1, 0, none⟩ (.int .u64 (dig (a + b) 0 : Int))).setCell ⟨w.heap.size + 1 + 1, 1, none⟩ (.int .u64 (dig (a + b) 1 : Int))).setCell ⟨w.heap.size + 1 + 1, 2, none⟩ (.int .u64 (dig (a + b) 2 : Int))).setCell ⟨w.heap.size + 1 + 1, 3, none⟩ (.int .u64 (dig (a + b) 3 : Int))) (w.heap.size + 1 + 1) 76 (lim (a + b)) := ((((hc.set 0 _).set 1 _).set 2 _).set 3 _)
      have HB5 : Hid (Below w.heap.size w ((((wr.setCell ⟨w.heap.size + 1 + 1, 0, none⟩ (.int .u64 (dig (a + b) 0 : Int))).setCell ⟨w.heap.size + 1 + 1, 1, none⟩ (.int .u64 (dig (a + b) 1 : Int))).setCell ⟨w.heap.size + 1 + 1, 2, none⟩ (.int .u64 (dig (a + b) 2 : Int))).setCell ⟨w.heap.size + 1 + 1, 3, none⟩ (.int .u64 (dig (a + b) 3 : Int)))) := (((HB.out.setCell (by simp; omega) _).setCell (by simp; omega) _).setCell (by simp; omega) _).setCell (by simp; omega) _
      have HSET := Lib.hid hset
      clear hset hc
      go_wp2_with fail
      generalize (((wr.setCell ⟨w.heap.size + 1 + 1, 0, none⟩ (.int .u64 (dig (a + b) 0 : Int))).setCell ⟨w.heap.size + 1 + 1, 1, none⟩ (.int .u64 (dig (a + b) 1 : Int))).setCell ⟨w.heap.size + 1 + 1, 2, none⟩ (.int .u64 (dig (a + b) 2 : Int))).setCell ⟨w.heap.size + 1 + 1, 3, none⟩ (.int .u64 (dig (a + b) 3 : Int)) = w5 at *
      clear hx0 hx1 hx2 hx3
      have hx0 := HSET.out.cell (i := 0) (x := (dig (a + b) 0 : Int)) rfl
      have hx1 := HSET.out.cell (i := 1) (x := (dig (a + b) 1 : Int)) rfl
      have hx2 := HSET.out.cell (i := 2) (x := (dig (a + b) 2 : Int)) rfl
      have hx3 := HSET.out.cell (i := 3) (x := (dig (a + b) 3 : Int)) rfl
      simp [bodyPost, results, Try.results129, go_sem, hx0, hx1, hx2, hx3]
      exact HB5.out

theorem Blk.fill {W : World} {b : Nat} {t : TypeId} {xs : List Int} (h : Blk W b t xs) (hl : xs.length = 4) (n : Nat) : Blk (((((W).setCell ⟨b, 0, none⟩ (.int .u64 (dig (n) 0 : Int))).setCell ⟨b, 1, none⟩ (.int .u64 (dig (n) 1 : Int))).setCell ⟨b, 2, none⟩ (.int .u64 (dig (n) 2 : Int))).setCell ⟨b, 3, none⟩ (.int .u64 (dig (n) 3 : Int))) b t (lim n) := by
  obtain ⟨x0, x1, x2, x3, rfl⟩ : ∃ x0 x1 x2 x3, xs = [x0, x1, x2, x3] := by
    match xs, hl with
    | [a, b, c, d], _ => exact ⟨a, b, c, d, rfl⟩
  exact (((h.set 0 _).set 1 _).set 2 _).set 3 _
theorem below_fill {w W : World} {m b n : Nat} (h : Below m w W) (hb : m ≤ b) : Below m w (((((W).setCell ⟨b, 0, none⟩ (.int .u64 (dig (n) 0 : Int))).setCell ⟨b, 1, none⟩ (.int .u64 (dig (n) 1 : Int))).setCell ⟨b, 2, none⟩ (.int .u64 (dig (n) 2 : Int))).setCell ⟨b, 3, none⟩ (.int .u64 (dig (n) 3 : Int))) :=
  (((h.setCell (p := ⟨b, 0, none⟩) hb _).setCell (p := ⟨b, 1, none⟩) hb _).setCell (p := ⟨b, 2, none⟩) hb _).setCell (p := ⟨b, 3, none⟩) hb _

set_option maxHeartbeats 1000000 in
theorem minus_any (a b : Nat) (hb4 : b < BB ^ 4) (w : World) : Calls Try.prog 109 #[limbV a, limbV b] w fun e w' => e = .returned (.tuple #[limbV (sub256 a b), .int .u64 (under a b 4 : Int)]) ∧ Below w.heap.size w w' := by
  have HB4 := Lib.hid hb4
  clear hb4
  unfold limbV
  go_enter Try.func109, Try.ntmps109
  go_wp2_with fail
  generalize hW0 : ((w.alloc (Obj.cells #[.int .u64 (dig (a) 0 : Int), .int .u64 (dig (a) 1 : Int), .int .u64 (dig (a) 2 : Int), .int .u64 (dig (a) 3 : Int)] 76)).alloc (Obj.cells #[.int .u64 (dig (b) 0 : Int), .int .u64 (dig (b) 1 : Int), .int .u64 (dig (b) 2 : Int), .int .u64 (dig (b) 3 : Int)] 76)).alloc (Obj.cells #[.int .u64 0, .int .u64 0, .int .u64 0, .int .u64 0] 76) = W0 at *
  have hA : Blk W0 w.heap.size 76 (lim a) := by rw [← hW0]; exact ((Blk.new w _ (lim a) _ rfl).alloc _).alloc _
  have hB : Blk W0 (w.heap.size + 1) 76 (lim b) := by
    rw [← hW0]
    have h := (Blk.new (w.alloc (Obj.cells #[.int .u64 (dig (a) 0 : Int), .int .u64 (dig (a) 1 : Int), .int .u64 (dig (a) 2 : Int), .int .u64 (dig (a) 3 : Int)] 76)) 76 (lim b) _ rfl).alloc (Obj.cells #[.int .u64 0, .int .u64 0, .int .u64 0, .int .u64 0] 76)
    rwa [World.size_alloc] at h
  have hC : Blk W0 (w.heap.size + 2) 76 (limTo (sub256 a b) 0) := by
    rw [← hW0]
    have h := Blk.new ((w.alloc (Obj.cells #[.int .u64 (dig (a) 0 : Int), .int .u64 (dig (a) 1 : Int), .int .u64 (dig (a) 2 : Int), .int .u64 (dig (a) 3 : Int)] 76)).alloc (Obj.cells #[.int .u64 (dig (b) 0 : Int), .int .u64 (dig (b) 1 : Int), .int .u64 (dig (b) 2 : Int), .int .u64 (dig (b) 3 : Int)] 76)) 76 [0, 0, 0, 0] _ rfl
    rw [World.size_alloc, World.size_alloc] at h
    exact h
  have hBW : Below w.heap.size w W0 := by rw [← hW0]; exact (((Below.refl _ _).alloc (Nat.le_refl _) _).alloc (by simp) _).alloc (by simp; omega) _
  clear hW0
  go_loopw [5, 7] (fun c i wr => ∃ j : Nat, j ≤ 4 ∧ i = .int .i64 j ∧ c = .int .u64 (under a b j : Int) ∧ Blk wr (w.heap.size + 2) 76 (limTo (sub256 a b) j) ∧ Below (w.heap.size + 2) W0 wr) (fun _ i _ => 4 - (intOf i).toNat)
  case atStart => exact ⟨0, Nat.zero_le _, rfl, by simp [under_zero], hC, Below.refl _ _⟩
  case round =>
    obtain ⟨j, hj, rfl, rfl, hc, hb⟩ := hrel
    by_cases hjl : j < 4
    · have hxa := (hA.below hb (by omega)).cell (lim_at a j hjl)
      have hxb := (hB.below hb (by omega)).cell (lim_at b j hjl)
      have hlen : j < (limTo (sub256 a b) j).length := by simp [limTo]; omega
      have hxc := hc.cell (List.getElem?_eq_getElem hlen)
      have hfc := hc.frozen j
      have hcall : ∀ W, (callFunc 127 #[.int .u64 (dig a j : Int), .int .u64 (dig b j : Int), .int .u64 (under a b j : Int)]).run Try.prog W = .ok (.value (.tuple #[.int .u64 (dig (sub256 a b) j : Int), .int .u64 (under a b (j + 1) : Int)])) W := by
        intro W
        rw [sub64 _ _ _ (under_le a b j), ← minus_dig a b j hjl HB4.out, ← minus_under a b j]
      have hset := hc.set j (dig (sub256 a b) j : Int)
      rw [limTo_set _ _ hjl] at hset
      have HSET := Lib.hid hset
      have HB := Lib.hid hb
      have hsz := hb.size
      have hsz2 := hC.lt
      clear hset hb hc
      generalize (limTo (sub256 a b) j)[j] = old at hxc
      generalize dig a j = x at *
      generalize dig b j = y at *
      generalize dig (sub256 a b) j = z at *
      generalize under a b j = c at *
      generalize hc' : under a b (j + 1) = c' at *
      have HC' := Lib.hid hc'
      clear hc'
      go_wp2_with fail
      refine wp_region_flat (fun w' => ∃ E : But wr (some (w.heap.size + 2)), w' = E.w) [(0, true), (1, true), (2, true), (3, true), (4, true), (5, true), (6, true), (7, true), (8, false), (9, true), (10, true), (11, true), (12, true), (13, false), (14, true)] (by kernel_rfl) (by kernel_rfl) (fun _ _ d _ _ h => by cases d <;> exact h) (but_of (grownBy_drew (grownBy_refl _ _))) ?_
      have hov := fun (E : But wr (some (w.heap.size + 2))) o => E.cell (b := w.heap.size) o (by omega) (by simp)
      have hov2 := fun (E : But wr (some (w.heap.size + 2))) o => E.cell (b := w.heap.size + 1) o (by omega) (by simp)
      repeat (refine flat_q rfl rfl ?_; go_big_quiet_step (fail); refine wpQuiet_nil ?_)
      refine flat_a rfl (fun K hK => ?_)
      go_simp
      refine hK _ _ ⟨but_of (grownBy_drew (grownBy_refl _ _)), ?_⟩
      clear hK K
      repeat (refine flat_q rfl rfl ?_; go_big_quiet_step (fail); refine wpQuiet_nil ?_)
      refine flat_a rfl (fun K hK => ?_)
      go_simp
      refine hK _ _ ⟨but_of (grownBy_refl_set _ _ _ _), ?_⟩
      clear hK K
      refine flat_q rfl rfl ?_
      go_big_quiet_step (fail)
      refine wpQuiet_nil ?_
      refine flat_end ?_
      go_wp2_with fail
      go_roundw
      case rel => exact ⟨j + 1, by omega, by go_num, by rw [HC'.out], HSET.out, by have h := HB.out; exact (h.drew).setCell (by simp) _⟩
      case measure => simp [intOf]; omega
    · have hj4 : j = 4 := by omega
      subst hj4
      have hx_0 := hc.cell (i := 0) (x := (dig (sub256 a b) 0 : Int)) rfl
      have hx_1 := hc.cell (i := 1) (x := (dig (sub256 a b) 1 : Int)) rfl
      have hx_2 := hc.cell (i := 2) (x := (dig (sub256 a b) 2 : Int)) rfl
      have hx_3 := hc.cell (i := 3) (x := (dig (sub256 a b) 3 : Int)) rfl
      have hf_0 := hc.frozen 0
      have hf_1 := hc.frozen 1
      have hf_2 := hc.frozen 2
      have hf_3 := hc.frozen 3
      have HB := Lib.hid (below_fill (n := sub256 a b) (b := w.heap.size + 1 + 1) (hBW.trans (hb.mono (by omega))) (by omega))
      have HSET := Lib.hid (hc.fill rfl (sub256 a b))
      clear hb hA hB hC hBW hc
      go_wp2_with fail
      generalize (((((wr).setCell ⟨w.heap.size + 1 + 1, 0, none⟩ (.int .u64 (dig (sub256 a b) 0 : Int))).setCell ⟨w.heap.size + 1 + 1, 1, none⟩ (.int .u64 (dig (sub256 a b) 1 : Int))).setCell ⟨w.heap.size + 1 + 1, 2, none⟩ (.int .u64 (dig (sub256 a b) 2 : Int))).setCell ⟨w.heap.size + 1 + 1, 3, none⟩ (.int .u64 (dig (sub256 a b) 3 : Int))) = w5 at *
      clear hx_0 hx_1 hx_2 hx_3
      have hx_0 := HSET.out.cell (i := 0) (x := (dig (sub256 a b) 0 : Int)) rfl
      have hx_1 := HSET.out.cell (i := 1) (x := (dig (sub256 a b) 1 : Int)) rfl
      have hx_2 := HSET.out.cell (i := 2) (x := (dig (sub256 a b) 2 : Int)) rfl
      have hx_3 := HSET.out.cell (i := 3) (x := (dig (sub256 a b) 3 : Int)) rfl
      simp [bodyPost, results, Try.results109, go_sem, hx_0, hx_1, hx_2, hx_3]
      exact HB.out

end Go.Proofs.Ytdmldnpadojflaa
