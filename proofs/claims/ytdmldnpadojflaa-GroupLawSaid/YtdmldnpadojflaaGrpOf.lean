/- The groups themselves. No condition. -/
import Derived.Test.YtdmldnpadojflaaGrpText
namespace Go.Proofs.Ytdmldnpadojflaa
open Go.RowKit

def of4 (a b c d : Nat) : Nat := a + BB * b + BB ^ 2 * c + BB ^ 3 * d

def grp : Nat → GP
  | 1 => ⟨1, 2, ⟨1283, 1100, 131, 690135397925220949⟩, ⟨641, 1, 1, 28778071877862015⟩⟩
  | 2 => ⟨2, 8, ⟨1152930863340584963, 576503707391577365, 1074843801509405873, 2177741659672237397⟩, ⟨576465431670292481, 354135386165974715, 178479071281353849, 14411523486952456191⟩⟩
  | _ => ⟨3, 32, ⟨of4 0x3 0x0 0x237f 0x2000000000000000, of4 0xffffffffffffffeb 0xffffffffffffffff 0xffffffffffff0786 0x1fffffffffffffff, of4 0xffffffe27829fc43 0xffffffffffffffff 0xfffea297c8e063fe 0x1fffffffffffffff, 0x5555555555555555⟩,
      ⟨of4 0x1 0x8000000000000000 0x11bf 0x1000000000000000, of4 0xfffffffffffffff1 0x7fffffffffffffff 0xfffffffffffef5c7 0xfffffffffffffff, of4 0xffffffec501bfd01 0x7fffffffffffffff 0xfffea297c8ce92bf 0xfffffffffffffff, 0xffffffffffffffff⟩⟩

theorem grp_ok (k : Nat) (h1 : 1 ≤ k) (h3 : k ≤ 3) : (grp k).Ok := by
  obtain rfl | rfl | rfl : k = 1 ∨ k = 2 ∨ k = 3 := by omega
  all_goals exact ⟨⟨by decide, by decide, by decide, by decide, by decide, by decide⟩, ⟨by decide, by decide, by decide, by decide, by decide, by decide⟩, by decide, by decide, by decide, by decide⟩

def GP.cells (G : GP) : List Value := .int .i64 G.kind :: .int .i64 G.size :: (G.p.cells ++ G.q.cells).map (Value.int .u64)

theorem cells_length (R : RingP) : R.cells.length = 13 := rfl

theorem groupAt_of {W : World} {b : Nat} {t : TypeId} {G : GP} (h : W.heap[b]? = some (.cells G.cells.toArray t (0, 0))) : GroupAt W b G := by
  have hc : ∀ i v, G.cells[i]? = some v → W.cell? ⟨b, i, none⟩ = some v := fun i v hv => by
    simp only [World.cell?, h]
    simpa using hv
  refine ⟨(Array.getElem?_eq_some_iff.1 h).1, hc 0 _ rfl, hc 1 _ rfl, ⟨(Array.getElem?_eq_some_iff.1 h).1, fun i x hx => hc (2 + i) _ ?_⟩, ⟨(Array.getElem?_eq_some_iff.1 h).1, fun i x hx => hc (15 + i) _ ?_⟩⟩
  · rw [show 2 + i = i + 1 + 1 by omega]
    simp only [GP.cells, List.getElem?_cons_succ, List.getElem?_map]
    rw [List.getElem?_append_left (by have := (List.getElem?_eq_some_iff.1 hx).1; exact this), hx]
    rfl
  · rw [show 15 + i = 13 + i + 1 + 1 by omega]
    simp only [GP.cells, List.getElem?_cons_succ, List.getElem?_map]
    rw [List.getElem?_append_right (by rw [cells_length]; omega), cells_length, show 13 + i - 13 = i by omega, hx]
    rfl

set_option maxRecDepth 10000 in
set_option maxHeartbeats 1000000 in
theorem of_none (k : Int) (hk : ¬ (1 ≤ k ∧ k ≤ 3)) (w : World) : Calls Try.prog 86 #[.int .i64 k] w fun e w' => e = .returned (.pointer none) ∧ w = w' := by
  have h1 : (k == 1) = false := by simp; omega
  have h2 : (k == 2) = false := by simp; omega
  have h3 : (k == 3) = false := by simp; omega
  go_enter Try.func86, Try.ntmps86
  go_wp2_with fail
  go_ret
  exact ⟨rfl, rfl⟩

set_option maxRecDepth 10000 in
set_option maxHeartbeats 1000000 in
theorem of_some (k : Nat) (h1 : 1 ≤ k) (h3 : k ≤ 3) (w : World) : Calls Try.prog 86 #[.int .i64 k] w fun e w' => e = .returned (.pointer (some ⟨w.heap.size, 0, none⟩)) ∧ GroupAt w' w.heap.size (grp k) ∧ Below w.heap.size w w' := by
  obtain rfl | rfl | rfl : k = 1 ∨ k = 2 ∨ k = 3 := by omega
  all_goals
    go_enter Try.func86, Try.ntmps86
    go_wp2_with fail
    go_ret
    refine ⟨rfl, groupAt_of (t := 80) ?_, (Below.refl _ _).alloc (Nat.le_refl _) _⟩
    rw [heap_alloc_new]
    exact congrArg (fun l => some (Obj.cells l 80 (0, 0))) (by kernel_rfl)

end Go.Proofs.Ytdmldnpadojflaa
