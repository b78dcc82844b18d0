/- Texts of this seat, one behind the other: what BallotHides leans on. No condition beyond those that each names. -/
import Derived.Test.YtipgjookfdkciaaZBallotHides4

/- Pairs of elements, as the package ballot reckons with them. No condition. -/
namespace Go.Proofs.Ytipgjookfdkciaa
open Go.RowKit

/-- A pair of elements, and a group with a key, as values. -/
def pairV (G : GP) (x y : Nat) : Value := .agg #[.int .u64 (dig (mont G.p.m x) 0 : Int), .int .u64 (dig (mont G.p.m x) 1 : Int), .int .u64 (dig (mont G.p.m x) 2 : Int), .int .u64 (dig (mont G.p.m x) 3 : Int), .int .u64 (dig (mont G.p.m y) 0 : Int), .int .u64 (dig (mont G.p.m y) 1 : Int), .int .u64 (dig (mont G.p.m y) 2 : Int), .int .u64 (dig (mont G.p.m y) 3 : Int)]
def boxV (gb : Nat) (G : GP) (x : Nat) : Value := .agg #[.pointer (some ⟨gb, 0, none⟩), .int .u64 (dig (mont G.p.m x) 0 : Int), .int .u64 (dig (mont G.p.m x) 1 : Int), .int .u64 (dig (mont G.p.m x) 2 : Int), .int .u64 (dig (mont G.p.m x) 3 : Int)]
def ciphV (a b : ByteArray) : Value := .agg #[.string a, .string b]

/-- A call that answers v and only makes memory. -/
def Gives (v : Value) (w : World) (e : Ending) (w' : World) : Prop := e = .returned v ∧ Below w.heap.size w w'

set_option maxRecDepth 100000 in
set_option maxHeartbeats 1000000 in
theorem gRaise_any (G : GP) (ok : G.Ok) (gb x : Nat) (w : World) (hG : GroupAt w gb G) :
    Calls Try.prog 92 #[.pointer (some ⟨gb, 0, none⟩), scV G x] w (Gives (elV G (2 ^ (x % G.q.m))) w) := by
  have OK := Lib.hid ok
  clear ok
  unfold elV scV limbV Gives
  go_enter Try.func92, Try.ntmps92
  go_wp2_with fail
  obtain ⟨W0, hW0⟩ : ∃ W9 : World, ((w.alloc (Obj.cells #[.int .u64 (dig (mont G.q.m x) 0 : Int), .int .u64 (dig (mont G.q.m x) 1 : Int), .int .u64 (dig (mont G.q.m x) 2 : Int), .int .u64 (dig (mont G.q.m x) 3 : Int)] 91)).alloc (Obj.cells #[.int .u64 0, .int .u64 0, .int .u64 0, .int .u64 0] 111)) = W9 := ⟨_, rfl⟩
  rw [hW0]
  have hA : Bx W0 (w.heap.size) 91 [.int .u64 (dig (mont G.q.m x) 0 : Int), .int .u64 (dig (mont G.q.m x) 1 : Int), .int .u64 (dig (mont G.q.m x) 2 : Int), .int .u64 (dig (mont G.q.m x) 3 : Int)] := by
    rw [← hW0]
    have h := ((Bx.new w 91 [.int .u64 (dig (mont G.q.m x) 0 : Int), .int .u64 (dig (mont G.q.m x) 1 : Int), .int .u64 (dig (mont G.q.m x) 2 : Int), .int .u64 (dig (mont G.q.m x) 3 : Int)] _ rfl).alloc (Obj.cells #[.int .u64 0, .int .u64 0, .int .u64 0, .int .u64 0] 111))
    exact h
  have hC : Bx W0 (w.heap.size + 1) 111 [.int .u64 0, .int .u64 0, .int .u64 0, .int .u64 0] := by
    rw [← hW0]
    have h := (Bx.new (w.alloc (Obj.cells #[.int .u64 (dig (mont G.q.m x) 0 : Int), .int .u64 (dig (mont G.q.m x) 1 : Int), .int .u64 (dig (mont G.q.m x) 2 : Int), .int .u64 (dig (mont G.q.m x) 3 : Int)] 91)) 111 [.int .u64 0, .int .u64 0, .int .u64 0, .int .u64 0] _ rfl)
    rw [World.size_alloc] at h
    exact h
  have hBW : Below w.heap.size w W0 := by rw [← hW0]; exact (((Below.refl w.heap.size w).alloc (Nat.le_refl _) _).alloc (by simp) _)
  clear hW0
  have hG0 := hG.up hBW
  have hgl := hG0.lt
  have ha_0 := hA.cell (i := 0) rfl
  have ha_1 := hA.cell (i := 1) rfl
  have ha_2 := hA.cell (i := 2) rfl
  have ha_3 := hA.cell (i := 3) rfl
  have hla := hA.lt
  have HC := Lib.hid hC
  have HBW := Lib.hid hBW
  clear hA hC hBW hG
  refine wp_region_otail 5 (by kernel_rfl) (by kernel_rfl) ?_
  simp only [List.take_succ_cons, List.take_zero, List.drop_succ_cons, List.drop_zero]
  have hova := fun (E : Over W0) o => E.cell (b := w.heap.size) o hla
  repeat (go_big_quiet_step (first | (go_at_call 99; exact calls_over (gBase_any G OK.out gb _ (hG0.up (Over.h _)))) | (go_at_call 109; exact calls_over (gPower_any G OK.out gb _ _ _ (hG0.up (Over.h _))))))
  all_goals (try unfold elV limbV)
  repeat (go_big_quiet_step (first | (go_at_call 99; exact calls_over (gBase_any G OK.out gb _ (hG0.up (Over.h _)))) | (go_at_call 109; exact calls_over (gPower_any G OK.out gb _ _ _ (hG0.up (Over.h _))))))
  all_goals (try unfold elV limbV)
  repeat (go_big_quiet_step (first | (go_at_call 99; exact calls_over (gBase_any G OK.out gb _ (hG0.up (Over.h _)))) | (go_at_call 109; exact calls_over (gPower_any G OK.out gb _ _ _ (hG0.up (Over.h _))))))
  refine wpQuiet_nil ?_
  rintro _ ⟨E, rfl⟩
  have HZ := Lib.hid (HC.out.below E.h HC.out.lt)
  have HBB := Lib.hid (below_up HBW.out E.h)
  clear hova
  generalize E.w = w3 at *
  have HS5 : Hid (Bx ((((w3.setCell ⟨w.heap.size + 1, 0, none⟩ (.int .u64 (dig (mont G.p.m (2 ^ (x % G.q.m))) 0 : Int))).setCell ⟨w.heap.size + 1, 1, none⟩ (.int .u64 (dig (mont G.p.m (2 ^ (x % G.q.m))) 1 : Int))).setCell ⟨w.heap.size + 1, 2, none⟩ (.int .u64 (dig (mont G.p.m (2 ^ (x % G.q.m))) 2 : Int))).setCell ⟨w.heap.size + 1, 3, none⟩ (.int .u64 (dig (mont G.p.m (2 ^ (x % G.q.m))) 3 : Int))) (w.heap.size + 1) 111 [.int .u64 (dig (mont G.p.m (2 ^ (x % G.q.m))) 0 : Int), .int .u64 (dig (mont G.p.m (2 ^ (x % G.q.m))) 1 : Int), .int .u64 (dig (mont G.p.m (2 ^ (x % G.q.m))) 2 : Int), .int .u64 (dig (mont G.p.m (2 ^ (x % G.q.m))) 3 : Int)]) := ((((HZ.out.set 0 (.int .u64 (dig (mont G.p.m (2 ^ (x % G.q.m))) 0 : Int))).set 1 (.int .u64 (dig (mont G.p.m (2 ^ (x % G.q.m))) 1 : Int))).set 2 (.int .u64 (dig (mont G.p.m (2 ^ (x % G.q.m))) 2 : Int))).set 3 (.int .u64 (dig (mont G.p.m (2 ^ (x % G.q.m))) 3 : Int)))
  have HB5 : Hid (Below w.heap.size w ((((w3.setCell ⟨w.heap.size + 1, 0, none⟩ (.int .u64 (dig (mont G.p.m (2 ^ (x % G.q.m))) 0 : Int))).setCell ⟨w.heap.size + 1, 1, none⟩ (.int .u64 (dig (mont G.p.m (2 ^ (x % G.q.m))) 1 : Int))).setCell ⟨w.heap.size + 1, 2, none⟩ (.int .u64 (dig (mont G.p.m (2 ^ (x % G.q.m))) 2 : Int))).setCell ⟨w.heap.size + 1, 3, none⟩ (.int .u64 (dig (mont G.p.m (2 ^ (x % G.q.m))) 3 : Int)))) := ((((HBB.out.setCell (show w.heap.size ≤ w.heap.size + 1 by omega) _).setCell (show w.heap.size ≤ w.heap.size + 1 by omega) _).setCell (show w.heap.size ≤ w.heap.size + 1 by omega) _).setCell (show w.heap.size ≤ w.heap.size + 1 by omega) _)
  have hz_0 := HZ.out.cell (i := 0) rfl
  have hz_1 := HZ.out.cell (i := 1) rfl
  have hz_2 := HZ.out.cell (i := 2) rfl
  have hz_3 := HZ.out.cell (i := 3) rfl
  have hzf_0 := HZ.out.frozen 0
  have hzf_1 := HZ.out.frozen 1
  have hzf_2 := HZ.out.frozen 2
  have hzf_3 := HZ.out.frozen 3
  go_wp2_with fail
  generalize ((((w3.setCell ⟨w.heap.size + 1, 0, none⟩ (.int .u64 (dig (mont G.p.m (2 ^ (x % G.q.m))) 0 : Int))).setCell ⟨w.heap.size + 1, 1, none⟩ (.int .u64 (dig (mont G.p.m (2 ^ (x % G.q.m))) 1 : Int))).setCell ⟨w.heap.size + 1, 2, none⟩ (.int .u64 (dig (mont G.p.m (2 ^ (x % G.q.m))) 2 : Int))).setCell ⟨w.heap.size + 1, 3, none⟩ (.int .u64 (dig (mont G.p.m (2 ^ (x % G.q.m))) 3 : Int))) = w5 at *
  clear hz_0 hz_1 hz_2 hz_3
  have hg_0 := HS5.out.cell (i := 0) rfl
  have hg_1 := HS5.out.cell (i := 1) rfl
  have hg_2 := HS5.out.cell (i := 2) rfl
  have hg_3 := HS5.out.cell (i := 3) rfl
  simp [bodyPost, results, Try.results92, go_sem, hg_0, hg_1, hg_2, hg_3]
  exact HB5.out


set_option maxRecDepth 100000 in
set_option maxHeartbeats 1000000 in
theorem pairTimes_any (G : GP) (ok : G.Ok) (gb x y u v : Nat) (w : World) (hG : GroupAt w gb G) :
    Calls Try.prog 87 #[pairV G x y, .pointer (some ⟨gb, 0, none⟩), pairV G u v] w (Gives (pairV G (x * u) (y * v)) w) := by
  have OK := Lib.hid ok
  clear ok
  unfold pairV Gives
  go_enter Try.func87, Try.ntmps87
  go_wp2_with fail
  obtain ⟨W0, hW0⟩ : ∃ W9 : World, (((w.alloc (Obj.cells #[.int .u64 (dig (mont G.p.m x) 0 : Int), .int .u64 (dig (mont G.p.m x) 1 : Int), .int .u64 (dig (mont G.p.m x) 2 : Int), .int .u64 (dig (mont G.p.m x) 3 : Int), .int .u64 (dig (mont G.p.m y) 0 : Int), .int .u64 (dig (mont G.p.m y) 1 : Int), .int .u64 (dig (mont G.p.m y) 2 : Int), .int .u64 (dig (mont G.p.m y) 3 : Int)] 118)).alloc (Obj.cells #[.int .u64 (dig (mont G.p.m u) 0 : Int), .int .u64 (dig (mont G.p.m u) 1 : Int), .int .u64 (dig (mont G.p.m u) 2 : Int), .int .u64 (dig (mont G.p.m u) 3 : Int), .int .u64 (dig (mont G.p.m v) 0 : Int), .int .u64 (dig (mont G.p.m v) 1 : Int), .int .u64 (dig (mont G.p.m v) 2 : Int), .int .u64 (dig (mont G.p.m v) 3 : Int)] 118)).alloc (Obj.cells #[.int .u64 0, .int .u64 0, .int .u64 0, .int .u64 0, .int .u64 0, .int .u64 0, .int .u64 0, .int .u64 0] 118)) = W9 := ⟨_, rfl⟩
  rw [hW0]
  have hA : Bx W0 (w.heap.size) 118 [.int .u64 (dig (mont G.p.m x) 0 : Int), .int .u64 (dig (mont G.p.m x) 1 : Int), .int .u64 (dig (mont G.p.m x) 2 : Int), .int .u64 (dig (mont G.p.m x) 3 : Int), .int .u64 (dig (mont G.p.m y) 0 : Int), .int .u64 (dig (mont G.p.m y) 1 : Int), .int .u64 (dig (mont G.p.m y) 2 : Int), .int .u64 (dig (mont G.p.m y) 3 : Int)] := by
    rw [← hW0]
    have h := (((Bx.new w 118 [.int .u64 (dig (mont G.p.m x) 0 : Int), .int .u64 (dig (mont G.p.m x) 1 : Int), .int .u64 (dig (mont G.p.m x) 2 : Int), .int .u64 (dig (mont G.p.m x) 3 : Int), .int .u64 (dig (mont G.p.m y) 0 : Int), .int .u64 (dig (mont G.p.m y) 1 : Int), .int .u64 (dig (mont G.p.m y) 2 : Int), .int .u64 (dig (mont G.p.m y) 3 : Int)] _ rfl).alloc (Obj.cells #[.int .u64 (dig (mont G.p.m u) 0 : Int), .int .u64 (dig (mont G.p.m u) 1 : Int), .int .u64 (dig (mont G.p.m u) 2 : Int), .int .u64 (dig (mont G.p.m u) 3 : Int), .int .u64 (dig (mont G.p.m v) 0 : Int), .int .u64 (dig (mont G.p.m v) 1 : Int), .int .u64 (dig (mont G.p.m v) 2 : Int), .int .u64 (dig (mont G.p.m v) 3 : Int)] 118)).alloc (Obj.cells #[.int .u64 0, .int .u64 0, .int .u64 0, .int .u64 0, .int .u64 0, .int .u64 0, .int .u64 0, .int .u64 0] 118))
    exact h
  have hB : Bx W0 (w.heap.size + 1) 118 [.int .u64 (dig (mont G.p.m u) 0 : Int), .int .u64 (dig (mont G.p.m u) 1 : Int), .int .u64 (dig (mont G.p.m u) 2 : Int), .int .u64 (dig (mont G.p.m u) 3 : Int), .int .u64 (dig (mont G.p.m v) 0 : Int), .int .u64 (dig (mont G.p.m v) 1 : Int), .int .u64 (dig (mont G.p.m v) 2 : Int), .int .u64 (dig (mont G.p.m v) 3 : Int)] := by
    rw [← hW0]
    have h := ((Bx.new (w.alloc (Obj.cells #[.int .u64 (dig (mont G.p.m x) 0 : Int), .int .u64 (dig (mont G.p.m x) 1 : Int), .int .u64 (dig (mont G.p.m x) 2 : Int), .int .u64 (dig (mont G.p.m x) 3 : Int), .int .u64 (dig (mont G.p.m y) 0 : Int), .int .u64 (dig (mont G.p.m y) 1 : Int), .int .u64 (dig (mont G.p.m y) 2 : Int), .int .u64 (dig (mont G.p.m y) 3 : Int)] 118)) 118 [.int .u64 (dig (mont G.p.m u) 0 : Int), .int .u64 (dig (mont G.p.m u) 1 : Int), .int .u64 (dig (mont G.p.m u) 2 : Int), .int .u64 (dig (mont G.p.m u) 3 : Int), .int .u64 (dig (mont G.p.m v) 0 : Int), .int .u64 (dig (mont G.p.m v) 1 : Int), .int .u64 (dig (mont G.p.m v) 2 : Int), .int .u64 (dig (mont G.p.m v) 3 : Int)] _ rfl).alloc (Obj.cells #[.int .u64 0, .int .u64 0, .int .u64 0, .int .u64 0, .int .u64 0, .int .u64 0, .int .u64 0, .int .u64 0] 118))
    rw [World.size_alloc] at h
    exact h
  have hC : Bx W0 (w.heap.size + 2) 118 [.int .u64 0, .int .u64 0, .int .u64 0, .int .u64 0, .int .u64 0, .int .u64 0, .int .u64 0, .int .u64 0] := by
    rw [← hW0]
    have h := (Bx.new ((w.alloc (Obj.cells #[.int .u64 (dig (mont G.p.m x) 0 : Int), .int .u64 (dig (mont G.p.m x) 1 : Int), .int .u64 (dig (mont G.p.m x) 2 : Int), .int .u64 (dig (mont G.p.m x) 3 : Int), .int .u64 (dig (mont G.p.m y) 0 : Int), .int .u64 (dig (mont G.p.m y) 1 : Int), .int .u64 (dig (mont G.p.m y) 2 : Int), .int .u64 (dig (mont G.p.m y) 3 : Int)] 118)).alloc (Obj.cells #[.int .u64 (dig (mont G.p.m u) 0 : Int), .int .u64 (dig (mont G.p.m u) 1 : Int), .int .u64 (dig (mont G.p.m u) 2 : Int), .int .u64 (dig (mont G.p.m u) 3 : Int), .int .u64 (dig (mont G.p.m v) 0 : Int), .int .u64 (dig (mont G.p.m v) 1 : Int), .int .u64 (dig (mont G.p.m v) 2 : Int), .int .u64 (dig (mont G.p.m v) 3 : Int)] 118)) 118 [.int .u64 0, .int .u64 0, .int .u64 0, .int .u64 0, .int .u64 0, .int .u64 0, .int .u64 0, .int .u64 0] _ rfl)
    rw [World.size_alloc, World.size_alloc] at h
    exact h
  have hBW : Below w.heap.size w W0 := by rw [← hW0]; exact ((((Below.refl w.heap.size w).alloc (Nat.le_refl _) _).alloc (by simp) _).alloc (by simp; omega) _)
  clear hW0
  have hG0 := hG.up hBW
  have hgl := hG0.lt
  have ha_0 := hA.cell (i := 0) rfl
  have ha_1 := hA.cell (i := 1) rfl
  have ha_2 := hA.cell (i := 2) rfl
  have ha_3 := hA.cell (i := 3) rfl
  have ha_4 := hA.cell (i := 4) rfl
  have ha_5 := hA.cell (i := 5) rfl
  have ha_6 := hA.cell (i := 6) rfl
  have ha_7 := hA.cell (i := 7) rfl
  have hb_0 := hB.cell (i := 0) rfl
  have hb_1 := hB.cell (i := 1) rfl
  have hb_2 := hB.cell (i := 2) rfl
  have hb_3 := hB.cell (i := 3) rfl
  have hb_4 := hB.cell (i := 4) rfl
  have hb_5 := hB.cell (i := 5) rfl
  have hb_6 := hB.cell (i := 6) rfl
  have hb_7 := hB.cell (i := 7) rfl
  have hla := hA.lt
  have hlb := hB.lt
  have HC := Lib.hid hC
  have HBW := Lib.hid hBW
  clear hA hB hC hBW hG
  refine wp_region_otail 13 (by kernel_rfl) (by kernel_rfl) ?_
  simp only [List.take_succ_cons, List.take_zero, List.drop_succ_cons, List.drop_zero]
  have hova := fun (E : Over W0) o => E.cell (b := w.heap.size) o hla
  have hovb := fun (E : Over W0) o => E.cell (b := w.heap.size + 1) o hlb
  repeat (go_big_quiet_step (first | (go_at_call 108; exact calls_over (gTimes_any G OK.out gb _ _ _ (hG0.up (Over.h _))))))
  all_goals (try unfold elV limbV)
  repeat (go_big_quiet_step (first | (go_at_call 108; exact calls_over (gTimes_any G OK.out gb _ _ _ (hG0.up (Over.h _))))))
  all_goals (try unfold elV limbV)
  repeat (go_big_quiet_step (first | (go_at_call 108; exact calls_over (gTimes_any G OK.out gb _ _ _ (hG0.up (Over.h _))))))
  refine wpQuiet_nil ?_
  rintro _ ⟨E, rfl⟩
  have HZ := Lib.hid (HC.out.below E.h HC.out.lt)
  have HBB := Lib.hid (below_up HBW.out E.h)
  clear hova hovb
  generalize E.w = w3 at *
  have HS5 : Hid (Bx ((((((((w3.setCell ⟨w.heap.size + 2, 0, none⟩ (.int .u64 (dig (mont G.p.m (x * u)) 0 : Int))).setCell ⟨w.heap.size + 2, 1, none⟩ (.int .u64 (dig (mont G.p.m (x * u)) 1 : Int))).setCell ⟨w.heap.size + 2, 2, none⟩ (.int .u64 (dig (mont G.p.m (x * u)) 2 : Int))).setCell ⟨w.heap.size + 2, 3, none⟩ (.int .u64 (dig (mont G.p.m (x * u)) 3 : Int))).setCell ⟨w.heap.size + 2, 4, none⟩ (.int .u64 (dig (mont G.p.m (y * v)) 0 : Int))).setCell ⟨w.heap.size + 2, 5, none⟩ (.int .u64 (dig (mont G.p.m (y * v)) 1 : Int))).setCell ⟨w.heap.size + 2, 6, none⟩ (.int .u64 (dig (mont G.p.m (y * v)) 2 : Int))).setCell ⟨w.heap.size + 2, 7, none⟩ (.int .u64 (dig (mont G.p.m (y * v)) 3 : Int))) (w.heap.size + 2) 118 [.int .u64 (dig (mont G.p.m (x * u)) 0 : Int), .int .u64 (dig (mont G.p.m (x * u)) 1 : Int), .int .u64 (dig (mont G.p.m (x * u)) 2 : Int), .int .u64 (dig (mont G.p.m (x * u)) 3 : Int), .int .u64 (dig (mont G.p.m (y * v)) 0 : Int), .int .u64 (dig (mont G.p.m (y * v)) 1 : Int), .int .u64 (dig (mont G.p.m (y * v)) 2 : Int), .int .u64 (dig (mont G.p.m (y * v)) 3 : Int)]) := ((((((((HZ.out.set 0 (.int .u64 (dig (mont G.p.m (x * u)) 0 : Int))).set 1 (.int .u64 (dig (mont G.p.m (x * u)) 1 : Int))).set 2 (.int .u64 (dig (mont G.p.m (x * u)) 2 : Int))).set 3 (.int .u64 (dig (mont G.p.m (x * u)) 3 : Int))).set 4 (.int .u64 (dig (mont G.p.m (y * v)) 0 : Int))).set 5 (.int .u64 (dig (mont G.p.m (y * v)) 1 : Int))).set 6 (.int .u64 (dig (mont G.p.m (y * v)) 2 : Int))).set 7 (.int .u64 (dig (mont G.p.m (y * v)) 3 : Int)))
  have HB5 : Hid (Below w.heap.size w ((((((((w3.setCell ⟨w.heap.size + 2, 0, none⟩ (.int .u64 (dig (mont G.p.m (x * u)) 0 : Int))).setCell ⟨w.heap.size + 2, 1, none⟩ (.int .u64 (dig (mont G.p.m (x * u)) 1 : Int))).setCell ⟨w.heap.size + 2, 2, none⟩ (.int .u64 (dig (mont G.p.m (x * u)) 2 : Int))).setCell ⟨w.heap.size + 2, 3, none⟩ (.int .u64 (dig (mont G.p.m (x * u)) 3 : Int))).setCell ⟨w.heap.size + 2, 4, none⟩ (.int .u64 (dig (mont G.p.m (y * v)) 0 : Int))).setCell ⟨w.heap.size + 2, 5, none⟩ (.int .u64 (dig (mont G.p.m (y * v)) 1 : Int))).setCell ⟨w.heap.size + 2, 6, none⟩ (.int .u64 (dig (mont G.p.m (y * v)) 2 : Int))).setCell ⟨w.heap.size + 2, 7, none⟩ (.int .u64 (dig (mont G.p.m (y * v)) 3 : Int)))) := ((((((((HBB.out.setCell (show w.heap.size ≤ w.heap.size + 2 by omega) _).setCell (show w.heap.size ≤ w.heap.size + 2 by omega) _).setCell (show w.heap.size ≤ w.heap.size + 2 by omega) _).setCell (show w.heap.size ≤ w.heap.size + 2 by omega) _).setCell (show w.heap.size ≤ w.heap.size + 2 by omega) _).setCell (show w.heap.size ≤ w.heap.size + 2 by omega) _).setCell (show w.heap.size ≤ w.heap.size + 2 by omega) _).setCell (show w.heap.size ≤ w.heap.size + 2 by omega) _)
  have hz_0 := HZ.out.cell (i := 0) rfl
  have hz_1 := HZ.out.cell (i := 1) rfl
  have hz_2 := HZ.out.cell (i := 2) rfl
  have hz_3 := HZ.out.cell (i := 3) rfl
  have hz_4 := HZ.out.cell (i := 4) rfl
  have hz_5 := HZ.out.cell (i := 5) rfl
  have hz_6 := HZ.out.cell (i := 6) rfl
  have hz_7 := HZ.out.cell (i := 7) rfl
  have hzf_0 := HZ.out.frozen 0
  have hzf_1 := HZ.out.frozen 1
  have hzf_2 := HZ.out.frozen 2
  have hzf_3 := HZ.out.frozen 3
  have hzf_4 := HZ.out.frozen 4
  have hzf_5 := HZ.out.frozen 5
  have hzf_6 := HZ.out.frozen 6
  have hzf_7 := HZ.out.frozen 7
  go_wp2_with fail
  generalize ((((((((w3.setCell ⟨w.heap.size + 2, 0, none⟩ (.int .u64 (dig (mont G.p.m (x * u)) 0 : Int))).setCell ⟨w.heap.size + 2, 1, none⟩ (.int .u64 (dig (mont G.p.m (x * u)) 1 : Int))).setCell ⟨w.heap.size + 2, 2, none⟩ (.int .u64 (dig (mont G.p.m (x * u)) 2 : Int))).setCell ⟨w.heap.size + 2, 3, none⟩ (.int .u64 (dig (mont G.p.m (x * u)) 3 : Int))).setCell ⟨w.heap.size + 2, 4, none⟩ (.int .u64 (dig (mont G.p.m (y * v)) 0 : Int))).setCell ⟨w.heap.size + 2, 5, none⟩ (.int .u64 (dig (mont G.p.m (y * v)) 1 : Int))).setCell ⟨w.heap.size + 2, 6, none⟩ (.int .u64 (dig (mont G.p.m (y * v)) 2 : Int))).setCell ⟨w.heap.size + 2, 7, none⟩ (.int .u64 (dig (mont G.p.m (y * v)) 3 : Int))) = w5 at *
  clear hz_0 hz_1 hz_2 hz_3 hz_4 hz_5 hz_6 hz_7
  have hg_0 := HS5.out.cell (i := 0) rfl
  have hg_1 := HS5.out.cell (i := 1) rfl
  have hg_2 := HS5.out.cell (i := 2) rfl
  have hg_3 := HS5.out.cell (i := 3) rfl
  have hg_4 := HS5.out.cell (i := 4) rfl
  have hg_5 := HS5.out.cell (i := 5) rfl
  have hg_6 := HS5.out.cell (i := 6) rfl
  have hg_7 := HS5.out.cell (i := 7) rfl
  simp [bodyPost, results, Try.results87, go_sem, hg_0, hg_1, hg_2, hg_3, hg_4, hg_5, hg_6, hg_7]
  exact HB5.out

set_option maxRecDepth 100000 in
set_option maxHeartbeats 1000000 in
theorem nothing_any (G : GP) (ok : G.Ok) (gb k n : Nat) (w : World) (hG : GroupAt w gb G) :
    Calls Try.prog 88 #[boxV gb G k, scV G n] w (Gives (pairV G (2 ^ (n % G.q.m)) (k ^ (n % G.q.m))) w) := by
  have OK := Lib.hid ok
  clear ok
  unfold pairV boxV scV limbV Gives
  go_enter Try.func88, Try.ntmps88
  go_wp2_with fail
  obtain ⟨W0, hW0⟩ : ∃ W9 : World, (((w.alloc (Obj.cells #[.pointer (some ⟨gb, 0, none⟩), .int .u64 (dig (mont G.p.m k) 0 : Int), .int .u64 (dig (mont G.p.m k) 1 : Int), .int .u64 (dig (mont G.p.m k) 2 : Int), .int .u64 (dig (mont G.p.m k) 3 : Int)] 113)).alloc (Obj.cells #[.int .u64 (dig (mont G.q.m n) 0 : Int), .int .u64 (dig (mont G.q.m n) 1 : Int), .int .u64 (dig (mont G.q.m n) 2 : Int), .int .u64 (dig (mont G.q.m n) 3 : Int)] 91)).alloc (Obj.cells #[.int .u64 0, .int .u64 0, .int .u64 0, .int .u64 0, .int .u64 0, .int .u64 0, .int .u64 0, .int .u64 0] 118)) = W9 := ⟨_, rfl⟩
  rw [hW0]
  have hA : Bx W0 (w.heap.size) 113 [.pointer (some ⟨gb, 0, none⟩), .int .u64 (dig (mont G.p.m k) 0 : Int), .int .u64 (dig (mont G.p.m k) 1 : Int), .int .u64 (dig (mont G.p.m k) 2 : Int), .int .u64 (dig (mont G.p.m k) 3 : Int)] := by
    rw [← hW0]
    have h := (((Bx.new w 113 [.pointer (some ⟨gb, 0, none⟩), .int .u64 (dig (mont G.p.m k) 0 : Int), .int .u64 (dig (mont G.p.m k) 1 : Int), .int .u64 (dig (mont G.p.m k) 2 : Int), .int .u64 (dig (mont G.p.m k) 3 : Int)] _ rfl).alloc (Obj.cells #[.int .u64 (dig (mont G.q.m n) 0 : Int), .int .u64 (dig (mont G.q.m n) 1 : Int), .int .u64 (dig (mont G.q.m n) 2 : Int), .int .u64 (dig (mont G.q.m n) 3 : Int)] 91)).alloc (Obj.cells #[.int .u64 0, .int .u64 0, .int .u64 0, .int .u64 0, .int .u64 0, .int .u64 0, .int .u64 0, .int .u64 0] 118))
    exact h
  have hB : Bx W0 (w.heap.size + 1) 91 [.int .u64 (dig (mont G.q.m n) 0 : Int), .int .u64 (dig (mont G.q.m n) 1 : Int), .int .u64 (dig (mont G.q.m n) 2 : Int), .int .u64 (dig (mont G.q.m n) 3 : Int)] := by
    rw [← hW0]
    have h := ((Bx.new (w.alloc (Obj.cells #[.pointer (some ⟨gb, 0, none⟩), .int .u64 (dig (mont G.p.m k) 0 : Int), .int .u64 (dig (mont G.p.m k) 1 : Int), .int .u64 (dig (mont G.p.m k) 2 : Int), .int .u64 (dig (mont G.p.m k) 3 : Int)] 113)) 91 [.int .u64 (dig (mont G.q.m n) 0 : Int), .int .u64 (dig (mont G.q.m n) 1 : Int), .int .u64 (dig (mont G.q.m n) 2 : Int), .int .u64 (dig (mont G.q.m n) 3 : Int)] _ rfl).alloc (Obj.cells #[.int .u64 0, .int .u64 0, .int .u64 0, .int .u64 0, .int .u64 0, .int .u64 0, .int .u64 0, .int .u64 0] 118))
    rw [World.size_alloc] at h
    exact h
  have hC : Bx W0 (w.heap.size + 2) 118 [.int .u64 0, .int .u64 0, .int .u64 0, .int .u64 0, .int .u64 0, .int .u64 0, .int .u64 0, .int .u64 0] := by
    rw [← hW0]
    have h := (Bx.new ((w.alloc (Obj.cells #[.pointer (some ⟨gb, 0, none⟩), .int .u64 (dig (mont G.p.m k) 0 : Int), .int .u64 (dig (mont G.p.m k) 1 : Int), .int .u64 (dig (mont G.p.m k) 2 : Int), .int .u64 (dig (mont G.p.m k) 3 : Int)] 113)).alloc (Obj.cells #[.int .u64 (dig (mont G.q.m n) 0 : Int), .int .u64 (dig (mont G.q.m n) 1 : Int), .int .u64 (dig (mont G.q.m n) 2 : Int), .int .u64 (dig (mont G.q.m n) 3 : Int)] 91)) 118 [.int .u64 0, .int .u64 0, .int .u64 0, .int .u64 0, .int .u64 0, .int .u64 0, .int .u64 0, .int .u64 0] _ rfl)
    rw [World.size_alloc, World.size_alloc] at h
    exact h
  have hBW : Below w.heap.size w W0 := by rw [← hW0]; exact ((((Below.refl w.heap.size w).alloc (Nat.le_refl _) _).alloc (by simp) _).alloc (by simp; omega) _)
  clear hW0
  have hG0 := hG.up hBW
  have hgl := hG0.lt
  have ha_0 := hA.cell (i := 0) rfl
  have ha_1 := hA.cell (i := 1) rfl
  have ha_2 := hA.cell (i := 2) rfl
  have ha_3 := hA.cell (i := 3) rfl
  have ha_4 := hA.cell (i := 4) rfl
  have hb_0 := hB.cell (i := 0) rfl
  have hb_1 := hB.cell (i := 1) rfl
  have hb_2 := hB.cell (i := 2) rfl
  have hb_3 := hB.cell (i := 3) rfl
  have hla := hA.lt
  have hlb := hB.lt
  have HC := Lib.hid hC
  have HBW := Lib.hid hBW
  clear hA hB hC hBW hG
  refine wp_region_otail 11 (by kernel_rfl) (by kernel_rfl) ?_
  simp only [List.take_succ_cons, List.take_zero, List.drop_succ_cons, List.drop_zero]
  have hova := fun (E : Over W0) o => E.cell (b := w.heap.size) o hla
  have hovb := fun (E : Over W0) o => E.cell (b := w.heap.size + 1) o hlb
  repeat (go_big_quiet_step (first | (go_at_call 92; exact calls_over (gRaise_any G OK.out gb _ _ (hG0.up (Over.h _)))) | (go_at_call 109; exact calls_over (gPower_any G OK.out gb _ _ _ (hG0.up (Over.h _))))))
  all_goals (try unfold elV limbV)
  repeat (go_big_quiet_step (first | (go_at_call 92; exact calls_over (gRaise_any G OK.out gb _ _ (hG0.up (Over.h _)))) | (go_at_call 109; exact calls_over (gPower_any G OK.out gb _ _ _ (hG0.up (Over.h _))))))
  all_goals (try unfold elV limbV)
  repeat (go_big_quiet_step (first | (go_at_call 92; exact calls_over (gRaise_any G OK.out gb _ _ (hG0.up (Over.h _)))) | (go_at_call 109; exact calls_over (gPower_any G OK.out gb _ _ _ (hG0.up (Over.h _))))))
  refine wpQuiet_nil ?_
  rintro _ ⟨E, rfl⟩
  have HZ := Lib.hid (HC.out.below E.h HC.out.lt)
  have HBB := Lib.hid (below_up HBW.out E.h)
  clear hova hovb
  generalize E.w = w3 at *
  have HS5 : Hid (Bx ((((((((w3.setCell ⟨w.heap.size + 2, 0, none⟩ (.int .u64 (dig (mont G.p.m (2 ^ (n % G.q.m))) 0 : Int))).setCell ⟨w.heap.size + 2, 1, none⟩ (.int .u64 (dig (mont G.p.m (2 ^ (n % G.q.m))) 1 : Int))).setCell ⟨w.heap.size + 2, 2, none⟩ (.int .u64 (dig (mont G.p.m (2 ^ (n % G.q.m))) 2 : Int))).setCell ⟨w.heap.size + 2, 3, none⟩ (.int .u64 (dig (mont G.p.m (2 ^ (n % G.q.m))) 3 : Int))).setCell ⟨w.heap.size + 2, 4, none⟩ (.int .u64 (dig (mont G.p.m (k ^ (n % G.q.m))) 0 : Int))).setCell ⟨w.heap.size + 2, 5, none⟩ (.int .u64 (dig (mont G.p.m (k ^ (n % G.q.m))) 1 : Int))).setCell ⟨w.heap.size + 2, 6, none⟩ (.int .u64 (dig (mont G.p.m (k ^ (n % G.q.m))) 2 : Int))).setCell ⟨w.heap.size + 2, 7, none⟩ (.int .u64 (dig (mont G.p.m (k ^ (n % G.q.m))) 3 : Int))) (w.heap.size + 2) 118 [.int .u64 (dig (mont G.p.m (2 ^ (n % G.q.m))) 0 : Int), .int .u64 (dig (mont G.p.m (2 ^ (n % G.q.m))) 1 : Int), .int .u64 (dig (mont G.p.m (2 ^ (n % G.q.m))) 2 : Int), .int .u64 (dig (mont G.p.m (2 ^ (n % G.q.m))) 3 : Int), .int .u64 (dig (mont G.p.m (k ^ (n % G.q.m))) 0 : Int), .int .u64 (dig (mont G.p.m (k ^ (n % G.q.m))) 1 : Int), .int .u64 (dig (mont G.p.m (k ^ (n % G.q.m))) 2 : Int), .int .u64 (dig (mont G.p.m (k ^ (n % G.q.m))) 3 : Int)]) := ((((((((HZ.out.set 0 (.int .u64 (dig (mont G.p.m (2 ^ (n % G.q.m))) 0 : Int))).set 1 (.int .u64 (dig (mont G.p.m (2 ^ (n % G.q.m))) 1 : Int))).set 2 (.int .u64 (dig (mont G.p.m (2 ^ (n % G.q.m))) 2 : Int))).set 3 (.int .u64 (dig (mont G.p.m (2 ^ (n % G.q.m))) 3 : Int))).set 4 (.int .u64 (dig (mont G.p.m (k ^ (n % G.q.m))) 0 : Int))).set 5 (.int .u64 (dig (mont G.p.m (k ^ (n % G.q.m))) 1 : Int))).set 6 (.int .u64 (dig (mont G.p.m (k ^ (n % G.q.m))) 2 : Int))).set 7 (.int .u64 (dig (mont G.p.m (k ^ (n % G.q.m))) 3 : Int)))
  have HB5 : Hid (Below w.heap.size w ((((((((w3.setCell ⟨w.heap.size + 2, 0, none⟩ (.int .u64 (dig (mont G.p.m (2 ^ (n % G.q.m))) 0 : Int))).setCell ⟨w.heap.size + 2, 1, none⟩ (.int .u64 (dig (mont G.p.m (2 ^ (n % G.q.m))) 1 : Int))).setCell ⟨w.heap.size + 2, 2, none⟩ (.int .u64 (dig (mont G.p.m (2 ^ (n % G.q.m))) 2 : Int))).setCell ⟨w.heap.size + 2, 3, none⟩ (.int .u64 (dig (mont G.p.m (2 ^ (n % G.q.m))) 3 : Int))).setCell ⟨w.heap.size + 2, 4, none⟩ (.int .u64 (dig (mont G.p.m (k ^ (n % G.q.m))) 0 : Int))).setCell ⟨w.heap.size + 2, 5, none⟩ (.int .u64 (dig (mont G.p.m (k ^ (n % G.q.m))) 1 : Int))).setCell ⟨w.heap.size + 2, 6, none⟩ (.int .u64 (dig (mont G.p.m (k ^ (n % G.q.m))) 2 : Int))).setCell ⟨w.heap.size + 2, 7, none⟩ (.int .u64 (dig (mont G.p.m (k ^ (n % G.q.m))) 3 : Int)))) := ((((((((HBB.out.setCell (show w.heap.size ≤ w.heap.size + 2 by omega) _).setCell (show w.heap.size ≤ w.heap.size + 2 by omega) _).setCell (show w.heap.size ≤ w.heap.size + 2 by omega) _).setCell (show w.heap.size ≤ w.heap.size + 2 by omega) _).setCell (show w.heap.size ≤ w.heap.size + 2 by omega) _).setCell (show w.heap.size ≤ w.heap.size + 2 by omega) _).setCell (show w.heap.size ≤ w.heap.size + 2 by omega) _).setCell (show w.heap.size ≤ w.heap.size + 2 by omega) _)
  have hz_0 := HZ.out.cell (i := 0) rfl
  have hz_1 := HZ.out.cell (i := 1) rfl
  have hz_2 := HZ.out.cell (i := 2) rfl
  have hz_3 := HZ.out.cell (i := 3) rfl
  have hz_4 := HZ.out.cell (i := 4) rfl
  have hz_5 := HZ.out.cell (i := 5) rfl
  have hz_6 := HZ.out.cell (i := 6) rfl
  have hz_7 := HZ.out.cell (i := 7) rfl
  have hzf_0 := HZ.out.frozen 0
  have hzf_1 := HZ.out.frozen 1
  have hzf_2 := HZ.out.frozen 2
  have hzf_3 := HZ.out.frozen 3
  have hzf_4 := HZ.out.frozen 4
  have hzf_5 := HZ.out.frozen 5
  have hzf_6 := HZ.out.frozen 6
  have hzf_7 := HZ.out.frozen 7
  go_wp2_with fail
  generalize ((((((((w3.setCell ⟨w.heap.size + 2, 0, none⟩ (.int .u64 (dig (mont G.p.m (2 ^ (n % G.q.m))) 0 : Int))).setCell ⟨w.heap.size + 2, 1, none⟩ (.int .u64 (dig (mont G.p.m (2 ^ (n % G.q.m))) 1 : Int))).setCell ⟨w.heap.size + 2, 2, none⟩ (.int .u64 (dig (mont G.p.m (2 ^ (n % G.q.m))) 2 : Int))).setCell ⟨w.heap.size + 2, 3, none⟩ (.int .u64 (dig (mont G.p.m (2 ^ (n % G.q.m))) 3 : Int))).setCell ⟨w.heap.size + 2, 4, none⟩ (.int .u64 (dig (mont G.p.m (k ^ (n % G.q.m))) 0 : Int))).setCell ⟨w.heap.size + 2, 5, none⟩ (.int .u64 (dig (mont G.p.m (k ^ (n % G.q.m))) 1 : Int))).setCell ⟨w.heap.size + 2, 6, none⟩ (.int .u64 (dig (mont G.p.m (k ^ (n % G.q.m))) 2 : Int))).setCell ⟨w.heap.size + 2, 7, none⟩ (.int .u64 (dig (mont G.p.m (k ^ (n % G.q.m))) 3 : Int))) = w5 at *
  clear hz_0 hz_1 hz_2 hz_3 hz_4 hz_5 hz_6 hz_7
  have hg_0 := HS5.out.cell (i := 0) rfl
  have hg_1 := HS5.out.cell (i := 1) rfl
  have hg_2 := HS5.out.cell (i := 2) rfl
  have hg_3 := HS5.out.cell (i := 3) rfl
  have hg_4 := HS5.out.cell (i := 4) rfl
  have hg_5 := HS5.out.cell (i := 5) rfl
  have hg_6 := HS5.out.cell (i := 6) rfl
  have hg_7 := HS5.out.cell (i := 7) rfl
  simp [bodyPost, results, Try.results88, go_sem, hg_0, hg_1, hg_2, hg_3, hg_4, hg_5, hg_6, hg_7]
  exact HB5.out

set_option maxRecDepth 100000 in
set_option maxHeartbeats 1000000 in
theorem pairText_any (G : GP) (ok : G.Ok) (gb x y : Nat) (w : World) (hG : GroupAt w gb G) :
    Calls Try.prog 78 #[pairV G x y, .pointer (some ⟨gb, 0, none⟩)] w (Gives (ciphV (textS (lowN G x) G.size) (textS (lowN G y) G.size)) w) := by
  have OK := Lib.hid ok
  clear ok
  unfold pairV ciphV Gives
  go_enter Try.func78, Try.ntmps78
  go_wp2_with fail
  obtain ⟨W0, hW0⟩ : ∃ W9 : World, ((w.alloc (Obj.cells #[.int .u64 (dig (mont G.p.m x) 0 : Int), .int .u64 (dig (mont G.p.m x) 1 : Int), .int .u64 (dig (mont G.p.m x) 2 : Int), .int .u64 (dig (mont G.p.m x) 3 : Int), .int .u64 (dig (mont G.p.m y) 0 : Int), .int .u64 (dig (mont G.p.m y) 1 : Int), .int .u64 (dig (mont G.p.m y) 2 : Int), .int .u64 (dig (mont G.p.m y) 3 : Int)] 118)).alloc (Obj.cells #[.string ⟨#[]⟩, .string ⟨#[]⟩] 41)) = W9 := ⟨_, rfl⟩
  rw [hW0]
  have hA : Bx W0 (w.heap.size) 118 [.int .u64 (dig (mont G.p.m x) 0 : Int), .int .u64 (dig (mont G.p.m x) 1 : Int), .int .u64 (dig (mont G.p.m x) 2 : Int), .int .u64 (dig (mont G.p.m x) 3 : Int), .int .u64 (dig (mont G.p.m y) 0 : Int), .int .u64 (dig (mont G.p.m y) 1 : Int), .int .u64 (dig (mont G.p.m y) 2 : Int), .int .u64 (dig (mont G.p.m y) 3 : Int)] := by
    rw [← hW0]
    have h := ((Bx.new w 118 [.int .u64 (dig (mont G.p.m x) 0 : Int), .int .u64 (dig (mont G.p.m x) 1 : Int), .int .u64 (dig (mont G.p.m x) 2 : Int), .int .u64 (dig (mont G.p.m x) 3 : Int), .int .u64 (dig (mont G.p.m y) 0 : Int), .int .u64 (dig (mont G.p.m y) 1 : Int), .int .u64 (dig (mont G.p.m y) 2 : Int), .int .u64 (dig (mont G.p.m y) 3 : Int)] _ rfl).alloc (Obj.cells #[.string ⟨#[]⟩, .string ⟨#[]⟩] 41))
    exact h
  have hC : Bx W0 (w.heap.size + 1) 41 [.string ⟨#[]⟩, .string ⟨#[]⟩] := by
    rw [← hW0]
    have h := (Bx.new (w.alloc (Obj.cells #[.int .u64 (dig (mont G.p.m x) 0 : Int), .int .u64 (dig (mont G.p.m x) 1 : Int), .int .u64 (dig (mont G.p.m x) 2 : Int), .int .u64 (dig (mont G.p.m x) 3 : Int), .int .u64 (dig (mont G.p.m y) 0 : Int), .int .u64 (dig (mont G.p.m y) 1 : Int), .int .u64 (dig (mont G.p.m y) 2 : Int), .int .u64 (dig (mont G.p.m y) 3 : Int)] 118)) 41 [.string ⟨#[]⟩, .string ⟨#[]⟩] _ rfl)
    rw [World.size_alloc] at h
    exact h
  have hBW : Below w.heap.size w W0 := by rw [← hW0]; exact (((Below.refl w.heap.size w).alloc (Nat.le_refl _) _).alloc (by simp) _)
  clear hW0
  have hG0 := hG.up hBW
  have hgl := hG0.lt
  have ha_0 := hA.cell (i := 0) rfl
  have ha_1 := hA.cell (i := 1) rfl
  have ha_2 := hA.cell (i := 2) rfl
  have ha_3 := hA.cell (i := 3) rfl
  have ha_4 := hA.cell (i := 4) rfl
  have ha_5 := hA.cell (i := 5) rfl
  have ha_6 := hA.cell (i := 6) rfl
  have ha_7 := hA.cell (i := 7) rfl
  have hla := hA.lt
  have HC := Lib.hid hC
  have HBW := Lib.hid hBW
  clear hA hC hBW hG
  refine wp_region_otail 9 (by kernel_rfl) (by kernel_rfl) ?_
  simp only [List.take_succ_cons, List.take_zero, List.drop_succ_cons, List.drop_zero]
  have hova := fun (E : Over W0) o => E.cell (b := w.heap.size) o hla
  repeat (go_big_quiet_step (first | (go_at_call 89; exact calls_over (gText_any G OK.out gb _ _ (hG0.up (Over.h _))))))
  all_goals (try unfold elV limbV)
  repeat (go_big_quiet_step (first | (go_at_call 89; exact calls_over (gText_any G OK.out gb _ _ (hG0.up (Over.h _))))))
  all_goals (try unfold elV limbV)
  repeat (go_big_quiet_step (first | (go_at_call 89; exact calls_over (gText_any G OK.out gb _ _ (hG0.up (Over.h _))))))
  refine wpQuiet_nil ?_
  rintro _ ⟨E, rfl⟩
  have HZ := Lib.hid (HC.out.below E.h HC.out.lt)
  have HBB := Lib.hid (below_up HBW.out E.h)
  clear hova
  generalize E.w = w3 at *
  have HS5 : Hid (Bx ((w3.setCell ⟨w.heap.size + 1, 0, none⟩ (.string (textS (lowN G x) G.size))).setCell ⟨w.heap.size + 1, 1, none⟩ (.string (textS (lowN G y) G.size))) (w.heap.size + 1) 41 [.string (textS (lowN G x) G.size), .string (textS (lowN G y) G.size)]) := ((HZ.out.set 0 (.string (textS (lowN G x) G.size))).set 1 (.string (textS (lowN G y) G.size)))
  have HB5 : Hid (Below w.heap.size w ((w3.setCell ⟨w.heap.size + 1, 0, none⟩ (.string (textS (lowN G x) G.size))).setCell ⟨w.heap.size + 1, 1, none⟩ (.string (textS (lowN G y) G.size)))) := ((HBB.out.setCell (show w.heap.size ≤ w.heap.size + 1 by omega) _).setCell (show w.heap.size ≤ w.heap.size + 1 by omega) _)
  have hz_0 := HZ.out.cell (i := 0) rfl
  have hz_1 := HZ.out.cell (i := 1) rfl
  have hzf_0 := HZ.out.frozen 0
  have hzf_1 := HZ.out.frozen 1
  go_wp2_with fail
  generalize ((w3.setCell ⟨w.heap.size + 1, 0, none⟩ (.string (textS (lowN G x) G.size))).setCell ⟨w.heap.size + 1, 1, none⟩ (.string (textS (lowN G y) G.size))) = w5 at *
  clear hz_0 hz_1
  have hg_0 := HS5.out.cell (i := 0) rfl
  have hg_1 := HS5.out.cell (i := 1) rfl
  simp [bodyPost, results, Try.results78, go_sem, hg_0, hg_1]
  exact HB5.out

set_option maxRecDepth 100000 in
set_option maxHeartbeats 1000000 in
theorem shown_any (G : GP) (ok : G.Ok) (gb x y n : Nat) (w : World) (hG : GroupAt w gb G) :
    Calls Try.prog 90 #[pairV G x y, .pointer (some ⟨gb, 0, none⟩), scV G n] w (Gives (elV G (y * (x ^ (n % G.q.m)) ^ (G.p.m - 2))) w) := by
  have OK := Lib.hid ok
  clear ok
  unfold pairV scV elV limbV Gives
  go_enter Try.func90, Try.ntmps90
  go_wp2_with fail
  obtain ⟨W0, hW0⟩ : ∃ W9 : World, (((w.alloc (Obj.cells #[.int .u64 (dig (mont G.p.m x) 0 : Int), .int .u64 (dig (mont G.p.m x) 1 : Int), .int .u64 (dig (mont G.p.m x) 2 : Int), .int .u64 (dig (mont G.p.m x) 3 : Int), .int .u64 (dig (mont G.p.m y) 0 : Int), .int .u64 (dig (mont G.p.m y) 1 : Int), .int .u64 (dig (mont G.p.m y) 2 : Int), .int .u64 (dig (mont G.p.m y) 3 : Int)] 118)).alloc (Obj.cells #[.int .u64 (dig (mont G.q.m n) 0 : Int), .int .u64 (dig (mont G.q.m n) 1 : Int), .int .u64 (dig (mont G.q.m n) 2 : Int), .int .u64 (dig (mont G.q.m n) 3 : Int)] 91)).alloc (Obj.cells #[.int .u64 0, .int .u64 0, .int .u64 0, .int .u64 0] 111)) = W9 := ⟨_, rfl⟩
  rw [hW0]
  have hA : Bx W0 (w.heap.size) 118 [.int .u64 (dig (mont G.p.m x) 0 : Int), .int .u64 (dig (mont G.p.m x) 1 : Int), .int .u64 (dig (mont G.p.m x) 2 : Int), .int .u64 (dig (mont G.p.m x) 3 : Int), .int .u64 (dig (mont G.p.m y) 0 : Int), .int .u64 (dig (mont G.p.m y) 1 : Int), .int .u64 (dig (mont G.p.m y) 2 : Int), .int .u64 (dig (mont G.p.m y) 3 : Int)] := by
    rw [← hW0]
    have h := (((Bx.new w 118 [.int .u64 (dig (mont G.p.m x) 0 : Int), .int .u64 (dig (mont G.p.m x) 1 : Int), .int .u64 (dig (mont G.p.m x) 2 : Int), .int .u64 (dig (mont G.p.m x) 3 : Int), .int .u64 (dig (mont G.p.m y) 0 : Int), .int .u64 (dig (mont G.p.m y) 1 : Int), .int .u64 (dig (mont G.p.m y) 2 : Int), .int .u64 (dig (mont G.p.m y) 3 : Int)] _ rfl).alloc (Obj.cells #[.int .u64 (dig (mont G.q.m n) 0 : Int), .int .u64 (dig (mont G.q.m n) 1 : Int), .int .u64 (dig (mont G.q.m n) 2 : Int), .int .u64 (dig (mont G.q.m n) 3 : Int)] 91)).alloc (Obj.cells #[.int .u64 0, .int .u64 0, .int .u64 0, .int .u64 0] 111))
    exact h
  have hB : Bx W0 (w.heap.size + 1) 91 [.int .u64 (dig (mont G.q.m n) 0 : Int), .int .u64 (dig (mont G.q.m n) 1 : Int), .int .u64 (dig (mont G.q.m n) 2 : Int), .int .u64 (dig (mont G.q.m n) 3 : Int)] := by
    rw [← hW0]
    have h := ((Bx.new (w.alloc (Obj.cells #[.int .u64 (dig (mont G.p.m x) 0 : Int), .int .u64 (dig (mont G.p.m x) 1 : Int), .int .u64 (dig (mont G.p.m x) 2 : Int), .int .u64 (dig (mont G.p.m x) 3 : Int), .int .u64 (dig (mont G.p.m y) 0 : Int), .int .u64 (dig (mont G.p.m y) 1 : Int), .int .u64 (dig (mont G.p.m y) 2 : Int), .int .u64 (dig (mont G.p.m y) 3 : Int)] 118)) 91 [.int .u64 (dig (mont G.q.m n) 0 : Int), .int .u64 (dig (mont G.q.m n) 1 : Int), .int .u64 (dig (mont G.q.m n) 2 : Int), .int .u64 (dig (mont G.q.m n) 3 : Int)] _ rfl).alloc (Obj.cells #[.int .u64 0, .int .u64 0, .int .u64 0, .int .u64 0] 111))
    rw [World.size_alloc] at h
    exact h
  have hC : Bx W0 (w.heap.size + 2) 111 [.int .u64 0, .int .u64 0, .int .u64 0, .int .u64 0] := by
    rw [← hW0]
    have h := (Bx.new ((w.alloc (Obj.cells #[.int .u64 (dig (mont G.p.m x) 0 : Int), .int .u64 (dig (mont G.p.m x) 1 : Int), .int .u64 (dig (mont G.p.m x) 2 : Int), .int .u64 (dig (mont G.p.m x) 3 : Int), .int .u64 (dig (mont G.p.m y) 0 : Int), .int .u64 (dig (mont G.p.m y) 1 : Int), .int .u64 (dig (mont G.p.m y) 2 : Int), .int .u64 (dig (mont G.p.m y) 3 : Int)] 118)).alloc (Obj.cells #[.int .u64 (dig (mont G.q.m n) 0 : Int), .int .u64 (dig (mont G.q.m n) 1 : Int), .int .u64 (dig (mont G.q.m n) 2 : Int), .int .u64 (dig (mont G.q.m n) 3 : Int)] 91)) 111 [.int .u64 0, .int .u64 0, .int .u64 0, .int .u64 0] _ rfl)
    rw [World.size_alloc, World.size_alloc] at h
    exact h
  have hBW : Below w.heap.size w W0 := by rw [← hW0]; exact ((((Below.refl w.heap.size w).alloc (Nat.le_refl _) _).alloc (by simp) _).alloc (by simp; omega) _)
  clear hW0
  have hG0 := hG.up hBW
  have hgl := hG0.lt
  have ha_0 := hA.cell (i := 0) rfl
  have ha_1 := hA.cell (i := 1) rfl
  have ha_2 := hA.cell (i := 2) rfl
  have ha_3 := hA.cell (i := 3) rfl
  have ha_4 := hA.cell (i := 4) rfl
  have ha_5 := hA.cell (i := 5) rfl
  have ha_6 := hA.cell (i := 6) rfl
  have ha_7 := hA.cell (i := 7) rfl
  have hb_0 := hB.cell (i := 0) rfl
  have hb_1 := hB.cell (i := 1) rfl
  have hb_2 := hB.cell (i := 2) rfl
  have hb_3 := hB.cell (i := 3) rfl
  have hla := hA.lt
  have hlb := hB.lt
  have HC := Lib.hid hC
  have HBW := Lib.hid hBW
  clear hA hB hC hBW hG
  refine wp_region_otail 11 (by kernel_rfl) (by kernel_rfl) ?_
  simp only [List.take_succ_cons, List.take_zero, List.drop_succ_cons, List.drop_zero]
  have hova := fun (E : Over W0) o => E.cell (b := w.heap.size) o hla
  have hovb := fun (E : Over W0) o => E.cell (b := w.heap.size + 1) o hlb
  repeat (go_big_quiet_step (first | (go_at_call 109; exact calls_over (gPower_any G OK.out gb _ _ _ (hG0.up (Over.h _)))) | (go_at_call 147; exact calls_over (gUnder_any G OK.out gb _ _ (hG0.up (Over.h _)))) | (go_at_call 108; exact calls_over (gTimes_any G OK.out gb _ _ _ (hG0.up (Over.h _))))))
  all_goals (try unfold elV limbV)
  repeat (go_big_quiet_step (first | (go_at_call 109; exact calls_over (gPower_any G OK.out gb _ _ _ (hG0.up (Over.h _)))) | (go_at_call 147; exact calls_over (gUnder_any G OK.out gb _ _ (hG0.up (Over.h _)))) | (go_at_call 108; exact calls_over (gTimes_any G OK.out gb _ _ _ (hG0.up (Over.h _))))))
  all_goals (try unfold elV limbV)
  repeat (go_big_quiet_step (first | (go_at_call 109; exact calls_over (gPower_any G OK.out gb _ _ _ (hG0.up (Over.h _)))) | (go_at_call 147; exact calls_over (gUnder_any G OK.out gb _ _ (hG0.up (Over.h _)))) | (go_at_call 108; exact calls_over (gTimes_any G OK.out gb _ _ _ (hG0.up (Over.h _))))))
  refine wpQuiet_nil ?_
  rintro _ ⟨E, rfl⟩
  have HZ := Lib.hid (HC.out.below E.h HC.out.lt)
  have HBB := Lib.hid (below_up HBW.out E.h)
  clear hova hovb
  generalize E.w = w3 at *
  have HS5 : Hid (Bx ((((w3.setCell ⟨w.heap.size + 2, 0, none⟩ (.int .u64 (dig (mont G.p.m (y * (x ^ (n % G.q.m)) ^ (G.p.m - 2))) 0 : Int))).setCell ⟨w.heap.size + 2, 1, none⟩ (.int .u64 (dig (mont G.p.m (y * (x ^ (n % G.q.m)) ^ (G.p.m - 2))) 1 : Int))).setCell ⟨w.heap.size + 2, 2, none⟩ (.int .u64 (dig (mont G.p.m (y * (x ^ (n % G.q.m)) ^ (G.p.m - 2))) 2 : Int))).setCell ⟨w.heap.size + 2, 3, none⟩ (.int .u64 (dig (mont G.p.m (y * (x ^ (n % G.q.m)) ^ (G.p.m - 2))) 3 : Int))) (w.heap.size + 2) 111 [.int .u64 (dig (mont G.p.m (y * (x ^ (n % G.q.m)) ^ (G.p.m - 2))) 0 : Int), .int .u64 (dig (mont G.p.m (y * (x ^ (n % G.q.m)) ^ (G.p.m - 2))) 1 : Int), .int .u64 (dig (mont G.p.m (y * (x ^ (n % G.q.m)) ^ (G.p.m - 2))) 2 : Int), .int .u64 (dig (mont G.p.m (y * (x ^ (n % G.q.m)) ^ (G.p.m - 2))) 3 : Int)]) := ((((HZ.out.set 0 (.int .u64 (dig (mont G.p.m (y * (x ^ (n % G.q.m)) ^ (G.p.m - 2))) 0 : Int))).set 1 (.int .u64 (dig (mont G.p.m (y * (x ^ (n % G.q.m)) ^ (G.p.m - 2))) 1 : Int))).set 2 (.int .u64 (dig (mont G.p.m (y * (x ^ (n % G.q.m)) ^ (G.p.m - 2))) 2 : Int))).set 3 (.int .u64 (dig (mont G.p.m (y * (x ^ (n % G.q.m)) ^ (G.p.m - 2))) 3 : Int)))
  have HB5 : Hid (Below w.heap.size w ((((w3.setCell ⟨w.heap.size + 2, 0, none⟩ (.int .u64 (dig (mont G.p.m (y * (x ^ (n % G.q.m)) ^ (G.p.m - 2))) 0 : Int))).setCell ⟨w.heap.size + 2, 1, none⟩ (.int .u64 (dig (mont G.p.m (y * (x ^ (n % G.q.m)) ^ (G.p.m - 2))) 1 : Int))).setCell ⟨w.heap.size + 2, 2, none⟩ (.int .u64 (dig (mont G.p.m (y * (x ^ (n % G.q.m)) ^ (G.p.m - 2))) 2 : Int))).setCell ⟨w.heap.size + 2, 3, none⟩ (.int .u64 (dig (mont G.p.m (y * (x ^ (n % G.q.m)) ^ (G.p.m - 2))) 3 : Int)))) := ((((HBB.out.setCell (show w.heap.size ≤ w.heap.size + 2 by omega) _).setCell (show w.heap.size ≤ w.heap.size + 2 by omega) _).setCell (show w.heap.size ≤ w.heap.size + 2 by omega) _).setCell (show w.heap.size ≤ w.heap.size + 2 by omega) _)
  have hz_0 := HZ.out.cell (i := 0) rfl
  have hz_1 := HZ.out.cell (i := 1) rfl
  have hz_2 := HZ.out.cell (i := 2) rfl
  have hz_3 := HZ.out.cell (i := 3) rfl
  have hzf_0 := HZ.out.frozen 0
  have hzf_1 := HZ.out.frozen 1
  have hzf_2 := HZ.out.frozen 2
  have hzf_3 := HZ.out.frozen 3
  go_wp2_with fail
  generalize ((((w3.setCell ⟨w.heap.size + 2, 0, none⟩ (.int .u64 (dig (mont G.p.m (y * (x ^ (n % G.q.m)) ^ (G.p.m - 2))) 0 : Int))).setCell ⟨w.heap.size + 2, 1, none⟩ (.int .u64 (dig (mont G.p.m (y * (x ^ (n % G.q.m)) ^ (G.p.m - 2))) 1 : Int))).setCell ⟨w.heap.size + 2, 2, none⟩ (.int .u64 (dig (mont G.p.m (y * (x ^ (n % G.q.m)) ^ (G.p.m - 2))) 2 : Int))).setCell ⟨w.heap.size + 2, 3, none⟩ (.int .u64 (dig (mont G.p.m (y * (x ^ (n % G.q.m)) ^ (G.p.m - 2))) 3 : Int))) = w5 at *
  clear hz_0 hz_1 hz_2 hz_3
  have hg_0 := HS5.out.cell (i := 0) rfl
  have hg_1 := HS5.out.cell (i := 1) rfl
  have hg_2 := HS5.out.cell (i := 2) rfl
  have hg_3 := HS5.out.cell (i := 3) rfl
  simp [bodyPost, results, Try.results90, go_sem, hg_0, hg_1, hg_2, hg_3]
  exact HB5.out

end Go.Proofs.Ytipgjookfdkciaa

/- Ciphers: what is hidden, what is read. No condition. -/
namespace Go.Proofs.Ytipgjookfdkciaa
open Go.RowKit

set_option maxRecDepth 100000 in
set_option maxHeartbeats 2000000 in
theorem hide_any (G : GP) (ok : G.Ok) (gb k x n : Nat) (w : World) (hG : GroupAt w gb G) :
    Calls Try.prog 77 #[boxV gb G k, scV G x, scV G n] w (Gives (pairV G (2 ^ (n % G.q.m)) (k ^ (n % G.q.m) * 2 ^ (x % G.q.m))) w) := by
  have OK := Lib.hid ok
  clear ok
  have hnt := fun W h => nothing_any G OK.out gb k n W h
  have HNT := Lib.hid hnt
  clear hnt
  unfold boxV scV limbV pairV Gives
  go_enter Try.func77, Try.ntmps77
  go_wp2_with fail
  obtain ⟨W0, hW0⟩ : ∃ W9 : World, ((((w.alloc (Obj.cells #[.pointer (some ⟨gb, 0, none⟩), .int .u64 (dig (mont G.p.m k) 0 : Int), .int .u64 (dig (mont G.p.m k) 1 : Int), .int .u64 (dig (mont G.p.m k) 2 : Int), .int .u64 (dig (mont G.p.m k) 3 : Int)] 113)).alloc (Obj.cells #[.int .u64 (dig (mont G.q.m x) 0 : Int), .int .u64 (dig (mont G.q.m x) 1 : Int), .int .u64 (dig (mont G.q.m x) 2 : Int), .int .u64 (dig (mont G.q.m x) 3 : Int)] 91)).alloc (Obj.cells #[.int .u64 (dig (mont G.q.m n) 0 : Int), .int .u64 (dig (mont G.q.m n) 1 : Int), .int .u64 (dig (mont G.q.m n) 2 : Int), .int .u64 (dig (mont G.q.m n) 3 : Int)] 91)).alloc (Obj.cells #[.int .u64 0, .int .u64 0, .int .u64 0, .int .u64 0, .int .u64 0, .int .u64 0, .int .u64 0, .int .u64 0] 118)) = W9 := ⟨_, rfl⟩
  rw [hW0]
  have hA : Bx W0 (w.heap.size) 113 [.pointer (some ⟨gb, 0, none⟩), .int .u64 (dig (mont G.p.m k) 0 : Int), .int .u64 (dig (mont G.p.m k) 1 : Int), .int .u64 (dig (mont G.p.m k) 2 : Int), .int .u64 (dig (mont G.p.m k) 3 : Int)] := by
    rw [← hW0]
    have h := ((((Bx.new w 113 [.pointer (some ⟨gb, 0, none⟩), .int .u64 (dig (mont G.p.m k) 0 : Int), .int .u64 (dig (mont G.p.m k) 1 : Int), .int .u64 (dig (mont G.p.m k) 2 : Int), .int .u64 (dig (mont G.p.m k) 3 : Int)] _ rfl).alloc (Obj.cells #[.int .u64 (dig (mont G.q.m x) 0 : Int), .int .u64 (dig (mont G.q.m x) 1 : Int), .int .u64 (dig (mont G.q.m x) 2 : Int), .int .u64 (dig (mont G.q.m x) 3 : Int)] 91)).alloc (Obj.cells #[.int .u64 (dig (mont G.q.m n) 0 : Int), .int .u64 (dig (mont G.q.m n) 1 : Int), .int .u64 (dig (mont G.q.m n) 2 : Int), .int .u64 (dig (mont G.q.m n) 3 : Int)] 91)).alloc (Obj.cells #[.int .u64 0, .int .u64 0, .int .u64 0, .int .u64 0, .int .u64 0, .int .u64 0, .int .u64 0, .int .u64 0] 118))
    exact h
  have hX : Bx W0 (w.heap.size + 1) 91 [.int .u64 (dig (mont G.q.m x) 0 : Int), .int .u64 (dig (mont G.q.m x) 1 : Int), .int .u64 (dig (mont G.q.m x) 2 : Int), .int .u64 (dig (mont G.q.m x) 3 : Int)] := by
    rw [← hW0]
    have h := (((Bx.new (w.alloc (Obj.cells #[.pointer (some ⟨gb, 0, none⟩), .int .u64 (dig (mont G.p.m k) 0 : Int), .int .u64 (dig (mont G.p.m k) 1 : Int), .int .u64 (dig (mont G.p.m k) 2 : Int), .int .u64 (dig (mont G.p.m k) 3 : Int)] 113)) 91 [.int .u64 (dig (mont G.q.m x) 0 : Int), .int .u64 (dig (mont G.q.m x) 1 : Int), .int .u64 (dig (mont G.q.m x) 2 : Int), .int .u64 (dig (mont G.q.m x) 3 : Int)] _ rfl).alloc (Obj.cells #[.int .u64 (dig (mont G.q.m n) 0 : Int), .int .u64 (dig (mont G.q.m n) 1 : Int), .int .u64 (dig (mont G.q.m n) 2 : Int), .int .u64 (dig (mont G.q.m n) 3 : Int)] 91)).alloc (Obj.cells #[.int .u64 0, .int .u64 0, .int .u64 0, .int .u64 0, .int .u64 0, .int .u64 0, .int .u64 0, .int .u64 0] 118))
    rw [World.size_alloc] at h
    exact h
  have hN : Bx W0 (w.heap.size + 2) 91 [.int .u64 (dig (mont G.q.m n) 0 : Int), .int .u64 (dig (mont G.q.m n) 1 : Int), .int .u64 (dig (mont G.q.m n) 2 : Int), .int .u64 (dig (mont G.q.m n) 3 : Int)] := by
    rw [← hW0]
    have h := ((Bx.new ((w.alloc (Obj.cells #[.pointer (some ⟨gb, 0, none⟩), .int .u64 (dig (mont G.p.m k) 0 : Int), .int .u64 (dig (mont G.p.m k) 1 : Int), .int .u64 (dig (mont G.p.m k) 2 : Int), .int .u64 (dig (mont G.p.m k) 3 : Int)] 113)).alloc (Obj.cells #[.int .u64 (dig (mont G.q.m x) 0 : Int), .int .u64 (dig (mont G.q.m x) 1 : Int), .int .u64 (dig (mont G.q.m x) 2 : Int), .int .u64 (dig (mont G.q.m x) 3 : Int)] 91)) 91 [.int .u64 (dig (mont G.q.m n) 0 : Int), .int .u64 (dig (mont G.q.m n) 1 : Int), .int .u64 (dig (mont G.q.m n) 2 : Int), .int .u64 (dig (mont G.q.m n) 3 : Int)] _ rfl).alloc (Obj.cells #[.int .u64 0, .int .u64 0, .int .u64 0, .int .u64 0, .int .u64 0, .int .u64 0, .int .u64 0, .int .u64 0] 118))
    rw [World.size_alloc, World.size_alloc] at h
    exact h
  have hC : Bx W0 (w.heap.size + 3) 118 [.int .u64 0, .int .u64 0, .int .u64 0, .int .u64 0, .int .u64 0, .int .u64 0, .int .u64 0, .int .u64 0] := by
    rw [← hW0]
    have h := (Bx.new (((w.alloc (Obj.cells #[.pointer (some ⟨gb, 0, none⟩), .int .u64 (dig (mont G.p.m k) 0 : Int), .int .u64 (dig (mont G.p.m k) 1 : Int), .int .u64 (dig (mont G.p.m k) 2 : Int), .int .u64 (dig (mont G.p.m k) 3 : Int)] 113)).alloc (Obj.cells #[.int .u64 (dig (mont G.q.m x) 0 : Int), .int .u64 (dig (mont G.q.m x) 1 : Int), .int .u64 (dig (mont G.q.m x) 2 : Int), .int .u64 (dig (mont G.q.m x) 3 : Int)] 91)).alloc (Obj.cells #[.int .u64 (dig (mont G.q.m n) 0 : Int), .int .u64 (dig (mont G.q.m n) 1 : Int), .int .u64 (dig (mont G.q.m n) 2 : Int), .int .u64 (dig (mont G.q.m n) 3 : Int)] 91)) 118 [.int .u64 0, .int .u64 0, .int .u64 0, .int .u64 0, .int .u64 0, .int .u64 0, .int .u64 0, .int .u64 0] _ rfl)
    rw [World.size_alloc, World.size_alloc, World.size_alloc] at h
    exact h
  have hBW : Below w.heap.size w W0 := by rw [← hW0]; exact (((((Below.refl w.heap.size w).alloc (Nat.le_refl _) _).alloc (by simp) _).alloc (by simp; omega) _).alloc (by simp; omega) _)
  clear hW0
  have hG0 := hG.up hBW
  have HG := Lib.hid hG0
  have HA := Lib.hid hA
  have HX := Lib.hid hX
  have HC := Lib.hid hC
  have HBW := Lib.hid hBW
  have ha_0 := hA.cell (i := 0) rfl
  have ha_1 := hA.cell (i := 1) rfl
  have ha_2 := hA.cell (i := 2) rfl
  have ha_3 := hA.cell (i := 3) rfl
  have ha_4 := hA.cell (i := 4) rfl
  have hx_0 := hX.cell (i := 0) rfl
  have hx_1 := hX.cell (i := 1) rfl
  have hx_2 := hX.cell (i := 2) rfl
  have hx_3 := hX.cell (i := 3) rfl
  have hn_0 := hN.cell (i := 0) rfl
  have hn_1 := hN.cell (i := 1) rfl
  have hn_2 := hN.cell (i := 2) rfl
  have hn_3 := hN.cell (i := 3) rfl
  clear hA hX hN hC hBW hG hG0
  go_wp2_with fail
  refine (HNT.out W0 HG.out).mono ?_
  rintro e w1 ⟨rfl, hb1⟩
  have HB1 := Lib.hid hb1
  clear hb1 ha_0 ha_1 ha_2 ha_3 ha_4 hx_0 hx_1 hx_2 hx_3 hn_0 hn_1 hn_2 hn_3
  unfold pairV
  have hlb : Below w1.heap.size w1 (w1.alloc (Obj.cells #[.int .u64 (dig (mont G.p.m (2 ^ (n % G.q.m))) 0 : Int), .int .u64 (dig (mont G.p.m (2 ^ (n % G.q.m))) 1 : Int), .int .u64 (dig (mont G.p.m (2 ^ (n % G.q.m))) 2 : Int), .int .u64 (dig (mont G.p.m (2 ^ (n % G.q.m))) 3 : Int), .int .u64 (dig (mont G.p.m (k ^ (n % G.q.m))) 0 : Int), .int .u64 (dig (mont G.p.m (k ^ (n % G.q.m))) 1 : Int), .int .u64 (dig (mont G.p.m (k ^ (n % G.q.m))) 2 : Int), .int .u64 (dig (mont G.p.m (k ^ (n % G.q.m))) 3 : Int)] 118)) := (Below.refl _ _).alloc (Nat.le_refl _) _
  have hlz : Bx (w1.alloc (Obj.cells #[.int .u64 (dig (mont G.p.m (2 ^ (n % G.q.m))) 0 : Int), .int .u64 (dig (mont G.p.m (2 ^ (n % G.q.m))) 1 : Int), .int .u64 (dig (mont G.p.m (2 ^ (n % G.q.m))) 2 : Int), .int .u64 (dig (mont G.p.m (2 ^ (n % G.q.m))) 3 : Int), .int .u64 (dig (mont G.p.m (k ^ (n % G.q.m))) 0 : Int), .int .u64 (dig (mont G.p.m (k ^ (n % G.q.m))) 1 : Int), .int .u64 (dig (mont G.p.m (k ^ (n % G.q.m))) 2 : Int), .int .u64 (dig (mont G.p.m (k ^ (n % G.q.m))) 3 : Int)] 118)) w1.heap.size 118 [.int .u64 (dig (mont G.p.m (2 ^ (n % G.q.m))) 0 : Int), .int .u64 (dig (mont G.p.m (2 ^ (n % G.q.m))) 1 : Int), .int .u64 (dig (mont G.p.m (2 ^ (n % G.q.m))) 2 : Int), .int .u64 (dig (mont G.p.m (2 ^ (n % G.q.m))) 3 : Int), .int .u64 (dig (mont G.p.m (k ^ (n % G.q.m))) 0 : Int), .int .u64 (dig (mont G.p.m (k ^ (n % G.q.m))) 1 : Int), .int .u64 (dig (mont G.p.m (k ^ (n % G.q.m))) 2 : Int), .int .u64 (dig (mont G.p.m (k ^ (n % G.q.m))) 3 : Int)] := Bx.new _ _ _ _ rfl
  obtain ⟨w2, hlw⟩ : ∃ W9 : World, (w1.alloc (Obj.cells #[.int .u64 (dig (mont G.p.m (2 ^ (n % G.q.m))) 0 : Int), .int .u64 (dig (mont G.p.m (2 ^ (n % G.q.m))) 1 : Int), .int .u64 (dig (mont G.p.m (2 ^ (n % G.q.m))) 2 : Int), .int .u64 (dig (mont G.p.m (2 ^ (n % G.q.m))) 3 : Int), .int .u64 (dig (mont G.p.m (k ^ (n % G.q.m))) 0 : Int), .int .u64 (dig (mont G.p.m (k ^ (n % G.q.m))) 1 : Int), .int .u64 (dig (mont G.p.m (k ^ (n % G.q.m))) 2 : Int), .int .u64 (dig (mont G.p.m (k ^ (n % G.q.m))) 3 : Int)] 118)) = W9 := ⟨_, rfl⟩
  rw [hlw] at hlb hlz
  have HLw2 := Lib.hid hlb
  have HXw2 := Lib.hid hlz
  clear hlb hlz
  have HB2 := Lib.hid (below_up HB1.out HLw2.out)
  have hA2 := HA.out.up HB2.out
  have hX2 := HX.out.up HB2.out
  have hG2 := HG.out.up HB2.out
  have hla := hA2.lt
  have hlx := hX2.lt
  have hlp := HXw2.out.lt
  have ha_0 := hA2.cell (i := 0) rfl
  have ha_1 := hA2.cell (i := 1) rfl
  have ha_2 := hA2.cell (i := 2) rfl
  have ha_3 := hA2.cell (i := 3) rfl
  have ha_4 := hA2.cell (i := 4) rfl
  have hx_0 := hX2.cell (i := 0) rfl
  have hx_1 := hX2.cell (i := 1) rfl
  have hx_2 := hX2.cell (i := 2) rfl
  have hx_3 := hX2.cell (i := 3) rfl
  have hp_0 := HXw2.out.cell (i := 0) rfl
  have hp_1 := HXw2.out.cell (i := 1) rfl
  have hp_2 := HXw2.out.cell (i := 2) rfl
  have hp_3 := HXw2.out.cell (i := 3) rfl
  have hp_4 := HXw2.out.cell (i := 4) rfl
  have hp_5 := HXw2.out.cell (i := 5) rfl
  have hp_6 := HXw2.out.cell (i := 6) rfl
  have hp_7 := HXw2.out.cell (i := 7) rfl
  clear hA2 hX2
  go_wp2_with fail
  refine wp_region_otail 10 (by kernel_rfl) (by kernel_rfl) ?_
  simp only [List.take_succ_cons, List.take_zero, List.drop_succ_cons, List.drop_zero]
  have hova := fun (E : Over w2) o => E.cell (b := w.heap.size) o hla
  have hovx := fun (E : Over w2) o => E.cell (b := w.heap.size + 1) o hlx
  have hovp := fun (E : Over w2) o => E.cell (b := w1.heap.size) o hlp
  repeat (go_big_quiet_step (first | (go_at_call 92; exact calls_over (gRaise_any G OK.out gb _ _ (hG2.up (Over.h _)))) | (go_at_call 108; exact calls_over (gTimes_any G OK.out gb _ _ _ (hG2.up (Over.h _))))))
  all_goals (try unfold elV limbV)
  repeat (go_big_quiet_step (first | (go_at_call 92; exact calls_over (gRaise_any G OK.out gb _ _ (hG2.up (Over.h _)))) | (go_at_call 108; exact calls_over (gTimes_any G OK.out gb _ _ _ (hG2.up (Over.h _))))))
  all_goals (try unfold elV limbV)
  repeat (go_big_quiet_step (first | (go_at_call 92; exact calls_over (gRaise_any G OK.out gb _ _ (hG2.up (Over.h _)))) | (go_at_call 108; exact calls_over (gTimes_any G OK.out gb _ _ _ (hG2.up (Over.h _))))))
  refine wpQuiet_nil ?_
  rintro _ ⟨E, rfl⟩
  have HC3 := Lib.hid ((HC.out.up HB2.out).below E.h ((HC.out.up HB2.out).lt))
  have HP3 := Lib.hid (HXw2.out.below E.h hlp)
  have HBB := Lib.hid (below_up (below_up HBW.out HB2.out) E.h)
  have hsz := HB1.out.size
  have hszw := HBW.out.size
  have hc0 := HC.out.lt
  clear hova hovx hovp hlw ha_0 ha_1 ha_2 ha_3 ha_4 hx_0 hx_1 hx_2 hx_3 hp_0 hp_1 hp_2 hp_3 hp_4 hp_5 hp_6 hp_7
  generalize E.w = w3 at *
  have hz_4 := HP3.out.cell (i := 4) rfl
  have hz_5 := HP3.out.cell (i := 5) rfl
  have hz_6 := HP3.out.cell (i := 6) rfl
  have hz_7 := HP3.out.cell (i := 7) rfl
  have hzf_4 := HP3.out.frozen 4
  have hzf_5 := HP3.out.frozen 5
  have hzf_6 := HP3.out.frozen 6
  have hzf_7 := HP3.out.frozen 7
  have hs5 : Bx ((((w3.setCell ⟨w1.heap.size, 4, none⟩ (.int .u64 (dig (mont G.p.m (k ^ (n % G.q.m) * 2 ^ (x % G.q.m))) 0 : Int))).setCell ⟨w1.heap.size, 5, none⟩ (.int .u64 (dig (mont G.p.m (k ^ (n % G.q.m) * 2 ^ (x % G.q.m))) 1 : Int))).setCell ⟨w1.heap.size, 6, none⟩ (.int .u64 (dig (mont G.p.m (k ^ (n % G.q.m) * 2 ^ (x % G.q.m))) 2 : Int))).setCell ⟨w1.heap.size, 7, none⟩ (.int .u64 (dig (mont G.p.m (k ^ (n % G.q.m) * 2 ^ (x % G.q.m))) 3 : Int))) (w1.heap.size) 118 [.int .u64 (dig (mont G.p.m (2 ^ (n % G.q.m))) 0 : Int), .int .u64 (dig (mont G.p.m (2 ^ (n % G.q.m))) 1 : Int), .int .u64 (dig (mont G.p.m (2 ^ (n % G.q.m))) 2 : Int), .int .u64 (dig (mont G.p.m (2 ^ (n % G.q.m))) 3 : Int), .int .u64 (dig (mont G.p.m (k ^ (n % G.q.m) * 2 ^ (x % G.q.m))) 0 : Int), .int .u64 (dig (mont G.p.m (k ^ (n % G.q.m) * 2 ^ (x % G.q.m))) 1 : Int), .int .u64 (dig (mont G.p.m (k ^ (n % G.q.m) * 2 ^ (x % G.q.m))) 2 : Int), .int .u64 (dig (mont G.p.m (k ^ (n % G.q.m) * 2 ^ (x % G.q.m))) 3 : Int)] := ((((HP3.out.set 4 (.int .u64 (dig (mont G.p.m (k ^ (n % G.q.m) * 2 ^ (x % G.q.m))) 0 : Int))).set 5 (.int .u64 (dig (mont G.p.m (k ^ (n % G.q.m) * 2 ^ (x % G.q.m))) 1 : Int))).set 6 (.int .u64 (dig (mont G.p.m (k ^ (n % G.q.m) * 2 ^ (x % G.q.m))) 2 : Int))).set 7 (.int .u64 (dig (mont G.p.m (k ^ (n % G.q.m) * 2 ^ (x % G.q.m))) 3 : Int)))
  have hb5 : Below w.heap.size w ((((w3.setCell ⟨w1.heap.size, 4, none⟩ (.int .u64 (dig (mont G.p.m (k ^ (n % G.q.m) * 2 ^ (x % G.q.m))) 0 : Int))).setCell ⟨w1.heap.size, 5, none⟩ (.int .u64 (dig (mont G.p.m (k ^ (n % G.q.m) * 2 ^ (x % G.q.m))) 1 : Int))).setCell ⟨w1.heap.size, 6, none⟩ (.int .u64 (dig (mont G.p.m (k ^ (n % G.q.m) * 2 ^ (x % G.q.m))) 2 : Int))).setCell ⟨w1.heap.size, 7, none⟩ (.int .u64 (dig (mont G.p.m (k ^ (n % G.q.m) * 2 ^ (x % G.q.m))) 3 : Int))) := ((((HBB.out.setCell (show w.heap.size ≤ w1.heap.size by omega) _).setCell (show w.heap.size ≤ w1.heap.size by omega) _).setCell (show w.heap.size ≤ w1.heap.size by omega) _).setCell (show w.heap.size ≤ w1.heap.size by omega) _)
  have ho50 := ((((HC3.out.other (show _ ≠ w1.heap.size by omega) 4 (.int .u64 (dig (mont G.p.m (k ^ (n % G.q.m) * 2 ^ (x % G.q.m))) 0 : Int))).other (show _ ≠ w1.heap.size by omega) 5 (.int .u64 (dig (mont G.p.m (k ^ (n % G.q.m) * 2 ^ (x % G.q.m))) 1 : Int))).other (show _ ≠ w1.heap.size by omega) 6 (.int .u64 (dig (mont G.p.m (k ^ (n % G.q.m) * 2 ^ (x % G.q.m))) 2 : Int))).other (show _ ≠ w1.heap.size by omega) 7 (.int .u64 (dig (mont G.p.m (k ^ (n % G.q.m) * 2 ^ (x % G.q.m))) 3 : Int)))
  obtain ⟨w5, hw5⟩ : ∃ W9 : World, ((((w3.setCell ⟨w1.heap.size, 4, none⟩ (.int .u64 (dig (mont G.p.m (k ^ (n % G.q.m) * 2 ^ (x % G.q.m))) 0 : Int))).setCell ⟨w1.heap.size, 5, none⟩ (.int .u64 (dig (mont G.p.m (k ^ (n % G.q.m) * 2 ^ (x % G.q.m))) 1 : Int))).setCell ⟨w1.heap.size, 6, none⟩ (.int .u64 (dig (mont G.p.m (k ^ (n % G.q.m) * 2 ^ (x % G.q.m))) 2 : Int))).setCell ⟨w1.heap.size, 7, none⟩ (.int .u64 (dig (mont G.p.m (k ^ (n % G.q.m) * 2 ^ (x % G.q.m))) 3 : Int))) = W9 := ⟨_, rfl⟩
  rw [hw5] at hs5 hb5 ho50
  have HSw5 := Lib.hid hs5
  have HBw5 := Lib.hid hb5
  have HC3w5 := Lib.hid ho50
  clear hs5 hb5 ho50
  have hr_0 := HSw5.out.cell (i := 0) rfl
  have hr_1 := HSw5.out.cell (i := 1) rfl
  have hr_2 := HSw5.out.cell (i := 2) rfl
  have hr_3 := HSw5.out.cell (i := 3) rfl
  have hr_4 := HSw5.out.cell (i := 4) rfl
  have hr_5 := HSw5.out.cell (i := 5) rfl
  have hr_6 := HSw5.out.cell (i := 6) rfl
  have hr_7 := HSw5.out.cell (i := 7) rfl
  have HS5 : Hid (Bx ((((((((w5.setCell ⟨w.heap.size + 3, 0, none⟩ (.int .u64 (dig (mont G.p.m (2 ^ (n % G.q.m))) 0 : Int))).setCell ⟨w.heap.size + 3, 1, none⟩ (.int .u64 (dig (mont G.p.m (2 ^ (n % G.q.m))) 1 : Int))).setCell ⟨w.heap.size + 3, 2, none⟩ (.int .u64 (dig (mont G.p.m (2 ^ (n % G.q.m))) 2 : Int))).setCell ⟨w.heap.size + 3, 3, none⟩ (.int .u64 (dig (mont G.p.m (2 ^ (n % G.q.m))) 3 : Int))).setCell ⟨w.heap.size + 3, 4, none⟩ (.int .u64 (dig (mont G.p.m (k ^ (n % G.q.m) * 2 ^ (x % G.q.m))) 0 : Int))).setCell ⟨w.heap.size + 3, 5, none⟩ (.int .u64 (dig (mont G.p.m (k ^ (n % G.q.m) * 2 ^ (x % G.q.m))) 1 : Int))).setCell ⟨w.heap.size + 3, 6, none⟩ (.int .u64 (dig (mont G.p.m (k ^ (n % G.q.m) * 2 ^ (x % G.q.m))) 2 : Int))).setCell ⟨w.heap.size + 3, 7, none⟩ (.int .u64 (dig (mont G.p.m (k ^ (n % G.q.m) * 2 ^ (x % G.q.m))) 3 : Int))) (w.heap.size + 3) 118 [.int .u64 (dig (mont G.p.m (2 ^ (n % G.q.m))) 0 : Int), .int .u64 (dig (mont G.p.m (2 ^ (n % G.q.m))) 1 : Int), .int .u64 (dig (mont G.p.m (2 ^ (n % G.q.m))) 2 : Int), .int .u64 (dig (mont G.p.m (2 ^ (n % G.q.m))) 3 : Int), .int .u64 (dig (mont G.p.m (k ^ (n % G.q.m) * 2 ^ (x % G.q.m))) 0 : Int), .int .u64 (dig (mont G.p.m (k ^ (n % G.q.m) * 2 ^ (x % G.q.m))) 1 : Int), .int .u64 (dig (mont G.p.m (k ^ (n % G.q.m) * 2 ^ (x % G.q.m))) 2 : Int), .int .u64 (dig (mont G.p.m (k ^ (n % G.q.m) * 2 ^ (x % G.q.m))) 3 : Int)]) := ((((((((HC3w5.out.set 0 (.int .u64 (dig (mont G.p.m (2 ^ (n % G.q.m))) 0 : Int))).set 1 (.int .u64 (dig (mont G.p.m (2 ^ (n % G.q.m))) 1 : Int))).set 2 (.int .u64 (dig (mont G.p.m (2 ^ (n % G.q.m))) 2 : Int))).set 3 (.int .u64 (dig (mont G.p.m (2 ^ (n % G.q.m))) 3 : Int))).set 4 (.int .u64 (dig (mont G.p.m (k ^ (n % G.q.m) * 2 ^ (x % G.q.m))) 0 : Int))).set 5 (.int .u64 (dig (mont G.p.m (k ^ (n % G.q.m) * 2 ^ (x % G.q.m))) 1 : Int))).set 6 (.int .u64 (dig (mont G.p.m (k ^ (n % G.q.m) * 2 ^ (x % G.q.m))) 2 : Int))).set 7 (.int .u64 (dig (mont G.p.m (k ^ (n % G.q.m) * 2 ^ (x % G.q.m))) 3 : Int)))
  have HB5 : Hid (Below w.heap.size w ((((((((w5.setCell ⟨w.heap.size + 3, 0, none⟩ (.int .u64 (dig (mont G.p.m (2 ^ (n % G.q.m))) 0 : Int))).setCell ⟨w.heap.size + 3, 1, none⟩ (.int .u64 (dig (mont G.p.m (2 ^ (n % G.q.m))) 1 : Int))).setCell ⟨w.heap.size + 3, 2, none⟩ (.int .u64 (dig (mont G.p.m (2 ^ (n % G.q.m))) 2 : Int))).setCell ⟨w.heap.size + 3, 3, none⟩ (.int .u64 (dig (mont G.p.m (2 ^ (n % G.q.m))) 3 : Int))).setCell ⟨w.heap.size + 3, 4, none⟩ (.int .u64 (dig (mont G.p.m (k ^ (n % G.q.m) * 2 ^ (x % G.q.m))) 0 : Int))).setCell ⟨w.heap.size + 3, 5, none⟩ (.int .u64 (dig (mont G.p.m (k ^ (n % G.q.m) * 2 ^ (x % G.q.m))) 1 : Int))).setCell ⟨w.heap.size + 3, 6, none⟩ (.int .u64 (dig (mont G.p.m (k ^ (n % G.q.m) * 2 ^ (x % G.q.m))) 2 : Int))).setCell ⟨w.heap.size + 3, 7, none⟩ (.int .u64 (dig (mont G.p.m (k ^ (n % G.q.m) * 2 ^ (x % G.q.m))) 3 : Int)))) := ((((((((HBw5.out.setCell (show w.heap.size ≤ w.heap.size + 3 by omega) _).setCell (show w.heap.size ≤ w.heap.size + 3 by omega) _).setCell (show w.heap.size ≤ w.heap.size + 3 by omega) _).setCell (show w.heap.size ≤ w.heap.size + 3 by omega) _).setCell (show w.heap.size ≤ w.heap.size + 3 by omega) _).setCell (show w.heap.size ≤ w.heap.size + 3 by omega) _).setCell (show w.heap.size ≤ w.heap.size + 3 by omega) _).setCell (show w.heap.size ≤ w.heap.size + 3 by omega) _)
  have hz_0 := HC3w5.out.cell (i := 0) rfl
  have hz_1 := HC3w5.out.cell (i := 1) rfl
  have hz_2 := HC3w5.out.cell (i := 2) rfl
  have hz_3 := HC3w5.out.cell (i := 3) rfl
  have hz_4 := HC3w5.out.cell (i := 4) rfl
  have hz_5 := HC3w5.out.cell (i := 5) rfl
  have hz_6 := HC3w5.out.cell (i := 6) rfl
  have hz_7 := HC3w5.out.cell (i := 7) rfl
  have hzf_0 := HC3w5.out.frozen 0
  have hzf_1 := HC3w5.out.frozen 1
  have hzf_2 := HC3w5.out.frozen 2
  have hzf_3 := HC3w5.out.frozen 3
  have hzf_4 := HC3w5.out.frozen 4
  have hzf_5 := HC3w5.out.frozen 5
  have hzf_6 := HC3w5.out.frozen 6
  have hzf_7 := HC3w5.out.frozen 7
  go_wp2_with fail
  generalize ((((((((w5.setCell ⟨w.heap.size + 3, 0, none⟩ (.int .u64 (dig (mont G.p.m (2 ^ (n % G.q.m))) 0 : Int))).setCell ⟨w.heap.size + 3, 1, none⟩ (.int .u64 (dig (mont G.p.m (2 ^ (n % G.q.m))) 1 : Int))).setCell ⟨w.heap.size + 3, 2, none⟩ (.int .u64 (dig (mont G.p.m (2 ^ (n % G.q.m))) 2 : Int))).setCell ⟨w.heap.size + 3, 3, none⟩ (.int .u64 (dig (mont G.p.m (2 ^ (n % G.q.m))) 3 : Int))).setCell ⟨w.heap.size + 3, 4, none⟩ (.int .u64 (dig (mont G.p.m (k ^ (n % G.q.m) * 2 ^ (x % G.q.m))) 0 : Int))).setCell ⟨w.heap.size + 3, 5, none⟩ (.int .u64 (dig (mont G.p.m (k ^ (n % G.q.m) * 2 ^ (x % G.q.m))) 1 : Int))).setCell ⟨w.heap.size + 3, 6, none⟩ (.int .u64 (dig (mont G.p.m (k ^ (n % G.q.m) * 2 ^ (x % G.q.m))) 2 : Int))).setCell ⟨w.heap.size + 3, 7, none⟩ (.int .u64 (dig (mont G.p.m (k ^ (n % G.q.m) * 2 ^ (x % G.q.m))) 3 : Int))) = w5 at *
  clear hz_0 hz_1 hz_2 hz_3 hz_4 hz_5 hz_6 hz_7
  have hg_0 := HS5.out.cell (i := 0) rfl
  have hg_1 := HS5.out.cell (i := 1) rfl
  have hg_2 := HS5.out.cell (i := 2) rfl
  have hg_3 := HS5.out.cell (i := 3) rfl
  have hg_4 := HS5.out.cell (i := 4) rfl
  have hg_5 := HS5.out.cell (i := 5) rfl
  have hg_6 := HS5.out.cell (i := 6) rfl
  have hg_7 := HS5.out.cell (i := 7) rfl
  simp [bodyPost, results, Try.results77, go_sem, hg_0, hg_1, hg_2, hg_3, hg_4, hg_5, hg_6, hg_7]
  exact HB5.out

def pairL (x y : Nat) : Value := .agg #[.int .u64 (dig x 0 : Int), .int .u64 (dig x 1 : Int), .int .u64 (dig x 2 : Int), .int .u64 (dig x 3 : Int), .int .u64 (dig y 0 : Int), .int .u64 (dig y 1 : Int), .int .u64 (dig y 2 : Int), .int .u64 (dig y 3 : Int)]
theorem pairL_V (G : GP) (x y : Nat) : pairL (mont G.p.m x) (mont G.p.m y) = pairV G x y := rfl

/-- What reading a pair answers. -/
def ReadP (b : Bool) (m n : Nat) (w : World) (e : Ending) (w' : World) : Prop := ∃ x y : Nat, e = .returned (.tuple #[pairL x y, .bool b]) ∧ Below w.heap.size w w' ∧ (b = true → x = m ∧ y = n)

set_option maxRecDepth 100000 in
set_option maxHeartbeats 2000000 in
theorem bread_any (G : GP) (ok : G.Ok) (gb : Nat) (a b : ByteArray) (ba bb : Bool) (hba : isEl G.q.m G.size a = ba) (hbb : isEl G.q.m G.size b = bb) (w : World) (hG : GroupAt w gb G) :
    Calls Try.prog 86 #[.pointer (some ⟨gb, 0, none⟩), ciphV a b] w (ReadP (ba && bb) (mont G.p.m (numOf a)) (mont G.p.m (numOf b)) w) := by
  have OK := Lib.hid ok
  have HA := Lib.hid hba
  have HBB := Lib.hid hbb
  clear ok hba hbb
  unfold ciphV
  go_enter Try.func86, Try.ntmps86
  go_wp2_with fail
  obtain ⟨W0, hW0⟩ : ∃ W9 : World, ((w.alloc (Obj.cells #[.string a, .string b] 41)).alloc (Obj.cells #[.int .u64 0, .int .u64 0, .int .u64 0, .int .u64 0, .int .u64 0, .int .u64 0, .int .u64 0, .int .u64 0] 118)) = W9 := ⟨_, rfl⟩
  rw [hW0]
  have hC : Bx W0 (w.heap.size) 41 [.string a, .string b] := by
    rw [← hW0]
    have h := ((Bx.new w 41 [.string a, .string b] _ rfl).alloc (Obj.cells #[.int .u64 0, .int .u64 0, .int .u64 0, .int .u64 0, .int .u64 0, .int .u64 0, .int .u64 0, .int .u64 0] 118))
    exact h
  have hP : Bx W0 (w.heap.size + 1) 118 [.int .u64 0, .int .u64 0, .int .u64 0, .int .u64 0, .int .u64 0, .int .u64 0, .int .u64 0, .int .u64 0] := by
    rw [← hW0]
    have h := (Bx.new (w.alloc (Obj.cells #[.string a, .string b] 41)) 118 [.int .u64 0, .int .u64 0, .int .u64 0, .int .u64 0, .int .u64 0, .int .u64 0, .int .u64 0, .int .u64 0] _ rfl)
    rw [World.size_alloc] at h
    exact h
  have hBW : Below w.heap.size w W0 := by rw [← hW0]; exact (((Below.refl w.heap.size w).alloc (Nat.le_refl _) _).alloc (by simp) _)
  clear hW0
  have HG := Lib.hid (hG.up hBW)
  have HC := Lib.hid hC
  have HP := Lib.hid hP
  have HBW := Lib.hid hBW
  have hc_0 := hC.cell (i := 0) rfl
  have hc_1 := hC.cell (i := 1) rfl
  clear hC hP hBW hG
  go_wp2_with fail
  refine (gElem_m G OK.out gb a ba HA.out W0 HG.out).mono ?_
  rintro e w1 ⟨x, rfl, hb1, hx⟩
  have HB1 := Lib.hid hb1
  have HX := Lib.hid hx
  clear hb1 hx hc_0 hc_1
  unfold limbV
  have hlb : Below w1.heap.size w1 (w1.alloc (Obj.cells #[.int .u64 (dig (x) 0 : Int), .int .u64 (dig (x) 1 : Int), .int .u64 (dig (x) 2 : Int), .int .u64 (dig (x) 3 : Int)] 111)) := (Below.refl _ _).alloc (Nat.le_refl _) _
  have hlz : Bx (w1.alloc (Obj.cells #[.int .u64 (dig (x) 0 : Int), .int .u64 (dig (x) 1 : Int), .int .u64 (dig (x) 2 : Int), .int .u64 (dig (x) 3 : Int)] 111)) w1.heap.size 111 [.int .u64 (dig (x) 0 : Int), .int .u64 (dig (x) 1 : Int), .int .u64 (dig (x) 2 : Int), .int .u64 (dig (x) 3 : Int)] := Bx.new _ _ _ _ rfl
  obtain ⟨w2, hlw⟩ : ∃ W9 : World, (w1.alloc (Obj.cells #[.int .u64 (dig (x) 0 : Int), .int .u64 (dig (x) 1 : Int), .int .u64 (dig (x) 2 : Int), .int .u64 (dig (x) 3 : Int)] 111)) = W9 := ⟨_, rfl⟩
  rw [hlw] at hlb hlz
  have HLw2 := Lib.hid hlb
  have HXw2 := Lib.hid hlz
  clear hlb hlz
  have HB2 := Lib.hid (below_up HB1.out HLw2.out)
  have hC2 := HC.out.up HB2.out
  have hc_0 := hC2.cell (i := 0) rfl
  have hc_1 := hC2.cell (i := 1) rfl
  clear hC2
  go_wp2_with fail
  refine (gElem_m G OK.out gb b bb HBB.out w2 (HG.out.up HB2.out)).mono ?_
  rintro e w3 ⟨y, rfl, hb3, hy⟩
  have HB3 := Lib.hid (below_up HB2.out hb3)
  have HX3 := Lib.hid (HXw2.out.up hb3)
  have HY := Lib.hid hy
  clear hb3 hy hc_0 hc_1 hlw
  unfold limbV
  have hlb : Below w3.heap.size w3 (w3.alloc (Obj.cells #[.int .u64 (dig (y) 0 : Int), .int .u64 (dig (y) 1 : Int), .int .u64 (dig (y) 2 : Int), .int .u64 (dig (y) 3 : Int)] 111)) := (Below.refl _ _).alloc (Nat.le_refl _) _
  have hlz : Bx (w3.alloc (Obj.cells #[.int .u64 (dig (y) 0 : Int), .int .u64 (dig (y) 1 : Int), .int .u64 (dig (y) 2 : Int), .int .u64 (dig (y) 3 : Int)] 111)) w3.heap.size 111 [.int .u64 (dig (y) 0 : Int), .int .u64 (dig (y) 1 : Int), .int .u64 (dig (y) 2 : Int), .int .u64 (dig (y) 3 : Int)] := Bx.new _ _ _ _ rfl
  obtain ⟨w4, hlw⟩ : ∃ W9 : World, (w3.alloc (Obj.cells #[.int .u64 (dig (y) 0 : Int), .int .u64 (dig (y) 1 : Int), .int .u64 (dig (y) 2 : Int), .int .u64 (dig (y) 3 : Int)] 111)) = W9 := ⟨_, rfl⟩
  rw [hlw] at hlb hlz
  have HLw4 := Lib.hid hlb
  have HXw4 := Lib.hid hlz
  clear hlb hlz
  have HB4 := Lib.hid (below_up HB3.out HLw4.out)
  have hX4 := HX3.out.up HLw4.out
  have hx_0 := hX4.cell (i := 0) rfl
  have hx_1 := hX4.cell (i := 1) rfl
  have hx_2 := hX4.cell (i := 2) rfl
  have hx_3 := hX4.cell (i := 3) rfl
  have hy_0 := HXw4.out.cell (i := 0) rfl
  have hy_1 := HXw4.out.cell (i := 1) rfl
  have hy_2 := HXw4.out.cell (i := 2) rfl
  have hy_3 := HXw4.out.cell (i := 3) rfl
  have hP4 := HP.out.up HB4.out
  have HP4 := Lib.hid hP4
  have HBL := Lib.hid (below_up HBW.out HB4.out)
  have hszw := HBW.out.size
  have HF : Hid (∀ w', Below w.heap.size w w' → ReadP (ba && bb) (mont G.p.m (numOf a)) (mont G.p.m (numOf b)) w (.returned (.tuple #[pairL x y, .bool (ba && bb)])) w') := fun w' h =>
    ⟨x, y, rfl, h, fun hb => by
      simp only [Bool.and_eq_true] at hb
      exact ⟨HX.out hb.1, HY.out hb.2⟩⟩
  clear hX4 hP4 HX HY HA HBB
  cases ba
  · have HF1 : Hid (∀ w', Below w.heap.size w w' → ReadP false (mont G.p.m (numOf a)) (mont G.p.m (numOf b)) w (.returned (.tuple #[pairL x y, .bool false])) w') := HF.out
    clear HF
    have HS5 : Hid (Bx ((((((((w4.setCell ⟨w.heap.size + 1, 0, none⟩ (.int .u64 (dig (x) 0 : Int))).setCell ⟨w.heap.size + 1, 1, none⟩ (.int .u64 (dig (x) 1 : Int))).setCell ⟨w.heap.size + 1, 2, none⟩ (.int .u64 (dig (x) 2 : Int))).setCell ⟨w.heap.size + 1, 3, none⟩ (.int .u64 (dig (x) 3 : Int))).setCell ⟨w.heap.size + 1, 4, none⟩ (.int .u64 (dig (y) 0 : Int))).setCell ⟨w.heap.size + 1, 5, none⟩ (.int .u64 (dig (y) 1 : Int))).setCell ⟨w.heap.size + 1, 6, none⟩ (.int .u64 (dig (y) 2 : Int))).setCell ⟨w.heap.size + 1, 7, none⟩ (.int .u64 (dig (y) 3 : Int))) (w.heap.size + 1) 118 [.int .u64 (dig (x) 0 : Int), .int .u64 (dig (x) 1 : Int), .int .u64 (dig (x) 2 : Int), .int .u64 (dig (x) 3 : Int), .int .u64 (dig (y) 0 : Int), .int .u64 (dig (y) 1 : Int), .int .u64 (dig (y) 2 : Int), .int .u64 (dig (y) 3 : Int)]) := ((((((((HP4.out.set 0 (.int .u64 (dig (x) 0 : Int))).set 1 (.int .u64 (dig (x) 1 : Int))).set 2 (.int .u64 (dig (x) 2 : Int))).set 3 (.int .u64 (dig (x) 3 : Int))).set 4 (.int .u64 (dig (y) 0 : Int))).set 5 (.int .u64 (dig (y) 1 : Int))).set 6 (.int .u64 (dig (y) 2 : Int))).set 7 (.int .u64 (dig (y) 3 : Int)))
    have HB5 : Hid (Below w.heap.size w ((((((((w4.setCell ⟨w.heap.size + 1, 0, none⟩ (.int .u64 (dig (x) 0 : Int))).setCell ⟨w.heap.size + 1, 1, none⟩ (.int .u64 (dig (x) 1 : Int))).setCell ⟨w.heap.size + 1, 2, none⟩ (.int .u64 (dig (x) 2 : Int))).setCell ⟨w.heap.size + 1, 3, none⟩ (.int .u64 (dig (x) 3 : Int))).setCell ⟨w.heap.size + 1, 4, none⟩ (.int .u64 (dig (y) 0 : Int))).setCell ⟨w.heap.size + 1, 5, none⟩ (.int .u64 (dig (y) 1 : Int))).setCell ⟨w.heap.size + 1, 6, none⟩ (.int .u64 (dig (y) 2 : Int))).setCell ⟨w.heap.size + 1, 7, none⟩ (.int .u64 (dig (y) 3 : Int)))) := ((((((((HBL.out.setCell (show w.heap.size ≤ w.heap.size + 1 by omega) _).setCell (show w.heap.size ≤ w.heap.size + 1 by omega) _).setCell (show w.heap.size ≤ w.heap.size + 1 by omega) _).setCell (show w.heap.size ≤ w.heap.size + 1 by omega) _).setCell (show w.heap.size ≤ w.heap.size + 1 by omega) _).setCell (show w.heap.size ≤ w.heap.size + 1 by omega) _).setCell (show w.heap.size ≤ w.heap.size + 1 by omega) _).setCell (show w.heap.size ≤ w.heap.size + 1 by omega) _)
    have hz_0 := HP4.out.cell (i := 0) rfl
    have hz_1 := HP4.out.cell (i := 1) rfl
    have hz_2 := HP4.out.cell (i := 2) rfl
    have hz_3 := HP4.out.cell (i := 3) rfl
    have hz_4 := HP4.out.cell (i := 4) rfl
    have hz_5 := HP4.out.cell (i := 5) rfl
    have hz_6 := HP4.out.cell (i := 6) rfl
    have hz_7 := HP4.out.cell (i := 7) rfl
    have hzf_0 := HP4.out.frozen 0
    have hzf_1 := HP4.out.frozen 1
    have hzf_2 := HP4.out.frozen 2
    have hzf_3 := HP4.out.frozen 3
    have hzf_4 := HP4.out.frozen 4
    have hzf_5 := HP4.out.frozen 5
    have hzf_6 := HP4.out.frozen 6
    have hzf_7 := HP4.out.frozen 7
    go_wp2_with fail
    generalize ((((((((w4.setCell ⟨w.heap.size + 1, 0, none⟩ (.int .u64 (dig (x) 0 : Int))).setCell ⟨w.heap.size + 1, 1, none⟩ (.int .u64 (dig (x) 1 : Int))).setCell ⟨w.heap.size + 1, 2, none⟩ (.int .u64 (dig (x) 2 : Int))).setCell ⟨w.heap.size + 1, 3, none⟩ (.int .u64 (dig (x) 3 : Int))).setCell ⟨w.heap.size + 1, 4, none⟩ (.int .u64 (dig (y) 0 : Int))).setCell ⟨w.heap.size + 1, 5, none⟩ (.int .u64 (dig (y) 1 : Int))).setCell ⟨w.heap.size + 1, 6, none⟩ (.int .u64 (dig (y) 2 : Int))).setCell ⟨w.heap.size + 1, 7, none⟩ (.int .u64 (dig (y) 3 : Int))) = w5 at *
    clear hz_0 hz_1 hz_2 hz_3 hz_4 hz_5 hz_6 hz_7
    have hg_0 := HS5.out.cell (i := 0) rfl
    have hg_1 := HS5.out.cell (i := 1) rfl
    have hg_2 := HS5.out.cell (i := 2) rfl
    have hg_3 := HS5.out.cell (i := 3) rfl
    have hg_4 := HS5.out.cell (i := 4) rfl
    have hg_5 := HS5.out.cell (i := 5) rfl
    have hg_6 := HS5.out.cell (i := 6) rfl
    have hg_7 := HS5.out.cell (i := 7) rfl
    simp [bodyPost, results, Try.results86, go_sem, hg_0, hg_1, hg_2, hg_3, hg_4, hg_5, hg_6, hg_7]
    exact HF1.out _ HB5.out
  · cases bb
    · have HF1 : Hid (∀ w', Below w.heap.size w w' → ReadP false (mont G.p.m (numOf a)) (mont G.p.m (numOf b)) w (.returned (.tuple #[pairL x y, .bool false])) w') := HF.out
      clear HF
      have HS5 : Hid (Bx ((((((((w4.setCell ⟨w.heap.size + 1, 0, none⟩ (.int .u64 (dig (x) 0 : Int))).setCell ⟨w.heap.size + 1, 1, none⟩ (.int .u64 (dig (x) 1 : Int))).setCell ⟨w.heap.size + 1, 2, none⟩ (.int .u64 (dig (x) 2 : Int))).setCell ⟨w.heap.size + 1, 3, none⟩ (.int .u64 (dig (x) 3 : Int))).setCell ⟨w.heap.size + 1, 4, none⟩ (.int .u64 (dig (y) 0 : Int))).setCell ⟨w.heap.size + 1, 5, none⟩ (.int .u64 (dig (y) 1 : Int))).setCell ⟨w.heap.size + 1, 6, none⟩ (.int .u64 (dig (y) 2 : Int))).setCell ⟨w.heap.size + 1, 7, none⟩ (.int .u64 (dig (y) 3 : Int))) (w.heap.size + 1) 118 [.int .u64 (dig (x) 0 : Int), .int .u64 (dig (x) 1 : Int), .int .u64 (dig (x) 2 : Int), .int .u64 (dig (x) 3 : Int), .int .u64 (dig (y) 0 : Int), .int .u64 (dig (y) 1 : Int), .int .u64 (dig (y) 2 : Int), .int .u64 (dig (y) 3 : Int)]) := ((((((((HP4.out.set 0 (.int .u64 (dig (x) 0 : Int))).set 1 (.int .u64 (dig (x) 1 : Int))).set 2 (.int .u64 (dig (x) 2 : Int))).set 3 (.int .u64 (dig (x) 3 : Int))).set 4 (.int .u64 (dig (y) 0 : Int))).set 5 (.int .u64 (dig (y) 1 : Int))).set 6 (.int .u64 (dig (y) 2 : Int))).set 7 (.int .u64 (dig (y) 3 : Int)))
      have HB5 : Hid (Below w.heap.size w ((((((((w4.setCell ⟨w.heap.size + 1, 0, none⟩ (.int .u64 (dig (x) 0 : Int))).setCell ⟨w.heap.size + 1, 1, none⟩ (.int .u64 (dig (x) 1 : Int))).setCell ⟨w.heap.size + 1, 2, none⟩ (.int .u64 (dig (x) 2 : Int))).setCell ⟨w.heap.size + 1, 3, none⟩ (.int .u64 (dig (x) 3 : Int))).setCell ⟨w.heap.size + 1, 4, none⟩ (.int .u64 (dig (y) 0 : Int))).setCell ⟨w.heap.size + 1, 5, none⟩ (.int .u64 (dig (y) 1 : Int))).setCell ⟨w.heap.size + 1, 6, none⟩ (.int .u64 (dig (y) 2 : Int))).setCell ⟨w.heap.size + 1, 7, none⟩ (.int .u64 (dig (y) 3 : Int)))) := ((((((((HBL.out.setCell (show w.heap.size ≤ w.heap.size + 1 by omega) _).setCell (show w.heap.size ≤ w.heap.size + 1 by omega) _).setCell (show w.heap.size ≤ w.heap.size + 1 by omega) _).setCell (show w.heap.size ≤ w.heap.size + 1 by omega) _).setCell (show w.heap.size ≤ w.heap.size + 1 by omega) _).setCell (show w.heap.size ≤ w.heap.size + 1 by omega) _).setCell (show w.heap.size ≤ w.heap.size + 1 by omega) _).setCell (show w.heap.size ≤ w.heap.size + 1 by omega) _)
      have hz_0 := HP4.out.cell (i := 0) rfl
      have hz_1 := HP4.out.cell (i := 1) rfl
      have hz_2 := HP4.out.cell (i := 2) rfl
      have hz_3 := HP4.out.cell (i := 3) rfl
      have hz_4 := HP4.out.cell (i := 4) rfl
      have hz_5 := HP4.out.cell (i := 5) rfl
      have hz_6 := HP4.out.cell (i := 6) rfl
      have hz_7 := HP4.out.cell (i := 7) rfl
      have hzf_0 := HP4.out.frozen 0
      have hzf_1 := HP4.out.frozen 1
      have hzf_2 := HP4.out.frozen 2
      have hzf_3 := HP4.out.frozen 3
      have hzf_4 := HP4.out.frozen 4
      have hzf_5 := HP4.out.frozen 5
      have hzf_6 := HP4.out.frozen 6
      have hzf_7 := HP4.out.frozen 7
      go_wp2_with fail
      generalize ((((((((w4.setCell ⟨w.heap.size + 1, 0, none⟩ (.int .u64 (dig (x) 0 : Int))).setCell ⟨w.heap.size + 1, 1, none⟩ (.int .u64 (dig (x) 1 : Int))).setCell ⟨w.heap.size + 1, 2, none⟩ (.int .u64 (dig (x) 2 : Int))).setCell ⟨w.heap.size + 1, 3, none⟩ (.int .u64 (dig (x) 3 : Int))).setCell ⟨w.heap.size + 1, 4, none⟩ (.int .u64 (dig (y) 0 : Int))).setCell ⟨w.heap.size + 1, 5, none⟩ (.int .u64 (dig (y) 1 : Int))).setCell ⟨w.heap.size + 1, 6, none⟩ (.int .u64 (dig (y) 2 : Int))).setCell ⟨w.heap.size + 1, 7, none⟩ (.int .u64 (dig (y) 3 : Int))) = w5 at *
      clear hz_0 hz_1 hz_2 hz_3 hz_4 hz_5 hz_6 hz_7
      have hg_0 := HS5.out.cell (i := 0) rfl
      have hg_1 := HS5.out.cell (i := 1) rfl
      have hg_2 := HS5.out.cell (i := 2) rfl
      have hg_3 := HS5.out.cell (i := 3) rfl
      have hg_4 := HS5.out.cell (i := 4) rfl
      have hg_5 := HS5.out.cell (i := 5) rfl
      have hg_6 := HS5.out.cell (i := 6) rfl
      have hg_7 := HS5.out.cell (i := 7) rfl
      simp [bodyPost, results, Try.results86, go_sem, hg_0, hg_1, hg_2, hg_3, hg_4, hg_5, hg_6, hg_7]
      exact HF1.out _ HB5.out
    · have HF1 : Hid (∀ w', Below w.heap.size w w' → ReadP true (mont G.p.m (numOf a)) (mont G.p.m (numOf b)) w (.returned (.tuple #[pairL x y, .bool true])) w') := HF.out
      clear HF
      have HS5 : Hid (Bx ((((((((w4.setCell ⟨w.heap.size + 1, 0, none⟩ (.int .u64 (dig (x) 0 : Int))).setCell ⟨w.heap.size + 1, 1, none⟩ (.int .u64 (dig (x) 1 : Int))).setCell ⟨w.heap.size + 1, 2, none⟩ (.int .u64 (dig (x) 2 : Int))).setCell ⟨w.heap.size + 1, 3, none⟩ (.int .u64 (dig (x) 3 : Int))).setCell ⟨w.heap.size + 1, 4, none⟩ (.int .u64 (dig (y) 0 : Int))).setCell ⟨w.heap.size + 1, 5, none⟩ (.int .u64 (dig (y) 1 : Int))).setCell ⟨w.heap.size + 1, 6, none⟩ (.int .u64 (dig (y) 2 : Int))).setCell ⟨w.heap.size + 1, 7, none⟩ (.int .u64 (dig (y) 3 : Int))) (w.heap.size + 1) 118 [.int .u64 (dig (x) 0 : Int), .int .u64 (dig (x) 1 : Int), .int .u64 (dig (x) 2 : Int), .int .u64 (dig (x) 3 : Int), .int .u64 (dig (y) 0 : Int), .int .u64 (dig (y) 1 : Int), .int .u64 (dig (y) 2 : Int), .int .u64 (dig (y) 3 : Int)]) := ((((((((HP4.out.set 0 (.int .u64 (dig (x) 0 : Int))).set 1 (.int .u64 (dig (x) 1 : Int))).set 2 (.int .u64 (dig (x) 2 : Int))).set 3 (.int .u64 (dig (x) 3 : Int))).set 4 (.int .u64 (dig (y) 0 : Int))).set 5 (.int .u64 (dig (y) 1 : Int))).set 6 (.int .u64 (dig (y) 2 : Int))).set 7 (.int .u64 (dig (y) 3 : Int)))
      have HB5 : Hid (Below w.heap.size w ((((((((w4.setCell ⟨w.heap.size + 1, 0, none⟩ (.int .u64 (dig (x) 0 : Int))).setCell ⟨w.heap.size + 1, 1, none⟩ (.int .u64 (dig (x) 1 : Int))).setCell ⟨w.heap.size + 1, 2, none⟩ (.int .u64 (dig (x) 2 : Int))).setCell ⟨w.heap.size + 1, 3, none⟩ (.int .u64 (dig (x) 3 : Int))).setCell ⟨w.heap.size + 1, 4, none⟩ (.int .u64 (dig (y) 0 : Int))).setCell ⟨w.heap.size + 1, 5, none⟩ (.int .u64 (dig (y) 1 : Int))).setCell ⟨w.heap.size + 1, 6, none⟩ (.int .u64 (dig (y) 2 : Int))).setCell ⟨w.heap.size + 1, 7, none⟩ (.int .u64 (dig (y) 3 : Int)))) := ((((((((HBL.out.setCell (show w.heap.size ≤ w.heap.size + 1 by omega) _).setCell (show w.heap.size ≤ w.heap.size + 1 by omega) _).setCell (show w.heap.size ≤ w.heap.size + 1 by omega) _).setCell (show w.heap.size ≤ w.heap.size + 1 by omega) _).setCell (show w.heap.size ≤ w.heap.size + 1 by omega) _).setCell (show w.heap.size ≤ w.heap.size + 1 by omega) _).setCell (show w.heap.size ≤ w.heap.size + 1 by omega) _).setCell (show w.heap.size ≤ w.heap.size + 1 by omega) _)
      have hz_0 := HP4.out.cell (i := 0) rfl
      have hz_1 := HP4.out.cell (i := 1) rfl
      have hz_2 := HP4.out.cell (i := 2) rfl
      have hz_3 := HP4.out.cell (i := 3) rfl
      have hz_4 := HP4.out.cell (i := 4) rfl
      have hz_5 := HP4.out.cell (i := 5) rfl
      have hz_6 := HP4.out.cell (i := 6) rfl
      have hz_7 := HP4.out.cell (i := 7) rfl
      have hzf_0 := HP4.out.frozen 0
      have hzf_1 := HP4.out.frozen 1
      have hzf_2 := HP4.out.frozen 2
      have hzf_3 := HP4.out.frozen 3
      have hzf_4 := HP4.out.frozen 4
      have hzf_5 := HP4.out.frozen 5
      have hzf_6 := HP4.out.frozen 6
      have hzf_7 := HP4.out.frozen 7
      go_wp2_with fail
      generalize ((((((((w4.setCell ⟨w.heap.size + 1, 0, none⟩ (.int .u64 (dig (x) 0 : Int))).setCell ⟨w.heap.size + 1, 1, none⟩ (.int .u64 (dig (x) 1 : Int))).setCell ⟨w.heap.size + 1, 2, none⟩ (.int .u64 (dig (x) 2 : Int))).setCell ⟨w.heap.size + 1, 3, none⟩ (.int .u64 (dig (x) 3 : Int))).setCell ⟨w.heap.size + 1, 4, none⟩ (.int .u64 (dig (y) 0 : Int))).setCell ⟨w.heap.size + 1, 5, none⟩ (.int .u64 (dig (y) 1 : Int))).setCell ⟨w.heap.size + 1, 6, none⟩ (.int .u64 (dig (y) 2 : Int))).setCell ⟨w.heap.size + 1, 7, none⟩ (.int .u64 (dig (y) 3 : Int))) = w5 at *
      clear hz_0 hz_1 hz_2 hz_3 hz_4 hz_5 hz_6 hz_7
      have hg_0 := HS5.out.cell (i := 0) rfl
      have hg_1 := HS5.out.cell (i := 1) rfl
      have hg_2 := HS5.out.cell (i := 2) rfl
      have hg_3 := HS5.out.cell (i := 3) rfl
      have hg_4 := HS5.out.cell (i := 4) rfl
      have hg_5 := HS5.out.cell (i := 5) rfl
      have hg_6 := HS5.out.cell (i := 6) rfl
      have hg_7 := HS5.out.cell (i := 7) rfl
      simp [bodyPost, results, Try.results86, go_sem, hg_0, hg_1, hg_2, hg_3, hg_4, hg_5, hg_6, hg_7]
      exact HF1.out _ HB5.out

end Go.Proofs.Ytipgjookfdkciaa

/- Encrypt, Renew, Decrypt of the package ballot. No condition. -/
namespace Go.Proofs.Ytipgjookfdkciaa
open Go.RowKit

theorem GroupAt.other {W : World} {gb c : Nat} {G : GP} (h : GroupAt W gb G) (hne : gb ≠ c) (i : Nat) (v : Value) : GroupAt (W.setCell ⟨c, i, none⟩ v) gb G := by
  have hc : ∀ o, (W.setCell ⟨c, i, none⟩ v).cell? ⟨gb, o, none⟩ = W.cell? ⟨gb, o, none⟩ := fun o => World.cell?_setCell_other _ _ _ _ (by intro e; exact hne (congrArg Addr.block e).symm)
  have hl : (W.setCell ⟨c, i, none⟩ v).heap.size = W.heap.size := by simp [World.setCell]
  exact ⟨by rw [hl]; exact h.lt, by rw [hc]; exact h.kind, by rw [hc]; exact h.size, ⟨by rw [hl]; exact h.p.lt, fun i x hx => by rw [hc]; exact h.p.cell i x hx⟩, ⟨by rw [hl]; exact h.q.lt, fun i x hx => by rw [hc]; exact h.q.cell i x hx⟩⟩

def box0 : Value := .agg #[.pointer none, .int .u64 0, .int .u64 0, .int .u64 0, .int .u64 0]

set_option maxRecDepth 100000 in
set_option maxHeartbeats 1000000 in
theorem bopen_none (k : Int) (hk : ¬ (1 ≤ k ∧ k ≤ 3)) (key : ByteArray) (w : World) : Calls Try.prog 76 #[.int .i64 k, .string key] w (Ans box0 1 w) := by
  unfold Ans box0
  go_enter Try.func76, Try.ntmps76
  go_wp2_with fail
  obtain ⟨W0, hW0⟩ : ∃ W9 : World, (w.alloc (Obj.cells #[.pointer none, .int .u64 0, .int .u64 0, .int .u64 0, .int .u64 0] 113)) = W9 := ⟨_, rfl⟩
  rw [hW0]
  have hC : Bx W0 (w.heap.size) 113 [.pointer none, .int .u64 0, .int .u64 0, .int .u64 0, .int .u64 0] := by
    rw [← hW0]
    have h := (Bx.new w 113 [.pointer none, .int .u64 0, .int .u64 0, .int .u64 0, .int .u64 0] _ rfl)
    exact h
  have hBW : Below w.heap.size w W0 := by rw [← hW0]; exact ((Below.refl w.heap.size w).alloc (Nat.le_refl _) _)
  clear hW0
  have HC := Lib.hid hC
  have HBW := Lib.hid hBW
  clear hC hBW
  go_wp2_with fail
  refine (of_none k hk W0).mono ?_
  rintro e w1 ⟨rfl, rfl⟩
  have HS5 : Hid (Bx (((((W0.setCell ⟨w.heap.size, 0, none⟩ (.pointer none)).setCell ⟨w.heap.size, 1, none⟩ (.int .u64 0)).setCell ⟨w.heap.size, 2, none⟩ (.int .u64 0)).setCell ⟨w.heap.size, 3, none⟩ (.int .u64 0)).setCell ⟨w.heap.size, 4, none⟩ (.int .u64 0)) (w.heap.size) 113 [.pointer none, .int .u64 0, .int .u64 0, .int .u64 0, .int .u64 0]) := (((((HC.out.set 0 (.pointer none)).set 1 (.int .u64 0)).set 2 (.int .u64 0)).set 3 (.int .u64 0)).set 4 (.int .u64 0))
  have HB5 : Hid (Below w.heap.size w (((((W0.setCell ⟨w.heap.size, 0, none⟩ (.pointer none)).setCell ⟨w.heap.size, 1, none⟩ (.int .u64 0)).setCell ⟨w.heap.size, 2, none⟩ (.int .u64 0)).setCell ⟨w.heap.size, 3, none⟩ (.int .u64 0)).setCell ⟨w.heap.size, 4, none⟩ (.int .u64 0))) := (((((HBW.out.setCell (show w.heap.size ≤ w.heap.size by omega) _).setCell (show w.heap.size ≤ w.heap.size by omega) _).setCell (show w.heap.size ≤ w.heap.size by omega) _).setCell (show w.heap.size ≤ w.heap.size by omega) _).setCell (show w.heap.size ≤ w.heap.size by omega) _)
  have hz_0 := HC.out.cell (i := 0) rfl
  have hz_1 := HC.out.cell (i := 1) rfl
  have hz_2 := HC.out.cell (i := 2) rfl
  have hz_3 := HC.out.cell (i := 3) rfl
  have hz_4 := HC.out.cell (i := 4) rfl
  have hzf_0 := HC.out.frozen 0
  have hzf_1 := HC.out.frozen 1
  have hzf_2 := HC.out.frozen 2
  have hzf_3 := HC.out.frozen 3
  have hzf_4 := HC.out.frozen 4
  go_wp2_with fail
  generalize (((((W0.setCell ⟨w.heap.size, 0, none⟩ (.pointer none)).setCell ⟨w.heap.size, 1, none⟩ (.int .u64 0)).setCell ⟨w.heap.size, 2, none⟩ (.int .u64 0)).setCell ⟨w.heap.size, 3, none⟩ (.int .u64 0)).setCell ⟨w.heap.size, 4, none⟩ (.int .u64 0)) = w5 at *
  clear hz_0 hz_1 hz_2 hz_3 hz_4
  have hg_0 := HS5.out.cell (i := 0) rfl
  have hg_1 := HS5.out.cell (i := 1) rfl
  have hg_2 := HS5.out.cell (i := 2) rfl
  have hg_3 := HS5.out.cell (i := 3) rfl
  have hg_4 := HS5.out.cell (i := 4) rfl
  simp [bodyPost, results, Try.results76, go_sem, hg_0, hg_1, hg_2, hg_3, hg_4]
  exact HB5.out

/-- A group that was opened with a key. -/
def OpenP (G : GP) (v : Nat → Value) (w : World) (e : Ending) (w' : World) : Prop := ∃ gb, e = .returned (.tuple #[v gb, .int .i64 0]) ∧ GroupAt w' gb G ∧ Below w.heap.size w w' ∧ w.heap.size ≤ gb

set_option maxRecDepth 100000 in
set_option maxHeartbeats 1000000 in
theorem bopen_no (k : Nat) (h1 : 1 ≤ k) (h3 : k ≤ 3) (key : ByteArray) (hk : isEl (grp k).q.m (grp k).size key = false) (w : World) : Calls Try.prog 76 #[.int .i64 (k : Int), .string key] w (Ans box0 7 w) := by
  have HK := Lib.hid hk
  clear hk
  unfold Ans box0
  go_enter Try.func76, Try.ntmps76
  go_wp2_with fail
  obtain ⟨W0, hW0⟩ : ∃ W9 : World, (w.alloc (Obj.cells #[.pointer none, .int .u64 0, .int .u64 0, .int .u64 0, .int .u64 0] 113)) = W9 := ⟨_, rfl⟩
  rw [hW0]
  have hC : Bx W0 (w.heap.size) 113 [.pointer none, .int .u64 0, .int .u64 0, .int .u64 0, .int .u64 0] := by
    rw [← hW0]
    have h := (Bx.new w 113 [.pointer none, .int .u64 0, .int .u64 0, .int .u64 0, .int .u64 0] _ rfl)
    exact h
  have hBW : Below w.heap.size w W0 := by rw [← hW0]; exact ((Below.refl w.heap.size w).alloc (Nat.le_refl _) _)
  clear hW0
  have HC := Lib.hid hC
  have HBW := Lib.hid hBW
  clear hC hBW
  go_wp2_with fail
  refine (of_some k h1 h3 W0).mono ?_
  rintro e w1 ⟨rfl, hg, hb1⟩
  have HG := Lib.hid hg
  have HB1 := Lib.hid hb1
  clear hg hb1
  go_wp2_with fail
  refine (gElem_m (grp k) (grp_ok k h1 h3) _ key false HK.out w1 HG.out).mono ?_
  rintro e w2 ⟨x, rfl, hb2, -⟩
  have HB2 := Lib.hid (below_up HB1.out hb2)
  clear hb2
  unfold limbV
  have hlb : Below w2.heap.size w2 (w2.alloc (Obj.cells #[.int .u64 (dig (x) 0 : Int), .int .u64 (dig (x) 1 : Int), .int .u64 (dig (x) 2 : Int), .int .u64 (dig (x) 3 : Int)] 111)) := (Below.refl _ _).alloc (Nat.le_refl _) _
  have hlz : Bx (w2.alloc (Obj.cells #[.int .u64 (dig (x) 0 : Int), .int .u64 (dig (x) 1 : Int), .int .u64 (dig (x) 2 : Int), .int .u64 (dig (x) 3 : Int)] 111)) w2.heap.size 111 [.int .u64 (dig (x) 0 : Int), .int .u64 (dig (x) 1 : Int), .int .u64 (dig (x) 2 : Int), .int .u64 (dig (x) 3 : Int)] := Bx.new _ _ _ _ rfl
  obtain ⟨w3, hlw⟩ : ∃ W9 : World, (w2.alloc (Obj.cells #[.int .u64 (dig (x) 0 : Int), .int .u64 (dig (x) 1 : Int), .int .u64 (dig (x) 2 : Int), .int .u64 (dig (x) 3 : Int)] 111)) = W9 := ⟨_, rfl⟩
  rw [hlw] at hlb hlz
  have HLw3 := Lib.hid hlb
  have HXw3 := Lib.hid hlz
  clear hlb hlz
  have HB3 := Lib.hid (below_up HB2.out HLw3.out)
  have HC3 := Lib.hid (HC.out.up HB3.out)
  have HBB := Lib.hid (below_up HBW.out HB3.out)
  have HS5 : Hid (Bx (((((w3.setCell ⟨w.heap.size, 0, none⟩ (.pointer none)).setCell ⟨w.heap.size, 1, none⟩ (.int .u64 0)).setCell ⟨w.heap.size, 2, none⟩ (.int .u64 0)).setCell ⟨w.heap.size, 3, none⟩ (.int .u64 0)).setCell ⟨w.heap.size, 4, none⟩ (.int .u64 0)) (w.heap.size) 113 [.pointer none, .int .u64 0, .int .u64 0, .int .u64 0, .int .u64 0]) := (((((HC3.out.set 0 (.pointer none)).set 1 (.int .u64 0)).set 2 (.int .u64 0)).set 3 (.int .u64 0)).set 4 (.int .u64 0))
  have HB5 : Hid (Below w.heap.size w (((((w3.setCell ⟨w.heap.size, 0, none⟩ (.pointer none)).setCell ⟨w.heap.size, 1, none⟩ (.int .u64 0)).setCell ⟨w.heap.size, 2, none⟩ (.int .u64 0)).setCell ⟨w.heap.size, 3, none⟩ (.int .u64 0)).setCell ⟨w.heap.size, 4, none⟩ (.int .u64 0))) := (((((HBB.out.setCell (show w.heap.size ≤ w.heap.size by omega) _).setCell (show w.heap.size ≤ w.heap.size by omega) _).setCell (show w.heap.size ≤ w.heap.size by omega) _).setCell (show w.heap.size ≤ w.heap.size by omega) _).setCell (show w.heap.size ≤ w.heap.size by omega) _)
  have hz_0 := HC3.out.cell (i := 0) rfl
  have hz_1 := HC3.out.cell (i := 1) rfl
  have hz_2 := HC3.out.cell (i := 2) rfl
  have hz_3 := HC3.out.cell (i := 3) rfl
  have hz_4 := HC3.out.cell (i := 4) rfl
  have hzf_0 := HC3.out.frozen 0
  have hzf_1 := HC3.out.frozen 1
  have hzf_2 := HC3.out.frozen 2
  have hzf_3 := HC3.out.frozen 3
  have hzf_4 := HC3.out.frozen 4
  go_wp2_with fail
  generalize (((((w3.setCell ⟨w.heap.size, 0, none⟩ (.pointer none)).setCell ⟨w.heap.size, 1, none⟩ (.int .u64 0)).setCell ⟨w.heap.size, 2, none⟩ (.int .u64 0)).setCell ⟨w.heap.size, 3, none⟩ (.int .u64 0)).setCell ⟨w.heap.size, 4, none⟩ (.int .u64 0)) = w5 at *
  clear hz_0 hz_1 hz_2 hz_3 hz_4
  have hg_0 := HS5.out.cell (i := 0) rfl
  have hg_1 := HS5.out.cell (i := 1) rfl
  have hg_2 := HS5.out.cell (i := 2) rfl
  have hg_3 := HS5.out.cell (i := 3) rfl
  have hg_4 := HS5.out.cell (i := 4) rfl
  simp [bodyPost, results, Try.results76, go_sem, hg_0, hg_1, hg_2, hg_3, hg_4]
  exact HB5.out

set_option maxRecDepth 100000 in
set_option maxHeartbeats 1000000 in
theorem bopen_yes (k : Nat) (h1 : 1 ≤ k) (h3 : k ≤ 3) (key : ByteArray) (hk : isEl (grp k).q.m (grp k).size key = true) (w : World) : Calls Try.prog 76 #[.int .i64 (k : Int), .string key] w (OpenP (grp k) (fun gb => boxV gb (grp k) (numOf key)) w) := by
  have HK := Lib.hid hk
  clear hk
  go_enter Try.func76, Try.ntmps76
  go_wp2_with fail
  obtain ⟨W0, hW0⟩ : ∃ W9 : World, (w.alloc (Obj.cells #[.pointer none, .int .u64 0, .int .u64 0, .int .u64 0, .int .u64 0] 113)) = W9 := ⟨_, rfl⟩
  rw [hW0]
  have hC : Bx W0 (w.heap.size) 113 [.pointer none, .int .u64 0, .int .u64 0, .int .u64 0, .int .u64 0] := by
    rw [← hW0]
    have h := (Bx.new w 113 [.pointer none, .int .u64 0, .int .u64 0, .int .u64 0, .int .u64 0] _ rfl)
    exact h
  have hBW : Below w.heap.size w W0 := by rw [← hW0]; exact ((Below.refl w.heap.size w).alloc (Nat.le_refl _) _)
  clear hW0
  have HC := Lib.hid hC
  have HBW := Lib.hid hBW
  clear hC hBW
  go_wp2_with fail
  refine (of_some k h1 h3 W0).mono ?_
  rintro e w1 ⟨rfl, hg, hb1⟩
  have HG := Lib.hid hg
  have HB1 := Lib.hid hb1
  clear hg hb1
  go_wp2_with fail
  refine (gElem_m (grp k) (grp_ok k h1 h3) _ key true HK.out w1 HG.out).mono ?_
  rintro e w2 ⟨x, rfl, hb2, hx⟩
  obtain rfl := hx rfl
  have HB2 := Lib.hid (below_up HB1.out hb2)
  have HG2 := Lib.hid (HG.out.up hb2)
  clear hb2
  unfold limbV
  have hlb : Below w2.heap.size w2 (w2.alloc (Obj.cells #[.int .u64 (dig (mont (grp k).p.m (numOf key)) 0 : Int), .int .u64 (dig (mont (grp k).p.m (numOf key)) 1 : Int), .int .u64 (dig (mont (grp k).p.m (numOf key)) 2 : Int), .int .u64 (dig (mont (grp k).p.m (numOf key)) 3 : Int)] 111)) := (Below.refl _ _).alloc (Nat.le_refl _) _
  have hlz : Bx (w2.alloc (Obj.cells #[.int .u64 (dig (mont (grp k).p.m (numOf key)) 0 : Int), .int .u64 (dig (mont (grp k).p.m (numOf key)) 1 : Int), .int .u64 (dig (mont (grp k).p.m (numOf key)) 2 : Int), .int .u64 (dig (mont (grp k).p.m (numOf key)) 3 : Int)] 111)) w2.heap.size 111 [.int .u64 (dig (mont (grp k).p.m (numOf key)) 0 : Int), .int .u64 (dig (mont (grp k).p.m (numOf key)) 1 : Int), .int .u64 (dig (mont (grp k).p.m (numOf key)) 2 : Int), .int .u64 (dig (mont (grp k).p.m (numOf key)) 3 : Int)] := Bx.new _ _ _ _ rfl
  obtain ⟨w3, hlw⟩ : ∃ W9 : World, (w2.alloc (Obj.cells #[.int .u64 (dig (mont (grp k).p.m (numOf key)) 0 : Int), .int .u64 (dig (mont (grp k).p.m (numOf key)) 1 : Int), .int .u64 (dig (mont (grp k).p.m (numOf key)) 2 : Int), .int .u64 (dig (mont (grp k).p.m (numOf key)) 3 : Int)] 111)) = W9 := ⟨_, rfl⟩
  rw [hlw] at hlb hlz
  have HLw3 := Lib.hid hlb
  have HXw3 := Lib.hid hlz
  clear hlb hlz
  have HB3 := Lib.hid (below_up HB2.out HLw3.out)
  have HC3 := Lib.hid (HC.out.up HB3.out)
  have HBB := Lib.hid (below_up HBW.out HB3.out)
  have HG3 := Lib.hid (HG2.out.up HLw3.out)
  have hszw := HBW.out.size
  have hc0 := HC.out.lt
  have HF : Hid (∀ w', Below w.heap.size w w' → GroupAt w' W0.heap.size (grp k) → OpenP (grp k) (fun gb => boxV gb (grp k) (numOf key)) w (.returned (.tuple #[boxV W0.heap.size (grp k) (numOf key), .int .i64 0])) w') := fun w' h hg => ⟨_, rfl, hg, h, hszw⟩
  have hx_0 := HXw3.out.cell (i := 0) rfl
  have hx_1 := HXw3.out.cell (i := 1) rfl
  have hx_2 := HXw3.out.cell (i := 2) rfl
  have hx_3 := HXw3.out.cell (i := 3) rfl
  have HG5 := Lib.hid (((((HG3.out.other (show _ ≠ w.heap.size by omega) 0 (.pointer (some ⟨W0.heap.size, 0, none⟩))).other (show _ ≠ w.heap.size by omega) 1 (.int .u64 (dig (mont (grp k).p.m (numOf key)) 0 : Int))).other (show _ ≠ w.heap.size by omega) 2 (.int .u64 (dig (mont (grp k).p.m (numOf key)) 1 : Int))).other (show _ ≠ w.heap.size by omega) 3 (.int .u64 (dig (mont (grp k).p.m (numOf key)) 2 : Int))).other (show _ ≠ w.heap.size by omega) 4 (.int .u64 (dig (mont (grp k).p.m (numOf key)) 3 : Int)))
  have HS5 : Hid (Bx (((((w3.setCell ⟨w.heap.size, 0, none⟩ (.pointer (some ⟨W0.heap.size, 0, none⟩))).setCell ⟨w.heap.size, 1, none⟩ (.int .u64 (dig (mont (grp k).p.m (numOf key)) 0 : Int))).setCell ⟨w.heap.size, 2, none⟩ (.int .u64 (dig (mont (grp k).p.m (numOf key)) 1 : Int))).setCell ⟨w.heap.size, 3, none⟩ (.int .u64 (dig (mont (grp k).p.m (numOf key)) 2 : Int))).setCell ⟨w.heap.size, 4, none⟩ (.int .u64 (dig (mont (grp k).p.m (numOf key)) 3 : Int))) (w.heap.size) 113 [.pointer (some ⟨W0.heap.size, 0, none⟩), .int .u64 (dig (mont (grp k).p.m (numOf key)) 0 : Int), .int .u64 (dig (mont (grp k).p.m (numOf key)) 1 : Int), .int .u64 (dig (mont (grp k).p.m (numOf key)) 2 : Int), .int .u64 (dig (mont (grp k).p.m (numOf key)) 3 : Int)]) := (((((HC3.out.set 0 (.pointer (some ⟨W0.heap.size, 0, none⟩))).set 1 (.int .u64 (dig (mont (grp k).p.m (numOf key)) 0 : Int))).set 2 (.int .u64 (dig (mont (grp k).p.m (numOf key)) 1 : Int))).set 3 (.int .u64 (dig (mont (grp k).p.m (numOf key)) 2 : Int))).set 4 (.int .u64 (dig (mont (grp k).p.m (numOf key)) 3 : Int)))
  have HB5 : Hid (Below w.heap.size w (((((w3.setCell ⟨w.heap.size, 0, none⟩ (.pointer (some ⟨W0.heap.size, 0, none⟩))).setCell ⟨w.heap.size, 1, none⟩ (.int .u64 (dig (mont (grp k).p.m (numOf key)) 0 : Int))).setCell ⟨w.heap.size, 2, none⟩ (.int .u64 (dig (mont (grp k).p.m (numOf key)) 1 : Int))).setCell ⟨w.heap.size, 3, none⟩ (.int .u64 (dig (mont (grp k).p.m (numOf key)) 2 : Int))).setCell ⟨w.heap.size, 4, none⟩ (.int .u64 (dig (mont (grp k).p.m (numOf key)) 3 : Int)))) := (((((HBB.out.setCell (show w.heap.size ≤ w.heap.size by omega) _).setCell (show w.heap.size ≤ w.heap.size by omega) _).setCell (show w.heap.size ≤ w.heap.size by omega) _).setCell (show w.heap.size ≤ w.heap.size by omega) _).setCell (show w.heap.size ≤ w.heap.size by omega) _)
  have hz_0 := HC3.out.cell (i := 0) rfl
  have hz_1 := HC3.out.cell (i := 1) rfl
  have hz_2 := HC3.out.cell (i := 2) rfl
  have hz_3 := HC3.out.cell (i := 3) rfl
  have hz_4 := HC3.out.cell (i := 4) rfl
  have hzf_0 := HC3.out.frozen 0
  have hzf_1 := HC3.out.frozen 1
  have hzf_2 := HC3.out.frozen 2
  have hzf_3 := HC3.out.frozen 3
  have hzf_4 := HC3.out.frozen 4
  go_wp2_with fail
  generalize (((((w3.setCell ⟨w.heap.size, 0, none⟩ (.pointer (some ⟨W0.heap.size, 0, none⟩))).setCell ⟨w.heap.size, 1, none⟩ (.int .u64 (dig (mont (grp k).p.m (numOf key)) 0 : Int))).setCell ⟨w.heap.size, 2, none⟩ (.int .u64 (dig (mont (grp k).p.m (numOf key)) 1 : Int))).setCell ⟨w.heap.size, 3, none⟩ (.int .u64 (dig (mont (grp k).p.m (numOf key)) 2 : Int))).setCell ⟨w.heap.size, 4, none⟩ (.int .u64 (dig (mont (grp k).p.m (numOf key)) 3 : Int))) = w5 at *
  clear hz_0 hz_1 hz_2 hz_3 hz_4
  have hg_0 := HS5.out.cell (i := 0) rfl
  have hg_1 := HS5.out.cell (i := 1) rfl
  have hg_2 := HS5.out.cell (i := 2) rfl
  have hg_3 := HS5.out.cell (i := 3) rfl
  have hg_4 := HS5.out.cell (i := 4) rfl
  simp [bodyPost, results, Try.results76, go_sem, hg_0, hg_1, hg_2, hg_3, hg_4]
  exact HF.out _ HB5.out HG5.out

end Go.Proofs.Ytipgjookfdkciaa
