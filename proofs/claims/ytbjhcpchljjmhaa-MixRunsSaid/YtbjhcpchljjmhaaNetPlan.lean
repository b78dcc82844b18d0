/- The program's plan of a network. No condition. -/
import Derived.Test.YtbjhcpchljjmhaaNetWalk
namespace Go.Proofs.Ytbjhcpchljjmhaa
open Go.RowKit

theorem iota_made (n : Nat) : (madeCells #[Value.int .i64 0] n).toList = (iota 0 ++ List.replicate n 0).map (Value.int .i64) := by
  apply List.ext_getElem
  · simp [madeCells, iota]
  · intro i h1 h2
    simp [madeCells, iota, Nat.mod_one]

theorem iota_set (j n : Nat) (h : j < n) : ((iota j ++ List.replicate (n - j) 0).map (Value.int .i64)).set j (.int .i64 (j : Int)) = (iota (j + 1) ++ List.replicate (n - (j + 1)) 0).map (Value.int .i64) := by
  rw [iota_succ, show n - j = (n - (j + 1)) + 1 by omega, List.replicate_succ]
  simp [iota_length]

def WiresPost (w : World) (n : Nat) (e : Ending) (w' : World) : Prop :=
  ∃ u, e = .returned u ∧ Made w w' u (iota n) ∧ Below w.heap.size w w'

set_option maxHeartbeats 1000000 in
theorem wires_any (n : Nat) (w : World) (hn : n ≤ 4096) : Calls Try.prog 34 #[.int .i64 n] w (WiresPost w n) := by
  obtain ⟨i0, hi, hz0, hz1, hz2⟩ := info_parts infoInt
  go_enter Try.func34, Try.ntmps34
  go_wp2_with (at_make; refine wpList_make_full _ rfl _ _ 25 rfl 0 3 i0 (.int .i64 0) 1 Try.underlying25 hi hz0 hz1 _ _ _ _ n rfl rfl ?c1 ?c2 ?c3 ?c4 ?c5 ?_)
  case c1 => rfl
  case c2 => rfl
  case c3 => rw [hz2]; omega
  case c4 => unfold maxLen; omega
  case c5 => omega
  intro w1 hown hgrow
  have hb1 : Below w.heap.size w w1 := (Below.refl _ _).grown hgrow (Nat.le_refl _) (by simp)
  have e0 : (madeCells (Value.int .i64 0).cells (n * 1)).toList = (iota 0 ++ List.replicate (n - 0) 0).map (Value.int .i64) := by
    rw [Nat.mul_one]; exact iota_made n
  have hown1 : w1.ownsRow 0 3 1 (.slice (some ⟨w.heap.size, 0, none⟩) n n) n ((iota 0 ++ List.replicate (n - 0) 0).map (Value.int .i64)) := by
    have h := hown
    simpa [iota, iota_made] using h
  clear hown hgrow e0
  go_wp2
  go_loopw [9] (fun i wr => ∃ j : Nat, j ≤ n ∧ i = .int .i64 j ∧ Hid (wr.ownsRow 0 3 1 (.slice (some ⟨w.heap.size, 0, none⟩) n n) n ((iota j ++ List.replicate (n - j) 0).map (Value.int .i64))) ∧
      Below w.heap.size w wr) (fun i _ => n - (intOf i).toNat)
  case atStart => exact ⟨0, Nat.zero_le _, rfl, hown1, hb1⟩
  case round =>
    clear hown1 hb1
    obtain ⟨j, hj, rfl, HO, hbl⟩ := hrel
    by_cases hjl : j < n
    · have hc := HO.out.cellAt j (by omega)
      have hlen : j < ((iota j ++ List.replicate (n - j) 0).map (Value.int .i64)).length := by simp [iota_length]; omega
      rw [List.getElem?_eq_getElem hlen] at hc
      have hf := HO.out.frozenAt j
      have HS := Lib.hid (HO.out.stored j (.int .i64 (j : Int)))
      generalize ((iota j ++ List.replicate (n - j) 0).map (Value.int .i64))[j] = old at hc
      clear hlen
      go_wp2
      go_roundw
      case rel => exact ⟨j + 1, by omega, by go_num, by have h := HS.out.1; rw [iota_set j n hjl] at h; exact h, hbl.setCell (by exact Nat.le_refl _) _⟩
      case measure => simp [intOf]; omega
    · have hjn : j = n := by omega
      subst hjn
      go_wp2
      go_ret
      exact ⟨_, rfl, ⟨by have h := HO.out; simpa [iota_length] using h, fun q h => by simp [Value.ownBlock] at h; omega⟩, hbl⟩

/-- A list of gates that the call has made. -/
structure MadeG (w w' : World) (v : Value) (gs : List (Int × Int)) : Prop where
  own : w'.ownsRow 0 33 2 v gs.length (flat gs)
  new_ : ∀ q, v.ownBlock = some q → w.heap.size ≤ q

def PlanPost (w : World) (n : Nat) (e : Ending) (w' : World) : Prop :=
  ∃ u, e = .returned u ∧ MadeG w w' u (gatesL (iota n)) ∧ Below w.heap.size w w'

theorem wantTo_le : ∀ n, wantTo n ≤ n * 9
  | 0 => by simp [wantTo]
  | n + 1 => by
    have ih := wantTo_le n
    have h : ∀ f, logUp (n + 1) f ≤ f := by
      intro f
      induction f with
      | zero => simp [logUp]
      | succ f ih => simp only [logUp]; split <;> omega
    have h9 := h 9
    rw [wantTo]
    split <;> omega

theorem gates_le (n : Nat) (hn : n ≤ 256) : (gatesL (iota n)).length ≤ 4096 := by
  have h := gatesL_length (iota n) (by rw [iota_length]; exact hn)
  rw [iota_length] at h
  have := wantTo_le n
  omega

set_option maxHeartbeats 1000000 in
theorem plan_any (n : Nat) (w : World) (hn : n ≤ 256) : Calls Try.prog 26 #[.int .i64 n] w (PlanPost w n) := by
  have hle := gates_le n hn
  have hil := iota_length n
  have HL := Lib.hid hle
  have HI := Lib.hid hil
  clear hle hil
  go_enter Try.func26, Try.ntmps26
  go_wp2_with fail
  refine (wires_any n _ (by omega)).mono ?_
  rintro e w1 ⟨u, rfl, hm, hb1⟩
  obtain ⟨au, cu, rfl, _⟩ := own_form hm.own
  have hblk : w1.heap[w.heap.size]? = some (.cells #[.slice none 0 0] 29 (0, 0)) := by
    rw [hb1.block _ (by simp)]; exact heap_alloc_new w _
  have hg : Gath w1 w.heap.size [] (.slice none 0 0) := ⟨hblk, World.ownsRow_nil _ _ _ _, by simp [Value.ownBlock]⟩
  have HG := Lib.hid hg
  have HM := Lib.hid hm
  have HB : Hid (Below w.heap.size w w1) := below_up ((Below.refl _ _).alloc (Nat.le_refl _) _) hb1
  have HS : Hid (∀ b o, au = some ⟨b, o, none⟩ → Safe w1 w.heap.size (.slice none 0 0) b) := by
    intro b o e
    subst e
    have h1 := hm.new_ b (by simp [Value.ownBlock])
    have h2 := (hm.own.lt b (by simp [Value.ownBlock])).2
    simp at h1
    exact ⟨h2, by omega, by simp [Value.ownBlock]⟩
  clear hg hm hb1 hblk
  go_wp2_with fail
  refine (gates_any n (iota n) (by rw [HI.out]; exact Nat.le_refl _) au cu w.heap.size [] (.slice none 0 0) w1 HG.out (Sl.of_own HM.out.own) HS.out (by rw [HI.out]; omega) (by have := HL.out; simp; omega)).mono ?_
  rintro e w2 ⟨rfl, HA⟩
  obtain ⟨v2, hg2, hs2⟩ := HA
  have hc : w2.cell? ⟨w.heap.size, 0, none⟩ = some v2 := cell_of_one hg2.blk
  have fin : PlanPost w n (.returned v2) w2 := by
    refine ⟨v2, rfl, ⟨by simpa using hg2.own, fun q hq => ?_⟩, HB.out.trans (hs2.below (Nat.le_refl _) (fun q h => by simp [Value.ownBlock] at h) HB.out.size)⟩
    rcases hs2.next q hq with h | h
    · simp [Value.ownBlock] at h
    · have := HB.out.size; omega
  clear hg2 hs2
  go_wp2_with fail
  go_ret
  exact fin

set_option maxHeartbeats 400000 in
theorem good_any (n : Int) (b : Bool) (w : World) (hb : decide (1 ≤ n ∧ n ≤ 256) = b) : Calls Try.prog 25 #[.int .i64 n] w fun e w' => e = .returned (.bool b) ∧ w = w' := by
  have HB := Lib.hid hb
  clear hb
  go_enter Try.func25, Try.ntmps25
  go_wp2
  all_goals
    go_ret
    refine ⟨ret_bool ?_, rfl⟩
    rw [← HB.out]
    simp [*]
  all_goals omega

theorem Plan_bad (n : Int) (w : World) (hn : ¬ (1 ≤ n ∧ n ≤ 256)) : Calls Try.prog 11 #[.int .i64 n] w fun e w' => e = .returned (.tuple #[.slice none 0 0, .int .i64 4]) ∧ w = w' := by
  have hb : decide (1 ≤ n ∧ n ≤ 256) = false := by simpa using hn
  have HB := Lib.hid hb
  clear hb hn
  go_enter Try.func11, Try.ntmps11
  go_wp2_with (go_at_call 25; refine (good_any n false _ HB.out).mono ?_; rintro e w1 ⟨rfl, rfl⟩)
  go_ret2
  exact ⟨rfl, rfl⟩

def PlanPost2 (w : World) (n : Nat) (e : Ending) (w' : World) : Prop :=
  ∃ u, e = .returned (.tuple #[u, .int .i64 0]) ∧ MadeG w w' u (gatesL (iota n)) ∧ Below w.heap.size w w'

theorem Plan_ok (n : Nat) (w : World) (h1 : 1 ≤ n) (h2 : n ≤ 256) : Calls Try.prog 11 #[.int .i64 n] w (PlanPost2 w n) := by
  have hb : decide (1 ≤ (n : Int) ∧ (n : Int) ≤ 256) = true := by simp; omega
  have HB := Lib.hid hb
  clear hb
  go_enter Try.func11, Try.ntmps11
  go_wp2_with (go_at_call 25; refine (good_any n true _ HB.out).mono ?_; rintro e w1 ⟨rfl, rfl⟩)
  refine (plan_any n w h2).mono ?_
  rintro e w1 ⟨u, rfl, hm, hb1⟩
  have fin : PlanPost2 w n (.returned (.tuple #[u, .int .i64 0])) w1 := ⟨u, rfl, hm, hb1⟩
  clear hm hb1
  go_wp2_with fail
  go_ret2
  exact fin

end Go.Proofs.Ytbjhcpchljjmhaa
