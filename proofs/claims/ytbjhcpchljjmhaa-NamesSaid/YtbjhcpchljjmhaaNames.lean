/- Names: each constant of package api has its value. A closed statement; no condition. -/
import Derived.Test.YtbjhcpchljjmhaaLawBase
namespace Go.Proofs.Ytbjhcpchljjmhaa
open Go.ChangeShapes Go.WideShapes Go.ChangeAt Go.RowKit

set_option maxHeartbeats 400000 in
theorem numbers_eq (a b : Option Addr) (n c1 c2 : Nat) (xs : List Int) (w : World) (hn : xs.length = n) (hm : n ≤ 140737488351232)
    (ha : Sl w w.heap.size a (xs.map (Value.int .i64))) (hb : Sl w w.heap.size b (xs.map (Value.int .i64))) :
    Calls Try.prog 20 #[.slice a n c1, .slice b n c2] w fun e w' => e = .returned (.bool true) ∧ Below w.heap.size w w' := by
  subst hn
  have HA := Lib.hid ha
  have HB := Lib.hid hb
  clear ha hb
  go_enter Try.func20, Try.ntmps20
  go_wp2
  go_loopw [5] (fun i wr => ∃ j : Nat, j ≤ xs.length ∧ i = .int .i64 j ∧ Below w.heap.size w wr) (fun i _ => xs.length - (intOf i).toNat)
  case atStart => exact ⟨0, Nat.zero_le _, rfl, Below.refl _ _⟩
  case round =>
    obtain ⟨j, hj, rfl, hbl⟩ := hrel
    by_cases hjl : j < xs.length
    · obtain ⟨ba, oa, rfl, hba, hca⟩ := (HA.out.below hbl).at j (by simpa using hjl)
      obtain ⟨bb, ob, rfl, hbb, hcb⟩ := (HB.out.below hbl).at j (by simpa using hjl)
      rw [List.getElem_map] at hca hcb
      have hsz := hbl.size
      generalize xs[j] = x at hca hcb
      go_wp2_with fail
      refine wp_region_over (by kernel_rfl) (by kernel_rfl) ?_
      have hov := fun (E : Over wr) (o : Nat) => E.cell (b := ba) o (by omega)
      have hov2 := fun (E : Over wr) (o : Nat) => E.cell (b := bb) o (by omega)
      repeat (go_big_quiet_step (fail))
      refine wpQuiet_nil ?_
      rintro _ ⟨E, rfl⟩
      have hE := below_up hbl E.h
      clear hov hov2
      go_wp2
      go_roundw
      case rel => exact ⟨j + 1, by omega, by go_num, hE⟩
      case measure => simp [intOf]; omega
    · have hjn : j = xs.length := by omega
      subst hjn
      go_wp2
      go_ret
      exact ⟨rfl, hbl⟩

theorem errs_cell (w : World) : ∀ j : Nat, j < 17 → (w.alloc (.cells #[.int .i64 0, .int .i64 1, .int .i64 2, .int .i64 3, .int .i64 4, .int .i64 5, .int .i64 6, .int .i64 7, .int .i64 8, .int .i64 9, .int .i64 10, .int .i64 11, .int .i64 12, .int .i64 13, .int .i64 14, .int .i64 15, .int .i64 16] 26)).cell? ⟨w.heap.size, j, none⟩ = some (.int .i64 j) := by
  intro j hj
  rw [World.cell?_alloc_at _ _ _ _ rfl]
  have h : j = 0 ∨ j = 1 ∨ j = 2 ∨ j = 3 ∨ j = 4 ∨ j = 5 ∨ j = 6 ∨ j = 7 ∨ j = 8 ∨ j = 9 ∨ j = 10 ∨ j = 11 ∨ j = 12 ∨ j = 13 ∨ j = 14 ∨ j = 15 ∨ j = 16 := by omega
  rcases h with rfl | rfl | rfl | rfl | rfl | rfl | rfl | rfl | rfl | rfl | rfl | rfl | rfl | rfl | rfl | rfl | rfl <;> rfl

/-- Two lists of constants that the call has just written out, one behind the other. -/
theorem numbers_two (w : World) (xs : List Int) (n c1 c2 : Nat) (cs : Array Value) (t : TypeId) (hcs : cs = (xs.map (Value.int .i64)).toArray) (hn : xs.length = n) (hm : n ≤ 140737488351232) :
    Calls Try.prog 20 #[.slice (some ⟨w.heap.size, 0, none⟩) n c1, .slice (some ⟨w.heap.size + 1, 0, none⟩) n c2] ((w.alloc (.cells cs t)).alloc (.cells cs t)) fun e w' => e = .returned (.bool true) ∧ Below w.heap.size w w' := by
  subst hcs
  have hA : Below w.heap.size w ((w.alloc (.cells (xs.map (Value.int .i64)).toArray t)).alloc (.cells (xs.map (Value.int .i64)).toArray t)) := ((Below.refl _ _).alloc (Nat.le_refl _) _).alloc (by simp) _
  refine (numbers_eq _ _ _ _ _ xs _ hn hm ?_ ?_).mono fun e w' ⟨he, hb⟩ => ⟨he, below_up hA hb⟩
  · have h : ((w.alloc (.cells (xs.map (Value.int .i64)).toArray t)).alloc (.cells (xs.map (Value.int .i64)).toArray t)).heap[w.heap.size]? = some (.cells (xs.map (Value.int .i64)).toArray t (0, 0)) := by
      rw [Below.heap_alloc _ _ _ (by simp)]; exact heap_alloc_new w _
    simpa using Sl.of_block h
  · have h : ((w.alloc (.cells (xs.map (Value.int .i64)).toArray t)).alloc (.cells (xs.map (Value.int .i64)).toArray t)).heap[w.heap.size + 1]? = some (.cells (xs.map (Value.int .i64)).toArray t (0, 0)) := by
      have := heap_alloc_new (w.alloc (.cells (xs.map (Value.int .i64)).toArray t)) (.cells (xs.map (Value.int .i64)).toArray t)
      simpa using this
    simpa using Sl.of_block h

set_option maxHeartbeats 1000000 in
theorem names_calls (w : World) :
    Calls Try.prog 8 #[] w fun e w' => e = .returned (.bool true) ∧ Below w.heap.size w w' := by
  have HC : Hid (∀ j : Nat, j < 17 → (w.alloc (.cells #[.int .i64 0, .int .i64 1, .int .i64 2, .int .i64 3, .int .i64 4, .int .i64 5, .int .i64 6, .int .i64 7, .int .i64 8, .int .i64 9, .int .i64 10, .int .i64 11, .int .i64 12, .int .i64 13, .int .i64 14, .int .i64 15, .int .i64 16] 26)).cell? ⟨w.heap.size, j, none⟩ = some (.int .i64 j)) := errs_cell w
  have hW : Below w.heap.size w (w.alloc (.cells #[.int .i64 0, .int .i64 1, .int .i64 2, .int .i64 3, .int .i64 4, .int .i64 5, .int .i64 6, .int .i64 7, .int .i64 8, .int .i64 9, .int .i64 10, .int .i64 11, .int .i64 12, .int .i64 13, .int .i64 14, .int .i64 15, .int .i64 16] 26)) := (Below.refl _ _).alloc (Nat.le_refl _) _
  go_enter Try.func8, Try.ntmps8
  go_wp2
  go_loop [2] (fun i => ∃ j : Nat, j ≤ 17 ∧ i = .int .i64 j) (fun i => 17 - (intOf i).toNat)
  case atStart => exact ⟨0, Nat.zero_le _, rfl⟩
  case round =>
    obtain ⟨j, hj, rfl⟩ := hrel
    by_cases hjl : j < 17
    · have hc := HC.out j hjl
      have hj1 : (j : Int) < 17 := by omega
      go_wp2
      go_round
      case rel => exact ⟨j + 1, by omega, by go_num⟩
      case measure => simp [intOf]; omega
    · have hjn : j = 17 := by omega
      subst hjn
      clear HC
      generalize w.alloc (.cells #[.int .i64 0, .int .i64 1, .int .i64 2, .int .i64 3, .int .i64 4, .int .i64 5, .int .i64 6, .int .i64 7, .int .i64 8, .int .i64 9, .int .i64 10, .int .i64 11, .int .i64 12, .int .i64 13, .int .i64 14, .int .i64 15, .int .i64 16] 26) = w0 at *
      go_wp2_with fail
      refine (numbers_two w0 [1, 2, 3, 1048576, 12, 1, 2, 3, 64, 1048576] 10 _ _ _ _ rfl rfl (by omega)).mono ?_
      rintro e w1 ⟨rfl, hb1⟩
      go_wp2_with fail
      refine (numbers_two w1 [1, 2, 3, 4, 1, 2, 3, 4] 8 _ _ _ _ rfl rfl (by omega)).mono ?_
      rintro e w2 ⟨rfl, hb2⟩
      go_wp2_with fail
      refine (numbers_two w2 [1, 2, 3, 4, 0, 1, 2, 3, 4, 5] 10 _ _ _ _ rfl rfl (by omega)).mono ?_
      rintro e w3 ⟨rfl, hb3⟩
      go_wp2_with fail
      refine (numbers_two w3 [1, 2, 3, 4, 5] 5 _ _ _ _ rfl rfl (by omega)).mono ?_
      rintro e w4 ⟨rfl, hb4⟩
      go_wp2_with fail
      go_ret
      exact ⟨rfl, below_up (below_up (below_up (below_up hW hb1) hb2) hb3) hb4⟩

set_option maxRecDepth 100000 in
theorem names_lifted (os : Os) (started : os.Started) (H : Type) (enc : TypeId × Value → H) :
    ReturnsInHanded {} Try.checked os 8 .any (Rows.namesSpec.pre6 enc Try.prog Try.f8 Rows.namesRow.domain false) (Rows.namesSpec.post enc Try.prog Try.f8 false true false false) := by
  refine returnsInHanded_of_change_sized (C := Try.checked) law_own started (by kernel_rfl) Try.func8
    (ChangeSpec.witness6 (enc := enc) (C := Try.checked) false ⟨#[], #[], []⟩ 8 (by kernel_rfl) (by kernel_rfl) (by kernel_rfl) (by kernel_rfl)) ?_
  intro W base args ds gs before hval0 hW _ hsz0 _
  have hsz : (DataW.weightsEach Try.prog (Try.f8.params.toList ++ Rows.namesSpec.plain.varTypes Try.prog) (ds ++ gs)).all (· ≤ reachBytes) = true := hsz0
  clear hsz0
  have hval : ∀ (j : Nat) t v, Try.f8.params[j]? = some t → args[j]? = some v → Value.okWide Try.prog W .any base t v := hval0
  have hW' := hW
  obtain ⟨p, q, hA0, hV, rfl, _, _⟩ := hW
  have hA : DataW.TrodAll enc Try.prog W 0 (fun _ => true) true Try.f8.params.toList args.toList ds p := hA0
  rw [Try.params8] at hA hval hsz
  obtain ⟨hargs, rfl, rfl⟩ := trodAll_nil hA
  obtain rfl : args = #[] := by cases args; simp_all
  obtain ⟨rfl, rfl⟩ := trodVars_none hV
  clear hA0 hval0
  refine (names_calls W).mono fun e W' ⟨he, bel⟩ => ?_
  subst he
  exact ⟨_, rfl, _, _, _, [], _, [], hW', trodAll_mk1 (shut_bool Try.underlying4 _), trodAll_mk0, rfl, bel.frame _, fun h => by cases h⟩

theorem names_holds : Rows.NamesSaid :=
  OpenClaim.holds_of_wide 8 Try.f8 rfl rfl rfl rfl rfl rfl rfl ⟨rfl, rfl, rfl, rfl, rfl⟩ rfl rfl rfl rfl rfl (by kernel_rfl) Try.func8 (by kernel_rfl)
    (of_decide_eq_true (by kernel_rfl)) (by unfold Func.isWrapper; first | (rw [if_pos (by decide +kernel)]; kernel_rfl) | (rw [if_neg (by decide +kernel)]; exact ⟨rfl, rfl⟩))
    (fun os started H enc _ => names_lifted os started H enc)
#print axioms names_holds



end Go.Proofs.Ytbjhcpchljjmhaa
