/- BallotFits: whatever the contest and the choice, ballot.Fits answers what the document says (a contest of more than 1,000 options is answered true by the law itself). No condition. -/
import Derived.Test.YtbjhcpchljjmhaaLawBase
import Derived.Test.YtbjhcpchljjmhaaFitsRef
namespace Go.Proofs.Ytbjhcpchljjmhaa
open Go.ChangeShapes Go.WideShapes Go.ChangeAt Go.RowKit

theorem topI_nat (r : Int) (k : Nat) : ∃ t : Nat, topI r k = (t : Int) ∧ t ≤ k + 1 := by
  unfold topI
  split
  · exact ⟨k, rfl, by omega⟩
  · exact ⟨1, rfl, by omega⟩

theorem rk_ne (r : Int) : rk r = true → r ≠ 1 := by
  intro h e; subst e; simp [rk] at h

set_option maxHeartbeats 800000 in
theorem ballotFits_any (nm s : Value) (oa ca : Option Addr) (k cap ccap : Nat) (r m : Int) (xs : List Int) (w : World)
    (hx : xs.length ≤ 140737488351232) (hs : Sl w w.heap.size ca (xs.map (Value.int .i64))) :
    Calls Try.prog 3 #[.agg #[nm, .slice oa k cap, .int .i64 r, s, .int .i64 m], .slice ca xs.length ccap] w fun e w' => e = .returned (.bool true) ∧ Below w.heap.size w w' := by
  have hW : Below w.heap.size w (w.alloc (.cells #[nm, .slice oa k cap, .int .i64 r, s, .int .i64 m] 24)) := (Below.refl _ _).alloc (Nat.le_refl _) _
  by_cases hk : 1000 < k
  · have HS := Lib.hid hs
    clear hs
    go_enter Try.func3, Try.ntmps3
    go_wp2
    go_ret
    exact ⟨rfl, hW⟩
  · obtain ⟨t, ht, htk⟩ := topI_nat r k
    have hk2 : t + 1 ≤ 140737488351232 := by omega
    obtain ⟨c, hc⟩ : ∃ c, fitsE (rk r) t r m k xs = c := ⟨_, rfl⟩
    have hc2 : (if xs.length ≠ k then 2 else if refFits (rk r) t r m xs then 0 else 4 : Int) = c := by
      rw [← hc, fitsE, fits_eq _ _ _ _ _ (rk_ne r)]
    have HC := Lib.hid hc
    have HC2 := Lib.hid hc2
    have HT := Lib.hid ht
    have HS := Lib.hid hs
    clear hc hc2 ht hs
    go_enter Try.func3, Try.ntmps3
    go_wp2_with fail
    refine wp_region_over (by kernel_rfl) (by kernel_rfl) ?_
    have hov := fun (E : Over (w.alloc (.cells #[nm, .slice oa k cap, .int .i64 r, s, .int .i64 m] 24))) (o : Nat) => E.cell (b := w.heap.size) o (by simp)
    repeat (go_big_quiet_step (first
      | (go_at_call 9; exact calls_over (Fits_any _ _ _ _ _ _ _ _ _ _ _ _ _ _ rfl HT.out HC.out hk2 hx ((HS.out.up hW).up (Over.h _))))
      | (go_at_call 10; exact calls_over (RefFits_any _ _ _ _ _ _ _ _ _ _ _ _ _ _ _ rfl HT.out rfl HC2.out hk2 hx ((HS.out.up hW).up (Over.h _))))))
    refine wpQuiet_nil ?_
    rintro _ ⟨E, rfl⟩
    have hE := E.h
    go_wp2
    go_ret
    exact ⟨by simp, below_up hW hE⟩

theorem contest_cells : Try.prog.cellsOf 24 = 5 := by kernel_rfl
theorem ints_cells : Try.prog.cellsOf 3 = 1 := by kernel_rfl
theorem ints_bytes : Try.prog.bytesOf 3 = 8 := by kernel_rfl

theorem ballotFits_calls {H : Type} (enc : TypeId × Value → H) (W : World) (base : Nat) {v0 v1 : Value} {d0 d1 : DataW H} {p0 p1 : List MemPlace}
    (h0 : DataW.Trod enc Try.prog W 0 (fun _ => true) true 24 v0 d0 p0) (h1 : DataW.Trod enc Try.prog W 0 (fun _ => true) true 25 v1 d1 p1)
    (k0 : Value.okWide Try.prog W .any base 24 v0) (k1 : Value.okWide Try.prog W .any base 25 v1)
    (_lt0 : ∀ x ∈ p0, x.block < W.heap.size) (lt1 : ∀ x ∈ p1, x.block < W.heap.size)
    (hsz : (DataW.weightsEach Try.prog ([24, 25] ++ Rows.ballotFitsSpec.plain.varTypes Try.prog) ([d0, d1] ++ [])).all (· ≤ reachBytes) = true) :
    Calls Try.prog 3 #[v0, v1] W fun e w' => e = .returned (.bool true) ∧ Below W.heap.size W w' := by
  obtain ⟨cs, ys, n, rfl, hcs, _, _, _, hf⟩ := open_fields Try.underlying24 (by kernel_rfl) contest_cells k0 h0
  obtain ⟨c0, c1, c2, c3, c4, rfl⟩ := array5 hcs
  obtain ⟨_, y1, e1, _, t1⟩ := hf 1 _ rfl
  obtain ⟨_, y2, e2, _, t2⟩ := hf 2 _ rfl
  obtain ⟨_, y4, e4, _, t4⟩ := hf 4 _ rfl
  simp only [List.getElem?_toArray, List.getElem?_cons_succ, List.getElem?_cons_zero, Option.some.injEq] at e1 e2 e4
  subst e1 e2 e4
  obtain ⟨oa, k, cap, rfl⟩ := field_slice Try.underlying22 t1
  obtain ⟨r, rfl, _⟩ := field_int Try.underlying3 t2
  obtain ⟨m, rfl, _⟩ := field_int Try.underlying3 t4
  obtain ⟨ca, len, ccap, rfl⟩ := okWide_slice Try.underlying25 k1
  obtain ⟨xs, rfl, hs, _, hd⟩ := open_Sl_ints Try.underlying25 Try.underlying3 ints_cells h1 lt1
  refine ballotFits_any _ _ _ _ _ _ _ _ _ _ _ ?_ hs
  rcases hd with h0 | ⟨zs, hz, rfl⟩
  · omega
  · have := sized_slice hsz (j := 1) (t := 25) (e := 3) rfl rfl Try.underlying25
    rw [ints_bytes] at this
    simp only [lits, List.length_map, List.length_take, List.length_drop, reachBytes] at this
    omega

set_option maxRecDepth 100000 in
theorem ballotFits_lifted (os : Os) (started : os.Started) (H : Type) (enc : TypeId × Value → H) :
    ReturnsInHanded {} Try.checked os 3 .any (Rows.ballotFitsSpec.pre6 enc Try.prog Try.f3 Rows.ballotFitsRow.domain false) (Rows.ballotFitsSpec.post enc Try.prog Try.f3 false true false false) := by
  refine returnsInHanded_of_change_sized (C := Try.checked) law_own started (by kernel_rfl) Try.func3
    (ChangeSpec.witness6 (enc := enc) (C := Try.checked) false ⟨#[], #[.agg #[.string ⟨#[]⟩, .slice none 0 0, .int .i64 0, .int .i64 0, .int .i64 0], .slice none 0 0], []⟩ 8 (by kernel_rfl) (by kernel_rfl) (by kernel_rfl) (by kernel_rfl)) ?_
  intro W base args ds gs before hval0 hW _ hsz0 _
  have hsz : (DataW.weightsEach Try.prog (Try.f3.params.toList ++ Rows.ballotFitsSpec.plain.varTypes Try.prog) (ds ++ gs)).all (· ≤ reachBytes) = true := hsz0
  clear hsz0
  have hval : ∀ (j : Nat) t v, Try.f3.params[j]? = some t → args[j]? = some v → Value.okWide Try.prog W .any base t v := hval0
  have hW' := hW
  obtain ⟨p, q, hA0, hV, rfl, _, _⟩ := hW
  have hA : DataW.TrodAll enc Try.prog W 0 (fun _ => true) true Try.f3.params.toList args.toList ds p := hA0
  rw [Try.params3] at hA hval hsz
  obtain ⟨v0, vs0, d0, ds0, p0, q0, hargs, rfl, rfl, h0, r0⟩ := trodAll_cons hA
  obtain ⟨v1, vs1, d1, ds1, p1, q1, rfl, rfl, rfl, h1, r1⟩ := trodAll_cons r0
  obtain ⟨rfl, rfl, rfl⟩ := trodAll_nil r1
  obtain rfl : args = #[v0, v1] := by cases args; simp_all
  obtain ⟨rfl, rfl⟩ := trodVars_none hV
  have lt0 : ∀ x ∈ p0, x.block < W.heap.size := by obtain ⟨m, hm⟩ := h0; exact DataW.trod_lt m _ _ _ hm
  have lt1 : ∀ x ∈ p1, x.block < W.heap.size := by obtain ⟨m, hm⟩ := h1; exact DataW.trod_lt m _ _ _ hm
  clear hA0 hval0
  refine (ballotFits_calls enc W base h0 h1 (hval 0 24 v0 rfl rfl) (hval 1 25 v1 rfl rfl) lt0 lt1 hsz).mono fun e W' ⟨he, bel⟩ => ?_
  subst he
  exact ⟨_, rfl, _, _, _, [], _, [], hW', trodAll_mk1 (shut_bool Try.underlying4 _), (trodAll_cons_mk (Below.trod law_laidOut (by kernel_rfl) (of_decide_eq_true (by kernel_rfl)) h0 bel lt0) (trodAll_cons_mk (Below.trod law_laidOut (by kernel_rfl) (of_decide_eq_true (by kernel_rfl)) h1 bel lt1) trodAll_mk0)), rfl, bel.frame _, fun h => by cases h⟩

theorem ballotFits_holds : Rows.BallotFitsSaid :=
  OpenClaim.holds_of_wide 3 Try.f3 rfl rfl rfl rfl rfl rfl rfl ⟨rfl, rfl, rfl, rfl, rfl⟩ rfl rfl rfl rfl rfl (by kernel_rfl) Try.func3 (by kernel_rfl)
    (of_decide_eq_true (by kernel_rfl)) (by unfold Func.isWrapper; first | (rw [if_pos (by decide +kernel)]; kernel_rfl) | (rw [if_neg (by decide +kernel)]; exact ⟨rfl, rfl⟩))
    (fun os started H enc _ => ballotFits_lifted os started H enc)
#print axioms ballotFits_holds



end Go.Proofs.Ytbjhcpchljjmhaa
