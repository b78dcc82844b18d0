/- BoardCovers: Cover of anything answers what the document says. No condition. -/
import Derived.Test.YtbjhcpchljjmhaaLawBase
import Derived.Test.YtbjhcpchljjmhaaCoverRef
import Derived.BigQuiet
namespace Go.Proofs.Ytbjhcpchljjmhaa
open Go.ChangeShapes Go.WideShapes Go.ChangeAt Go.RowKit

theorem own_shape {W : World} {base : Nat} {e : TypeId} {size : Nat} {v : Value} {k : Nat} {xs : List Value} (h : W.ownsRow base e size v k xs) :
    ∃ a c, v = .slice a k c ∧ (k = 0 ∨ ∃ g, a = some ⟨g, 0, none⟩ ∧ g < W.heap.size) := by
  rcases h.2 with ⟨rfl, rfl⟩ | ⟨g, cap, cur, rfl, _, hg, _⟩
  · exact ⟨_, _, rfl, Or.inl rfl⟩
  · exact ⟨_, _, rfl, Or.inr ⟨g, rfl, (Array.getElem?_eq_some_iff.1 hg).1⟩⟩

theorem flat_cell (gs : List (Int × Int)) : ∀ j (hj : j < gs.length), (flat gs)[j * 2]? = some (.int .i64 gs[j].1) ∧ (flat gs)[j * 2 + 1]? = some (.int .i64 gs[j].2) := by
  induction gs with
  | nil => intro j hj; simp at hj
  | cons g gs ih =>
    intro j hj
    cases j with
    | zero => simp [flat]
    | succ j =>
      have h := ih j (by simpa using hj)
      have e : flat (g :: gs) = .int .i64 g.1 :: .int .i64 g.2 :: flat gs := by simp [flat]
      rw [e, show (j + 1) * 2 = j * 2 + 2 by omega]
      simpa using h

set_option maxHeartbeats 2000000 in
theorem boardCovers_any (lo hi : Int) (w : World) : Calls Try.prog 5 #[.int .i64 lo, .int .i64 hi] w fun e w' => e = .returned (.bool true) ∧ Below w.heap.size w w' := by
  by_cases hg : 0 ≤ lo ∧ lo ≤ hi ∧ hi ≤ 1048576
  · go_enter Try.func5, Try.ntmps5
    go_wp2_with fail
    refine (Cover_any lo hi w).mono ?_
    intro e w1 hp
    unfold CoverPost at hp
    rw [if_pos hg] at hp
    obtain ⟨v1, rfl, hm1⟩ := hp
    obtain ⟨a1, c1, rfl, ha1⟩ := own_shape hm1.own
    have HM1 := Lib.hid hm1
    have HA1 := Lib.hid ha1
    clear hm1 ha1
    go_wp2_with fail
    refine (refCover_any lo hi w1).mono ?_
    intro e w2 hp
    unfold CoverPost at hp
    rw [if_pos hg] at hp
    obtain ⟨v2, rfl, hm2⟩ := hp
    obtain ⟨a2, c2, rfl, ha2⟩ := own_shape hm2.own
    have HM2 := Lib.hid hm2
    have HA2 := Lib.hid ha2
    have HO1 := Lib.hid (HM1.out.own.kept (below_grown hm2.below) (Classical.em _))
    have HB2 := Lib.hid (below_up HM1.out.below hm2.below)
    have hz1 := hm2.below.size
    have hlen := cover_length lo.toNat hi.toNat
    have hlen2 : (cover lo.toNat hi.toNat).length ≤ 1048576 := by omega
    clear hm2 ha2 hlen
    generalize hGL : cover lo.toNat hi.toNat = GL at *
    clear hGL
    go_wp2_with fail
    go_loopw [34] (fun i wr => ∃ j : Nat, j ≤ GL.length ∧ i = .int .i64 j ∧ Hid (Below w2.heap.size w2 wr)) (fun i _ => GL.length - (intOf i).toNat)
    case atStart => exact ⟨0, Nat.zero_le _, rfl, Below.refl _ _⟩
    case round =>
      obtain ⟨j, hj, rfl, HN⟩ := hrel
      by_cases hjl : j < GL.length
      · obtain ⟨g1, rfl, hg1⟩ : ∃ g, a1 = some ⟨g, 0, none⟩ ∧ g < w1.heap.size := by
          rcases HA1.out with h | h
          · omega
          · exact h
        obtain ⟨g2, rfl, hg2⟩ : ∃ g, a2 = some ⟨g, 0, none⟩ ∧ g < w2.heap.size := by
          rcases HA2.out with h | h
          · omega
          · exact h
        obtain ⟨f1, f2⟩ := flat_cell GL j hjl
        have hx1 := HO1.out.cellAt (j * 2) (by omega)
        have hy1 := HO1.out.cellAt (j * 2 + 1) (by omega)
        have hx2 := HM2.out.own.cellAt (j * 2) (by omega)
        have hy2 := HM2.out.own.cellAt (j * 2 + 1) (by omega)
        rw [f1] at hx1 hx2
        rw [f2] at hy1 hy2
        have hzr := HN.out.size
        rw [← HN.out.cell (p := ⟨g1, j * 2, none⟩) (by show g1 < _; omega)] at hx1
        rw [← HN.out.cell (p := ⟨g1, j * 2 + 1, none⟩) (by show g1 < _; omega)] at hy1
        rw [← HN.out.cell (p := ⟨g2, j * 2, none⟩) hg2] at hx2
        rw [← HN.out.cell (p := ⟨g2, j * 2 + 1, none⟩) hg2] at hy2
        clear f1 f2
        generalize GL[j].1 = x at *
        generalize GL[j].2 = y at *
        go_wp2_with fail
        refine wp_region_over (by kernel_rfl) (by kernel_rfl) ?_
        have hov := fun (E : Over wr) (o : Nat) => E.cell (b := g1) o (by omega)
        have hov2 := fun (E : Over wr) (o : Nat) => E.cell (b := g2) o (by omega)
        repeat (go_big_quiet_step (fail))
        refine wpQuiet_nil ?_
        rintro _ ⟨E, rfl⟩
        have HE := Lib.hid (HN.out.trans (E.h.mono hzr))
        clear hov hov2
        go_wp2_with fail
        go_roundw
        case rel => exact ⟨j + 1, by omega, by go_num, HE⟩
        case measure => simp [intOf]; omega
      · have hjn : j = GL.length := by omega
        subst hjn
        go_wp2_with fail
        go_ret
        exact ⟨rfl, HB2.out.trans (HN.out.mono HB2.out.size)⟩
  · go_enter Try.func5, Try.ntmps5
    go_wp2_with fail
    refine (Cover_any lo hi w).mono ?_
    intro e w1 hp
    unfold CoverPost at hp
    rw [if_neg hg] at hp
    obtain ⟨rfl, hb1⟩ := hp
    go_wp2_with fail
    refine (refCover_any lo hi w1).mono ?_
    intro e w2 hp
    unfold CoverPost at hp
    rw [if_neg hg] at hp
    obtain ⟨rfl, hb2⟩ := hp
    have HB2 := Lib.hid (below_up hb1 hb2)
    clear hb1 hb2
    go_wp2_with fail
    refine wp_loop_rounds 1 ?_
    rw [rounds_succ]
    go_wp2_with fail
    go_ret
    exact ⟨rfl, HB2.out⟩

theorem boardCovers_calls {H : Type} (enc : TypeId × Value → H) (W : World) (base : Nat) {v0 v1 : Value} {d0 d1 : DataW H} {p0 p1 : List MemPlace}
    (h0 : DataW.Trod enc Try.prog W 0 (fun _ => true) true 3 v0 d0 p0) (h1 : DataW.Trod enc Try.prog W 0 (fun _ => true) true 3 v1 d1 p1)
    (k0 : Value.okWide Try.prog W .any base 3 v0) (k1 : Value.okWide Try.prog W .any base 3 v1)
    (_lt0 : ∀ x ∈ p0, x.block < W.heap.size) (_lt1 : ∀ x ∈ p1, x.block < W.heap.size)
    (_hsz : (DataW.weightsEach Try.prog ([3, 3] ++ Rows.boardCoversSpec.plain.varTypes Try.prog) ([d0, d1] ++ [])).all (· ≤ reachBytes) = true) :
    Calls Try.prog 5 #[v0, v1] W fun e w' => e = .returned (.bool true) ∧ Below W.heap.size W w' := by
  obtain ⟨a, rfl, _, _, _⟩ := open_int Try.underlying3 k0 h0
  obtain ⟨b, rfl, _, _, _⟩ := open_int Try.underlying3 k1 h1
  exact boardCovers_any a b W

set_option maxRecDepth 100000 in
theorem boardCovers_lifted (os : Os) (started : os.Started) (H : Type) (enc : TypeId × Value → H) :
    ReturnsInHanded {} Try.checked os 5 .any (Rows.boardCoversSpec.pre6 enc Try.prog Try.f5 Rows.boardCoversRow.domain false) (Rows.boardCoversSpec.post enc Try.prog Try.f5 false true false false) := by
  refine returnsInHanded_of_change_sized (C := Try.checked) law_own started (by kernel_rfl) Try.func5
    (ChangeSpec.witness6 (enc := enc) (C := Try.checked) false ⟨#[], #[.int .i64 0, .int .i64 0], []⟩ 8 (by kernel_rfl) (by kernel_rfl) (by kernel_rfl) (by kernel_rfl)) ?_
  intro W base args ds gs before hval0 hW _ hsz0 _
  have hsz : (DataW.weightsEach Try.prog (Try.f5.params.toList ++ Rows.boardCoversSpec.plain.varTypes Try.prog) (ds ++ gs)).all (· ≤ reachBytes) = true := hsz0
  clear hsz0
  have hval : ∀ (j : Nat) t v, Try.f5.params[j]? = some t → args[j]? = some v → Value.okWide Try.prog W .any base t v := hval0
  have hW' := hW
  obtain ⟨p, q, hA0, hV, rfl, _, _⟩ := hW
  have hA : DataW.TrodAll enc Try.prog W 0 (fun _ => true) true Try.f5.params.toList args.toList ds p := hA0
  rw [Try.params5] at hA hval hsz
  obtain ⟨v0, vs0, d0, ds0, p0, q0, hargs, rfl, rfl, h0, r0⟩ := trodAll_cons hA
  obtain ⟨v1, vs1, d1, ds1, p1, q1, rfl, rfl, rfl, h1, r1⟩ := trodAll_cons r0
  obtain ⟨rfl, rfl, rfl⟩ := trodAll_nil r1
  obtain rfl : args = #[v0, v1] := by cases args; simp_all
  obtain ⟨rfl, rfl⟩ := trodVars_none hV
  have lt0 : ∀ x ∈ p0, x.block < W.heap.size := by obtain ⟨m, hm⟩ := h0; exact DataW.trod_lt m _ _ _ hm
  have lt1 : ∀ x ∈ p1, x.block < W.heap.size := by obtain ⟨m, hm⟩ := h1; exact DataW.trod_lt m _ _ _ hm
  clear hA0 hval0
  refine (boardCovers_calls enc W base h0 h1 (hval 0 3 v0 rfl rfl) (hval 1 3 v1 rfl rfl) lt0 lt1 hsz).mono fun e W' ⟨he, bel⟩ => ?_
  subst he
  exact ⟨_, rfl, _, _, _, [], _, [], hW', trodAll_mk1 (shut_bool Try.underlying4 _), (trodAll_cons_mk (Below.trod law_laidOut (by kernel_rfl) (of_decide_eq_true (by kernel_rfl)) h0 bel lt0) (trodAll_cons_mk (Below.trod law_laidOut (by kernel_rfl) (of_decide_eq_true (by kernel_rfl)) h1 bel lt1) trodAll_mk0)), rfl, bel.frame _, fun h => by cases h⟩

theorem boardCovers_holds : Rows.BoardCoversSaid :=
  OpenClaim.holds_of_wide 5 Try.f5 rfl rfl rfl rfl rfl rfl rfl ⟨rfl, rfl, rfl, rfl, rfl⟩ rfl rfl rfl rfl rfl (by kernel_rfl) Try.func5 (by kernel_rfl)
    (of_decide_eq_true (by kernel_rfl)) (by unfold Func.isWrapper; first | (rw [if_pos (by decide +kernel)]; kernel_rfl) | (rw [if_neg (by decide +kernel)]; exact ⟨rfl, rfl⟩))
    (fun os started H enc _ => boardCovers_lifted os started H enc)
#print axioms boardCovers_holds



end Go.Proofs.Ytbjhcpchljjmhaa
