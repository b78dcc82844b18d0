/- MixRuns: Plan and Run of anything answer what the document says. No condition. -/
import Derived.Test.YtbjhcpchljjmhaaLawBase
import Derived.Test.YtbjhcpchljjmhaaRun
namespace Go.Proofs.Ytbjhcpchljjmhaa
open Go.ChangeShapes Go.WideShapes Go.ChangeAt Go.RowKit

set_option maxHeartbeats 400000 in
theorem sameInts_eq (a b : Option Addr) (n c1 c2 : Nat) (xs : List Int) (w : World) (hn : xs.length = n) (hm : n ≤ 140737488351232)
    (ha : Sl w w.heap.size a (xs.map (Value.int .i64))) (hb : Sl w w.heap.size b (xs.map (Value.int .i64))) :
    Calls Try.prog 17 #[.slice a n c1, .slice b n c2] w fun e w' => e = .returned (.bool true) ∧ Below w.heap.size w w' := by
  subst hn
  have HA := Lib.hid ha
  have HB := Lib.hid hb
  clear ha hb
  go_enter Try.func17, Try.ntmps17
  go_wp2
  go_loopw [13] (fun i wr => ∃ j : Nat, j ≤ xs.length ∧ i = .int .i64 j ∧ Below w.heap.size w wr) (fun i _ => xs.length - (intOf i).toNat)
  case atStart => exact ⟨0, Nat.zero_le _, rfl, Below.refl _ _⟩
  case round =>
    obtain ⟨j, hj, rfl, hbl⟩ := hrel
    by_cases hjl : j < xs.length
    · obtain ⟨ba, oa, rfl, hba, hca⟩ := (HA.out.below hbl).at j (by simpa using hjl)
      obtain ⟨bb, ob, rfl, hbb, hcb⟩ := (HB.out.below hbl).at j (by simpa using hjl)
      rw [List.getElem_map] at hca hcb
      have hsz := hbl.size
      generalize xs[j] = x at hca hcb
      go_wp2_with fail
      refine wp_region_over (by kernel_rfl) (by kernel_rfl) ?_
      have hov := fun (E : Over wr) (o : Nat) => E.cell (b := ba) o (by omega)
      have hov2 := fun (E : Over wr) (o : Nat) => E.cell (b := bb) o (by omega)
      repeat (go_big_quiet_step (fail))
      refine wpQuiet_nil ?_
      rintro _ ⟨E, rfl⟩
      have hE := below_up hbl E.h
      clear hov hov2
      go_wp2
      go_roundw
      case rel => exact ⟨j + 1, by omega, by go_num, hE⟩
      case measure => simp [intOf]; omega
    · have hjn : j = xs.length := by omega
      subst hjn
      go_wp2
      go_ret
      exact ⟨rfl, hbl⟩

set_option maxHeartbeats 2000000 in
theorem mixRuns_bad (n : Int) (ca : Option Addr) (len ccap : Nat) (w : World) (hn : ¬ (1 ≤ n ∧ n ≤ 256)) :
    Calls Try.prog 6 #[.int .i64 n, .slice ca len ccap] w fun e w' => e = .returned (.bool true) ∧ Below w.heap.size w w' := by
  go_enter Try.func6, Try.ntmps6
  go_wp2_with fail
  refine (Plan_bad n w hn).mono ?_
  rintro e w1 ⟨rfl, rfl⟩
  go_wp2_with fail
  refine (refPlan_bad n w hn).mono ?_
  rintro e w1 ⟨rfl, rfl⟩
  go_wp2_with fail
  refine wp_loop_rounds 1 ?_
  rw [rounds_succ]
  go_wp2_with fail
  refine (Run_bad n ca len ccap w hn).mono ?_
  rintro e w1 ⟨rfl, rfl⟩
  go_wp2_with fail
  refine (refRun_bad n ca len ccap w hn).mono ?_
  rintro e w1 ⟨rfl, rfl⟩
  go_wp2_with fail
  refine (sameInts_eq none none 0 0 0 [] w rfl (by omega) (Or.inl rfl) (Or.inl rfl)).mono ?_
  rintro e w1 ⟨rfl, hb⟩
  go_wp2_with fail
  go_ret
  exact ⟨rfl, hb⟩

set_option maxHeartbeats 4000000 in
theorem mixRuns_ok (n : Nat) (ca : Option Addr) (bs : List Bool) (ccap : Nat) (w : World) (h1 : 1 ≤ n) (h2 : n ≤ 256) (hs : Sl w w.heap.size ca (bs.map Value.bool)) :
    Calls Try.prog 6 #[.int .i64 n, .slice ca bs.length ccap] w fun e w' => e = .returned (.bool true) ∧ Below w.heap.size w w' := by
  have HS := Lib.hid hs
  have hle := gates_le n h2
  clear hs
  go_enter Try.func6, Try.ntmps6
  go_wp2_with fail
  refine (Plan_ok n w h1 h2).mono ?_
  rintro e w1 ⟨u, rfl, hm1, hb1⟩
  obtain ⟨a1, c1, rfl, ha1⟩ := own_form hm1.own
  have HM1 := Lib.hid hm1
  have HA1 := Lib.hid ha1
  clear hm1 ha1
  go_wp2_with fail
  refine (refPlan_ok n w1 h1 h2).mono ?_
  rintro e w2 ⟨u, rfl, hm2, hb2⟩
  obtain ⟨a2, c2, rfl, ha2⟩ := own_form hm2.own
  have HM2 := Lib.hid hm2
  have HA2 := Lib.hid ha2
  have HO1 := Lib.hid (HM1.out.own.kept (below_grown hb2) (by cases (Value.slice a1 (gatesL (iota n)).length c1).ownBlock <;> simp))
  have HB2 := Lib.hid (below_up hb1 hb2)
  have hz1 := hb2.size
  clear hm2 ha2 hb1 hb2
  generalize hGL : gatesL (iota n) = GL at *
  have HGL := Lib.hid hGL
  clear hGL
  go_wp2_with fail
  go_loopw [34] (fun i wr => ∃ j : Nat, j ≤ GL.length ∧ i = .int .i64 j ∧ Hid (Below w2.heap.size w2 wr)) (fun i _ => GL.length - (intOf i).toNat)
  case atStart => exact ⟨0, Nat.zero_le _, rfl, Below.refl _ _⟩
  case round =>
    obtain ⟨j, hj, rfl, HN⟩ := hrel
    by_cases hjl : j < GL.length
    · obtain ⟨g1, rfl, hg1⟩ : ∃ g, a1 = some ⟨g, 0, none⟩ ∧ g < w1.heap.size := by
        rcases HA1.out with h | h
        · omega
        · exact h
      obtain ⟨g2, rfl, hg2⟩ : ∃ g, a2 = some ⟨g, 0, none⟩ ∧ g < w2.heap.size := by
        rcases HA2.out with h | h
        · omega
        · exact h
      obtain ⟨f1, f2⟩ := flat_at GL j hjl
      have hx1 := HO1.out.cellAt (j * 2) (by omega)
      have hy1 := HO1.out.cellAt (j * 2 + 1) (by omega)
      have hx2 := HM2.out.own.cellAt (j * 2) (by omega)
      have hy2 := HM2.out.own.cellAt (j * 2 + 1) (by omega)
      rw [f1] at hx1 hx2
      rw [f2] at hy1 hy2
      have hzr := HN.out.size
      rw [← HN.out.cell (p := ⟨g1, j * 2, none⟩) (by show g1 < _; omega)] at hx1
      rw [← HN.out.cell (p := ⟨g1, j * 2 + 1, none⟩) (by show g1 < _; omega)] at hy1
      rw [← HN.out.cell (p := ⟨g2, j * 2, none⟩) hg2] at hx2
      rw [← HN.out.cell (p := ⟨g2, j * 2 + 1, none⟩) hg2] at hy2
      clear f1 f2
      generalize GL[j].1 = x at *
      generalize GL[j].2 = y at *
      go_wp2_with fail
      refine wp_region_over (by kernel_rfl) (by kernel_rfl) ?_
      have hov := fun (E : Over wr) (o : Nat) => E.cell (b := g1) o (by omega)
      have hov2 := fun (E : Over wr) (o : Nat) => E.cell (b := g2) o (by omega)
      repeat (go_big_quiet_step (fail))
      refine wpQuiet_nil ?_
      rintro _ ⟨E, rfl⟩
      have HE := Lib.hid (HN.out.trans (E.h.mono hzr))
      clear hov hov2
      go_wp2_with fail
      go_roundw
      case rel => exact ⟨j + 1, by omega, by go_num, HE⟩
      case measure => simp [intOf]; omega
    · have hjn : j = GL.length := by omega
      subst hjn
      have hbr := HB2.out.trans (HN.out.mono HB2.out.size)
      have HBR := Lib.hid hbr
      clear hbr
      go_wp2_with fail
      by_cases hl : bs.length = GL.length
      · refine (Run_ok n ca bs ccap wr h1 h2 (by rw [HGL.out]; exact hl) (HS.out.up HBR.out)).mono ?_
        rintro e w3 ⟨u, hb3, hp⟩
        rw [if_pos ⟨by omega, by omega⟩, if_pos (by simpa [HGL.out] using hl)] at hp
        obtain ⟨rfl, hm3⟩ := hp
        obtain ⟨a3, c3, rfl, ha3⟩ := own_form hm3.own
        have HB3 := Lib.hid (below_up HBR.out hb3)
        have HM3 := Lib.hid hm3
        have HL := Lib.hid hl
        clear hm3 hb3 ha3 hl
        go_wp2_with fail
        refine (refRun_ok n ca bs ccap w3 h1 h2 (by rw [HGL.out]; exact HL.out) (HS.out.up HB3.out)).mono ?_
        rintro e w4 ⟨u, hb4, hp⟩
        rw [if_pos ⟨by omega, by omega⟩, if_pos (by simpa [HGL.out] using HL.out)] at hp
        obtain ⟨rfl, hm4⟩ := hp
        obtain ⟨a4, c4, rfl, ha4⟩ := own_form hm4.own
        have HB4 := Lib.hid (below_up HB3.out hb4)
        have HM4 := Lib.hid hm4
        have HG4 := Lib.hid hb4
        clear hm4 hb4 ha4
        go_wp2_with fail
        refine (sameInts_eq a3 a4 _ c3 c4 _ w4 rfl (by rw [runTo_length, iota_length]; omega) (Sl.of_own (HM3.out.own.kept (below_grown HG4.out) (Classical.em _))) (Sl.of_own HM4.out.own)).mono ?_
        rintro e w5 ⟨rfl, hb5⟩
        have HB5 := Lib.hid (below_up HB4.out hb5)
        clear hb5
        go_wp2_with fail
        go_ret
        exact ⟨rfl, HB5.out⟩
      · have HL := Lib.hid hl
        clear hl
        refine (Run_form n ca bs.length ccap wr h1 h2 (by rw [HGL.out]; exact HL.out)).mono ?_
        rintro e w3 ⟨rfl, hb3⟩
        have HB3 := Lib.hid (below_up HBR.out hb3)
        clear hb3
        go_wp2_with fail
        refine (refRun_form n ca bs.length ccap w3 h1 h2 (by rw [HGL.out]; exact HL.out)).mono ?_
        rintro e w4 ⟨rfl, hb4⟩
        have HB4 := Lib.hid (below_up HB3.out hb4)
        clear hb4
        go_wp2_with fail
        refine (sameInts_eq none none 0 0 0 [] w4 rfl (by omega) (Or.inl rfl) (Or.inl rfl)).mono ?_
        rintro e w5 ⟨rfl, hb5⟩
        have HB5 := Lib.hid (below_up HB4.out hb5)
        clear hb5
        go_wp2_with fail
        go_ret
        exact ⟨rfl, HB5.out⟩

theorem mixRuns_calls {H : Type} (enc : TypeId × Value → H) (W : World) (base : Nat) {v0 v1 : Value} {d0 d1 : DataW H} {p0 p1 : List MemPlace}
    (h0 : DataW.Trod enc Try.prog W 0 (fun _ => true) true 3 v0 d0 p0) (h1 : DataW.Trod enc Try.prog W 0 (fun _ => true) true 41 v1 d1 p1)
    (k0 : Value.okWide Try.prog W .any base 3 v0) (k1 : Value.okWide Try.prog W .any base 41 v1)
    (_lt0 : ∀ x ∈ p0, x.block < W.heap.size) (lt1 : ∀ x ∈ p1, x.block < W.heap.size)
    (_hsz : (DataW.weightsEach Try.prog ([3, 41] ++ Rows.mixRunsSpec.plain.varTypes Try.prog) ([d0, d1] ++ [])).all (· ≤ reachBytes) = true) :
    Calls Try.prog 6 #[v0, v1] W fun e w' => e = .returned (.bool true) ∧ Below W.heap.size W w' := by
  obtain ⟨n, rfl, _, _, _⟩ := open_int Try.underlying3 k0 h0
  obtain ⟨a, len, cap, rfl⟩ := okWide_slice Try.underlying41 k1
  obtain ⟨bs, rfl, hs⟩ := open_Sl_bools Try.underlying41 Try.underlying4 (by kernel_rfl) h1 lt1
  by_cases hn : 1 ≤ n ∧ n ≤ 256
  · obtain ⟨m, rfl⟩ : ∃ m : Nat, n = m := ⟨n.toNat, by omega⟩
    exact mixRuns_ok m a bs cap W (by omega) (by omega) hs
  · exact mixRuns_bad n a bs.length cap W hn

set_option maxRecDepth 100000 in
theorem mixRuns_lifted (os : Os) (started : os.Started) (H : Type) (enc : TypeId × Value → H) :
    ReturnsInHanded {} Try.checked os 6 .any (Rows.mixRunsSpec.pre6 enc Try.prog Try.f6 Rows.mixRunsRow.domain false) (Rows.mixRunsSpec.post enc Try.prog Try.f6 false true false false) := by
  refine returnsInHanded_of_change_sized (C := Try.checked) law_own started (by kernel_rfl) Try.func6
    (ChangeSpec.witness6 (enc := enc) (C := Try.checked) false ⟨#[], #[.int .i64 0, .slice none 0 0], []⟩ 8 (by kernel_rfl) (by kernel_rfl) (by kernel_rfl) (by kernel_rfl)) ?_
  intro W base args ds gs before hval0 hW _ hsz0 _
  have hsz : (DataW.weightsEach Try.prog (Try.f6.params.toList ++ Rows.mixRunsSpec.plain.varTypes Try.prog) (ds ++ gs)).all (· ≤ reachBytes) = true := hsz0
  clear hsz0
  have hval : ∀ (j : Nat) t v, Try.f6.params[j]? = some t → args[j]? = some v → Value.okWide Try.prog W .any base t v := hval0
  have hW' := hW
  obtain ⟨p, q, hA0, hV, rfl, _, _⟩ := hW
  have hA : DataW.TrodAll enc Try.prog W 0 (fun _ => true) true Try.f6.params.toList args.toList ds p := hA0
  rw [Try.params6] at hA hval hsz
  obtain ⟨v0, vs0, d0, ds0, p0, q0, hargs, rfl, rfl, h0, r0⟩ := trodAll_cons hA
  obtain ⟨v1, vs1, d1, ds1, p1, q1, rfl, rfl, rfl, h1, r1⟩ := trodAll_cons r0
  obtain ⟨rfl, rfl, rfl⟩ := trodAll_nil r1
  obtain rfl : args = #[v0, v1] := by cases args; simp_all
  obtain ⟨rfl, rfl⟩ := trodVars_none hV
  have lt0 : ∀ x ∈ p0, x.block < W.heap.size := by obtain ⟨m, hm⟩ := h0; exact DataW.trod_lt m _ _ _ hm
  have lt1 : ∀ x ∈ p1, x.block < W.heap.size := by obtain ⟨m, hm⟩ := h1; exact DataW.trod_lt m _ _ _ hm
  clear hA0 hval0
  refine (mixRuns_calls enc W base h0 h1 (hval 0 3 v0 rfl rfl) (hval 1 41 v1 rfl rfl) lt0 lt1 hsz).mono fun e W' ⟨he, bel⟩ => ?_
  subst he
  exact ⟨_, rfl, _, _, _, [], _, [], hW', trodAll_mk1 (shut_bool Try.underlying4 _), (trodAll_cons_mk (Below.trod law_laidOut (by kernel_rfl) (of_decide_eq_true (by kernel_rfl)) h0 bel lt0) (trodAll_cons_mk (Below.trod law_laidOut (by kernel_rfl) (of_decide_eq_true (by kernel_rfl)) h1 bel lt1) trodAll_mk0)), rfl, bel.frame _, fun h => by cases h⟩

theorem mixRuns_holds : Rows.MixRunsSaid :=
  OpenClaim.holds_of_wide 6 Try.f6 rfl rfl rfl rfl rfl rfl rfl ⟨rfl, rfl, rfl, rfl, rfl⟩ rfl rfl rfl rfl rfl (by kernel_rfl) Try.func6 (by kernel_rfl)
    (of_decide_eq_true (by kernel_rfl)) (by unfold Func.isWrapper; first | (rw [if_pos (by decide +kernel)]; kernel_rfl) | (rw [if_neg (by decide +kernel)]; exact ⟨rfl, rfl⟩))
    (fun os started H enc _ => mixRuns_lifted os started H enc)
#print axioms mixRuns_holds



end Go.Proofs.Ytbjhcpchljjmhaa
