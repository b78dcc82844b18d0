/- MixFew: a network for n has as many gates as the document reckons, none on one wire twice. No condition. -/
import Derived.Test.YtbjhcpchljjmhaaLawBase
import Derived.Test.YtbjhcpchljjmhaaNetPlan
namespace Go.Proofs.Ytbjhcpchljjmhaa
open Go.ChangeShapes Go.WideShapes Go.ChangeAt Go.RowKit

theorem logUp_stay {i k : Nat} (h1 : logUp i k = k) (h2 : ¬ 2 ^ k < i) : ∀ f, k ≤ f → logUp i f = k := by
  intro f
  induction f with
  | zero => intro h; have : k = 0 := by omega
            subst this; rfl
  | succ f ih =>
    intro h
    rcases Nat.lt_or_ge f k with h3 | h3
    · have : k = f + 1 := by omega
      subst this; exact h1
    · show (if 2 ^ logUp i f < i then logUp i f + 1 else logUp i f) = k
      rw [ih h3, if_neg h2]

theorem logUp_go {i k : Nat} (h1 : logUp i k = k) (h2 : 2 ^ k < i) : logUp i (k + 1) = k + 1 := by
  show (if 2 ^ logUp i k < i then logUp i k + 1 else logUp i k) = k + 1
  rw [h1, if_pos h2]

theorem wantTo_up (i : Nat) (h : 2 ≤ i) : wantTo i = wantTo (i - 1) + logUp i 9 := by
  obtain ⟨j, rfl⟩ : ∃ j, i = j + 1 := ⟨i - 1, by omega⟩
  rw [wantTo, if_neg (by omega)]; rfl

theorem flat_at (gs : List (Int × Int)) : ∀ j (hj : j < gs.length), (flat gs)[j * 2]? = some (.int .i64 gs[j].1) ∧ (flat gs)[j * 2 + 1]? = some (.int .i64 gs[j].2) := by
  induction gs with
  | nil => intro j hj; simp at hj
  | cons g gs ih =>
    intro j hj
    cases j with
    | zero => simp [flat]
    | succ j =>
      have h := ih j (by simpa using hj)
      have e : flat (g :: gs) = .int .i64 g.1 :: .int .i64 g.2 :: flat gs := by simp [flat]
      rw [e, show (j + 1) * 2 = j * 2 + 2 by omega]
      simpa using h

set_option maxHeartbeats 1000000 in
theorem mixFew_bad (n : Int) (w : World) (hn : ¬ (1 ≤ n ∧ n ≤ 256)) : Calls Try.prog 4 #[.int .i64 n] w fun e w' => e = .returned (.bool true) ∧ Below w.heap.size w w' := by
  by_cases h1 : n < 1
  · go_enter Try.func4, Try.ntmps4
    go_wp2_with (go_at_call 11; refine (Plan_bad n w hn).mono ?_; rintro e w1 ⟨rfl, rfl⟩)
    go_ret
    exact ⟨rfl, Below.refl _ _⟩
  · have h2 : 256 < n := by omega
    go_enter Try.func4, Try.ntmps4
    go_wp2_with (go_at_call 11; refine (Plan_bad n w hn).mono ?_; rintro e w1 ⟨rfl, rfl⟩)
    go_ret
    exact ⟨rfl, Below.refl _ _⟩

set_option maxHeartbeats 2000000 in
theorem mixFew_ok (n : Nat) (w : World) (h1 : 1 ≤ n) (h2 : n ≤ 256) : Calls Try.prog 4 #[.int .i64 n] w fun e w' => e = .returned (.bool true) ∧ Below w.heap.size w w' := by
  have hlen := gatesL_length (iota n) (by rw [iota_length]; exact h2)
  rw [iota_length] at hlen
  have hgood := plan_good n
  have hle := gates_le n h2
  have HLEN := Lib.hid hlen
  have HGOOD : Hid (GoodGates n (gatesL (iota n))) := hgood
  clear hlen hgood
  go_enter Try.func4, Try.ntmps4
  go_wp2_with fail
  refine (Plan_ok n w h1 h2).mono ?_
  rintro e w1 ⟨u, rfl, hm, hb1⟩
  obtain ⟨au, cu, rfl, hau⟩ := own_form hm.own
  have HM := Lib.hid hm
  have HAU := Lib.hid hau
  clear hau
  have HB := Lib.hid hb1
  clear hm hb1
  go_wp2_with fail
  go_loop [5, 6] (fun a i => ∃ j : Nat, 2 ≤ j ∧ j ≤ n + 1 ∧ i = .int .i64 j ∧ a = .int .i64 (wantTo (j - 1) : Nat)) (fun _ i => n + 1 - (intOf i).toNat)
  case atStart => exact ⟨2, by omega, by omega, rfl, rfl⟩
  case round =>
    obtain ⟨j, hj1, hj2, rfl, rfl⟩ := hrel
    have hwl := wantTo_le (j - 1)
    have hup := wantTo_up j hj1
    have HUP := Lib.hid hup
    clear hup
    by_cases hjn : j ≤ n
    · generalize wantTo (j - 1) = W at *
      go_wp2_with fail
      go_loop [7] (fun k => ∃ q : Nat, q ≤ 8 ∧ k = .int .i64 q ∧ Hid (logUp j q = q)) (fun k => 9 - (intOf k).toNat)
      case atStart => exact ⟨0, by omega, rfl, rfl⟩
      case round =>
        obtain ⟨q, hq, rfl, HQ⟩ := hrel
        have hj256 : j ≤ 256 := by omega
        obtain ⟨P, hP⟩ : ∃ P : Nat, P = 2 ^ q := ⟨_, rfl⟩
        have hPl : P ≤ 256 := by rw [hP]; exact Nat.pow_le_pow_right (by omega) hq
        have hp : wrap64 (2 ^ q) = (P : Int) := by
          have e : ((2 : Int) ^ q) = (P : Int) := by rw [hP]; simp
          rw [e]; unfold wrap64; omega
        have HP := Lib.hid hP
        clear hP
        by_cases hlt : P < j
        · have hq7 : q ≤ 7 := by
            rcases Nat.lt_or_ge q 8 with h | h
            · omega
            · have : q = 8 := by omega
              have h2 := HP.out
              rw [this] at h2; omega
          go_wp2_with fail
          go_round
          case rel => exact ⟨q + 1, by omega, by go_num, logUp_go HQ.out (by rw [← HP.out]; exact hlt)⟩
          case measure => simp [intOf]; omega
        · have hstay := logUp_stay HQ.out (by rw [← HP.out]; exact hlt) 9 (by omega)
          have HST := Lib.hid hstay
          clear hstay
          go_wp2_with fail
          go_round
          case rel => exact ⟨j + 1, by omega, by omega, by go_num, by rw [show j + 1 - 1 = j by omega, HUP.out, HST.out]; go_num⟩
          case measure => simp [intOf]; omega
    · have hjq : j = n + 1 := by omega
      subst hjq
      simp only [Nat.add_sub_cancel] at hwl
      clear HUP
      have hwn : wantTo (n + 1 - 1) = (gatesL (iota n)).length := HLEN.out.symm
      rw [hwn]
      clear hwn
      generalize hGL : gatesL (iota n) = GL at *
      have HGL := Lib.hid hGL
      clear hGL
      go_wp2_with fail
      go_loopw [43] (fun i wr => ∃ j : Nat, j ≤ GL.length ∧ i = .int .i64 j ∧ Below w1.heap.size w1 wr) (fun i _ => GL.length - (intOf i).toNat)
      case atStart => exact ⟨0, Nat.zero_le _, rfl, Below.refl _ _⟩
      case round =>
        obtain ⟨j, hj, rfl, hbl⟩ := hrel
        by_cases hjl : j < GL.length
        · obtain ⟨g, rfl, hg⟩ : ∃ g, au = some ⟨g, 0, none⟩ ∧ g < w1.heap.size := by
            rcases HAU.out with h | h
            · omega
            · exact h
          have hx := HM.out.own.cellAt (j * 2) (by omega)
          have hy := HM.out.own.cellAt (j * 2 + 1) (by omega)
          obtain ⟨f1, f2⟩ := flat_at GL j hjl
          obtain ⟨g1, g2, g3⟩ := HGOOD.out GL[j] (List.getElem_mem hjl)
          rw [f1] at hx
          rw [f2] at hy
          obtain ⟨hc, hf⟩ := bcell hbl
          generalize GL[j].1 = x at *
          generalize GL[j].2 = y at *
          have hgs := hbl.size
          clear f1 f2
          go_wp2_with fail
          go_roundw
          case rel => exact ⟨j + 1, by omega, by go_num, hbl.alloc hgs _⟩
          case measure => simp [intOf]; omega
        · have hjn : j = GL.length := by omega
          subst hjn
          go_wp2
          go_ret
          exact ⟨rfl, below_up HB.out hbl⟩

theorem mixFew_calls {H : Type} (enc : TypeId × Value → H) (W : World) (base : Nat) {v0 : Value} {d0 : DataW H} {p0 : List MemPlace}
    (h0 : DataW.Trod enc Try.prog W 0 (fun _ => true) true 3 v0 d0 p0) (k0 : Value.okWide Try.prog W .any base 3 v0)
    (_lt0 : ∀ x ∈ p0, x.block < W.heap.size)
    (_hsz : (DataW.weightsEach Try.prog ([3] ++ Rows.mixFewSpec.plain.varTypes Try.prog) ([d0] ++ [])).all (· ≤ reachBytes) = true) :
    Calls Try.prog 4 #[v0] W fun e w' => e = .returned (.bool true) ∧ Below W.heap.size W w' := by
  obtain ⟨n, rfl, _, _, _⟩ := open_int Try.underlying3 k0 h0
  by_cases hn : 1 ≤ n ∧ n ≤ 256
  · obtain ⟨m, rfl⟩ : ∃ m : Nat, n = m := ⟨n.toNat, by omega⟩
    exact mixFew_ok m W (by omega) (by omega)
  · exact mixFew_bad n W hn

set_option maxRecDepth 100000 in
theorem mixFew_lifted (os : Os) (started : os.Started) (H : Type) (enc : TypeId × Value → H) :
    ReturnsInHanded {} Try.checked os 4 .any (Rows.mixFewSpec.pre6 enc Try.prog Try.f4 Rows.mixFewRow.domain false) (Rows.mixFewSpec.post enc Try.prog Try.f4 false true false false) := by
  refine returnsInHanded_of_change_sized (C := Try.checked) law_own started (by kernel_rfl) Try.func4
    (ChangeSpec.witness6 (enc := enc) (C := Try.checked) false ⟨#[], #[.int .i64 0], []⟩ 8 (by kernel_rfl) (by kernel_rfl) (by kernel_rfl) (by kernel_rfl)) ?_
  intro W base args ds gs before hval0 hW _ hsz0 _
  have hsz : (DataW.weightsEach Try.prog (Try.f4.params.toList ++ Rows.mixFewSpec.plain.varTypes Try.prog) (ds ++ gs)).all (· ≤ reachBytes) = true := hsz0
  clear hsz0
  have hval : ∀ (j : Nat) t v, Try.f4.params[j]? = some t → args[j]? = some v → Value.okWide Try.prog W .any base t v := hval0
  have hW' := hW
  obtain ⟨p, q, hA0, hV, rfl, _, _⟩ := hW
  have hA : DataW.TrodAll enc Try.prog W 0 (fun _ => true) true Try.f4.params.toList args.toList ds p := hA0
  rw [Try.params4] at hA hval hsz
  obtain ⟨v0, vs0, d0, ds0, p0, q0, hargs, rfl, rfl, h0, r0⟩ := trodAll_cons hA
  obtain ⟨rfl, rfl, rfl⟩ := trodAll_nil r0
  obtain rfl : args = #[v0] := by cases args; simp_all
  obtain ⟨rfl, rfl⟩ := trodVars_none hV
  have lt0 : ∀ x ∈ p0, x.block < W.heap.size := by obtain ⟨m, hm⟩ := h0; exact DataW.trod_lt m _ _ _ hm
  clear hA0 hval0
  refine (mixFew_calls enc W base h0 (hval 0 3 v0 rfl rfl) lt0 hsz).mono fun e W' ⟨he, bel⟩ => ?_
  subst he
  exact ⟨_, rfl, _, _, _, [], _, [], hW', trodAll_mk1 (shut_bool Try.underlying4 _), (trodAll_cons_mk (Below.trod law_laidOut (by kernel_rfl) (of_decide_eq_true (by kernel_rfl)) h0 bel lt0) trodAll_mk0), rfl, bel.frame _, fun h => by cases h⟩

theorem mixFew_holds : Rows.MixFewSaid :=
  OpenClaim.holds_of_wide 4 Try.f4 rfl rfl rfl rfl rfl rfl rfl ⟨rfl, rfl, rfl, rfl, rfl⟩ rfl rfl rfl rfl rfl (by kernel_rfl) Try.func4 (by kernel_rfl)
    (of_decide_eq_true (by kernel_rfl)) (by unfold Func.isWrapper; first | (rw [if_pos (by decide +kernel)]; kernel_rfl) | (rw [if_neg (by decide +kernel)]; exact ⟨rfl, rfl⟩))
    (fun os started H enc _ => mixFew_lifted os started H enc)
#print axioms mixFew_holds



end Go.Proofs.Ytbjhcpchljjmhaa
