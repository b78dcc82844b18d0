/- Texts of this seat, one behind the other: what SigmaChecks leans on. No condition beyond those that each names. -/
import Derived.Test.YtdlnnkbigeiilaaGreatZSigmaChecks5
import Derived.Deep.OwnRows
import Derived.Outline

set_option maxRecDepth 100000
set_option maxHeartbeats 4000000
set_option linter.unusedVariables false
set_option linter.unusedSimpArgs false
namespace Go.Proofs.YtdlnnkbigeiilaaGreat
open Go.RowKit
theorem bx_made (w : World) (e : TypeId) (z : Value) (n : Nat) : Bx (w.alloc (.cells (madeCells #[z] n) e)) w.heap.size e (List.replicate n z) := by
 have h : madeCells #[z] n = (List.replicate n z).toArray := by
  apply Array.ext
  ·simp [madeCells]
  ·intro i h1 h2
   simp [madeCells, Nat.mod_one]
 rw [h]
 exact Bx.new w e _ _ rfl
theorem mid_get {xs ys : List Value} {v : Value} {j : Nat} (h : xs.length = j) : (xs ++ v :: ys)[j]? = some v := by subst h; simp
theorem mid_set {xs ys : List Value} {v u : Value} {j : Nat} (h : xs.length = j) : (xs ++ v :: ys).set j u = xs ++ u :: ys := by subst h; simp
theorem rows_len (ro : List RowA) : (ro.flatMap RowA.cells).length = ro.length := by rw [flat_len RowA.cells 1 RowA.cells_len, Nat.mul_one]
def eachL (G : GP) (val : Nat → Nat → Nat) (i m : Nat) : List ByteArray := (List.range m).map fun t => textS (lowN G (val i t)) G.size
def RowsR (L : List (List ByteArray)) (w : World) (e : Ending) (w' : World) : Prop :=
 Below w.heap.size w w' ∧ ∃ a c ro, e = .returned (.slice a L.length c) ∧ ro.map RowA.l = L ∧ RowsAt w' a ro ∧ (∀ r ∈ ro, r.Ok)
def RowsF (L : List (List ByteArray)) (w : World) (e : Ending) (w' : World) : Prop :=
 Below w.heap.size w w' ∧ ∃ a c ro, e = .returned (.slice a L.length c) ∧ ro.map RowA.l = L ∧ RowsAt w' a ro ∧ (∀ r ∈ ro, r.Ok) ∧ (∀ x, a = some x → w.heap.size ≤ x.block) ∧ ∀ r ∈ ro, ∀ x, r.a = some x → w.heap.size ≤ x.block
theorem fresh_le {n m : Nat} {a : Option Addr} {ro : List RowA} (h : (∀ r ∈ ro, r.Ok) ∧ (∀ x, a = some x → m ≤ x.block) ∧ ∀ r ∈ ro, ∀ x, r.a = some x → m ≤ x.block) (hn : n ≤ m) : (∀ r ∈ ro, r.Ok) ∧ (∀ x, a = some x → n ≤ x.block) ∧ ∀ r ∈ ro, ∀ x, r.a = some x → n ≤ x.block :=
 ⟨h.1, fun x hx => Nat.le_trans hn (h.2.1 x hx), fun r hr x hx => Nat.le_trans hn (h.2.2 r hr x hx)⟩
def eachA (G : GP) (val : Nat → Nat → Nat) (ms : List Nat) (j : Nat) : List (List ByteArray) := (List.range j).map fun i => eachL G val i (ms.getD i 0)
theorem eachA_snoc (G : GP) (val : Nat → Nat → Nat) (ms : List Nat) (j : Nat) : eachA G val ms (j + 1) = eachA G val ms j ++ [eachL G val j (ms.getD j 0)] := by unfold eachA; rw [List.range_succ, List.map_append]; rfl
theorem eachA_len (G : GP) (val : Nat → Nat → Nat) (ms : List Nat) (j : Nat) : (eachA G val ms j).length = j := by unfold eachA; simp
theorem eachL_snoc (G : GP) (val : Nat → Nat → Nat) (i t : Nat) : (eachL G val i (t + 1)).map Value.string = (eachL G val i t).map Value.string ++ [.string (textS (lowN G (val i t)) G.size)] := by unfold eachL; rw [List.range_succ, List.map_append, List.map_append]; rfl
theorem eachL_len (G : GP) (val : Nat → Nat → Nat) (i t : Nat) : (eachL G val i t).length = t := by unfold eachL; simp
def RowsNew (n : Nat) (w : World) (ro : List RowA) : Prop := ∀ r ∈ ro, RowA.At w r ∧ (∀ x, r.a = some x → n ≤ x.block) ∧ r.Ok
theorem RowsNew.kept {n b : Nat} {w w1 : World} {ro : List RowA} (h : RowsNew n w ro) (hk : Kept (fun q => q = b) w w1) (hb : b < n) : RowsNew n w1 ro := fun r hr =>
 let ⟨h1, h2, h3⟩ := h r hr
 ⟨Sl.kept h1 hk (fun x hx e => by have := h2 x hx; have e : x.block = b := e; omega), h2, h3⟩
theorem infoStrs : (Tryz.prog.info? 23).map (fun i => (i.zero, i.size, i.bytes)) = some (some (.slice none 0 0), 1, 24) := by kernel_rfl
theorem RowO.none_cap {N n c k size : Nat} {w : World} {e : TypeId} {a : Option Addr} {xs : List Value} (h : RowO N w e size (.slice a k c) n xs) (hx : a = none) : c = 0 := by
 rcases h.2 with ⟨hv, _⟩ | ⟨g, cap, cur, hv, hN, _⟩
 ·simp only [Value.slice.injEq] at hv
  exact hv.2.2
 ·simp only [Value.slice.injEq] at hv
  rw [hv.1] at hx
  cases hx
theorem RowO.rowOk {N n c k : Nat} {w : World} {e : TypeId} {a : Option Addr} {L : List ByteArray} (h : RowO N w e 1 (.slice a k c) n (L.map Value.string)) : RowA.Ok ⟨a, c, L⟩ := by
 have hl := h.1
 rw [List.length_map, Nat.mul_one] at hl
 refine ⟨fun hx => RowO.none_cap h hx, ?_⟩
 show L.length ≤ c
 rcases h.2 with ⟨hv, h0⟩ | ⟨g, cap, cur, hv, hN, _, hc, _⟩
 ·omega
 ·simp only [Value.slice.injEq] at hv
  omega
theorem eachFirst (G : GP) (ok : G.Ok) (gb : Nat) (rs : List ClaimR) (n : Nat) (hrs : rs.length = n) (hn : n ≤ 64) (ms : List Nat) (hms : rs.map (fun r => r.k.bases.length) = ms) (hm8 : ∀ r ∈ rs, r.k.bases.length ≤ 8) (a : Option Addr) (c : Nat) (p1 p2 : Value) (val : Nat → Nat → Nat) (w : World) (hG : GroupAt w gb G) (hS : SetAt G w a rs)
  (hcall : ∀ w1, Below w.heap.size w w1 → ∀ i t : Nat, i < n → t < ms.getD i 0 → Calls Tryz.prog 121 #[.int .i64 (i : Int), .int .i64 (t : Int), p1, p2] w1 (Gives (elV G (val i t)) w1)) :
  Calls Tryz.prog 100 #[.agg #[.pointer (some ⟨gb, 0, none⟩), .slice a n c], .func (.func 121) #[] #[p1, p2]] w (RowsF (eachA G val ms n) w) := by
 have HRS := Lib.hid hrs
 have HMS := Lib.hid hms
 have HM8 := Lib.hid hm8
 have HG := Lib.hid hG
 have HGB := Lib.hid hG.lt
 have OK := Lib.hid ok
 have HS := Lib.hid hS
 have HCALL := Lib.hid hcall
 clear hrs hms hm8 hG ok hS hcall
 have hmk := Go.run_make_row' (P := Tryz.prog) 28 23 (.slice none 0 0) 24 Tryz.underlying28 infoStrs rfl .i64 .i64 n (by omega) (by omega)
 go_enter Tryz.func100, Tryz.ntmps100
 have HZS := HGB
 go_upto_region 1 with fail
 obtain ⟨w1, hq1, hb9, hz9, Hbs⟩ := new1 w 64 [.pointer (some ⟨gb, 0, none⟩), .slice a n c]
 rw [hq1]
 clear hq1
 replace HG := Lib.hid (HG.out.up hb9)
 have HB := Lib.hid hb9
 replace HZS := sz HZS hz9.out
 clear hb9 hz9
 have bs_ := Hbs.out.c2
 go_upto_region 2 with fail
 have hmb := bx_made w1 23 (.slice none 0 0) n
 have hb9 : Below w1.heap.size w1 (w1.alloc (.cells (madeCells #[.slice none 0 0] n) 23)) := (Below.refl _ _).alloc (Nat.le_refl _) _
 have hz9 : (w1.alloc (.cells (madeCells #[.slice none 0 0] n) 23)).heap.size = w1.heap.size + 1 := by simp
 obtain ⟨wm, hq9⟩ : ∃ W9 : World, (w1.alloc (.cells (madeCells #[.slice none 0 0] n) 23)) = W9 := ⟨_, rfl⟩
 rw [hq9] at hmb hb9 hz9 ⊢
 clear hq9 hmk
 have HZM := Lib.hid hz9
 have HZ9 := Lib.hid HB.out.size
 clear hz9
 replace HZS := sz HZS HZM.out
 clear bs_
 replace Hbs := Lib.hid (Hbs.out.up hb9)
 replace HG := Lib.hid (HG.out.up hb9)
 replace HB := hbu HB hb9
 replace HZS := sz HZS hb9.size
 clear hb9
 have bs_ := Hbs.out.c2
 have Hob := Lib.hid hmb
 clear hmb
 have HK := Lib.hid (Kept.refl (fun q9 => q9 = w1.heap.size) wm)
 go_wp2_with fail
 go_loopw [15] (fun i wr => ∃ (j : Nat) (ro : List RowA), j ≤ n ∧ i = .int .i64 j ∧ Hid (ro.length = j) ∧ Hid (ro.map RowA.l = eachA G val ms j) ∧ Hid (Kept (fun q => q = w1.heap.size) wm wr) ∧ Hid (Bx wr w1.heap.size 23 (ro.flatMap RowA.cells ++ List.replicate (n - j) (.slice none 0 0))) ∧ Hid (RowsNew wm.heap.size wr ro)) (fun i _ => n - (intOf i).toNat)
 case atStart => exact ⟨0, [], Nat.zero_le _, rfl, rfl, rfl, HK, by simpa using Hob, fun _ h => by cases h⟩
 case round =>
  obtain ⟨j, ro, hj, rfl, HRL, HRM, HK, Hob9, HRN⟩ := hrel
  have hg9 := HK.out
  clear bs_ Hob
  replace Hbs := Lib.hid (Hbs.out.keptP hg9 (show ¬ (_ = w1.heap.size) by have g0 := HZS.out; omega))
  replace HG := Lib.hid (HG.out.keptP hg9 (show ¬ (_ = w1.heap.size) by have g0 := HZS.out; omega))
  replace HB := Lib.hid (Below.keptP HB.out hg9 (by have g0 := HZS.out; omega) (fun q9 h9 => (show w.heap.size ≤ _ by subst h9; have g0 := HZS.out; omega)))
  replace HZS := sz HZS (show wm.heap.size ≤ wr.heap.size from hg9.size)
  clear hg9
  have bs_ := Hbs.out.c2
  have Hob := Hob9
  clear Hob9
  by_cases hjn : j < n
  ·have hjr : j < rs.length := by rw [HRS.out]; exact hjn
   obtain ⟨ba, oa, rfl, hba0⟩ := HS.out.at j hjr
   have HCC := Lib.hid (fun w1 (hb : Below w.heap.size w w1) => HS.out.cells hb j hjr)
   have HMJ := Lib.hid (show rs[j].k.bases.length = ms.getD j 0 by rw [← HMS.out]; simp [List.getD, hjr])
   have HM1 := Lib.hid (HM8.out _ (List.getElem_mem hjr))
   generalize rs[j] = r at *
   obtain ⟨m, hm⟩ : ∃ m, ms.getD j 0 = m := ⟨_, rfl⟩
   rw [hm] at HMJ
   have HMM := Lib.hid hm
   have hm8 : m ≤ 8 := by rw [← HMJ.out]; exact HM1.out
   rw [show n - j = (n - j - 1) + 1 by omega, List.replicate_succ] at Hob
   clear hm
   obtain ⟨wo, rfl⟩ : ∃ wo : World, wo = wr := ⟨_, rfl⟩
   have hc := HCC.out _ HB.out
   have hc_1 := hc 1 _ rfl
   rw [HMJ.out] at hc_1
   clear hc
   have HRN2 := HRN
   have HK2 := Lib.hid (Kept.refl (fun q9 => q9 = w1.heap.size) wo)
   have hba9 := hba0
   go_wp2_with fail
   clear hc_1 hba9
   go_loopw [25] (fun i wr => ∃ (t : Nat) (g : Option Addr) (c9 : Nat), t ≤ m ∧ i = .int .i64 t ∧ Hid (Kept (fun q => q = w1.heap.size) wo wr) ∧ Hid (Bx wr w1.heap.size 23 (ro.flatMap RowA.cells ++ (.slice g t c9) :: List.replicate (n - j - 1) (.slice none 0 0))) ∧ Hid (RowO wo.heap.size wr 9 1 (.slice g t c9) t ((eachL G val j t).map Value.string))) (fun i _ => m - (intOf i).toNat)
   case atStart => exact ⟨0, none, 0, Nat.zero_le _, rfl, HK2, Hob, RowO.nil⟩
   case round =>
    obtain ⟨t, g, c9, ht, rfl, HK2, Hob9, Hr⟩ := hrel
    have hg9 := HK2.out
    clear bs_ Hob
    replace Hbs := Lib.hid (Hbs.out.keptP hg9 (show ¬ (_ = w1.heap.size) by have g0 := HZS.out; omega))
    replace HG := Lib.hid (HG.out.keptP hg9 (show ¬ (_ = w1.heap.size) by have g0 := HZS.out; omega))
    replace HB := Lib.hid (Below.keptP HB.out hg9 (by have g0 := HZS.out; omega) (fun q9 h9 => (show w.heap.size ≤ _ by subst h9; have g0 := HZS.out; omega)))
    replace HZS := sz HZS (show wo.heap.size ≤ wr.heap.size from hg9.size)
    clear hg9
    have bs_ := Hbs.out.c2
    have Hob := Hob9
    clear Hob9
    by_cases htm : t < m
    ·have hob : w1.heap.size < wr.heap.size := Hob.out.lt
     have hoc : wr.cell? ⟨w1.heap.size, j, none⟩ = some (.slice g t c9) := Hob.out.cell (mid_get (by rw [rows_len, HRL.out]))
     go_wp2_with fail
     have HT := Lib.hid (show Below wr.heap.size wr wr.drew from (Below.refl _ _).drew)
     have hl_bs := Hbs.out.lt
     refine wp_region_treek (fun wq9 => ∃ E : But wr (Value.ownBlock (.slice g t c9)), wq9 = E.w) 16 ((.qs [0, 1, 2, 3, 4] (.e 5 [] (.qs [6] (.e 7 [] (.qs [8, 9, 10] (.a 11 (.a 12 (.a 13 (.a 14 (.qs [15] (.a 16 .done)))))))))))) (by kernel_rfl) (by kernel_rfl) (fun _ _ d _ _ h => by cases d <;> exact h) ⟨⟨_, ((below_grown HT.out).but _)⟩, rfl⟩ ?_
     have hov_bs := fun (E : But wr (Value.ownBlock (.slice g t c9))) o => E.cell (b := w.heap.size) o hl_bs (by intro e9; have a1 := Hr.out.lt _ e9; have g0 := HZS.out; omega)
     have hov_w1_heap_size := fun (E : But wr (Value.ownBlock (.slice g t c9))) o => E.cell (b := w1.heap.size) o hob (by intro e9; have a1 := Hr.out.lt _ e9; have g0 := HZS.out; omega)
     simp only [TreeK.qs]
     repeat (first | (refine treek_q rfl rfl ?_; go_big_quiet_step (fail); refine wpQuiet_nil ?_) | (refine treek_e rfl rfl ?_; go_big_quiet_step (fail); refine wpQuiet_nil ?_))
     refine treek_a rfl (fun K hK => ?_)
     go_simp
     refine (HCALL.out _ (below_up HB.out HT.out) j t hjn (by rw [HMM.out]; exact htm)).mono ?_
     rintro e w2 ⟨rfl, hb9⟩
     replace HT := Lib.hid (below_up HT.out hb9)
     replace HZS := sz HZS (show wr.heap.size ≤ w2.heap.size from HT.out.size)
     clear hb9
     refine hK _ _ ⟨fun _ => ⟨⟨w2, ((below_grown HT.out).but _)⟩, rfl⟩, ?_⟩
     clear hK K
     repeat (first | (refine treek_q rfl rfl ?_; go_big_quiet_step (fail); refine wpQuiet_nil ?_) | (refine treek_e rfl rfl ?_; go_big_quiet_step (fail); refine wpQuiet_nil ?_))
     refine treek_a rfl (fun K hK => ?_)
     go_simp
     refine (gText_any G OK.out gb (val j t) _ (HG.out.up HT.out)).mono ?_
     rintro e w3 ⟨rfl, hb9⟩
     replace HT := Lib.hid (below_up HT.out hb9)
     replace HZS := sz HZS (show wr.heap.size ≤ w3.heap.size from HT.out.size)
     clear hb9
     refine hK _ _ ⟨fun _ => ⟨⟨w3, ((below_grown HT.out).but _)⟩, rfl⟩, ?_⟩
     clear hK K
     repeat (first | (refine treek_q rfl rfl ?_; go_big_quiet_step (fail); refine wpQuiet_nil ?_) | (refine treek_e rfl rfl ?_; go_big_quiet_step (fail); refine wpQuiet_nil ?_))
     clear hoc hob hov_bs hl_bs hov_w1_heap_size
     refine treek_a rfl (fun K hK => ?_)
     go_simp
     refine hK _ _ ⟨fun _ => ⟨⟨_, (below_grown (HT.out.alloc HT.out.size _)).but _⟩, rfl⟩, ?_⟩
     clear hK K
     obtain ⟨i9, hi9, hz90, hz91, hz92⟩ := info_parts infoStr
     have HG1 := Lib.hid ((below_grown HT.out).but (Value.ownBlock (.slice g t c9)))
     clear bs_
     replace Hbs := Lib.hid (Hbs.out.up HT.out)
     replace Hob := Lib.hid (Hob.out.up HT.out)
     replace HG := Lib.hid (HG.out.up HT.out)
     replace Hr := Lib.hid (Hr.out.up HT.out)
     replace HK2 := Lib.hid (Kept.up HK2.out HT.out)
     replace HB := hbu HB HT.out
     replace HZS := sz HZS HT.out.size
     refine treek_a rfl (fun K hK => ?_)
     refine step_pushF (wo.heap.size) w3 (by have g0 := HZS.out; omega) rfl _ _ 23 rfl 9 i9 _ 1 16 Tryz.underlying23 hi9 hz90 hz91 hz92 rfl (by omega) ((.slice g t c9)) (t) (((eachL G val j t).map Value.string)) rfl Hr.out _ _ _ rfl rfl rfl (by simp [Value.oneCell']) (by omega) (by unfold maxLen; omega) ?_
     intro g4 c4 w4 hown9 hg9 hf9
     have HF9 := Lib.hid hf9
     clear hf9
     have HGR := Lib.hid (HG1.out.trans hg9)
     have hb9 := Below.grown HB.out hg9 (by have g0 := HZS.out; omega) (fun q hq => Nat.le_trans (show w.heap.size ≤ wo.heap.size by have g0 := HZS.out; omega) (Hr.out.lt q hq).1)
     replace Hbs := Lib.hid (Hbs.out.grown hg9 (fun e9 => by have a1 := Hr.out.lt _ e9; have g0 := HZS.out; omega))
     replace Hob := Lib.hid (Hob.out.grown hg9 (fun e9 => by have a1 := Hr.out.lt _ e9; have g0 := HZS.out; omega))
     replace HG := Lib.hid (HG.out.grown hg9 (fun e9 => by have a1 := Hr.out.lt _ e9; have g0 := HZS.out; omega))
     replace HK2 := Lib.hid (Kept.grown HK2.out hg9 (fun q hq => Or.inl (Nat.le_trans (show wo.heap.size ≤ wo.heap.size by have g0 := HZS.out; omega) (Hr.out.lt q hq).1)))
     replace HZS := sz HZS hg9.size
     clear Hr HB HT HG1
     have Hr := Lib.hid hown9
     have HB := Lib.hid hb9
     clear hb9 hown9 hg9 hi9 hz90 hz91 hz92
     refine hK _ _ ⟨fun _ => ⟨⟨w4, HGR.out⟩, rfl⟩, ?_⟩
     clear hK K HGR
     try simp only [Act.put, List.setIfInBounds_toArray, List.set_cons_succ, List.set_cons_zero]
     repeat (first | (refine treek_q rfl rfl ?_; go_big_quiet_step (fail); refine wpQuiet_nil ?_) | (refine treek_e rfl rfl ?_; go_big_quiet_step (fail); refine wpQuiet_nil ?_))
     replace HZS := sz HZS (Hr.out.lt g4 rfl).1
     have hoc := Hob.out.cell (mid_get (v := .slice g t c9) (ys := List.replicate (n - j - 1) (.slice none 0 0)) (show (ro.flatMap RowA.cells).length = j by rw [rows_len, HRL.out]))
     have bs_ := Hbs.out.c2
     have f5_ob := Hob.out.frozen
     have o5_bs_ := bs_; clear bs_
     obtain ⟨w5, hq5, hg9, hz9, hx9⟩ := put1 Hob j (.slice (some ⟨g4, 0, none⟩) (t + 1) c4) _ rfl
     replace Hbs := Lib.hid (Hbs.out.grown hg9.out (sne (by have g0 := HZS.out; omega)))
     replace HG := Lib.hid (HG.out.grown hg9.out (sne (by have g0 := HZS.out; omega)))
     replace Hr := Lib.hid (RowO.grown Hr.out hg9.out (fun q9 e8 e9 => by have a1 := Hr.out.lt _ e8; have a0 := Option.some.inj e9; have g0 := HZS.out; omega))
     replace HK2 := Lib.hid (Kept.grown HK2.out hg9.out (fun q9 e9 => by obtain rfl := Option.some.inj e9; exact Or.inr (rfl)))
     replace HB := hbg HB hg9 (by have g0 := HZS.out; omega)
     replace HZS := sz HZS hz9.out
     replace Hob := hx9
     clear hx9 hg9 hz9
     have bs_ := Hbs.out.c2
     refine treek_a rfl (fun K hK => ?_)
     go_simp
     try rw [hq5]
     refine hK _ _ ⟨fun h9 => absurd rfl h9, ?_⟩
     clear hK K hq5 o5_bs_ f5_ob hoc
     refine treek_end ?_
     go_wp2_with fail
     go_roundw
     case rel => exact ⟨t + 1, _, _, by omega, by go_num, HK2, Lib.hid (by have h9 := Hob.out; rwa [mid_set (by rw [rows_len, HRL.out])] at h9), Hr.out.eq (eachL_snoc G val j t).symm rfl⟩
     case measure => simp [intOf]; omega
    ·have htm' : t = m := by omega
     subst htm'
     have HROW := Lib.hid (show RowsNew wm.heap.size wr (ro ++ [⟨g, c9, eachL G val j t⟩]) from fun x hx => by
      rcases List.mem_append.1 hx with hx | hx
      ·exact (HRN.out.kept HK2.out (by have a0 := HZM.out; omega)) x hx
      ·obtain rfl := List.mem_singleton.1 hx
       exact ⟨Hr.out.sl, fun y hy => Nat.le_trans (by have a1 := HZS.out; omega) (RowO.own_le Hr.out hy), RowO.rowOk Hr.out⟩)
     go_wp2_with fail
     go_roundw
     case rel => exact ⟨j + 1, ro ++ [⟨g, c9, eachL G val j t⟩], by omega, by go_num, Lib.hid (by rw [List.length_append, HRL.out]; rfl), Lib.hid (by rw [List.map_append, HRM.out, eachA_snoc, HMM.out]; rfl), Lib.hid (HK.out.trans HK2.out), Lib.hid (by rw [List.flatMap_append]; have h9 := Hob.out; simpa [RowA.cells, eachL_len, Nat.sub_sub] using h9), HROW⟩
     case measure => simp [intOf]; omega
  ·have hjn' : j = n := by omega
   subst hjn'
   have hsl : Sl wr wr.heap.size (some ⟨w1.heap.size, 0, none⟩) (ro.flatMap RowA.cells) := by
    have h9 := Hob.out
    rw [Nat.sub_self, List.replicate_zero, List.append_nil] at h9
    simpa using Sl.of_block h9
   have HSL := Lib.hid hsl
   clear hsl
   go_wp2_with fail
   go_ret
   exact ⟨HB.out, _, j, ro, by rw [eachA_len]; rfl, HRM.out, ⟨HSL.out, fun r hr => (HRN.out r hr).1⟩, fun r hr => (HRN.out r hr).2.2, fun x hx => by cases hx; show w.heap.size ≤ w1.heap.size; have a0 := HZ9.out; omega, fun r hr x hx => Nat.le_trans (show w.heap.size ≤ wm.heap.size by have a0 := HZ9.out; have a1 := HZM.out; omega) ((HRN.out r hr).2.1 x hx)⟩
theorem eachBack (G : GP) (ok : G.Ok) (gb : Nat) (rs : List ClaimR) (n : Nat) (hrs : rs.length = n) (hn : n ≤ 64) (ms : List Nat) (hms : rs.map (fun r => r.k.bases.length) = ms) (hm8 : ∀ r ∈ rs, r.k.bases.length ≤ 8) (a : Option Addr) (c : Nat) (p1 p2 p3 : Value) (val : Nat → Nat → Nat) (w : World) (hG : GroupAt w gb G) (hS : SetAt G w a rs)
  (hcall : ∀ w1, Below w.heap.size w w1 → ∀ i t : Nat, i < n → t < ms.getD i 0 → Calls Tryz.prog 101 #[.int .i64 (i : Int), .int .i64 (t : Int), p1, p2, p3] w1 (Gives (elV G (val i t)) w1)) :
  Calls Tryz.prog 100 #[.agg #[.pointer (some ⟨gb, 0, none⟩), .slice a n c], .func (.func 101) #[] #[p1, p2, p3]] w (RowsF (eachA G val ms n) w) := by
 have HRS := Lib.hid hrs
 have HMS := Lib.hid hms
 have HM8 := Lib.hid hm8
 have HG := Lib.hid hG
 have HGB := Lib.hid hG.lt
 have OK := Lib.hid ok
 have HS := Lib.hid hS
 have HCALL := Lib.hid hcall
 clear hrs hms hm8 hG ok hS hcall
 have hmk := Go.run_make_row' (P := Tryz.prog) 28 23 (.slice none 0 0) 24 Tryz.underlying28 infoStrs rfl .i64 .i64 n (by omega) (by omega)
 go_enter Tryz.func100, Tryz.ntmps100
 have HZS := HGB
 go_upto_region 1 with fail
 obtain ⟨w1, hq1, hb9, hz9, Hbs⟩ := new1 w 64 [.pointer (some ⟨gb, 0, none⟩), .slice a n c]
 rw [hq1]
 clear hq1
 replace HG := Lib.hid (HG.out.up hb9)
 have HB := Lib.hid hb9
 replace HZS := sz HZS hz9.out
 clear hb9 hz9
 have bs_ := Hbs.out.c2
 go_upto_region 2 with fail
 have hmb := bx_made w1 23 (.slice none 0 0) n
 have hb9 : Below w1.heap.size w1 (w1.alloc (.cells (madeCells #[.slice none 0 0] n) 23)) := (Below.refl _ _).alloc (Nat.le_refl _) _
 have hz9 : (w1.alloc (.cells (madeCells #[.slice none 0 0] n) 23)).heap.size = w1.heap.size + 1 := by simp
 obtain ⟨wm, hq9⟩ : ∃ W9 : World, (w1.alloc (.cells (madeCells #[.slice none 0 0] n) 23)) = W9 := ⟨_, rfl⟩
 rw [hq9] at hmb hb9 hz9 ⊢
 clear hq9 hmk
 have HZM := Lib.hid hz9
 have HZ9 := Lib.hid HB.out.size
 clear hz9
 replace HZS := sz HZS HZM.out
 clear bs_
 replace Hbs := Lib.hid (Hbs.out.up hb9)
 replace HG := Lib.hid (HG.out.up hb9)
 replace HB := hbu HB hb9
 replace HZS := sz HZS hb9.size
 clear hb9
 have bs_ := Hbs.out.c2
 have Hob := Lib.hid hmb
 clear hmb
 have HK := Lib.hid (Kept.refl (fun q9 => q9 = w1.heap.size) wm)
 go_wp2_with fail
 go_loopw [15] (fun i wr => ∃ (j : Nat) (ro : List RowA), j ≤ n ∧ i = .int .i64 j ∧ Hid (ro.length = j) ∧ Hid (ro.map RowA.l = eachA G val ms j) ∧ Hid (Kept (fun q => q = w1.heap.size) wm wr) ∧ Hid (Bx wr w1.heap.size 23 (ro.flatMap RowA.cells ++ List.replicate (n - j) (.slice none 0 0))) ∧ Hid (RowsNew wm.heap.size wr ro)) (fun i _ => n - (intOf i).toNat)
 case atStart => exact ⟨0, [], Nat.zero_le _, rfl, rfl, rfl, HK, by simpa using Hob, fun _ h => by cases h⟩
 case round =>
  obtain ⟨j, ro, hj, rfl, HRL, HRM, HK, Hob9, HRN⟩ := hrel
  have hg9 := HK.out
  clear bs_ Hob
  replace Hbs := Lib.hid (Hbs.out.keptP hg9 (show ¬ (_ = w1.heap.size) by have g0 := HZS.out; omega))
  replace HG := Lib.hid (HG.out.keptP hg9 (show ¬ (_ = w1.heap.size) by have g0 := HZS.out; omega))
  replace HB := Lib.hid (Below.keptP HB.out hg9 (by have g0 := HZS.out; omega) (fun q9 h9 => (show w.heap.size ≤ _ by subst h9; have g0 := HZS.out; omega)))
  replace HZS := sz HZS (show wm.heap.size ≤ wr.heap.size from hg9.size)
  clear hg9
  have bs_ := Hbs.out.c2
  have Hob := Hob9
  clear Hob9
  by_cases hjn : j < n
  ·have hjr : j < rs.length := by rw [HRS.out]; exact hjn
   obtain ⟨ba, oa, rfl, hba0⟩ := HS.out.at j hjr
   have HCC := Lib.hid (fun w1 (hb : Below w.heap.size w w1) => HS.out.cells hb j hjr)
   have HMJ := Lib.hid (show rs[j].k.bases.length = ms.getD j 0 by rw [← HMS.out]; simp [List.getD, hjr])
   have HM1 := Lib.hid (HM8.out _ (List.getElem_mem hjr))
   generalize rs[j] = r at *
   obtain ⟨m, hm⟩ : ∃ m, ms.getD j 0 = m := ⟨_, rfl⟩
   rw [hm] at HMJ
   have HMM := Lib.hid hm
   have hm8 : m ≤ 8 := by rw [← HMJ.out]; exact HM1.out
   rw [show n - j = (n - j - 1) + 1 by omega, List.replicate_succ] at Hob
   clear hm
   obtain ⟨wo, rfl⟩ : ∃ wo : World, wo = wr := ⟨_, rfl⟩
   have hc := HCC.out _ HB.out
   have hc_1 := hc 1 _ rfl
   rw [HMJ.out] at hc_1
   clear hc
   have HRN2 := HRN
   have HK2 := Lib.hid (Kept.refl (fun q9 => q9 = w1.heap.size) wo)
   have hba9 := hba0
   go_wp2_with fail
   clear hc_1 hba9
   go_loopw [25] (fun i wr => ∃ (t : Nat) (g : Option Addr) (c9 : Nat), t ≤ m ∧ i = .int .i64 t ∧ Hid (Kept (fun q => q = w1.heap.size) wo wr) ∧ Hid (Bx wr w1.heap.size 23 (ro.flatMap RowA.cells ++ (.slice g t c9) :: List.replicate (n - j - 1) (.slice none 0 0))) ∧ Hid (RowO wo.heap.size wr 9 1 (.slice g t c9) t ((eachL G val j t).map Value.string))) (fun i _ => m - (intOf i).toNat)
   case atStart => exact ⟨0, none, 0, Nat.zero_le _, rfl, HK2, Hob, RowO.nil⟩
   case round =>
    obtain ⟨t, g, c9, ht, rfl, HK2, Hob9, Hr⟩ := hrel
    have hg9 := HK2.out
    clear bs_ Hob
    replace Hbs := Lib.hid (Hbs.out.keptP hg9 (show ¬ (_ = w1.heap.size) by have g0 := HZS.out; omega))
    replace HG := Lib.hid (HG.out.keptP hg9 (show ¬ (_ = w1.heap.size) by have g0 := HZS.out; omega))
    replace HB := Lib.hid (Below.keptP HB.out hg9 (by have g0 := HZS.out; omega) (fun q9 h9 => (show w.heap.size ≤ _ by subst h9; have g0 := HZS.out; omega)))
    replace HZS := sz HZS (show wo.heap.size ≤ wr.heap.size from hg9.size)
    clear hg9
    have bs_ := Hbs.out.c2
    have Hob := Hob9
    clear Hob9
    by_cases htm : t < m
    ·have hob : w1.heap.size < wr.heap.size := Hob.out.lt
     have hoc : wr.cell? ⟨w1.heap.size, j, none⟩ = some (.slice g t c9) := Hob.out.cell (mid_get (by rw [rows_len, HRL.out]))
     go_wp2_with fail
     have HT := Lib.hid (show Below wr.heap.size wr wr.drew from (Below.refl _ _).drew)
     have hl_bs := Hbs.out.lt
     refine wp_region_treek (fun wq9 => ∃ E : But wr (Value.ownBlock (.slice g t c9)), wq9 = E.w) 16 ((.qs [0, 1, 2, 3, 4] (.e 5 [] (.qs [6] (.e 7 [] (.qs [8, 9, 10] (.a 11 (.a 12 (.a 13 (.a 14 (.qs [15] (.a 16 .done)))))))))))) (by kernel_rfl) (by kernel_rfl) (fun _ _ d _ _ h => by cases d <;> exact h) ⟨⟨_, ((below_grown HT.out).but _)⟩, rfl⟩ ?_
     have hov_bs := fun (E : But wr (Value.ownBlock (.slice g t c9))) o => E.cell (b := w.heap.size) o hl_bs (by intro e9; have a1 := Hr.out.lt _ e9; have g0 := HZS.out; omega)
     have hov_w1_heap_size := fun (E : But wr (Value.ownBlock (.slice g t c9))) o => E.cell (b := w1.heap.size) o hob (by intro e9; have a1 := Hr.out.lt _ e9; have g0 := HZS.out; omega)
     simp only [TreeK.qs]
     repeat (first | (refine treek_q rfl rfl ?_; go_big_quiet_step (fail); refine wpQuiet_nil ?_) | (refine treek_e rfl rfl ?_; go_big_quiet_step (fail); refine wpQuiet_nil ?_))
     refine treek_a rfl (fun K hK => ?_)
     go_simp
     refine (HCALL.out _ (below_up HB.out HT.out) j t hjn (by rw [HMM.out]; exact htm)).mono ?_
     rintro e w2 ⟨rfl, hb9⟩
     replace HT := Lib.hid (below_up HT.out hb9)
     replace HZS := sz HZS (show wr.heap.size ≤ w2.heap.size from HT.out.size)
     clear hb9
     refine hK _ _ ⟨fun _ => ⟨⟨w2, ((below_grown HT.out).but _)⟩, rfl⟩, ?_⟩
     clear hK K
     repeat (first | (refine treek_q rfl rfl ?_; go_big_quiet_step (fail); refine wpQuiet_nil ?_) | (refine treek_e rfl rfl ?_; go_big_quiet_step (fail); refine wpQuiet_nil ?_))
     refine treek_a rfl (fun K hK => ?_)
     go_simp
     refine (gText_any G OK.out gb (val j t) _ (HG.out.up HT.out)).mono ?_
     rintro e w3 ⟨rfl, hb9⟩
     replace HT := Lib.hid (below_up HT.out hb9)
     replace HZS := sz HZS (show wr.heap.size ≤ w3.heap.size from HT.out.size)
     clear hb9
     refine hK _ _ ⟨fun _ => ⟨⟨w3, ((below_grown HT.out).but _)⟩, rfl⟩, ?_⟩
     clear hK K
     repeat (first | (refine treek_q rfl rfl ?_; go_big_quiet_step (fail); refine wpQuiet_nil ?_) | (refine treek_e rfl rfl ?_; go_big_quiet_step (fail); refine wpQuiet_nil ?_))
     clear hoc hob hov_bs hl_bs hov_w1_heap_size
     refine treek_a rfl (fun K hK => ?_)
     go_simp
     refine hK _ _ ⟨fun _ => ⟨⟨_, (below_grown (HT.out.alloc HT.out.size _)).but _⟩, rfl⟩, ?_⟩
     clear hK K
     obtain ⟨i9, hi9, hz90, hz91, hz92⟩ := info_parts infoStr
     have HG1 := Lib.hid ((below_grown HT.out).but (Value.ownBlock (.slice g t c9)))
     clear bs_
     replace Hbs := Lib.hid (Hbs.out.up HT.out)
     replace Hob := Lib.hid (Hob.out.up HT.out)
     replace HG := Lib.hid (HG.out.up HT.out)
     replace Hr := Lib.hid (Hr.out.up HT.out)
     replace HK2 := Lib.hid (Kept.up HK2.out HT.out)
     replace HB := hbu HB HT.out
     replace HZS := sz HZS HT.out.size
     refine treek_a rfl (fun K hK => ?_)
     refine step_pushF (wo.heap.size) w3 (by have g0 := HZS.out; omega) rfl _ _ 23 rfl 9 i9 _ 1 16 Tryz.underlying23 hi9 hz90 hz91 hz92 rfl (by omega) ((.slice g t c9)) (t) (((eachL G val j t).map Value.string)) rfl Hr.out _ _ _ rfl rfl rfl (by simp [Value.oneCell']) (by omega) (by unfold maxLen; omega) ?_
     intro g4 c4 w4 hown9 hg9 hf9
     have HF9 := Lib.hid hf9
     clear hf9
     have HGR := Lib.hid (HG1.out.trans hg9)
     have hb9 := Below.grown HB.out hg9 (by have g0 := HZS.out; omega) (fun q hq => Nat.le_trans (show w.heap.size ≤ wo.heap.size by have g0 := HZS.out; omega) (Hr.out.lt q hq).1)
     replace Hbs := Lib.hid (Hbs.out.grown hg9 (fun e9 => by have a1 := Hr.out.lt _ e9; have g0 := HZS.out; omega))
     replace Hob := Lib.hid (Hob.out.grown hg9 (fun e9 => by have a1 := Hr.out.lt _ e9; have g0 := HZS.out; omega))
     replace HG := Lib.hid (HG.out.grown hg9 (fun e9 => by have a1 := Hr.out.lt _ e9; have g0 := HZS.out; omega))
     replace HK2 := Lib.hid (Kept.grown HK2.out hg9 (fun q hq => Or.inl (Nat.le_trans (show wo.heap.size ≤ wo.heap.size by have g0 := HZS.out; omega) (Hr.out.lt q hq).1)))
     replace HZS := sz HZS hg9.size
     clear Hr HB HT HG1
     have Hr := Lib.hid hown9
     have HB := Lib.hid hb9
     clear hb9 hown9 hg9 hi9 hz90 hz91 hz92
     refine hK _ _ ⟨fun _ => ⟨⟨w4, HGR.out⟩, rfl⟩, ?_⟩
     clear hK K HGR
     try simp only [Act.put, List.setIfInBounds_toArray, List.set_cons_succ, List.set_cons_zero]
     repeat (first | (refine treek_q rfl rfl ?_; go_big_quiet_step (fail); refine wpQuiet_nil ?_) | (refine treek_e rfl rfl ?_; go_big_quiet_step (fail); refine wpQuiet_nil ?_))
     replace HZS := sz HZS (Hr.out.lt g4 rfl).1
     have hoc := Hob.out.cell (mid_get (v := .slice g t c9) (ys := List.replicate (n - j - 1) (.slice none 0 0)) (show (ro.flatMap RowA.cells).length = j by rw [rows_len, HRL.out]))
     have bs_ := Hbs.out.c2
     have f5_ob := Hob.out.frozen
     have o5_bs_ := bs_; clear bs_
     obtain ⟨w5, hq5, hg9, hz9, hx9⟩ := put1 Hob j (.slice (some ⟨g4, 0, none⟩) (t + 1) c4) _ rfl
     replace Hbs := Lib.hid (Hbs.out.grown hg9.out (sne (by have g0 := HZS.out; omega)))
     replace HG := Lib.hid (HG.out.grown hg9.out (sne (by have g0 := HZS.out; omega)))
     replace Hr := Lib.hid (RowO.grown Hr.out hg9.out (fun q9 e8 e9 => by have a1 := Hr.out.lt _ e8; have a0 := Option.some.inj e9; have g0 := HZS.out; omega))
     replace HK2 := Lib.hid (Kept.grown HK2.out hg9.out (fun q9 e9 => by obtain rfl := Option.some.inj e9; exact Or.inr (rfl)))
     replace HB := hbg HB hg9 (by have g0 := HZS.out; omega)
     replace HZS := sz HZS hz9.out
     replace Hob := hx9
     clear hx9 hg9 hz9
     have bs_ := Hbs.out.c2
     refine treek_a rfl (fun K hK => ?_)
     go_simp
     try rw [hq5]
     refine hK _ _ ⟨fun h9 => absurd rfl h9, ?_⟩
     clear hK K hq5 o5_bs_ f5_ob hoc
     refine treek_end ?_
     go_wp2_with fail
     go_roundw
     case rel => exact ⟨t + 1, _, _, by omega, by go_num, HK2, Lib.hid (by have h9 := Hob.out; rwa [mid_set (by rw [rows_len, HRL.out])] at h9), Hr.out.eq (eachL_snoc G val j t).symm rfl⟩
     case measure => simp [intOf]; omega
    ·have htm' : t = m := by omega
     subst htm'
     have HROW := Lib.hid (show RowsNew wm.heap.size wr (ro ++ [⟨g, c9, eachL G val j t⟩]) from fun x hx => by
      rcases List.mem_append.1 hx with hx | hx
      ·exact (HRN.out.kept HK2.out (by have a0 := HZM.out; omega)) x hx
      ·obtain rfl := List.mem_singleton.1 hx
       exact ⟨Hr.out.sl, fun y hy => Nat.le_trans (by have a1 := HZS.out; omega) (RowO.own_le Hr.out hy), RowO.rowOk Hr.out⟩)
     go_wp2_with fail
     go_roundw
     case rel => exact ⟨j + 1, ro ++ [⟨g, c9, eachL G val j t⟩], by omega, by go_num, Lib.hid (by rw [List.length_append, HRL.out]; rfl), Lib.hid (by rw [List.map_append, HRM.out, eachA_snoc, HMM.out]; rfl), Lib.hid (HK.out.trans HK2.out), Lib.hid (by rw [List.flatMap_append]; have h9 := Hob.out; simpa [RowA.cells, eachL_len, Nat.sub_sub] using h9), HROW⟩
     case measure => simp [intOf]; omega
  ·have hjn' : j = n := by omega
   subst hjn'
   have hsl : Sl wr wr.heap.size (some ⟨w1.heap.size, 0, none⟩) (ro.flatMap RowA.cells) := by
    have h9 := Hob.out
    rw [Nat.sub_self, List.replicate_zero, List.append_nil] at h9
    simpa using Sl.of_block h9
   have HSL := Lib.hid hsl
   clear hsl
   go_wp2_with fail
   go_ret
   exact ⟨HB.out, _, j, ro, by rw [eachA_len]; rfl, HRM.out, ⟨HSL.out, fun r hr => (HRN.out r hr).1⟩, fun r hr => (HRN.out r hr).2.2, fun x hx => by cases hx; show w.heap.size ≤ w1.heap.size; have a0 := HZ9.out; omega, fun r hr x hx => Nat.le_trans (show w.heap.size ≤ wm.heap.size by have a0 := HZ9.out; have a1 := HZM.out; omega) ((HRN.out r hr).2.1 x hx)⟩
end Go.Proofs.YtdlnnkbigeiilaaGreat
namespace Go.Proofs.YtdlnnkbigeiilaaGreat
open Go.RowKit
theorem cell_up {W w1 : World} {n b o : Nat} {v : Value} (hb : Below n W w1) (hl : b < n) (h : W.cell? ⟨b, o, none⟩ = some v) : w1.cell? ⟨b, o, none⟩ = some v := (hb.cell (p := ⟨b, o, none⟩) hl).trans h
theorem first1_any (G : GP) (ok : G.Ok) (gb b1 b2 : Nat) (rs : List ClaimR) (n : Nat) (a : Option Addr) (c : Nat) (xs : List ByteArray) (ax : Option Addr) (cx i t : Nat) (hi : i < rs.length) (hix : i < xs.length) (ht : t < rs[i].k.bases.length) (w : World) (hG : GroupAt w gb G) (hS : SetAt G w a rs) (hX : Sl w w.heap.size ax (xs.flatMap (limC G.q.m)))
  (hrs : rs.length = n) (hxs : xs.length = n) (h1 : Bx w b1 64 [.pointer (some ⟨gb, 0, none⟩), .slice a n c]) (h2 : Bx w b2 65 [.slice ax n cx]) :
  Calls Tryz.prog 121 #[.int .i64 (i : Int), .int .i64 (t : Int), .pointer (some ⟨b1, 0, none⟩), .pointer (some ⟨b2, 0, none⟩)] w (Gives (elV G (numOf rs[i].k.bases[t] ^ (numOf xs[i] % G.q.m))) w) := by
 have HG := Lib.hid hG
 have HGB := Lib.hid hG.lt
 have OK := Lib.hid ok
 have HL1 := Lib.hid h1.lt
 have HL2 := Lib.hid h2.lt
 obtain ⟨ba, oa, rfl, hba0⟩ := hS.at i hi
 obtain ⟨bx, ox, rfl, hbx0⟩ := hX.adr (flat_ne (limC_len _) (by omega) (List.length_pos_iff.1 (by omega)))
 have hca := hS.cells (Below.refl _ _) i hi
 have hcx := (hX.elemS (limC_len _) (by omega) i hix).2
 have hAT := hS.e _ (List.getElem_mem hi)
 have hcb := (hAT.b.elemS (limC_len _) (by omega) t ht).2
 have HBB := Lib.hid hAT.bl
 have HBA := Lib.hid hba0
 have HBX := Lib.hid hbx0
 have hin : i < n := by omega
 have h11 := h1.cell (i := 0) rfl
 have h12 := h1.cell (i := 1) rfl
 have h21 := h2.cell (i := 0) rfl
 generalize xs[i] = x at *
 generalize rs[i] = r at *
 obtain ⟨m, hm⟩ : ∃ m, r.k.bases.length = m := ⟨_, rfl⟩
 have htm : t < m := by omega
 generalize r.k.bases[t] = bb at *
 have hca_0 := hca 0 _ rfl
 rw [Nat.add_zero] at hca_0
 have hca_1 := hca 1 _ rfl
 have hca_2 := hca 2 _ rfl
 clear hca
 have hcx_0 := hcx 0 _ rfl
 rw [Nat.add_zero] at hcx_0
 have hcx_1 := hcx 1 _ rfl
 have hcx_2 := hcx 2 _ rfl
 have hcx_3 := hcx 3 _ rfl
 clear hcx
 have hcb_0 := hcb 0 _ rfl
 rw [Nat.add_zero] at hcb_0
 have hcb_1 := hcb 1 _ rfl
 have hcb_2 := hcb 2 _ rfl
 have hcb_3 := hcb 3 _ rfl
 clear hcb
 rw [hm] at hca_1
 clear hAT hS hX hG ok h1 h2 hi hix ht hrs hxs hm
 unfold Gives elV limbV
 go_enter Tryz.func121, Tryz.ntmps121
 go_wp2_with fail
 have HZS := HGB
 replace HZS := sz HZS HL1.out
 replace HZS := sz HZS HL2.out
 replace HZS := sz HZS HBB.out
 replace HZS := sz HZS HBA.out
 replace HZS := sz HZS HBX.out
 have BW := Lib.hid (Below.refl w.heap.size w)
 obtain ⟨w1, hq1, hb9, hz9, Hbr⟩ := new1 w 127 [.int .u64 0, .int .u64 0, .int .u64 0, .int .u64 0]
 rw [hq1]
 clear hq1
 replace HG := Lib.hid (HG.out.up hb9)
 replace BW := hbu BW hb9
 have HB := Lib.hid hb9
 replace HZS := sz HZS hz9.out
 clear hb9 hz9
 have br_ := Hbr.out.c4
 replace h11 := cell_up BW.out HL1.out h11
 replace h12 := cell_up BW.out HL1.out h12
 replace h21 := cell_up BW.out HL2.out h21
 replace hca_0 := cell_up BW.out HBA.out hca_0
 replace hca_1 := cell_up BW.out HBA.out hca_1
 replace hca_2 := cell_up BW.out HBA.out hca_2
 replace hcx_0 := cell_up BW.out HBX.out hcx_0
 replace hcx_1 := cell_up BW.out HBX.out hcx_1
 replace hcx_2 := cell_up BW.out HBX.out hcx_2
 replace hcx_3 := cell_up BW.out HBX.out hcx_3
 replace hcb_0 := cell_up BW.out HBB.out hcb_0
 replace hcb_1 := cell_up BW.out HBB.out hcb_1
 replace hcb_2 := cell_up BW.out HBB.out hcb_2
 replace hcb_3 := cell_up BW.out HBB.out hcb_3
 have hl1 := Nat.lt_of_lt_of_le HL1.out BW.out.size
 have hl2 := Nat.lt_of_lt_of_le HL2.out BW.out.size
 have hba1 := Nat.lt_of_lt_of_le HBA.out BW.out.size
 have hbx1 := Nat.lt_of_lt_of_le HBX.out BW.out.size
 have hbb1 := Nat.lt_of_lt_of_le HBB.out BW.out.size
 clear hba0 hbx0
 have HT := Lib.hid (show Below w1.heap.size w1 w1.drew from (Below.refl _ _).drew)
 refine wp_region_tree (fun wq9 => ∃ E : But w1 (some (w.heap.size)), wq9 = E.w) ((.qs [0, 1, 2, 3, 4, 5, 6, 7, 8, 9, 10, 11, 12, 13, 14] (.a 15 (.a 16 .done)))) (by kernel_rfl) (by kernel_rfl) (fun _ _ d _ _ h => by cases d <;> exact h) ⟨⟨_, ((below_grown HT.out).but _)⟩, rfl⟩ ?_
 have hov_b1 := fun (E : But w1 (some (w.heap.size))) o => E.cell (b := b1) o hl1 (by intro e9; have a0 := Option.some.inj e9; have g0 := HZS.out; omega)
 have hov_b2 := fun (E : But w1 (some (w.heap.size))) o => E.cell (b := b2) o hl2 (by intro e9; have a0 := Option.some.inj e9; have g0 := HZS.out; omega)
 have hov_ba := fun (E : But w1 (some (w.heap.size))) o => E.cell (b := ba) o hba1 (by intro e9; have a0 := Option.some.inj e9; have g0 := HZS.out; omega)
 have hov_bx := fun (E : But w1 (some (w.heap.size))) o => E.cell (b := bx) o hbx1 (by intro e9; have a0 := Option.some.inj e9; have g0 := HZS.out; omega)
 have hov_r_bb := fun (E : But w1 (some (w.heap.size))) o => E.cell (b := r.bb) o hbb1 (by intro e9; have a0 := Option.some.inj e9; have g0 := HZS.out; omega)
 simp only [Tree.qs]
 repeat (refine tree_q rfl rfl ?_; go_big_quiet_step (fail); refine wpQuiet_nil ?_)
 refine tree_a rfl (fun K hK => ?_)
 go_simp
 refine (gPower_any G OK.out gb (numOf bb) (numOf x) _ (HG.out.up HT.out)).mono ?_
 rintro e w2 ⟨rfl, hb9⟩
 replace HT := Lib.hid (below_up HT.out hb9)
 replace HZS := sz HZS (show w1.heap.size ≤ w2.heap.size from HT.out.size)
 clear hb9
 unfold elV limbV
 refine hK _ _ ⟨⟨⟨w2, ((below_grown HT.out).but _)⟩, rfl⟩, ?_⟩
 clear hK K
 repeat (refine tree_q rfl rfl ?_; go_big_quiet_step (fail); refine wpQuiet_nil ?_)
 clear h11 h12 h21 hca_0 hca_1 hca_2 hcx_0 hcx_1 hcx_2 hcx_3 hcb_0 hcb_1 hcb_2 hcb_3 hov_b1 hov_b2 hov_ba hov_bx hov_r_bb
 refine tree_a rfl (fun K hK => ?_)
 clear br_
 replace Hbr := Lib.hid (Hbr.out.up HT.out)
 replace HG := Lib.hid (HG.out.up HT.out)
 replace HB := hbu HB HT.out
 replace HZS := sz HZS HT.out.size
 have br_ := Hbr.out.c4
 have f3_br := Hbr.out.frozen
 have o3_br_ := br_; clear br_
 obtain ⟨w3, hq3, hg9, hz9, hx9⟩ := put4 Hbr 0 (.int .u64 (dig (mont G.p.m (numOf bb ^ (numOf x % G.q.m))) 0 : Int)) 1 (.int .u64 (dig (mont G.p.m (numOf bb ^ (numOf x % G.q.m))) 1 : Int)) 2 (.int .u64 (dig (mont G.p.m (numOf bb ^ (numOf x % G.q.m))) 2 : Int)) 3 (.int .u64 (dig (mont G.p.m (numOf bb ^ (numOf x % G.q.m))) 3 : Int)) [.int .u64 (dig (mont G.p.m (numOf bb ^ (numOf x % G.q.m))) 0 : Int), .int .u64 (dig (mont G.p.m (numOf bb ^ (numOf x % G.q.m))) 1 : Int), .int .u64 (dig (mont G.p.m (numOf bb ^ (numOf x % G.q.m))) 2 : Int), .int .u64 (dig (mont G.p.m (numOf bb ^ (numOf x % G.q.m))) 3 : Int)] rfl
 replace HG := Lib.hid (HG.out.grown hg9.out (sne (by have g0 := HZS.out; omega)))
 replace HB := hbg HB hg9 (by have g0 := HZS.out; omega)
 replace HZS := sz HZS hz9.out
 replace Hbr := hx9
 have HGR := Lib.hid (((below_grown HT.out).but _).trans hg9.out)
 clear hx9 hg9 hz9
 have br_ := Hbr.out.c4
 clear HT
 go_simp
 try rw [hq3]
 refine hK _ _ ⟨⟨⟨w3, HGR.out⟩, rfl⟩, ?_⟩
 clear hK K HGR hq3 o3_br_ f3_br
 repeat (refine tree_q rfl rfl ?_; go_big_quiet_step (fail); refine wpQuiet_nil ?_)
 refine tree_end ?_
 go_wp2_with fail
 simp [bodyPost, results, Tryz.results121, go_sem, br_]
 exact HB.out
theorem back1_any (G : GP) (ok : G.Ok) (gb b1 b2 b3 y : Nat) (rs : List ClaimR) (n : Nat) (a : Option Addr) (c : Nat) (xs : List ByteArray) (ax : Option Addr) (cx i t : Nat) (hi : i < rs.length) (hix : i < xs.length) (ht : t < rs[i].k.bases.length) (hti : t < rs[i].k.images.length) (w : World) (hG : GroupAt w gb G) (hS : SetAt G w a rs) (hX : Sl w w.heap.size ax (xs.flatMap (limC G.q.m)))
  (hrs : rs.length = n) (hxs : xs.length = n) (h1 : Bx w b1 64 [.pointer (some ⟨gb, 0, none⟩), .slice a n c]) (h2 : Bx w b2 65 [.slice ax n cx]) (h3 : Bx w b3 72 (limN G.q.m y)) :
  Calls Tryz.prog 101 #[.int .i64 (i : Int), .int .i64 (t : Int), .pointer (some ⟨b1, 0, none⟩), .pointer (some ⟨b2, 0, none⟩), .pointer (some ⟨b3, 0, none⟩)] w (Gives (elV G (numOf rs[i].k.bases[t] ^ (numOf xs[i] % G.q.m) * numOf rs[i].k.images[t] ^ (y % G.q.m))) w) := by
 have HG := Lib.hid hG
 have HGB := Lib.hid hG.lt
 have OK := Lib.hid ok
 have HL1 := Lib.hid h1.lt
 have HL2 := Lib.hid h2.lt
 obtain ⟨ba, oa, rfl, hba0⟩ := hS.at i hi
 obtain ⟨bx, ox, rfl, hbx0⟩ := hX.adr (flat_ne (limC_len _) (by omega) (List.length_pos_iff.1 (by omega)))
 have hca := hS.cells (Below.refl _ _) i hi
 have hcx := (hX.elemS (limC_len _) (by omega) i hix).2
 have hAT := hS.e _ (List.getElem_mem hi)
 have hcb := (hAT.b.elemS (limC_len _) (by omega) t ht).2
 have HBB := Lib.hid hAT.bl
 have HBA := Lib.hid hba0
 have HBX := Lib.hid hbx0
 have HL3 := Lib.hid h3.lt
 have hci := (hAT.i.elemS (limC_len _) (by omega) t hti).2
 have HBI := Lib.hid hAT.il
 have hin : i < n := by omega
 have h11 := h1.cell (i := 0) rfl
 have h12 := h1.cell (i := 1) rfl
 have h21 := h2.cell (i := 0) rfl
 have h30 := h3.cell (i := 0) rfl
 have h31 := h3.cell (i := 1) rfl
 have h32 := h3.cell (i := 2) rfl
 have h33 := h3.cell (i := 3) rfl
 generalize xs[i] = x at *
 generalize rs[i] = r at *
 obtain ⟨m, hm⟩ : ∃ m, r.k.bases.length = m := ⟨_, rfl⟩
 obtain ⟨m2, hm2⟩ : ∃ m, r.k.images.length = m := ⟨_, rfl⟩
 have htm : t < m := by omega
 have htm2 : t < m2 := by omega
 generalize r.k.bases[t] = bb at *
 generalize r.k.images[t] = mm at *
 have hca_0 := hca 0 _ rfl
 rw [Nat.add_zero] at hca_0
 have hca_1 := hca 1 _ rfl
 have hca_2 := hca 2 _ rfl
 clear hca
 have hcx_0 := hcx 0 _ rfl
 rw [Nat.add_zero] at hcx_0
 have hcx_1 := hcx 1 _ rfl
 have hcx_2 := hcx 2 _ rfl
 have hcx_3 := hcx 3 _ rfl
 clear hcx
 have hcb_0 := hcb 0 _ rfl
 rw [Nat.add_zero] at hcb_0
 have hcb_1 := hcb 1 _ rfl
 have hcb_2 := hcb 2 _ rfl
 have hcb_3 := hcb 3 _ rfl
 clear hcb
 have hci_0 := hci 0 _ rfl
 rw [Nat.add_zero] at hci_0
 have hci_1 := hci 1 _ rfl
 have hci_2 := hci 2 _ rfl
 have hci_3 := hci 3 _ rfl
 clear hci
 rw [hm] at hca_1
 rw [hm2] at hca_2
 clear hAT hS hX hG ok h1 h2 h3 hi hix ht hti hrs hxs hm hm2
 unfold Gives elV limbV
 go_enter Tryz.func101, Tryz.ntmps101
 go_wp2_with fail
 have HZS := HGB
 replace HZS := sz HZS HL1.out
 replace HZS := sz HZS HL2.out
 replace HZS := sz HZS HL3.out
 replace HZS := sz HZS HBB.out
 replace HZS := sz HZS HBA.out
 replace HZS := sz HZS HBX.out
 replace HZS := sz HZS HBI.out
 have BW := Lib.hid (Below.refl w.heap.size w)
 obtain ⟨w1, hq1, hb9, hz9, Hbr⟩ := new1 w 127 [.int .u64 0, .int .u64 0, .int .u64 0, .int .u64 0]
 rw [hq1]
 clear hq1
 replace HG := Lib.hid (HG.out.up hb9)
 replace BW := hbu BW hb9
 have HB := Lib.hid hb9
 replace HZS := sz HZS hz9.out
 clear hb9 hz9
 have br_ := Hbr.out.c4
 replace h11 := cell_up BW.out HL1.out h11
 replace h12 := cell_up BW.out HL1.out h12
 replace h21 := cell_up BW.out HL2.out h21
 replace hca_0 := cell_up BW.out HBA.out hca_0
 replace hca_1 := cell_up BW.out HBA.out hca_1
 replace hca_2 := cell_up BW.out HBA.out hca_2
 replace hcx_0 := cell_up BW.out HBX.out hcx_0
 replace hcx_1 := cell_up BW.out HBX.out hcx_1
 replace hcx_2 := cell_up BW.out HBX.out hcx_2
 replace hcx_3 := cell_up BW.out HBX.out hcx_3
 replace hcb_0 := cell_up BW.out HBB.out hcb_0
 replace hcb_1 := cell_up BW.out HBB.out hcb_1
 replace hcb_2 := cell_up BW.out HBB.out hcb_2
 replace hcb_3 := cell_up BW.out HBB.out hcb_3
 have hl1 := Nat.lt_of_lt_of_le HL1.out BW.out.size
 have hl2 := Nat.lt_of_lt_of_le HL2.out BW.out.size
 have hba1 := Nat.lt_of_lt_of_le HBA.out BW.out.size
 have hbx1 := Nat.lt_of_lt_of_le HBX.out BW.out.size
 have hbb1 := Nat.lt_of_lt_of_le HBB.out BW.out.size
 clear hba0 hbx0
 replace h30 := cell_up BW.out HL3.out h30
 replace h31 := cell_up BW.out HL3.out h31
 replace h32 := cell_up BW.out HL3.out h32
 replace h33 := cell_up BW.out HL3.out h33
 replace hci_0 := cell_up BW.out HBI.out hci_0
 replace hci_1 := cell_up BW.out HBI.out hci_1
 replace hci_2 := cell_up BW.out HBI.out hci_2
 replace hci_3 := cell_up BW.out HBI.out hci_3
 have hl3 := Nat.lt_of_lt_of_le HL3.out BW.out.size
 have hbi1 := Nat.lt_of_lt_of_le HBI.out BW.out.size
 have HT := Lib.hid (show Below w1.heap.size w1 w1.drew from (Below.refl _ _).drew)
 refine wp_region_tree (fun wq9 => ∃ E : But w1 (some (w.heap.size)), wq9 = E.w) ((.qs [0, 1, 2, 3, 4, 5, 6, 7, 8, 9, 10, 11, 12, 13, 14, 15, 16, 18, 19, 20, 21, 22, 23, 24, 25, 26, 27, 28, 29] (.a 17 (.a 30 (.a 31 (.a 32 .done)))))) (by kernel_rfl) (by kernel_rfl) (fun _ _ d _ _ h => by cases d <;> exact h) ⟨⟨_, ((below_grown HT.out).but _)⟩, rfl⟩ ?_
 have hov_b1 := fun (E : But w1 (some (w.heap.size))) o => E.cell (b := b1) o hl1 (by intro e9; have a0 := Option.some.inj e9; have g0 := HZS.out; omega)
 have hov_b2 := fun (E : But w1 (some (w.heap.size))) o => E.cell (b := b2) o hl2 (by intro e9; have a0 := Option.some.inj e9; have g0 := HZS.out; omega)
 have hov_b3 := fun (E : But w1 (some (w.heap.size))) o => E.cell (b := b3) o hl3 (by intro e9; have a0 := Option.some.inj e9; have g0 := HZS.out; omega)
 have hov_ba := fun (E : But w1 (some (w.heap.size))) o => E.cell (b := ba) o hba1 (by intro e9; have a0 := Option.some.inj e9; have g0 := HZS.out; omega)
 have hov_bx := fun (E : But w1 (some (w.heap.size))) o => E.cell (b := bx) o hbx1 (by intro e9; have a0 := Option.some.inj e9; have g0 := HZS.out; omega)
 have hov_r_bb := fun (E : But w1 (some (w.heap.size))) o => E.cell (b := r.bb) o hbb1 (by intro e9; have a0 := Option.some.inj e9; have g0 := HZS.out; omega)
 have hov_r_ib := fun (E : But w1 (some (w.heap.size))) o => E.cell (b := r.ib) o hbi1 (by intro e9; have a0 := Option.some.inj e9; have g0 := HZS.out; omega)
 simp only [Tree.qs]
 repeat (refine tree_q rfl rfl ?_; go_big_quiet_step (fail); refine wpQuiet_nil ?_)
 refine tree_a rfl (fun K hK => ?_)
 go_simp
 refine (gPower_any G OK.out gb (numOf bb) (numOf x) _ (HG.out.up HT.out)).mono ?_
 rintro e w2 ⟨rfl, hb9⟩
 replace HT := Lib.hid (below_up HT.out hb9)
 replace HZS := sz HZS (show w1.heap.size ≤ w2.heap.size from HT.out.size)
 clear hb9
 refine hK _ _ ⟨⟨⟨w2, ((below_grown HT.out).but _)⟩, rfl⟩, ?_⟩
 clear hK K
 repeat (refine tree_q rfl rfl ?_; go_big_quiet_step (fail); refine wpQuiet_nil ?_)
 refine tree_a rfl (fun K hK => ?_)
 go_simp
 refine (gPower_any G OK.out gb (numOf mm) y _ (HG.out.up HT.out)).mono ?_
 rintro e w3 ⟨rfl, hb9⟩
 replace HT := Lib.hid (below_up HT.out hb9)
 replace HZS := sz HZS (show w1.heap.size ≤ w3.heap.size from HT.out.size)
 clear hb9
 refine hK _ _ ⟨⟨⟨w3, ((below_grown HT.out).but _)⟩, rfl⟩, ?_⟩
 clear hK K
 repeat (refine tree_q rfl rfl ?_; go_big_quiet_step (fail); refine wpQuiet_nil ?_)
 refine tree_a rfl (fun K hK => ?_)
 go_simp
 refine (gTimes_any G OK.out gb (numOf bb ^ (numOf x % G.q.m)) (numOf mm ^ (y % G.q.m)) _ (HG.out.up HT.out)).mono ?_
 rintro e w4 ⟨rfl, hb9⟩
 replace HT := Lib.hid (below_up HT.out hb9)
 replace HZS := sz HZS (show w1.heap.size ≤ w4.heap.size from HT.out.size)
 clear hb9
 unfold elV limbV
 refine hK _ _ ⟨⟨⟨w4, ((below_grown HT.out).but _)⟩, rfl⟩, ?_⟩
 clear hK K
 repeat (refine tree_q rfl rfl ?_; go_big_quiet_step (fail); refine wpQuiet_nil ?_)
 clear h11 h12 h21 h30 h31 h32 h33 hca_0 hca_1 hca_2 hcx_0 hcx_1 hcx_2 hcx_3 hcb_0 hcb_1 hcb_2 hcb_3 hci_0 hci_1 hci_2 hci_3 hov_b1 hov_b2 hov_b3 hov_ba hov_bx hov_r_bb hov_r_ib
 refine tree_a rfl (fun K hK => ?_)
 clear br_
 replace Hbr := Lib.hid (Hbr.out.up HT.out)
 replace HG := Lib.hid (HG.out.up HT.out)
 replace HB := hbu HB HT.out
 replace HZS := sz HZS HT.out.size
 have br_ := Hbr.out.c4
 have f5_br := Hbr.out.frozen
 have o5_br_ := br_; clear br_
 obtain ⟨w5, hq5, hg9, hz9, hx9⟩ := put4 Hbr 0 (.int .u64 (dig (mont G.p.m (numOf bb ^ (numOf x % G.q.m) * numOf mm ^ (y % G.q.m))) 0 : Int)) 1 (.int .u64 (dig (mont G.p.m (numOf bb ^ (numOf x % G.q.m) * numOf mm ^ (y % G.q.m))) 1 : Int)) 2 (.int .u64 (dig (mont G.p.m (numOf bb ^ (numOf x % G.q.m) * numOf mm ^ (y % G.q.m))) 2 : Int)) 3 (.int .u64 (dig (mont G.p.m (numOf bb ^ (numOf x % G.q.m) * numOf mm ^ (y % G.q.m))) 3 : Int)) [.int .u64 (dig (mont G.p.m (numOf bb ^ (numOf x % G.q.m) * numOf mm ^ (y % G.q.m))) 0 : Int), .int .u64 (dig (mont G.p.m (numOf bb ^ (numOf x % G.q.m) * numOf mm ^ (y % G.q.m))) 1 : Int), .int .u64 (dig (mont G.p.m (numOf bb ^ (numOf x % G.q.m) * numOf mm ^ (y % G.q.m))) 2 : Int), .int .u64 (dig (mont G.p.m (numOf bb ^ (numOf x % G.q.m) * numOf mm ^ (y % G.q.m))) 3 : Int)] rfl
 replace HG := Lib.hid (HG.out.grown hg9.out (sne (by have g0 := HZS.out; omega)))
 replace HB := hbg HB hg9 (by have g0 := HZS.out; omega)
 replace HZS := sz HZS hz9.out
 replace Hbr := hx9
 have HGR := Lib.hid (((below_grown HT.out).but _).trans hg9.out)
 clear hx9 hg9 hz9
 have br_ := Hbr.out.c4
 clear HT
 go_simp
 try rw [hq5]
 refine hK _ _ ⟨⟨⟨w5, HGR.out⟩, rfl⟩, ?_⟩
 clear hK K HGR hq5 o5_br_ f5_br
 repeat (refine tree_q rfl rfl ?_; go_big_quiet_step (fail); refine wpQuiet_nil ?_)
 refine tree_end ?_
 go_wp2_with fail
 simp [bodyPost, results, Tryz.results101, go_sem, br_]
 exact HB.out
end Go.Proofs.YtdlnnkbigeiilaaGreat
namespace Go.Proofs.YtdlnnkbigeiilaaGreat
open Go.RowKit
end Go.Proofs.YtdlnnkbigeiilaaGreat
namespace Go.Proofs.YtdlnnkbigeiilaaGreat
open Go.RowKit
def claim0 : ClaimA := ⟨none, 0, [], none, 0, []⟩
def valF (G : GP) (l : List ClaimA) (xs : List ByteArray) (i t : Nat) : Nat := numOf ((l.getD i claim0).bases.getD t ⟨#[]⟩) ^ (numOf (xs.getD i ⟨#[]⟩) % G.q.m)
def valB (G : GP) (y : Nat) (l : List ClaimA) (xs : List ByteArray) (i t : Nat) : Nat := valF G l xs i t * numOf ((l.getD i claim0).images.getD t ⟨#[]⟩) ^ (y % G.q.m)
theorem valF_eq (G : GP) {rs : List ClaimR} {xs : List ByteArray} {i t : Nat} (hi : i < rs.length) (hx : i < xs.length) (ht : t < rs[i].k.bases.length) : valF G (rs.map ClaimR.k) xs i t = numOf rs[i].k.bases[t] ^ (numOf xs[i] % G.q.m) := by
 unfold valF
 simp [List.getD, hi, hx, ht]
theorem valB_eq (G : GP) (y : Nat) {rs : List ClaimR} {xs : List ByteArray} {i t : Nat} (hi : i < rs.length) (hx : i < xs.length) (ht : t < rs[i].k.bases.length) (hti : t < rs[i].k.images.length) : valB G y (rs.map ClaimR.k) xs i t = numOf rs[i].k.bases[t] ^ (numOf xs[i] % G.q.m) * numOf rs[i].k.images[t] ^ (y % G.q.m) := by
 unfold valB
 rw [valF_eq G hi hx ht]
 simp [List.getD, hi, hti]
def lens (l : List ClaimA) : List Nat := l.map fun k => k.bases.length
theorem back_any (G : GP) (ok : G.Ok) (gb y : Nat) (hy : y ≤ G.q.m) (rs : List ClaimR) (n : Nat) (hrs : rs.length = n) (hn : n ≤ 64) (hm8 : ∀ r ∈ rs, r.k.bases.length ≤ 8 ∧ r.k.images.length = r.k.bases.length) (a : Option Addr) (c : Nat) (xs : List ByteArray) (hxs : xs.length = n) (ax : Option Addr) (cx : Nat) (w : World) (hG : GroupAt w gb G) (hS : SetAt G w a rs) (hX : Sl w w.heap.size ax (xs.flatMap (limC G.q.m))) :
  Calls Tryz.prog 41 #[.agg #[.pointer (some ⟨gb, 0, none⟩), .slice a n c], scV G y, .slice ax n cx] w (RowsF (eachA G (valB G (G.q.m - y) (rs.map ClaimR.k) xs) (lens (rs.map ClaimR.k)) n) w) := by
 have HRS := Lib.hid hrs
 have HXS := Lib.hid hxs
 have HM8 := Lib.hid hm8
 have HG := Lib.hid hG
 have OK := Lib.hid ok
 have HS := Lib.hid hS
 have HX := Lib.hid hX
 have HY := Lib.hid hy
 have HML := Lib.hid (show rs.map (fun r => r.k.bases.length) = lens (rs.map ClaimR.k) by unfold lens; rw [List.map_map]; rfl)
 have HLG := Lib.hid (show ∀ i (hi : i < rs.length), (lens (rs.map ClaimR.k)).getD i 0 = rs[i].k.bases.length from fun i hi => by unfold lens; simp [List.getD, hi])
 clear hrs hxs hm8 hG ok hS hX hy
 unfold scV limbV
 go_enter Tryz.func41, Tryz.ntmps41
 go_wp2_with fail
 obtain ⟨w1, hq1, hb9, hz9, Hbs, Hbc, Hbx⟩ := new3 w 64 [.pointer (some ⟨gb, 0, none⟩), .slice a n c] 72 [.int .u64 (dig (mont G.q.m y) 0 : Int), .int .u64 (dig (mont G.q.m y) 1 : Int), .int .u64 (dig (mont G.q.m y) 2 : Int), .int .u64 (dig (mont G.q.m y) 3 : Int)] 65 [.slice ax n cx]
 rw [hq1]
 clear hq1
 replace HG := Lib.hid (HG.out.up hb9)
 have HB := Lib.hid hb9
 have HZS := hz9
 clear hb9 hz9
 have bs_ := Hbs.out.c2
 have bc_ := Hbc.out.c4
 have bx_ := Hbx.out.c1
 go_wp2_with fail
 refine (gNeg_any G OK.out gb y HY.out w1 HG.out).mono ?_
 rintro e w2 ⟨rfl, hb9⟩
 clear bs_
 replace Hbs := Lib.hid (Hbs.out.up hb9)
 clear bc_
 replace Hbc := Lib.hid (Hbc.out.up hb9)
 clear bx_
 replace Hbx := Lib.hid (Hbx.out.up hb9)
 replace HG := Lib.hid (HG.out.up hb9)
 replace HB := hbu HB hb9
 replace HZS := sz HZS hb9.size
 clear hb9
 have bs_ := Hbs.out.c2
 have bc_ := Hbc.out.c4
 have bx_ := Hbx.out.c1
 unfold scV limbV
 have o3_bs_ := bs_; clear bs_
 have o3_bc_ := bc_; clear bc_
 have o3_bx_ := bx_; clear bx_
 obtain ⟨w3, hq3, hb9, hz9, Hbm⟩ := new1 w2 72 [.int .u64 (dig (mont G.q.m (G.q.m - y)) 0 : Int), .int .u64 (dig (mont G.q.m (G.q.m - y)) 1 : Int), .int .u64 (dig (mont G.q.m (G.q.m - y)) 2 : Int), .int .u64 (dig (mont G.q.m (G.q.m - y)) 3 : Int)]
 replace Hbs := Lib.hid (Hbs.out.up hb9)
 replace Hbc := Lib.hid (Hbc.out.up hb9)
 replace Hbx := Lib.hid (Hbx.out.up hb9)
 replace HG := Lib.hid (HG.out.up hb9)
 replace HB := hbu HB hb9
 replace HZS := sz HZS hz9.out
 clear hb9 hz9
 have bs_ := Hbs.out.c2
 have bc_ := Hbc.out.c4
 have bx_ := Hbx.out.c1
 have bm_ := Hbm.out.c4
 go_wp2_with fail
 clear hq3 o3_bx_ o3_bc_ o3_bs_
 have HB9 := Lib.hid HB.out.size
 refine (eachBack G OK.out gb rs n HRS.out hn (lens (rs.map ClaimR.k)) HML.out (fun r hr => (HM8.out r hr).1) a c _ _ _ (valB G (G.q.m - y) (rs.map ClaimR.k) xs) w3 HG.out (HS.out.up HB.out) (fun w9 hb9 i t hi ht => by rw [HLG.out i (by rw [HRS.out]; exact hi)] at ht; have hti := (HM8.out _ (List.getElem_mem (show i < rs.length by rw [HRS.out]; exact hi))).2; rw [valB_eq G _ (by rw [HRS.out]; exact hi) (by rw [HXS.out]; exact hi) ht (by omega)]; exact back1_any G OK.out gb _ _ _ (G.q.m - y) rs n a c xs ax cx i t (by rw [HRS.out]; exact hi) (by rw [HXS.out]; exact hi) ht (by omega) w9 (HG.out.up hb9) (HS.out.up (below_up HB.out hb9)) (HX.out.up (below_up HB.out hb9)) HRS.out HXS.out (Hbs.out.up hb9) (Hbx.out.up hb9) (Hbm.out.up hb9))).mono ?_
 rintro e w4 ⟨hb9, a9, c9, ro, rfl, hm9, hr9, hz9⟩
 clear bs_
 replace Hbs := Lib.hid (Hbs.out.up hb9)
 clear bc_
 replace Hbc := Lib.hid (Hbc.out.up hb9)
 clear bx_
 replace Hbx := Lib.hid (Hbx.out.up hb9)
 clear bm_
 replace Hbm := Lib.hid (Hbm.out.up hb9)
 replace HG := Lib.hid (HG.out.up hb9)
 replace HB := hbu HB hb9
 replace HZS := sz HZS hb9.size
 have HMR := Lib.hid hm9
 clear hm9
 have HRR := Lib.hid hr9
 clear hr9
 have HZR := Lib.hid hz9
 clear hz9 hb9
 have bs_ := Hbs.out.c2
 have bc_ := Hbc.out.c4
 have bx_ := Hbx.out.c1
 have bm_ := Hbm.out.c4
 go_wp2_with fail
 go_ret
 exact ⟨HB.out, a9, c9, ro, rfl, HMR.out, HRR.out, fresh_le HZR.out HB9.out⟩
end Go.Proofs.YtdlnnkbigeiilaaGreat
namespace Go.Proofs.YtdlnnkbigeiilaaGreat
open Go.RowKit
def openK (k : Int) (l : List ClaimA) (xs : List ByteArray) : Nat := if 1 ≤ k ∧ k ≤ 3 then openE (grp k.toNat) l xs else 1
theorem openK_ok {k : Int} {l : List ClaimA} {xs : List ByteArray} (h : openK k l xs = 0) : (1 ≤ k ∧ k ≤ 3) ∧ shapeE l = 0 ∧ l.all (cElems (grp k.toNat)) = true ∧ xs.length = l.length ∧ xs.all (isSc (grp k.toNat).q.m (grp k.toNat).size) = true := by
 unfold openK at h
 by_cases hk : 1 ≤ k ∧ k ≤ 3
 ·rw [if_pos hk] at h
  unfold openE at h
  by_cases hw : wrongE (grp k.toNat) l = 0
  ·rw [if_neg (by simpa using hw)] at h
   unfold scE at h
   by_cases hl : xs.length = l.length
   ·rw [if_pos hl] at h
    by_cases ha : xs.all (isSc (grp k.toNat).q.m (grp k.toNat).size) = true
    ·exact ⟨hk, (wrong_ok hw).1, (wrong_ok hw).2, hl, ha⟩
    ·rw [if_neg ha] at h; cases h
   ·rw [if_neg hl] at h; cases h
  ·rw [if_pos hw] at h; exact absurd h hw
 ·rw [if_neg hk] at h; cases h
end Go.Proofs.YtdlnnkbigeiilaaGreat
namespace Go.Proofs.YtdlnnkbigeiilaaGreat
open Go.RowKit Go.Lib
def chT (s label : ByteArray) : ByteArray := tagS askedB [tagS askedB [s, label], label]
def chN (s label : ByteArray) : Nat := numOf (tagS askB [s, label] ++ tagS askB [tagS askedB [s, label], label])
theorem ask2_size (a b : List ByteArray) : (tagS askB a ++ tagS askB b).size = 64 := by rw [ByteArray.size_append, tagS_size, tagS_size]
theorem numSet {W : World} {b : Nat} {t : TypeId} {s : ByteArray} {a : Option Addr} {n : Nat} (h : NumAt W a n) (hb : Bx W b t [.string s]) (i : Nat) (v : Value) : NumAt (W.setCell ⟨b, i, none⟩ v) a n := by
 by_cases h0 : dl n = 0
 ·exact Or.inl (by rw [List.map_eq_nil_iff]; exact List.eq_nil_of_length_eq_zero (by rw [digs_length]; exact h0))
 ·refine Sl.kept h ((Kept.refl (fun q => q = b) W).set rfl i v) (fun x hx e => ?_)
  obtain ⟨b', off, rfl, hl, hc⟩ := NumAt.all h (by omega)
  have e1 : b' = b := by rw [← Option.some.inj hx] at e; exact e
  subst e1
  have h1 := hc 0 (by omega)
  rw [World.cell?, show W.heap[b']? = _ from hb] at h1
  rcases off with _ | off
  ·simp at h1
  ·simp at h1
theorem gChallenge_any (G : GP) (ok : G.Ok) (gb tb : Nat) (s label : ByteArray) (hs : s.size < 140737488355328) (hl : label.size < 140737488355328) (w : World) (hG : GroupAt w gb G) (hT : TalkAt w tb s) (hne : ¬ gb = tb) :
  Calls Tryz.prog 42 #[.pointer (some ⟨gb, 0, none⟩), .pointer (some ⟨tb, 0, none⟩), .string label] w fun e w' => e = .returned (scV G (chN s label)) ∧ TalkAt w' tb (chT s label) ∧ Kept (fun q => q = tb) w w' := by
 obtain ⟨s1, hs1⟩ : ∃ x, tagS askedB [s, label] = x := ⟨_, rfl⟩
 have hz1 : s1.size < 140737488355328 := by rw [← hs1, tagS_size]; decide
 have HA1 := Lib.hid (fun w h => Ask_any tb s label hs hl w h)
 have HA2 := Lib.hid (fun w h => Ask_any tb s1 label hz1 hl w h)
 unfold chN chT
 rw [hs1] at HA1 ⊢
 obtain ⟨s2, hs2⟩ : ∃ x, tagS askedB [s1, label] = x := ⟨_, rfl⟩
 rw [hs2] at HA2 ⊢
 obtain ⟨A, hA⟩ : ∃ x, tagS askB [s, label] = x := ⟨_, rfl⟩
 obtain ⟨D, hD⟩ : ∃ x, tagS askB [s1, label] = x := ⟨_, rfl⟩
 have hsz : (A ++ D).size ≤ maxLen := by rw [← hA, ← hD, ask2_size]; decide
 have hcc : ¬ (9223372036854775807 < A.size + D.size) := by rw [← hA, ← hD, tagS_size, tagS_size]; decide
 rw [hA] at HA1 ⊢
 rw [hD] at HA2 ⊢
 have HR := Lib.hid (fun w h => gReduce_any G ok gb (A ++ D) hsz w h)
 unfold scV limbV at HR ⊢
 generalize mont G.q.m (numOf (A ++ D)) = n at HR ⊢
 have HG := Lib.hid hG
 have HT := Lib.hid hT
 have HNE := Lib.hid hne
 have HLT := Lib.hid hT.lt
 clear hG hT hne ok hs hl hz1 hs1 hs2 hA hD hsz
 go_enter Tryz.func42, Tryz.ntmps42
 go_wp2_with fail
 obtain ⟨w1, hq1, hb9, hz9, Ho⟩ := new1 w 72 [.int .u64 0, .int .u64 0, .int .u64 0, .int .u64 0]
 rw [hq1]
 clear hq1
 have HB := Lib.hid hb9
 have HZS := hz9
 clear hb9 hz9
 have o_ := Ho.out.c4
 go_wp2_with fail
 refine (HA1.out _ (HT.out.up HB.out)).mono ?_
 rintro e wz ⟨rfl, ht, hk⟩
 have HG1 := Lib.hid ((HG.out.up HB.out).keptP hk HNE.out)
 have Ht := Lib.hid ht
 have HK := Lib.hid (((Kept.refl (fun q => q = tb) w).up HB.out).trans hk)
 have Ho1 := Lib.hid (Ho.out.keptP hk (show ¬ w.heap.size = tb by have := HLT.out; omega))
 clear HB HT HG Ho o_ ht hk HA1
 have Ho := Ho1
 clear Ho1
 go_wp2_with fail
 refine (HA2.out _ Ht.out).mono ?_
 rintro e wy ⟨rfl, ht, hk⟩
 have HG2 := Lib.hid (HG1.out.keptP hk HNE.out)
 have HK2 := Lib.hid (HK.out.trans hk)
 have Ho2 := Lib.hid (Ho.out.keptP hk (show ¬ w.heap.size = tb by have := HLT.out; omega))
 have HT2 := Lib.hid ht
 clear HG1 HK Ho Ht ht hk HA2
 go_wp2_with fail
 refine (HR.out _ HG2.out).mono ?_
 rintro e wx ⟨rfl, hb9⟩
 have Ht := Lib.hid (HT2.out.up hb9)
 have HK := Lib.hid (HK2.out.up hb9)
 have Ho := Lib.hid (Ho2.out.up hb9)
 have HZS : Hid (w.heap.size < wx.heap.size) := HK.out.size |> fun _ => Ho.out.lt
 clear HG2 HK2 Ho2 HT2 hb9 HR HNE
 have o_ := Ho.out.c4
 replace HZS := sz HZS HLT.out
 have f2_o := Ho.out.frozen
 have o2_o_ := o_; clear o_
 obtain ⟨w2, hq2, hg9, hz9, hx9⟩ := put4 Ho 0 (.int .u64 (dig n 0 : Int)) 1 (.int .u64 (dig n 1 : Int)) 2 (.int .u64 (dig n 2 : Int)) 3 (.int .u64 (dig n 3 : Int)) [.int .u64 (dig n 0 : Int), .int .u64 (dig n 1 : Int), .int .u64 (dig n 2 : Int), .int .u64 (dig n 3 : Int)] rfl
 replace Ht := Lib.hid (Ht.out.grown hg9.out (sne (by have g0 := HZS.out; omega)))
 replace HK := Lib.hid (Kept.grown HK.out hg9.out (fun q9 e9 => by obtain rfl := Option.some.inj e9; exact Or.inl (show w.heap.size ≤ w.heap.size by have g0 := HZS.out; omega)))
 replace HZS := sz HZS hz9.out
 replace Ho := hx9
 clear hx9 hg9 hz9
 have o_ := Ho.out.c4
 go_wp2_with fail
 clear hq2 o2_o_ f2_o
 simp [bodyPost, results, Tryz.results42, go_sem, o_]
 exact ⟨Ht.out, HK.out⟩
theorem rChallenge_any (gz q : Nat) (pv : Value) (hq : 0 < q) (aq : Option Addr) (cq : Nat) (s label : ByteArray) (hs : s.size < 140737488355328) (hl : label.size < 140737488355328) (w : World) (hQ : NumAt w aq q) :
  Calls Tryz.prog 45 #[.agg #[.int .i64 (gz : Int), .slice aq (dl q) cq, pv], .agg #[.string s], .string label] w fun e w' => ∃ a c, e = .returned (.tuple #[.slice a (dl (chN s label % q)) c, .agg #[.string (chT s label)]]) ∧ NumAt w' a (chN s label % q) ∧ Below w.heap.size w w' := by
 obtain ⟨s1, hs1⟩ : ∃ x, tagS askedB [s, label] = x := ⟨_, rfl⟩
 have hz1 : s1.size < 140737488355328 := by rw [← hs1, tagS_size]; decide
 have HA1 := Lib.hid (fun w => rAsk_any s label hs hl w)
 have HA2 := Lib.hid (fun w => rAsk_any s1 label hz1 hl w)
 unfold chN chT
 rw [hs1] at HA1 ⊢
 obtain ⟨s2, hs2⟩ : ∃ x, tagS askedB [s1, label] = x := ⟨_, rfl⟩
 rw [hs2] at HA2 ⊢
 obtain ⟨A, hA⟩ : ∃ x, tagS askB [s, label] = x := ⟨_, rfl⟩
 obtain ⟨D, hD⟩ : ∃ x, tagS askB [s1, label] = x := ⟨_, rfl⟩
 have hsz : (A ++ D).size ≤ 1048576 := by rw [← hA, ← hD, ask2_size]; decide
 have hcc : ¬ (9223372036854775807 < A.size + D.size) := by rw [← hA, ← hD, tagS_size, tagS_size]; decide
 have hdl : dl (numOf (A ++ D)) ≤ 1048576 := by
  refine Nat.le_trans (dl_of_lt _ 32 ?_) (by decide)
  have h := numL_lt (A ++ D).data.toList
  have e : (A ++ D).data.toList.length = 64 := by show (A ++ D).size = 64; rw [← hA, ← hD, ask2_size]
  rw [e] at h
  exact h
 rw [hA] at HA1 ⊢
 rw [hD] at HA2 ⊢
 have HRD := Lib.hid (fun w => refRead_any (A ++ D) hsz w)
 obtain ⟨n, hn⟩ : ∃ x, numOf (A ++ D) = x := ⟨_, rfl⟩
 rw [hn] at HRD hdl ⊢
 have HMD := Lib.hid (fun aa am ca cm w h1 h2 => refMod_any n q aa am ca cm hdl hq w h1 h2)
 have HQ := Lib.hid hQ
 clear hQ hq hs hl hz1 hs1 hs2 hA hD hsz hdl hn
 go_enter Tryz.func45, Tryz.ntmps45
 go_wp2_with fail
 obtain ⟨w1, hq1, hb9, hz9, Hbg, Hbt, Ho⟩ := new3 w 86 [.int .i64 (gz : Int), .slice aq (dl q) cq, pv] 89 [.string s] 89 [.string ⟨#[]⟩]
 rw [hq1]
 clear hq1
 have HB := Lib.hid hb9
 have HZS := hz9
 clear hb9 hz9
 have bg_ := Hbg.out.c3
 have bt_ := Hbt.out.c1
 have o_ := Ho.out.c1
 go_wp2_with fail
 refine (HA1.out w1).mono ?_
 rintro e w2 ⟨rfl, hb9⟩
 clear bg_
 replace Hbg := Lib.hid (Hbg.out.up hb9)
 clear bt_
 replace Hbt := Lib.hid (Hbt.out.up hb9)
 clear o_
 replace Ho := Lib.hid (Ho.out.up hb9)
 replace HB := hbu HB hb9
 replace HZS := sz HZS hb9.size
 clear hb9
 have bg_ := Hbg.out.c3
 have bt_ := Hbt.out.c1
 have o_ := Ho.out.c1
 have f3_bt := Hbt.out.frozen
 have o3_bg_ := bg_; clear bg_
 have o3_bt_ := bt_; clear bt_
 have o3_o_ := o_; clear o_
 obtain ⟨w3, hq3, hg9, hz9, hx9⟩ := put1 Hbt 0 (.string s1) [.string s1] rfl
 replace Hbg := Lib.hid (Hbg.out.grown hg9.out (sne (by have g0 := HZS.out; omega)))
 replace Ho := Lib.hid (Ho.out.grown hg9.out (sne (by have g0 := HZS.out; omega)))
 replace HB := hbg HB hg9 (by have g0 := HZS.out; omega)
 replace HZS := sz HZS hz9.out
 replace Hbt := hx9
 clear hx9 hg9 hz9
 have bg_ := Hbg.out.c3
 have bt_ := Hbt.out.c1
 have o_ := Ho.out.c1
 go_wp2_with fail
 clear hq3 o3_o_ o3_bt_ o3_bg_ f3_bt
 refine (HA2.out w3).mono ?_
 rintro e w4 ⟨rfl, hb9⟩
 clear bg_
 replace Hbg := Lib.hid (Hbg.out.up hb9)
 clear bt_
 replace Hbt := Lib.hid (Hbt.out.up hb9)
 clear o_
 replace Ho := Lib.hid (Ho.out.up hb9)
 replace HB := hbu HB hb9
 replace HZS := sz HZS hb9.size
 clear hb9
 have bg_ := Hbg.out.c3
 have bt_ := Hbt.out.c1
 have o_ := Ho.out.c1
 have f5_bt := Hbt.out.frozen
 have o5_bg_ := bg_; clear bg_
 have o5_bt_ := bt_; clear bt_
 have o5_o_ := o_; clear o_
 obtain ⟨w5, hq5, hg9, hz9, hx9⟩ := put1 Hbt 0 (.string s2) [.string s2] rfl
 replace Hbg := Lib.hid (Hbg.out.grown hg9.out (sne (by have g0 := HZS.out; omega)))
 replace Ho := Lib.hid (Ho.out.grown hg9.out (sne (by have g0 := HZS.out; omega)))
 replace HB := hbg HB hg9 (by have g0 := HZS.out; omega)
 replace HZS := sz HZS hz9.out
 replace Hbt := hx9
 clear hx9 hg9 hz9
 have bg_ := Hbg.out.c3
 have bt_ := Hbt.out.c1
 have o_ := Ho.out.c1
 go_wp2_with fail
 clear hq5 o5_o_ o5_bt_ o5_bg_ f5_bt
 have HT := Lib.hid (show Below w5.heap.size w5 w5.drew from (Below.refl _ _).drew)
 have hl_bg := Hbg.out.lt
 have hl_bt := Hbt.out.lt
 refine wp_region_tree (fun wq9 => ∃ E : But w5 (some (w.heap.size + 2)), wq9 = E.w) ((.qs [0, 1, 2, 4, 5, 7] (.a 3 (.a 6 (.qs [8] (.a 9 .done)))))) (by kernel_rfl) (by kernel_rfl) (fun _ _ d _ _ h => by cases d <;> exact h) ⟨⟨_, ((below_grown HT.out).but _)⟩, rfl⟩ ?_
 have hov_bg := fun (E : But w5 (some (w.heap.size + 2))) o => E.cell (b := w.heap.size) o hl_bg (by intro e9; have a0 := Option.some.inj e9; have g0 := HZS.out; omega)
 have hov_bt := fun (E : But w5 (some (w.heap.size + 2))) o => E.cell (b := w.heap.size + 1) o hl_bt (by intro e9; have a0 := Option.some.inj e9; have g0 := HZS.out; omega)
 simp only [Tree.qs]
 repeat (refine tree_q rfl rfl ?_; go_big_quiet_step (fail); refine wpQuiet_nil ?_)
 refine tree_a rfl (fun K hK => ?_)
 go_simp
 refine (HRD.out _).mono ?_
 rintro e w6 ⟨a4, c4, rfl, hn9, hb9⟩
 replace HT := Lib.hid (below_up HT.out hb9)
 replace HZS := sz HZS (show w5.heap.size ≤ w6.heap.size from HT.out.size)
 clear hb9
 have HN4 := Lib.hid hn9
 clear hn9
 refine hK _ _ ⟨⟨⟨w6, ((below_grown HT.out).but _)⟩, rfl⟩, ?_⟩
 clear hK K
 repeat (refine tree_q rfl rfl ?_; go_big_quiet_step (fail); refine wpQuiet_nil ?_)
 refine tree_a rfl (fun K hK => ?_)
 go_simp
 refine (HMD.out _ _ _ _ _ HN4.out (HQ.out.up (below_up HB.out HT.out))).mono ?_
 rintro e w7 ⟨a5, c5, rfl, hn9, hb9⟩
 replace HN4 := Lib.hid (HN4.out.up hb9)
 replace HT := Lib.hid (below_up HT.out hb9)
 replace HZS := sz HZS (show w5.heap.size ≤ w7.heap.size from HT.out.size)
 clear hb9
 have HN5 := Lib.hid hn9
 clear hn9
 refine hK _ _ ⟨⟨⟨w7, ((below_grown HT.out).but _)⟩, rfl⟩, ?_⟩
 clear hK K
 repeat (refine tree_q rfl rfl ?_; go_big_quiet_step (fail); refine wpQuiet_nil ?_)
 clear hov_bg hl_bg hov_bt hl_bt
 refine tree_a rfl (fun K hK => ?_)
 clear bg_
 replace Hbg := Lib.hid (Hbg.out.up HT.out)
 clear bt_
 replace Hbt := Lib.hid (Hbt.out.up HT.out)
 clear o_
 replace Ho := Lib.hid (Ho.out.up HT.out)
 replace HB := hbu HB HT.out
 replace HZS := sz HZS HT.out.size
 have bg_ := Hbg.out.c3
 have bt_ := Hbt.out.c1
 have o_ := Ho.out.c1
 replace HN5 := Lib.hid (numSet HN5.out Ho.out 0 (.string s2))
 clear HN4
 have f8_o := Ho.out.frozen
 have o8_bg_ := bg_; clear bg_
 have o8_bt_ := bt_; clear bt_
 have o8_o_ := o_; clear o_
 obtain ⟨w8, hq8, hg9, hz9, hx9⟩ := put1 Ho 0 (.string s2) [.string s2] rfl
 replace Hbg := Lib.hid (Hbg.out.grown hg9.out (sne (by have g0 := HZS.out; omega)))
 replace Hbt := Lib.hid (Hbt.out.grown hg9.out (sne (by have g0 := HZS.out; omega)))
 replace HB := hbg HB hg9 (by have g0 := HZS.out; omega)
 replace HZS := sz HZS hz9.out
 replace Ho := hx9
 have HGR := Lib.hid (((below_grown HT.out).but _).trans hg9.out)
 clear hx9 hg9 hz9
 have bg_ := Hbg.out.c3
 have bt_ := Hbt.out.c1
 have o_ := Ho.out.c1
 rw [hq8] at HN5
 clear HT
 go_simp
 try rw [hq8]
 refine hK _ _ ⟨⟨⟨w8, HGR.out⟩, rfl⟩, ?_⟩
 clear hK K HGR hq8 o8_o_ o8_bt_ o8_bg_ f8_o
 repeat (refine tree_q rfl rfl ?_; go_big_quiet_step (fail); refine wpQuiet_nil ?_)
 refine tree_end ?_
 go_wp2_with fail
 simp [bodyPost, results, Tryz.results45, go_sem, o_]
 exact ⟨HN5.out, HB.out⟩
end Go.Proofs.YtdlnnkbigeiilaaGreat
namespace Go.Proofs.YtdlnnkbigeiilaaGreat
open Go.RowKit
theorem kept_grown {b : Nat} {W w : World} (h : Kept (fun q => q = b) W w) : W.grownBy w (some b) :=
 ⟨h.os, h.tape, h.output, h.size, fun q hq hne => h.block q hq (fun e => hne (by rw [e]))⟩
theorem grp_kind (k : Nat) (h1 : 1 ≤ k) (h3 : k ≤ 3) : (grp k).kind = k := by
 obtain rfl | rfl | rfl : k = 1 ∨ k = 2 ∨ k = 3 := by omega
 all_goals rfl
theorem eachA_small {G : GP} {val : Nat → Nat → Nat} {ms : List Nat} {n : Nat} (hs : G.size ≤ 32) (h8 : ∀ i, ms.getD i 0 ≤ 8) {ro : List RowA} (hm : ro.map RowA.l = eachA G val ms n) : ∀ r ∈ ro, r.l.length ≤ 8 ∧ ∀ x ∈ r.l, x.size ≤ 32 := by
 intro r hr
 have h1 : r.l ∈ ro.map RowA.l := List.mem_map.2 ⟨r, hr, rfl⟩
 rw [hm] at h1
 unfold eachA at h1
 obtain ⟨i, _, hi⟩ := List.mem_map.1 h1
 rw [← hi]
 refine ⟨by rw [eachL_len]; exact h8 i, fun x hx => ?_⟩
 unfold eachL at hx
 obtain ⟨t, _, rfl⟩ := List.mem_map.1 hx
 rw [textS_size]
 exact hs
theorem lens_small {l : List ClaimA} (h : ∀ c ∈ l, c.bases.length ≤ 8) (i : Nat) : (lens l).getD i 0 ≤ 8 := by
 unfold lens
 by_cases hi : i < l.length
 ·rw [List.getD_eq_getElem?_getD, List.getElem?_map, List.getElem?_eq_getElem hi]
  exact h _ (List.getElem_mem hi)
 ·rw [List.getD_eq_getElem?_getD, List.getElem?_map, List.getElem?_eq_none (by omega)]
  exact Nat.zero_le _
end Go.Proofs.YtdlnnkbigeiilaaGreat
namespace Go.Proofs.YtdlnnkbigeiilaaGreat
open Go.RowKit
structure SetR where
 s : SetA
 a : Option Addr
 c : Nat
 rs : List ClaimR
def SetR.cells (gb : Nat) (t : SetR) : List Value := [.pointer (some ⟨gb, 0, none⟩), .slice t.a t.rs.length t.c]
theorem SetR.cells_len (gb : Nat) (t : SetR) : (t.cells gb).length = 2 := rfl
structure SetR.Of (G : GP) (t : SetR) : Prop where
 k : t.rs.map ClaimR.k = t.s.l
 p : ∃ bl ol, t.s.a = some ⟨bl, ol, none⟩ ∧ RsP bl ol t.rs
 w : wrongE G t.s.l = 0
theorem SetAt.keptQ {G : GP} {P : Nat → Prop} {w w' : World} {a : Option Addr} {rs : List ClaimR} (h : SetAt G w a rs) (hk : Kept P w w') (h1 : ∀ x, a = some x → ¬ P x.block) (h2 : ∀ r ∈ rs, ¬ P r.bb ∧ ¬ P r.ib) : SetAt G w' a rs :=
 ⟨h.s.kept hk h1, fun r hr => (h.e r hr).keptP hk (h2 r hr).1 (h2 r hr).2⟩
theorem SetAt.lt {G : GP} {w : World} {a : Option Addr} {rs : List ClaimR} (h : SetAt G w a rs) (h0 : 0 < rs.length) (x : Addr) (hx : a = some x) : x.block < w.heap.size :=
 Sl.lt h.s (flat_ne ClaimR.cells_len (by omega) (List.length_pos_iff.1 h0)) x hx
structure SetR.Off (G : GP) (v : Value) (N : Nat) (w : World) (t : SetR) : Prop where
 at_ : SetAt G w t.a t.rs
 new : SetNew N t.a t.rs
 lt : ∀ x, t.a = some x → x.block < w.heap.size
 na : ∀ x, t.a = some x → v.ownBlock ≠ some x.block
 nr : ∀ r ∈ t.rs, v.ownBlock ≠ some r.bb ∧ v.ownBlock ≠ some r.ib
def SetsOff (G : GP) (v : Value) (N : Nat) (w : World) (ts : List SetR) : Prop := ∀ t ∈ ts, t.Off G v N w
theorem SetsOff.up {G : GP} {v : Value} {N : Nat} {w w1 : World} {ts : List SetR} (h : SetsOff G v N w ts) (hb : Below w.heap.size w w1) : SetsOff G v N w1 ts := fun t ht =>
 ⟨(h t ht).at_.up hb, (h t ht).new, fun x hx => Nat.lt_of_lt_of_le ((h t ht).lt x hx) hb.size, (h t ht).na, (h t ht).nr⟩
theorem SetsOff.push {G : GP} {v : Value} {N g n c : Nat} {w w1 : World} {ts : List SetR} {r : SetR} (h : SetsOff G v N w ts) (hr : r.Off G v N w) (hk : Kept (fun q => Value.ownBlock v = some q) w w1) (hf : Value.ownBlock v = some g ∨ w.heap.size ≤ g) : SetsOff G (.slice (some ⟨g, 0, none⟩) n c) N w1 (ts ++ [r]) := fun s hs => by
 have hh : s.Off G v N w := by
  rcases List.mem_append.1 hs with h9 | h9
  ·exact h s h9
  ·rw [List.mem_singleton.1 h9]; exact hr
 have key : ∀ b, b < w.heap.size → v.ownBlock ≠ some b → (Value.slice (some ⟨g, 0, none⟩) n c).ownBlock ≠ some b := fun b hl hv e => by
  have e9 : g = b := Option.some.inj e
  rcases hf with hf | hf
  ·exact hv (by rw [hf, e9])
  ·omega
 exact ⟨hh.at_.keptQ hk hh.na hh.nr, hh.new, fun x hx => Nat.lt_of_lt_of_le (hh.lt x hx) hk.size, fun x hx => key _ (hh.lt x hx) (hh.na x hx), fun r hr => ⟨key _ (hh.at_.e r hr).bl (hh.nr r hr).1, key _ (hh.at_.e r hr).il (hh.nr r hr).2⟩⟩
theorem sread_ok (G : GP) (ok : G.Ok) (gb : Nat) (l : List ClaimA) (al : Option Addr) (cl : Nat) (w : World) (hG : GroupAt w gb G) (hC : ClaimsAt w al l) (hz : wrongE G l = 0) :
  Calls Tryz.prog 92 #[.pointer (some ⟨gb, 0, none⟩), .slice al l.length cl] w fun e w' => Below w.heap.size w w' ∧ ∃ rs a c, e = .returned (.tuple #[.agg #[.pointer (some ⟨gb, 0, none⟩), .slice a rs.length c], .int .i64 0]) ∧ rs.map ClaimR.k = l ∧ SetAt G w' a rs ∧ SetNew w.heap.size a rs ∧ (∃ bl ol, al = some ⟨bl, ol, none⟩ ∧ RsP bl ol rs) :=
 (sread_any G ok gb l al cl w hG hC).mono fun _ _ h => ⟨h.1, by have h2 := h.2; rwa [if_pos hz] at h2⟩
theorem sread_bad (G : GP) (ok : G.Ok) (gb : Nat) (l : List ClaimA) (al : Option Addr) (cl : Nat) (w : World) (hG : GroupAt w gb G) (hC : ClaimsAt w al l) (hz : ¬ wrongE G l = 0) :
  Calls Tryz.prog 92 #[.pointer (some ⟨gb, 0, none⟩), .slice al l.length cl] w fun e w' => e = .returned (.tuple #[.agg #[.pointer none, .slice none 0 0], .int .i64 (wrongE G l : Int)]) ∧ Below w.heap.size w w' :=
 (sread_any G ok gb l al cl w hG hC).mono fun _ _ h => ⟨by have h2 := h.2; rwa [if_neg hz] at h2, h.1⟩
theorem infoSet : (Tryz.prog.info? 64).map (fun i => (i.zero, i.size, i.bytes)) = some (some (.agg #[.pointer none, .slice none 0 0]), 2, 32) := by kernel_rfl
def ReadSets (G : GP) (gb : Nat) (ss : List SetA) (w : World) (e : Ending) (w' : World) : Prop :=
 Below w.heap.size w w' ∧ if setsE G ss = 0 then ∃ (ts : List SetR) (a : Option Addr) (c : Nat), e = .returned (.tuple #[.slice a ts.length c, .int .i64 0]) ∧ ts.map SetR.s = ss ∧ Sl w' w'.heap.size a (ts.flatMap (SetR.cells gb)) ∧ (∀ t ∈ ts, SetAt G w' t.a t.rs ∧ SetNew w.heap.size t.a t.rs) ∧ (∀ t ∈ ts, t.Of G) ∧ (∀ x, a = some x → w.heap.size ≤ x.block) else e = .returned (.tuple #[.slice none 0 0, .int .i64 (setsE G ss : Int)])
theorem sRAll_long (gb n : Nat) (h : 16 < n) (al : Option Addr) (cl : Nat) (w : World) :
  Calls Tryz.prog 51 #[.pointer (some ⟨gb, 0, none⟩), .slice al n cl] w fun e w' => e = .returned (.tuple #[.slice none 0 0, .int .i64 3]) ∧ Below w.heap.size w w' := by
 have hd1 : decide ((n : Int) > 16) = true := by simp; omega
 clear h
 go_enter Tryz.func51, Tryz.ntmps51
 go_wp2_with fail
 go_ret2
 exact ⟨rfl, Below.refl _ _⟩
theorem sRAll_none (gb : Nat) (al : Option Addr) (cl : Nat) (w : World) :
  Calls Tryz.prog 51 #[.pointer (some ⟨gb, 0, none⟩), .slice al 0 cl] w fun e w' => e = .returned (.tuple #[.slice none 0 0, .int .i64 2]) ∧ Below w.heap.size w w' := by
 go_enter Tryz.func51, Tryz.ntmps51
 go_wp2_with fail
 go_ret2
 exact ⟨rfl, Below.refl _ _⟩
theorem sRAll_body (G : GP) (ok : G.Ok) (gb : Nat) (ss : List SetA) (n : Nat) (hn : ss.length = n) (h0 : 0 < n) (h16 : n ≤ 16) (al : Option Addr) (cl : Nat) (w : World) (hG : GroupAt w gb G) (hC : SetsAt w al ss) :
  Calls Tryz.prog 51 #[.pointer (some ⟨gb, 0, none⟩), .slice al n cl] w (ReadSets G gb ss w) := by
 have HOKC := Lib.hid (fun (l : List ClaimA) a c w hG hC (hz : wrongE G l = 0) => sread_ok G ok gb l a c w hG hC hz)
 have HBAD := Lib.hid (fun (l : List ClaimA) a c w hG hC (hz : ¬ wrongE G l = 0) => sread_bad G ok gb l a c w hG hC hz)
 have HG := Lib.hid hG
 have HC := Lib.hid hC
 have HN := Lib.hid hn
 have HSE := Lib.hid (show setsE G ss = wrongsE G ss by unfold setsE; rw [if_neg (by omega), if_neg (by omega)])
 clear ok hG hC hn
 have hd1 : decide ((n : Int) > 16) = false := by simp; omega
 have hd2 : ((n : Int) == 0) = false := by simp; omega
 go_enter Tryz.func51, Tryz.ntmps51
 go_wp2_with fail
 go_loopw [21, 6] (fun i v wr => ∃ (j : Nat) (g : Option Addr) (c9 : Nat) (ts : List SetR), j ≤ n ∧ i = .int .i64 j ∧ v = .slice g j c9 ∧ Hid (ts.map SetR.s = ss.take j) ∧ Hid (wrongsE G (ss.take j) = 0) ∧ Hid (Below w.heap.size w wr) ∧ Hid (RowO w.heap.size wr 64 2 (.slice g j c9) j (ts.flatMap (SetR.cells gb))) ∧ Hid (SetsOff G (.slice g j c9) w.heap.size wr ts) ∧ Hid (∀ t ∈ ts, t.Of G)) (fun i _ _ => n - (intOf i).toNat)
 case atStart => exact ⟨0, none, 0, [], Nat.zero_le _, rfl, rfl, rfl, rfl, Below.refl _ _, RowO.nil, Lib.hid (show SetsOff G _ _ _ [] from fun _ h => absurd h (by simp)), Lib.hid (fun _ h => absurd h (by simp))⟩
 case round =>
  obtain ⟨j, g, c9, ts, hj, rfl, rfl, HTS, HWR, HB, Hr, HSO, HOF⟩ := hrel
  have HBS := Lib.hid HB.out.size
  have HZS := HBS
  have BR := Lib.hid (Below.refl wr.heap.size wr)
  have hro := Hr.out.lt
  have HRO := Lib.hid hro
  clear hro
  by_cases hjn : j < n
  ·have hjl : j < ss.length := by rw [HN.out]; exact hjn
   obtain ⟨bl, ol, rfl, hbl0, hc⟩ := (HC.out.s.up HB.out).elem SetA.cells_len (by omega) j hjl
   have hc_0 := hc 0 _ rfl
   rw [Nat.add_zero] at hc_0
   clear hc
   rw [Nat.mul_one] at hc_0
   have HAT := Lib.hid (HC.out.one j hjl)
   have HTK := Lib.hid (List.take_succ_eq_append_getElem hjl)
   have HWN := Lib.hid (wrongsE_not (G := G) hjl HWR.out)
   have HWS := Lib.hid (wrongsE_snoc (G := G) hjl HWR.out)
   generalize ss[j] = s at *
   by_cases hz : wrongE G s.l = 0
   ·have HRD := Lib.hid (fun w h1 h2 => HOKC.out s.l s.a s.c w h1 h2 hz)
    have HWZ := Lib.hid (HWS.out hz)
    have HZ := Lib.hid hz
    clear HWN HWS hz
    go_wp2_with fail
    refine (HRD.out wr (HG.out.up HB.out) (HAT.out.up HB.out)).mono ?_
    rintro e w1 ⟨hb9, rs, a9, c8, rfl, hk9, hs9, hn9, ho9⟩
    replace Hr := Lib.hid (Hr.out.up hb9)
    replace BR := hbu BR hb9
    replace HB := hbu HB hb9
    replace HZS := sz HZS hb9.size
    have HRK := Lib.hid hk9
    clear hk9
    have HST := Lib.hid hs9
    clear hs9
    have HSN := Lib.hid hn9
    clear hn9
    have HSR := Lib.hid ho9
    clear ho9 hb9
    have HRL := Lib.hid (show 0 < rs.length by have h9 := congrArg List.length HRK.out; rw [List.length_map] at h9; rw [h9]; exact (shape_ok (wrong_ok HZ.out).1).1)
    obtain ⟨w2, hq2, hb9, hz9, Hbs⟩ := new1 w1 64 [.pointer (some ⟨gb, 0, none⟩), .slice a9 rs.length c8]
    replace Hr := Lib.hid (Hr.out.up hb9)
    replace HST := Lib.hid (HST.out.up hb9)
    replace BR := hbu BR hb9
    replace HB := hbu HB hb9
    replace HZS := sz HZS hz9.out
    clear hb9 hz9
    have bs_ := Hbs.out.c2
    have HOFF := Lib.hid (HSO.out.up BR.out)
    have HONE := Lib.hid (show SetR.Off G (.slice g j c9) w.heap.size w2 ⟨s, a9, c8, rs⟩ from ⟨HST.out, HSN.out.mono HBS.out, fun x hx => HST.out.lt HRL.out x hx, fun x hx e => by have a1 := HRO.out _ e; have a2 := HSN.out.a x hx; omega, fun r hr => ⟨fun e => by have a1 := HRO.out _ e; have a2 := HSN.out.e r hr; omega, fun e => by have a1 := HRO.out _ e; have a2 := HSN.out.e r hr; omega⟩⟩)
    clear HSO HSN HRO BR
    have HKP := Lib.hid (Kept.refl (fun q9 => Value.ownBlock (.slice g j c9) = some q9) w2)
    obtain ⟨i9, hi9, hz90, hz91, hz92⟩ := info_parts infoSet
    go_wp2_with (at_builtin; refine wpList_pushF (w.heap.size) w2 (by have g0 := HZS.out; omega) rfl _ _ 97 rfl 64 i9 _ 2 32 Tryz.underlying97 hi9 hz90 hz91 hz92 rfl (by omega) ((.slice g j c9)) (j) ((ts.flatMap (SetR.cells gb))) rfl Hr.out _ _ _ rfl rfl rfl (by simp [Value.oneCell']) (by omega) (by unfold maxLen; omega) ?_)
    intro g3 c3 w3 hown9 hg9 hf9
    clear hq2 bs_ Hbs
    have hb9 := Below.grown HB.out hg9 (by have g0 := HZS.out; omega) (fun q hq => Nat.le_trans (show w.heap.size ≤ w.heap.size by have g0 := HZS.out; omega) (Hr.out.lt q hq).1)
    clear HST
    replace HKP := Lib.hid (Kept.grown HKP.out hg9 (fun q hq => Or.inr hq))
    replace HZS := sz HZS hg9.size
    clear Hr HB
    have Hr := Lib.hid hown9
    have HB := Lib.hid hb9
    clear hb9 hown9 hg9 hi9 hz90 hz91 hz92
    have HRP := Lib.hid (fun (n9 c9 : Nat) => SetsOff.push (n := n9) (c := c9) HOFF.out HONE.out HKP.out hf9)
    go_wp2_with fail
    go_roundw
    case rel => exact ⟨j + 1, _, _, ts ++ [⟨s, a9, c8, rs⟩], by omega, by go_num, rfl, Lib.hid (by rw [List.map_append, HTS.out, HTK.out]; rfl), HWZ, HB, Hr.out.eq (by rw [List.flatMap_append]; simp [SetR.cells]) rfl, Lib.hid (HRP.out _ _), Lib.hid (fun t ht => by
     rcases List.mem_append.1 ht with h9 | h9
     ·exact HOF.out t h9
     ·rw [List.mem_singleton.1 h9]; exact ⟨HRK.out, HSR.out, HZ.out⟩)⟩
    case measure => simp [intOf]; omega
   ·have HRD := Lib.hid (fun w h1 h2 => HBAD.out s.l s.a s.c w h1 h2 hz)
    have HWZ := Lib.hid (HSE.out.trans (HWN.out hz))
    generalize wrongE G s.l = z at *
    have hd3 : ((z : Int) != 0) = true := by simp; omega
    have HZ := Lib.hid hz
    clear HWN HWS hz Hr HSO HRO BR HTS HTK HWR HOF
    go_wp2_with fail
    refine (HRD.out wr (HG.out.up HB.out) (HAT.out.up HB.out)).mono ?_
    rintro e w1 ⟨rfl, hb9⟩
    replace HB := hbu HB hb9
    replace HZS := sz HZS hb9.size
    clear hb9
    obtain ⟨w2, hq2, hb9, hz9, Hbs⟩ := new1 w1 64 [.pointer none, .slice none 0 0]
    replace HB := hbu HB hb9
    replace HZS := sz HZS hz9.out
    clear hb9 hz9
    have bs_ := Hbs.out.c2
    have f3_bs := Hbs.out.frozen
    have o3_bs_ := bs_; clear bs_
    obtain ⟨w3, hq3, hg9, hz9, hx9⟩ := put2 Hbs 0 (.pointer none) 1 (.slice none 0 0) [.pointer none, .slice none 0 0] rfl
    replace HB := hbg HB hg9 (by have g0 := HZS.out; omega)
    replace HZS := sz HZS hz9.out
    replace Hbs := hx9
    clear hx9 hg9 hz9
    have bs_ := Hbs.out.c2
    go_wp2_with fail
    clear hq3 o3_bs_ f3_bs hq2
    go_ret2
    exact ⟨HB.out, by rw [HWZ.out, if_neg HZ.out]; rfl⟩
  ·have hjn' : j = n := by omega
   subst hjn'
   have HTS2 := Lib.hid (show ts.map SetR.s = ss by have h9 := HTS.out; rwa [List.take_of_length_le (by rw [HN.out]; exact Nat.le_refl _)] at h9)
   have HW2 := Lib.hid (show setsE G ss = 0 by have h9 := HWR.out; rw [List.take_of_length_le (by rw [HN.out]; exact Nat.le_refl _)] at h9; rw [HSE.out, h9])
   have HTL := Lib.hid (show ts.length = j by have h9 := congrArg List.length HTS2.out; rwa [List.length_map, HN.out] at h9)
   clear HTS HWR HSE
   go_wp2_with fail
   go_ret2
   exact ⟨HB.out, by rw [if_pos HW2.out]; exact ⟨ts, g, c9, by rw [HTL.out]; rfl, HTS2.out, Hr.out.sl, fun t ht => ⟨(HSO.out t ht).at_, (HSO.out t ht).new⟩, HOF.out, fun x hx => RowO.own_le Hr.out hx⟩⟩
theorem sRAll_any (G : GP) (ok : G.Ok) (gb : Nat) (ss : List SetA) (al : Option Addr) (cl : Nat) (w : World) (hG : GroupAt w gb G) (hC : SetsAt w al ss) :
  Calls Tryz.prog 51 #[.pointer (some ⟨gb, 0, none⟩), .slice al ss.length cl] w (ReadSets G gb ss w) := by
 by_cases h1 : 16 < ss.length
 ·have e : setsE G ss = 3 := by unfold setsE; rw [if_pos h1]
  exact (sRAll_long gb _ h1 al cl w).mono fun _ _ h => ⟨h.2, by rw [e, if_neg (by decide)]; exact h.1⟩
 ·by_cases h2 : ss.length = 0
  ·have e : setsE G ss = 2 := by unfold setsE; rw [if_neg h1, if_pos h2]
   rw [h2]
   exact (sRAll_none gb al cl w).mono fun _ _ h => ⟨h.2, by rw [e, if_neg (by decide)]; exact h.1⟩
  ·exact sRAll_body G ok gb ss _ rfl (by omega) (by omega) al cl w hG hC
theorem stalk_any (G : GP) (gb : Nat) (label : ByteArray) (hlb : label.size < 140737488355328) (hk : G.kind < 256) (ts : List SetR) (n : Nat) (hn : ts.length = n) (h16 : n ≤ 16) (sh : ∀ t ∈ ts, t.rs.length ≤ 64 ∧ ∀ r ∈ t.rs, SayOk r.k ∧ CapOk r.k) (al : Option Addr) (cl : Nat) (w : World) (hG : GroupAt w gb G) (hS : Sl w w.heap.size al (ts.flatMap (SetR.cells gb))) (hT : ∀ t ∈ ts, SetAt G w t.a t.rs) (hC : ∀ t ∈ ts, ∀ r ∈ t.rs, r.Src w) :
  Calls Tryz.prog 52 #[.pointer (some ⟨gb, 0, none⟩), .string label, .slice al n cl] w fun e w' => ∃ tb, e = .returned (.pointer (some ⟨tb, 0, none⟩)) ∧ w.heap.size ≤ tb ∧ TalkAt w' tb (saySs (beginT eitherB label (G.kind : Int)) (ts.map fun t => t.rs.map ClaimR.k)) ∧ Below w.heap.size w w' := by
 have HF1 := Lib.hid (fun w hG => sbegin_any G gb eitherB label (by decide) hlb hk w hG)
 have HF2 := Lib.hid (fun gv tb s rs hz' h64 sh al cl w0 w hb htb hT hS hC => say_any G gv tb s rs rs.length rfl h64 hz' sh al cl w0 w hb htb hT hS hC)
 have HZ1 := Lib.hid (show (beginT eitherB label (G.kind : Int)).size = 32 from say1_size _ _ _)
 have HTK := Lib.hid (fun j (h : j < ts.length) => by
  have h1 := saySs_take (beginT eitherB label (G.kind : Int)) (ts.map fun t => t.rs.map ClaimR.k) j (by rw [List.length_map]; exact h)
  rw [List.getElem_map, ← List.map_take, ← List.map_take] at h1
  exact h1)
 unfold sayS at HTK
 have HZ2 := Lib.hid sayCl_size
 have HF := Lib.hid (fun tb s lb x hs hl hx w h => (show Calls Tryz.prog 97 #[.pointer (some ⟨tb, 0, none⟩), .string lb, .string x] w fun e w' => e = .returned (.tuple #[]) ∧ TalkAt w' tb (say1 s lb x) ∧ Kept (fun q => q = tb) w w' from Say_any tb s lb x hs hl hx w h))
 have HS1 := Lib.hid say1_size
 have HT0 := Lib.hid (show saySs (beginT eitherB label (G.kind : Int)) ([].map fun (t : SetR) => t.rs.map ClaimR.k) = beginT eitherB label (G.kind : Int) from rfl)
 generalize saySs (beginT eitherB label (G.kind : Int)) = SS at *
 generalize beginT eitherB label (G.kind : Int) = BT at *
 generalize sayCl = SC at *
 generalize say1 = S1 at *
 have HG := Lib.hid hG
 have HN := Lib.hid hn
 have HSH := Lib.hid sh
 have HS := Lib.hid hS
 have HT := Lib.hid hT
 have HC := Lib.hid hC
 clear hn sh hS hT hC hG hlb hk
 go_enter Tryz.func52, Tryz.ntmps52
 go_wp2_with fail
 refine (HF1.out w HG.out).mono ?_
 rintro e wa ⟨tb, rfl, hge, ht, hb⟩
 have HGE := Lib.hid hge
 have Ht := Lib.hid (show Bx wa tb 192 [.string BT] from ht)
 have HB := Lib.hid hb
 clear hge ht hb
 go_wp2_with fail
 go_loopw [15] (fun i wr => ∃ (j : Nat) (y : ByteArray), j ≤ n ∧ i = .int .i64 (j : Int) ∧ Hid (y.size = 32) ∧ Hid (y = SS ((ts.take j).map fun t => t.rs.map ClaimR.k)) ∧ Hid (Bx wr tb 192 [.string y]) ∧ Hid (Below w.heap.size w wr)) (fun i _ => n - (intOf i).toNat)
 case atStart => exact ⟨0, BT, Nat.zero_le _, rfl, HZ1, HT0.out.symm, Ht, HB⟩
 case round =>
  clear Ht HB
  obtain ⟨j, y, hj, rfl, HY, HYS, Ht, HB⟩ := hrel
  by_cases hjn : j < n
  ·have hjl : j < ts.length := by rw [HN.out]; exact hjn
   obtain ⟨bl, ol, rfl, hbl0, hc⟩ := (HS.out.up HB.out).elem (SetR.cells_len gb) (by omega) j hjl
   have hc_0 := hc 0 _ rfl
   rw [Nat.add_zero] at hc_0
   have hc_1 := hc 1 _ rfl
   clear hc
   have HST := Lib.hid (HT.out _ (List.getElem_mem hjl))
   have HSR := Lib.hid (HC.out _ (List.getElem_mem hjl))
   have hsh := HSH.out _ (List.getElem_mem hjl)
   have HTJ := Lib.hid (HTK.out j hjl)
   generalize ts[j] = t9 at *
   have HL64 := Lib.hid hsh.1
   have HSY := Lib.hid hsh.2
   rw [← HYS.out, List.length_map] at HTJ
   clear hsh HYS
   generalize t9.a = ta at *
   generalize t9.c = tc at *
   generalize t9.rs = rs at *
   obtain ⟨m, hm⟩ : ∃ m, rs.length = m := ⟨_, rfl⟩
   have HF3 := Lib.hid (fun s hz => HF2.out (.pointer (some ⟨gb, 0, none⟩)) tb s rs hz HL64.out HSY.out)
   rw [hm] at hc_1 HTJ HL64 HF3
   unfold kindS at HTJ
   have hm0 : (0 : Int) ≤ (m : Int) := by omega
   have hm1 : (m : Int) < 256 := by have := HL64.out; omega
   have HTL := Lib.hid Ht.out.lt
   have HM := Lib.hid hm
   clear hm HF2
   have HZS := HTL
   replace HZS := sz HZS HGE.out
   have t_ := Ht.out.c1
   have BL := Lib.hid (Below.refl wr.heap.size wr)
   have o1_t_ := t_; clear t_
   obtain ⟨w1, hq1, hb9, hz9, Hbs⟩ := new1 wr 64 [.pointer (some ⟨gb, 0, none⟩), .slice ta m tc]
   replace Ht := Lib.hid (Ht.out.up hb9)
   replace BL := hbu BL hb9
   replace HB := hbu HB hb9
   replace HZS := sz HZS hz9.out
   clear hb9 hz9
   have t_ := Ht.out.c1
   have bs_ := Hbs.out.c2
   have o2_t_ := t_; clear t_
   have o2_bs_ := bs_; clear bs_
   obtain ⟨w2, hq2, hb9, hz9, Hr⟩ := new1 w1 5 [.int .u8 (m : Int)]
   replace Ht := Lib.hid (Ht.out.up hb9)
   replace Hbs := Lib.hid (Hbs.out.up hb9)
   replace BL := hbu BL hb9
   replace HB := hbu HB hb9
   replace HZS := sz HZS hz9.out
   clear hb9 hz9
   have t_ := Ht.out.c1
   have bs_ := Hbs.out.c2
   have r_ := Hr.out.c1
   have hcv := run_convert_bytes_arg (P := Tryz.prog) w2 150 5 Tryz.underlying150 Tryz.underlying5 w1.heap.size 0 1 1 [(m : Int)] rfl (fun i hi => by
    obtain rfl : i = 0 := by omega
    exact Hr.out.cell (i := 0) rfl) 9 Tryz.underlying9
   go_wp2_with fail
   clear hq2 o2_bs_ o2_t_ hq1 o1_t_
   refine (HF.out tb y setB ⟨#[UInt8.ofNat ((m : Nat) : Int).toNat]⟩ (by have := HY.out; omega) (by decide) (show (1 : Nat) < 140737488355328 by decide) w2 Ht.out).mono ?_
   rintro e wb ⟨rfl, ht, hk⟩
   clear r_ Hr BL hcv
   have HK1 := Lib.hid hk
   have Ht1 := Lib.hid (show Bx wb tb 192 [.string (S1 y setB ⟨#[UInt8.ofNat ((m : Nat) : Int).toNat]⟩)] from ht)
   clear ht hk
   have hg9 := HK1.out
   clear t_ bs_ Ht
   replace Hbs := Lib.hid (Hbs.out.keptP hg9 (show ¬ (_ = tb) by have g0 := HZS.out; omega))
   replace HB := Lib.hid (Below.keptP HB.out hg9 (by have g0 := HZS.out; omega) (fun q9 h9 => (show w.heap.size ≤ _ by subst h9; have g0 := HZS.out; omega)))
   replace HZS := sz HZS (show w2.heap.size ≤ wb.heap.size from hg9.size)
   clear hg9
   have bs_ := Hbs.out.c2
   have Ht := Ht1
   clear Ht1
   have t_ := Ht.out.c1
   go_wp2_with fail
   refine (HF3.out (S1 y setB ⟨#[UInt8.ofNat ((m : Nat) : Int).toNat]⟩) (HS1.out _ _ _) ta tc w wb HB.out HGE.out Ht.out HST.out HSR.out).mono ?_
   rintro e wc ⟨rfl, ht, hk⟩
   have HK2 := Lib.hid hk
   have Ht1 := Lib.hid (show Bx wc tb 192 [.string (SC (S1 y setB ⟨#[UInt8.ofNat ((m : Nat) : Int).toNat]⟩) (rs.map ClaimR.k))] from ht)
   clear ht hk
   have hg9 := HK2.out
   clear bs_ t_ Ht
   replace Hbs := Lib.hid (Hbs.out.keptP hg9 (show ¬ (_ = tb) by have g0 := HZS.out; omega))
   replace HB := Lib.hid (Below.keptP HB.out hg9 (by have g0 := HZS.out; omega) (fun q9 h9 => (show w.heap.size ≤ _ by subst h9; have g0 := HZS.out; omega)))
   replace HZS := sz HZS (show wb.heap.size ≤ wc.heap.size from hg9.size)
   clear hg9
   have bs_ := Hbs.out.c2
   have Ht := Ht1
   clear Ht1
   go_wp2_with fail
   exact ⟨⟨j + 1, _, by omega, by go_num, Lib.hid (HZ2.out _ _ (HS1.out _ _ _)), Lib.hid HTJ.out.symm, Ht, HB⟩, by simp [intOf]; omega⟩
  ·have hj' : j = n := by omega
   subst hj'
   rw [List.take_of_length_le (by rw [HN.out]; exact Nat.le_refl _)] at HYS
   go_wp2_with fail
   go_ret
   exact ⟨tb, rfl, HGE.out, by rw [← HYS.out]; exact Ht.out, HB.out⟩
end Go.Proofs.YtdlnnkbigeiilaaGreat
namespace Go.Proofs.YtdlnnkbigeiilaaGreat
open Go.RowKit
def vanR (G : GP) (ls : List (List ClaimA)) (cs : List ByteArray) (rs : List (List ByteArray)) (i : Nat) : List (List ByteArray) := eachA G (valB G (G.q.m - numOf (cs.getD i ⟨#[]⟩)) (ls.getD i []) (rs.getD i [])) (lens (ls.getD i [])) (ls.getD i []).length
def vanOk1 (G : GP) (ls : List (List ClaimA)) (cs : List ByteArray) (rs : List (List ByteArray)) (i : Nat) : Bool := isSc G.q.m G.size (cs.getD i ⟨#[]⟩) && decide (scE G (ls.getD i []).length (rs.getD i []) = 0)
def vanOk (G : GP) (ls : List (List ClaimA)) (cs : List ByteArray) (rs : List (List ByteArray)) (j : Nat) : Bool := (List.range j).all (vanOk1 G ls cs rs)
def vanT (G : GP) (ls : List (List ClaimA)) (cs : List ByteArray) (rs : List (List ByteArray)) (t : ByteArray) : Nat → ByteArray
 | 0 => t
 | j + 1 => sayFi (vanT G ls cs rs t j) (vanR G ls cs rs j)
def vanS (cs : List ByteArray) : Nat → Nat
 | 0 => 0
 | j + 1 => vanS cs j + numOf (cs.getD j ⟨#[]⟩)
theorem vanT_size (G : GP) (ls : List (List ClaimA)) (cs : List ByteArray) (rs : List (List ByteArray)) (t : ByteArray) (h : t.size = 32) : ∀ j, (vanT G ls cs rs t j).size = 32
 | 0 => h
 | j + 1 => sayFi_size _ _ (vanT_size G ls cs rs t h j)
theorem vanOk_snoc {G : GP} {ls : List (List ClaimA)} {cs : List ByteArray} {rs : List (List ByteArray)} {j : Nat} (h : vanOk G ls cs rs j = true) (h1 : vanOk1 G ls cs rs j = true) : vanOk G ls cs rs (j + 1) = true := by
 unfold vanOk at h ⊢
 rw [List.range_succ, List.all_append, h, List.all_cons, h1]
 rfl
theorem vanOk_not {G : GP} {ls : List (List ClaimA)} {cs : List ByteArray} {rs : List (List ByteArray)} {j n : Nat} (hj : j < n) (h1 : vanOk1 G ls cs rs j = false) : vanOk G ls cs rs n = false := by
 unfold vanOk
 rw [List.all_eq_false]
 exact ⟨j, List.mem_range.2 hj, by rw [h1]; simp⟩
def vanB (k : Int) (label : ByteArray) (ls : List (List ClaimA)) : ByteArray := saySs (beginT eitherB label k) ls
def vanK (k : Int) (label : ByteArray) (ss : List SetA) (cs : List ByteArray) (rs : List (List ByteArray)) : Bool :=
 decide (1 ≤ k ∧ k ≤ 3) && (decide (setsE (grp k.toNat) ss = 0) && (decide (cs.length = ss.length) && (decide (rs.length = ss.length) && (vanOk (grp k.toNat) (ss.map SetA.l) cs rs ss.length && decide (mont (grp k.toNat).q.m (chN (vanT (grp k.toNat) (ss.map SetA.l) cs rs (vanB k label (ss.map SetA.l)) ss.length) challengeB) = mont (grp k.toNat).q.m (vanS cs ss.length))))))
end Go.Proofs.YtdlnnkbigeiilaaGreat
namespace Go.Proofs.YtdlnnkbigeiilaaGreat
open Go.RowKit
section
variable {G : GP} {aq ap : Option Addr} {cq cp : Nat}
theorem rIsSc_b (ok : G.Ok) (s : ByteArray) (b : Bool) (hb : isSc G.q.m G.size s = b) (w : World) (hG : RG w G aq ap) :
  Calls Tryz.prog 58 #[.agg #[.int .i64 (G.size : Int), .slice aq (dl G.q.m) cq, .slice ap (dl G.p.m) cp], .string s] w (Gives (.bool b) w) := by
 subst hb
 exact rIsSc ok s w hG
theorem rIsEl_b (ok : G.Ok) (s : ByteArray) (b : Bool) (hb : isEl G.q.m G.size s = b) (w : World) (hG : RG w G aq ap) :
  Calls Tryz.prog 125 #[.agg #[.int .i64 (G.size : Int), .slice aq (dl G.q.m) cq, .slice ap (dl G.p.m) cp], .string s] w (Gives (.bool b) w) := by
 subst hb
 exact rIsEl ok s w hG
theorem rWrongSc (ok : G.Ok) (n : Nat) (l : List ByteArray) (al : Option Addr) (cl : Nat) (hlen : l.length ≤ 8796093022207) (w : World) (hG : RG w G aq ap) (hS : Sl w w.heap.size al (l.map Value.string)) :
  Calls Tryz.prog 59 #[.agg #[.int .i64 (G.size : Int), .slice aq (dl G.q.m) cq, .slice ap (dl G.p.m) cp], .int .i64 (n : Int), .slice al l.length cl] w (Gives (.int .i64 (scE G n l : Int)) w) := by
 have OK := Lib.hid ok
 have HG := Lib.hid hG
 have HS := Lib.hid hS
 clear ok hG hS
 obtain ⟨z, hz⟩ : ∃ z, scE G n l = z := ⟨_, rfl⟩
 have hzz : z = if l.length = n then if l.all (isSc G.q.m G.size) = true then 0 else 6 else 2 := hz.symm
 rw [hz]
 clear hz
 unfold Gives
 by_cases h1 : l.length = n
 ·have hd : ((l.length : Int) != (n : Int)) = false := by simp; omega
  rw [if_pos h1] at hzz
  have HZZ := Lib.hid hzz
  clear hzz h1
  go_enter Tryz.func59, Tryz.ntmps59
  go_wp2_with fail
  obtain ⟨w1, hq1, hb9, hz9, Hbg⟩ := new1 w 86 [.int .i64 (G.size : Int), .slice aq (dl G.q.m) cq, .slice ap (dl G.p.m) cp]
  rw [hq1]
  clear hq1
  have HB := Lib.hid hb9
  have HZS := hz9
  clear hb9 hz9
  have bg_ := Hbg.out.c3
  go_wp2_with fail
  go_loopw [15] (fun i wr => ∃ j : Nat, j ≤ l.length ∧ i = .int .i64 j ∧ Hid (Below w1.heap.size w1 wr) ∧ Hid ((l.take j).all (isSc G.q.m G.size) = true)) (fun i _ => l.length - (intOf i).toNat)
  case atStart => exact ⟨0, Nat.zero_le _, rfl, Below.refl _ _, rfl⟩
  case round =>
   obtain ⟨j, hj, rfl, HL9, HAL⟩ := hrel
   have hb9 := HL9.out
   clear HL9
   have BL := Lib.hid (Below.refl w1.heap.size w1)
   clear bg_
   replace Hbg := Lib.hid (Hbg.out.up hb9)
   replace BL := hbu BL hb9
   replace HB := hbu HB hb9
   replace HZS := sz HZS hb9.size
   clear hb9
   have bg_ := Hbg.out.c3
   by_cases hjl : j < l.length
   ·obtain ⟨bl, ol, rfl, hbl, hc⟩ := (HS.out.up HB.out).at j (by simpa using hjl)
    rw [List.getElem_map] at hc
    obtain ⟨bj, hbj⟩ : ∃ x, isSc G.q.m G.size l[j] = x := ⟨_, rfl⟩
    have HBJ := Lib.hid hbj
    clear hbj
    go_wp2_with fail
    refine (rIsSc_b OK.out l[j] bj HBJ.out wr (HG.out.up HB.out)).mono ?_
    rintro e w2 ⟨rfl, hb9⟩
    clear bg_
    replace Hbg := Lib.hid (Hbg.out.up hb9)
    replace BL := hbu BL hb9
    replace HB := hbu HB hb9
    replace HZS := sz HZS hb9.size
    clear hb9
    have bg_ := Hbg.out.c3
    cases bj
    ·go_wp2_with fail
     go_ret
     exact ⟨by rw [HZZ.out, if_neg (by rw [all_not hjl HBJ.out]; decide)]; rfl, HB.out⟩
    ·go_wp2_with fail
     go_roundw
     case rel => exact ⟨j + 1, by omega, by go_num, BL, all_snoc hjl HAL.out HBJ.out⟩
     case measure => simp [intOf]; omega
   ·have hjn : j = l.length := by omega
    subst hjn
    go_wp2_with fail
    go_ret
    exact ⟨by rw [HZZ.out, if_pos (all_take_true HAL.out)]; rfl, HB.out⟩
 ·have hd : ((l.length : Int) != (n : Int)) = true := by simp; omega
  obtain rfl : z = 2 := by rw [hzz, if_neg h1]
  clear hzz h1
  go_enter Tryz.func59, Tryz.ntmps59
  go_wp2_with fail
  obtain ⟨w1, hq1, hb9, hz9, Hbg⟩ := new1 w 86 [.int .i64 (G.size : Int), .slice aq (dl G.q.m) cq, .slice ap (dl G.p.m) cp]
  rw [hq1]
  clear hq1
  have HB := Lib.hid hb9
  have HZS := hz9
  clear hb9 hz9
  have bg_ := Hbg.out.c3
  go_wp2_with fail
  go_ret
  exact ⟨rfl, HB.out⟩
theorem rPower5 (ok : G.Ok) (b : ByteArray) (hb : b.size ≤ 32) {n : Nat} {an : Option Addr} {cn : Nat} (hn : dl n ≤ 65536) (w : World) (hG : RG w G aq ap) (hN : NumAt w an n) :
  Calls Tryz.prog 117 #[.agg #[.int .i64 (G.size : Int), .slice aq (dl G.q.m) cq, .slice ap (dl G.p.m) cp], .string b, .slice an (dl n) cn] w fun e w' => NumR w e w' (lowN G (numOf b ^ n)) := by
 have OK := Lib.hid ok
 have HG := Lib.hid hG
 have HN := Lib.hid hN
 clear ok hG hN
 go_enter Tryz.func117, Tryz.ntmps117
 go_wp2_with fail
 obtain ⟨w1, hq1, hb9, hz9, Hbg⟩ := new1 w 86 [.int .i64 (G.size : Int), .slice aq (dl G.q.m) cq, .slice ap (dl G.p.m) cp]
 rw [hq1]
 clear hq1
 have HB := Lib.hid hb9
 have HZS := hz9
 clear hb9 hz9
 have bg_ := Hbg.out.c3
 go_wp2_with fail
 have HT := Lib.hid (show Below w1.heap.size w1 w1.drew from (Below.refl _ _).drew)
 have hl_bg := Hbg.out.lt
 refine wp_region_tree (fun wq9 => ∃ E : Over w1, wq9 = E.w) ((.qs [0, 1, 3] (.a 2 (.a 4 (.qs [5] .done))))) (by kernel_rfl) (by kernel_rfl) (fun _ _ d _ _ h => by cases d <;> exact h) ⟨⟨_, HT.out⟩, rfl⟩ ?_
 have hov_bg := fun (E : Over w1) o => E.cell (b := w.heap.size) o hl_bg
 simp only [Tree.qs]
 repeat (refine tree_q rfl rfl ?_; go_big_quiet_step (fail); refine wpQuiet_nil ?_)
 refine tree_a rfl (fun K hK => ?_)
 go_simp
 refine (refRead_any b (by omega) _).mono ?_
 rintro e w2 ⟨a4, c4, rfl, hn9, hb9⟩
 replace HT := Lib.hid (below_up HT.out hb9)
 replace HZS := sz HZS (show w1.heap.size ≤ w2.heap.size from HT.out.size)
 clear hb9
 have HN4 := Lib.hid hn9
 clear hn9
 refine hK _ _ ⟨⟨⟨w2, HT.out⟩, rfl⟩, ?_⟩
 clear hK K
 repeat (refine tree_q rfl rfl ?_; go_big_quiet_step (fail); refine wpQuiet_nil ?_)
 refine tree_a rfl (fun K hK => ?_)
 go_simp
 refine (rPow OK.out (numOf_16 b hb) hn _ (HG.out.up (below_up HB.out HT.out)) HN4.out (HN.out.up (below_up HB.out HT.out))).mono ?_
 rintro e w3 ⟨a5, c5, rfl, hn9, hb9⟩
 replace HN4 := Lib.hid (HN4.out.up hb9)
 replace HT := Lib.hid (below_up HT.out hb9)
 replace HZS := sz HZS (show w1.heap.size ≤ w3.heap.size from HT.out.size)
 clear hb9
 have HN5 := Lib.hid hn9
 clear hn9
 refine hK _ _ ⟨⟨⟨w3, HT.out⟩, rfl⟩, ?_⟩
 clear hK K
 repeat (refine tree_q rfl rfl ?_; go_big_quiet_step (fail); refine wpQuiet_nil ?_)
 refine tree_end ?_
 clear hov_bg hl_bg bg_
 replace Hbg := Lib.hid (Hbg.out.up HT.out)
 replace HB := hbu HB HT.out
 replace HZS := sz HZS HT.out.size
 clear HT
 have bg_ := Hbg.out.c3
 go_wp2_with fail
 go_ret
 exact ⟨a5, c5, rfl, HN5.out, HB.out⟩
end
theorem size_n0 (k : Nat) (h1 : 1 ≤ k) (h3 : k ≤ 3) : (((grp k).size : Int) == 0) = false := by
 obtain rfl | rfl | rfl : k = 1 ∨ k = 2 ∨ k = 3 := by omega
 all_goals rfl
theorem size_gt0 (k : Nat) (h1 : 1 ≤ k) (h3 : k ≤ 3) : decide (((grp k).size : Int) > 0) = true := by
 obtain rfl | rfl | rfl : k = 1 ∨ k = 2 ∨ k = 3 := by omega
 all_goals rfl
theorem sc_len {G : GP} (ok : G.Ok) {s : ByteArray} (h : isSc G.q.m G.size s = true) : s.size ≤ 32 := by rw [isSc_size h]; exact ok.size_le
theorem el_len {G : GP} (ok : G.Ok) {s : ByteArray} (h : isEl G.q.m G.size s = true) : s.size ≤ 32 := by rw [isEl_size h]; exact ok.size_le
def subQ (G : GP) (a b : Nat) : Nat := (a + (G.q.m - b)) % G.q.m
section
variable {G : GP} {aq ap : Option Addr} {cq cp : Nat}
theorem subQ_lt (ok : G.Ok) (a b : Nat) : subQ G a b < G.q.m := Nat.mod_lt _ ok.q.pos
theorem q_16 (ok : G.Ok) {x : Nat} (h : x < G.q.m) : x < DD ^ 16 := Nat.lt_trans h ok.q.lt4
theorem rSubQ (ok : G.Ok) {a b : Nat} {aa ab : Option Addr} {ca cb : Nat} (ha : a < DD ^ 16) (hb : b ≤ G.q.m) (w : World) (hG : RG w G aq ap) (hA : NumAt w aa a) (hB : NumAt w ab b) :
  Calls Tryz.prog 77 #[.agg #[.int .i64 (G.size : Int), .slice aq (dl G.q.m) cq, .slice ap (dl G.p.m) cp], .slice aa (dl a) ca, .slice ab (dl b) cb] w fun e w' => NumR w e w' (subQ G a b) := rSub ok ha hb w hG hA hB
end
end Go.Proofs.YtdlnnkbigeiilaaGreat
namespace Go.Proofs.YtdlnnkbigeiilaaGreat
open Go.RowKit
theorem w_long {G : GP} {l : List ClaimA} {z : Nat} (hz : wrongE G l = z) (h : 64 < l.length ∨ l.any cLong = true) : z = 3 := by
 have hs : shapeE l = 3 := by
  unfold shapeE
  rw [if_pos]
  rcases h with h | h
  ·rw [decide_eq_true h]; rfl
  ·rw [h, Bool.or_true]
 rw [← hz]
 unfold wrongE
 rw [hs]
 rfl
theorem w_form {G : GP} {l : List ClaimA} {z : Nat} (hz : wrongE G l = z) (h1 : ¬ 64 < l.length) (h2 : l.any cLong = false) (h : l.length = 0 ∨ l.any cForm = true) : z = 2 := by
 have hs : shapeE l = 2 := by
  unfold shapeE
  rw [if_neg (by rw [decide_eq_false h1, h2]; decide), if_pos]
  rcases h with h | h
  ·rw [decide_eq_true h]; rfl
  ·rw [h, Bool.or_true]
 rw [← hz]
 unfold wrongE
 rw [hs]
 rfl
theorem w_elem {G : GP} {l : List ClaimA} {z : Nat} (hz : wrongE G l = z) (h1 : ¬ 64 < l.length) (h2 : l.any cLong = false) (h3 : ¬ l.length = 0) (h4 : l.any cForm = false) : z = if l.all (cElems G) = true then 0 else 7 := by
 have hs : shapeE l = 0 := by
  unfold shapeE
  rw [if_neg (by rw [decide_eq_false h1, h2]; decide), if_neg (by rw [decide_eq_false h3, h4]; decide)]
 rw [← hz]
 unfold wrongE
 rw [hs]
 rfl
theorem any_take_false {α : Type} {f : α → Bool} {l : List α} {n : Nat} (hl : l.length = n) (h : (l.take n).any f = false) : l.any f = false := by rwa [List.take_of_length_le (by omega)] at h
theorem any_one {α : Type} {f : α → Bool} {l : List α} (h : l.any f = false) {j : Nat} (hj : j < l.length) : f l[j] = false := by
 have h9 := List.any_eq_false.1 h _ (List.getElem_mem hj)
 simpa using h9
section
variable {G : GP} {aq ap : Option Addr} {cq cp : Nat}
theorem rWrong (ok : G.Ok) (l : List ClaimA) (n : Nat) (hn : l.length = n) (z : Nat) (hz : wrongE G l = z) (al : Option Addr) (cl : Nat) (w : World) (hG : RG w G aq ap) (hC : ClaimsAt w al l) :
  Calls Tryz.prog 70 #[.agg #[.int .i64 (G.size : Int), .slice aq (dl G.q.m) cq, .slice ap (dl G.p.m) cp], .slice al n cl] w (Gives (.int .i64 (z : Int)) w) := by
 have OK := Lib.hid ok
 have HG := Lib.hid hG
 have HC := Lib.hid hC
 have HN := Lib.hid hn
 have HZ := Lib.hid hz
 clear ok hG hC hn hz
 unfold Gives
 by_cases h64 : 64 < n
 ·have hd : decide ((n : Int) > 64) = true := by simp; omega
  obtain rfl : z = 3 := w_long HZ.out (Or.inl (by rw [HN.out]; exact h64))
  clear h64
  go_enter Tryz.func70, Tryz.ntmps70
  go_wp2_with fail
  obtain ⟨w1, hq1, hb9, hz9, Hbg⟩ := new1 w 86 [.int .i64 (G.size : Int), .slice aq (dl G.q.m) cq, .slice ap (dl G.p.m) cp]
  rw [hq1]
  clear hq1
  have HB := Lib.hid hb9
  have HZS := hz9
  clear hb9 hz9
  have bg_ := Hbg.out.c3
  go_wp2_with fail
  go_ret
  exact ⟨rfl, HB.out⟩
 have hd : decide ((n : Int) > 64) = false := by simp; omega
 have H64 := Lib.hid (show ¬ 64 < l.length by rw [HN.out]; exact h64)
 go_enter Tryz.func70, Tryz.ntmps70
 go_wp2_with fail
 obtain ⟨w1, hq1, hb9, hz9, Hbg⟩ := new1 w 86 [.int .i64 (G.size : Int), .slice aq (dl G.q.m) cq, .slice ap (dl G.p.m) cp]
 rw [hq1]
 clear hq1
 have HB := Lib.hid hb9
 have HZS := hz9
 clear hb9 hz9
 have bg_ := Hbg.out.c3
 have BL := Lib.hid (Below.refl w1.heap.size w1)
 go_wp2_with fail
 go_loopw [17] (fun i wr => ∃ j : Nat, j ≤ n ∧ i = .int .i64 j ∧ Hid (Below w1.heap.size w1 wr) ∧ Hid ((l.take j).any cLong = false)) (fun i _ => n - (intOf i).toNat)
 case atStart => exact ⟨0, Nat.zero_le _, rfl, BL, rfl⟩
 case round =>
  obtain ⟨j, hj, rfl, HL9, HAL⟩ := hrel
  have hb9 := HL9.out
  clear HL9 bg_
  replace Hbg := Lib.hid (Hbg.out.up hb9)
  replace BL := hbu BL hb9
  replace HB := hbu HB hb9
  replace HZS := sz HZS hb9.size
  clear hb9
  have bg_ := Hbg.out.c3
  by_cases hjn : j < n
  ·have hjl : j < l.length := by rw [HN.out]; exact hjn
   obtain ⟨bl, ol, rfl, hbl0, hc⟩ := (HC.out.s.up HB.out).elem ClaimA.cells_len (by omega) j hjl
   have hc_0 := hc 0 _ rfl
   rw [Nat.add_zero] at hc_0
   have hc_1 := hc 1 _ rfl
   clear hc
   have HS1 := Lib.hid (any_snoc (f := cLong) hjl HAL.out)
   have HS2 := Lib.hid (any_take_true (f := cLong) hjl)
   have hcl : cLong l[j] = (decide (8 < l[j].bases.length) || decide (8 < l[j].images.length)) := rfl
   generalize l[j] = c at *
   generalize c.bases.length = n1 at *
   generalize c.images.length = n2 at *
   by_cases h1 : 8 < n1
   ·obtain rfl : z = 3 := w_long HZ.out (Or.inr (HS2.out (by rw [hcl]; simp [h1])))
    have hd1 : decide ((n1 : Int) > 8) = true := by simp; omega
    clear hcl h1
    have o2_bg_ := bg_; clear bg_
    obtain ⟨w2, hq2, hb9, hz9, Hbc⟩ := new1 wr 50 [.slice c.ab n1 c.cb, .slice c.ai n2 c.ci]
    replace Hbg := Lib.hid (Hbg.out.up hb9)
    replace BL := hbu BL hb9
    replace HB := hbu HB hb9
    replace HZS := sz HZS hz9.out
    clear hb9 hz9
    have bg_ := Hbg.out.c3
    have bc_ := Hbc.out.c2
    go_wp2_with fail
    clear hq2 o2_bg_
    go_ret
    exact ⟨rfl, HB.out⟩
   have hd1 : decide ((n1 : Int) > 8) = false := by simp; omega
   by_cases h2 : 8 < n2
   ·obtain rfl : z = 3 := w_long HZ.out (Or.inr (HS2.out (by rw [hcl]; simp [h2])))
    have hd2 : decide ((n2 : Int) > 8) = true := by simp; omega
    clear hcl h1 h2
    have o2_bg_ := bg_; clear bg_
    obtain ⟨w2, hq2, hb9, hz9, Hbc⟩ := new1 wr 50 [.slice c.ab n1 c.cb, .slice c.ai n2 c.ci]
    replace Hbg := Lib.hid (Hbg.out.up hb9)
    replace BL := hbu BL hb9
    replace HB := hbu HB hb9
    replace HZS := sz HZS hz9.out
    clear hb9 hz9
    have bg_ := Hbg.out.c3
    have bc_ := Hbc.out.c2
    go_wp2_with fail
    clear hq2 o2_bg_
    go_ret
    exact ⟨rfl, HB.out⟩
   have hd2 : decide ((n2 : Int) > 8) = false := by simp; omega
   have HS3 := Lib.hid (HS1.out (by rw [hcl]; simp [h1, h2]))
   clear hcl h1 h2
   have o2_bg_ := bg_; clear bg_
   obtain ⟨w2, hq2, hb9, hz9, Hbc⟩ := new1 wr 50 [.slice c.ab n1 c.cb, .slice c.ai n2 c.ci]
   replace Hbg := Lib.hid (Hbg.out.up hb9)
   replace BL := hbu BL hb9
   replace HB := hbu HB hb9
   replace HZS := sz HZS hz9.out
   clear hb9 hz9
   have bg_ := Hbg.out.c3
   have bc_ := Hbc.out.c2
   go_wp2_with fail
   go_roundw
   case rel => exact ⟨j + 1, by omega, by go_num, BL, HS3.out⟩
   case measure => simp [intOf]; omega
  ·have hjn' : j = n := by omega
   subst hjn'
   have HLG := Lib.hid (any_take_false HN.out HAL.out)
   clear HAL hj hjn
   by_cases h0 : j = 0
   ·obtain rfl : z = 2 := w_form HZ.out H64.out HLG.out (Or.inl (by rw [HN.out]; exact h0))
    have hd0 : ((j : Int) == 0) = true := by simp; omega
    clear h0
    go_wp2_with fail
    go_ret
    exact ⟨rfl, HB.out⟩
   have H0 := Lib.hid (show ¬ l.length = 0 by rw [HN.out]; exact h0)
   have hd0 : ((j : Int) == 0) = false := by simp; omega
   generalize j = n at *
   clear h0
   obtain ⟨wo, rfl⟩ : ∃ wo : World, wo = wr := ⟨_, rfl⟩
   have BM := Lib.hid (Below.refl wo.heap.size wo)
   go_wp2_with fail
   go_loopw [37] (fun i wr => ∃ j : Nat, j ≤ n ∧ i = .int .i64 j ∧ Hid (Below wo.heap.size wo wr) ∧ Hid ((l.take j).any cForm = false)) (fun i _ => n - (intOf i).toNat)
   case atStart => exact ⟨0, Nat.zero_le _, rfl, BM, rfl⟩
   case round =>
    obtain ⟨j, hj, rfl, HL9, HAL⟩ := hrel
    have hb9 := HL9.out
    clear HL9 bg_
    replace Hbg := Lib.hid (Hbg.out.up hb9)
    replace BL := hbu BL hb9
    replace BM := hbu BM hb9
    replace HB := hbu HB hb9
    replace HZS := sz HZS hb9.size
    clear hb9
    have bg_ := Hbg.out.c3
    by_cases hjn : j < n
    ·have hjl : j < l.length := by rw [HN.out]; exact hjn
     obtain ⟨bl, ol, rfl, hbl0, hc⟩ := (HC.out.s.up HB.out).elem ClaimA.cells_len (by omega) j hjl
     have hc_0 := hc 0 _ rfl
     rw [Nat.add_zero] at hc_0
     have hc_1 := hc 1 _ rfl
     clear hc
     have HS1 := Lib.hid (any_snoc (f := cForm) hjl HAL.out)
     have HS2 := Lib.hid (any_take_true (f := cForm) hjl)
     have hcl : cForm l[j] = (decide (l[j].bases.length = 0) || decide (l[j].bases.length ≠ l[j].images.length)) := rfl
     generalize l[j] = c at *
     generalize c.bases.length = n1 at *
     generalize c.images.length = n2 at *
     by_cases h1 : n1 = 0
     ·obtain rfl : z = 2 := w_form HZ.out H64.out HLG.out (Or.inr (HS2.out (by rw [hcl]; simp [h1])))
      have hd1 : ((n1 : Int) == 0) = true := by simp; omega
      clear hcl h1
      have o2_bg_ := bg_; clear bg_
      obtain ⟨w2, hq2, hb9, hz9, Hbc⟩ := new1 wr 50 [.slice c.ab n1 c.cb, .slice c.ai n2 c.ci]
      replace Hbg := Lib.hid (Hbg.out.up hb9)
      replace BL := hbu BL hb9
      replace BM := hbu BM hb9
      replace HB := hbu HB hb9
      replace HZS := sz HZS hz9.out
      clear hb9 hz9
      have bg_ := Hbg.out.c3
      have bc_ := Hbc.out.c2
      go_wp2_with fail
      clear hq2 o2_bg_
      go_ret
      exact ⟨rfl, HB.out⟩
     have hd1 : ((n1 : Int) == 0) = false := by simp; omega
     by_cases h2 : n1 ≠ n2
     ·obtain rfl : z = 2 := w_form HZ.out H64.out HLG.out (Or.inr (HS2.out (by rw [hcl]; simp [h2])))
      have hd2 : ((n1 : Int) != (n2 : Int)) = true := by simp; omega
      clear hcl h1 h2
      have o2_bg_ := bg_; clear bg_
      obtain ⟨w2, hq2, hb9, hz9, Hbc⟩ := new1 wr 50 [.slice c.ab n1 c.cb, .slice c.ai n2 c.ci]
      replace Hbg := Lib.hid (Hbg.out.up hb9)
      replace BL := hbu BL hb9
      replace BM := hbu BM hb9
      replace HB := hbu HB hb9
      replace HZS := sz HZS hz9.out
      clear hb9 hz9
      have bg_ := Hbg.out.c3
      have bc_ := Hbc.out.c2
      go_wp2_with fail
      clear hq2 o2_bg_
      go_ret
      exact ⟨rfl, HB.out⟩
     have hd2 : ((n1 : Int) != (n2 : Int)) = false := by simp; omega
     have HS3 := Lib.hid (HS1.out (by rw [hcl]; simp [h1]; omega))
     clear hcl h1 h2
     have o2_bg_ := bg_; clear bg_
     obtain ⟨w2, hq2, hb9, hz9, Hbc⟩ := new1 wr 50 [.slice c.ab n1 c.cb, .slice c.ai n2 c.ci]
     replace Hbg := Lib.hid (Hbg.out.up hb9)
     replace BL := hbu BL hb9
     replace BM := hbu BM hb9
     replace HB := hbu HB hb9
     replace HZS := sz HZS hz9.out
     clear hb9 hz9
     have bg_ := Hbg.out.c3
     have bc_ := Hbc.out.c2
     go_wp2_with fail
     go_roundw
     case rel => exact ⟨j + 1, by omega, by go_num, BM, HS3.out⟩
     case measure => simp [intOf]; omega
    ·have hjn' : j = n := by omega
     subst hjn'
     have HLF := Lib.hid (any_take_false HN.out HAL.out)
     have HZE := Lib.hid (w_elem HZ.out H64.out HLG.out H0.out HLF.out)
     clear HAL hj hjn
     generalize j = n at *
     obtain ⟨wo2, rfl⟩ : ∃ wo2 : World, wo2 = wr := ⟨_, rfl⟩
     have BN := Lib.hid (Below.refl wo2.heap.size wo2)
     go_wp2_with fail
     go_loopw [57] (fun i wr => ∃ j : Nat, j ≤ n ∧ i = .int .i64 j ∧ Hid (Below wo2.heap.size wo2 wr) ∧ Hid ((l.take j).all (cElems G) = true)) (fun i _ => n - (intOf i).toNat)
     case atStart => exact ⟨0, Nat.zero_le _, rfl, BN, rfl⟩
     case round =>
      obtain ⟨j, hj, rfl, HL9, HAL⟩ := hrel
      have hb9 := HL9.out
      clear HL9 bg_
      replace Hbg := Lib.hid (Hbg.out.up hb9)
      replace BL := hbu BL hb9
      replace BM := hbu BM hb9
      replace BN := hbu BN hb9
      replace HB := hbu HB hb9
      replace HZS := sz HZS hb9.size
      clear hb9
      have bg_ := Hbg.out.c3
      by_cases hjn : j < n
      ·have hjl : j < l.length := by rw [HN.out]; exact hjn
       obtain ⟨bl, ol, rfl, hbl0, hc⟩ := (HC.out.s.up HB.out).elem ClaimA.cells_len (by omega) j hjl
       have hc_0 := hc 0 _ rfl
       rw [Nat.add_zero] at hc_0
       have hc_1 := hc 1 _ rfl
       clear hc
       have HAT := Lib.hid ((HC.out.up HB.out).one j hjl)
       have HFJ := Lib.hid (any_one HLF.out hjl)
       have HLJ := Lib.hid (any_one HLG.out hjl)
       have HSN := Lib.hid (all_snoc (f := cElems G) hjl HAL.out)
       have HNO := Lib.hid (all_not (f := cElems G) hjl)
       generalize l[j] = c at *
       have hlens : c.images.length = c.bases.length ∧ c.bases.length ≤ 8 := by
        have g1 := HFJ.out
        have g2 := HLJ.out
        unfold cForm at g1
        unfold cLong at g2
        simp at g1 g2
        omega
       have HLEN := Lib.hid hlens.1
       have hl8 := hlens.2
       clear hlens
       have HAB := Lib.hid HAT.out.b
       have HAJ := Lib.hid HAT.out.i
       have HSN2 := Lib.hid (show c.bases.all (isEl G.q.m G.size) = true → c.images.all (isEl G.q.m G.size) = true → _ from fun h1 h2 => HSN.out (show (c.bases.all (isEl G.q.m G.size) && c.images.all (isEl G.q.m G.size)) = true by rw [h1, h2]; rfl))
       have HNO2 := Lib.hid (show (c.bases.all (isEl G.q.m G.size) && c.images.all (isEl G.q.m G.size)) = false → _ from HNO.out)
       clear HAT HFJ HLJ HSN HNO
       generalize c.bases = bs at *
       generalize c.images = ims at *
       generalize c.ab = ab at *
       generalize c.ai = ai at *
       generalize c.cb = cb at *
       generalize c.ci = ci at *
       have BR := Lib.hid (Below.refl wr.heap.size wr)
       have o2_bg_ := bg_; clear bg_
       obtain ⟨w2, hq2, hb9, hz9, Hbc⟩ := new1 wr 50 [.slice ab bs.length cb, .slice ai ims.length ci]
       replace Hbg := Lib.hid (Hbg.out.up hb9)
       replace BL := hbu BL hb9
       replace BM := hbu BM hb9
       replace BN := hbu BN hb9
       replace BR := hbu BR hb9
       replace HB := hbu HB hb9
       replace HZS := sz HZS hz9.out
       clear hb9 hz9
       have bg_ := Hbg.out.c3
       have bc_ := Hbc.out.c2
       obtain ⟨wo3, rfl⟩ : ∃ wo3 : World, wo3 = wr := ⟨_, rfl⟩
       have BI := Lib.hid (Below.refl w2.heap.size w2)
       go_wp2_with fail
       clear hq2 o2_bg_
       go_loopw [11] (fun i wr => ∃ t : Nat, t ≤ bs.length ∧ i = .int .i64 t ∧ Hid (Below w2.heap.size w2 wr) ∧ Hid ((bs.take t).all (isEl G.q.m G.size) = true ∧ (ims.take t).all (isEl G.q.m G.size) = true)) (fun i _ => bs.length - (intOf i).toNat)
       case atStart => exact ⟨0, Nat.zero_le _, rfl, BI, ⟨rfl, rfl⟩⟩
       case round =>
        obtain ⟨t, ht, rfl, HL9, HAI⟩ := hrel
        have hb9 := HL9.out
        clear HL9 bg_
        replace Hbg := Lib.hid (Hbg.out.up hb9)
        clear bc_
        replace Hbc := Lib.hid (Hbc.out.up hb9)
        replace BL := hbu BL hb9
        replace BM := hbu BM hb9
        replace BN := hbu BN hb9
        replace BR := hbu BR hb9
        replace BI := hbu BI hb9
        replace HB := hbu HB hb9
        replace HZS := sz HZS hb9.size
        clear hb9
        have bg_ := Hbg.out.c3
        have bc_ := Hbc.out.c2
        by_cases htm : t < bs.length
        ·have hti : t < ims.length := by rw [HLEN.out]; exact htm
         obtain ⟨b1, o1, rfl, hb1, hc1⟩ := (HAB.out.up BR.out).at t (by simpa using htm)
         obtain ⟨b2, o2, rfl, hb2, hc2⟩ := (HAJ.out.up BR.out).at t (by simpa using hti)
         rw [List.getElem_map] at hc1 hc2
         have HT1 := Lib.hid (all_snoc (f := isEl G.q.m G.size) htm HAI.out.1)
         have HT2 := Lib.hid (all_snoc (f := isEl G.q.m G.size) hti HAI.out.2)
         have HT3 := Lib.hid (all_not (f := isEl G.q.m G.size) htm)
         have HT4 := Lib.hid (all_not (f := isEl G.q.m G.size) hti)
         generalize bs[t] = x at *
         generalize ims[t] = y at *
         obtain ⟨q1, hq1⟩ : ∃ q, isEl G.q.m G.size x = q := ⟨_, rfl⟩
         obtain ⟨q2, hq2⟩ : ∃ q, isEl G.q.m G.size y = q := ⟨_, rfl⟩
         have HQ1 := Lib.hid hq1
         have HQ2 := Lib.hid hq2
         clear hq1 hq2
         cases q1
         ·have HW := Lib.hid (HNO2.out (by rw [HT3.out HQ1.out]; rfl))
          obtain rfl : z = 7 := by rw [HZE.out, if_neg (by rw [HW.out]; decide)]
          go_wp2_with fail
          have HT := Lib.hid (show Below wr.heap.size wr wr.drew from (Below.refl _ _).drew)
          have hl_bg := Hbg.out.lt
          have hl_bc := Hbc.out.lt
          refine wp_region_tree (fun wq9 => ∃ E : Over wr, wq9 = E.w) ((.qs [0, 1, 2, 3, 4, 5] (.a 6 (.qs [7, 8, 9, 10, 11, 12, 13, 14] (.a 15 (.qs [16, 17] .done)))))) (by kernel_rfl) (by kernel_rfl) (fun _ _ d _ _ h => by cases d <;> exact h) ⟨⟨_, HT.out⟩, rfl⟩ ?_
          have hov_bg := fun (E : Over wr) o => E.cell (b := w.heap.size) o hl_bg
          have hov_bc := fun (E : Over wr) o => E.cell (b := wo3.heap.size) o hl_bc
          have hov_b1 := fun (E : Over wr) o => E.cell (b := b1) o hb1
          have hov_b2 := fun (E : Over wr) o => E.cell (b := b2) o hb2
          simp only [Tree.qs]
          repeat (refine tree_q rfl rfl ?_; go_big_quiet_step (fail); refine wpQuiet_nil ?_)
          refine tree_a rfl (fun K hK => ?_)
          go_simp
          refine (rIsEl_b OK.out x false HQ1.out _ (HG.out.up (below_up HB.out HT.out))).mono ?_
          rintro e w3 ⟨rfl, hb9⟩
          replace HT := Lib.hid (below_up HT.out hb9)
          replace HZS := sz HZS (show wr.heap.size ≤ w3.heap.size from HT.out.size)
          clear hb9
          refine hK _ _ ⟨⟨⟨w3, HT.out⟩, rfl⟩, ?_⟩
          clear hK K
          repeat (refine tree_q rfl rfl ?_; go_big_quiet_step (fail); refine wpQuiet_nil ?_)
          refine tree_a rfl (fun K hK => ?_)
          go_simp
          refine hK _ _ ⟨⟨⟨_, HT.out⟩, rfl⟩, ?_⟩
          clear hK K
          repeat (refine tree_q rfl rfl ?_; go_big_quiet_step (fail); refine wpQuiet_nil ?_)
          refine tree_end ?_
          clear hov_bg hl_bg hov_bc hl_bc hov_b1 hov_b2 bg_
          replace Hbg := Lib.hid (Hbg.out.up HT.out)
          clear bc_
          replace Hbc := Lib.hid (Hbc.out.up HT.out)
          replace BL := hbu BL HT.out
          replace BM := hbu BM HT.out
          replace BN := hbu BN HT.out
          replace BR := hbu BR HT.out
          replace BI := hbu BI HT.out
          replace HB := hbu HB HT.out
          replace HZS := sz HZS HT.out.size
          clear HT
          have bg_ := Hbg.out.c3
          have bc_ := Hbc.out.c2
          go_wp2_with fail
          go_ret
          exact ⟨rfl, HB.out⟩
         ·go_wp2_with fail
          have HT := Lib.hid (show Below wr.heap.size wr wr.drew from (Below.refl _ _).drew)
          have hl_bg := Hbg.out.lt
          have hl_bc := Hbc.out.lt
          refine wp_region_tree (fun wq9 => ∃ E : Over wr, wq9 = E.w) ((.qs [0, 1, 2, 3, 4, 5] (.a 6 (.qs [7, 8, 9, 10, 11, 12, 13, 14] (.a 15 (.qs [16, 17] .done)))))) (by kernel_rfl) (by kernel_rfl) (fun _ _ d _ _ h => by cases d <;> exact h) ⟨⟨_, HT.out⟩, rfl⟩ ?_
          have hov_bg := fun (E : Over wr) o => E.cell (b := w.heap.size) o hl_bg
          have hov_bc := fun (E : Over wr) o => E.cell (b := wo3.heap.size) o hl_bc
          have hov_b1 := fun (E : Over wr) o => E.cell (b := b1) o hb1
          have hov_b2 := fun (E : Over wr) o => E.cell (b := b2) o hb2
          simp only [Tree.qs]
          repeat (refine tree_q rfl rfl ?_; go_big_quiet_step (fail); refine wpQuiet_nil ?_)
          refine tree_a rfl (fun K hK => ?_)
          go_simp
          refine (rIsEl_b OK.out x true HQ1.out _ (HG.out.up (below_up HB.out HT.out))).mono ?_
          rintro e w3 ⟨rfl, hb9⟩
          replace HT := Lib.hid (below_up HT.out hb9)
          replace HZS := sz HZS (show wr.heap.size ≤ w3.heap.size from HT.out.size)
          clear hb9
          refine hK _ _ ⟨⟨⟨w3, HT.out⟩, rfl⟩, ?_⟩
          clear hK K
          repeat (refine tree_q rfl rfl ?_; go_big_quiet_step (fail); refine wpQuiet_nil ?_)
          refine tree_a rfl (fun K hK => ?_)
          go_simp
          refine (rIsEl_b OK.out y q2 HQ2.out _ (HG.out.up (below_up HB.out HT.out))).mono ?_
          rintro e w4 ⟨rfl, hb9⟩
          replace HT := Lib.hid (below_up HT.out hb9)
          replace HZS := sz HZS (show wr.heap.size ≤ w4.heap.size from HT.out.size)
          clear hb9
          refine hK _ _ ⟨⟨⟨w4, HT.out⟩, rfl⟩, ?_⟩
          clear hK K
          repeat (refine tree_q rfl rfl ?_; go_big_quiet_step (fail); refine wpQuiet_nil ?_)
          refine tree_end ?_
          clear hov_bg hl_bg hov_bc hl_bc hov_b1 hov_b2 bg_
          replace Hbg := Lib.hid (Hbg.out.up HT.out)
          clear bc_
          replace Hbc := Lib.hid (Hbc.out.up HT.out)
          replace BL := hbu BL HT.out
          replace BM := hbu BM HT.out
          replace BN := hbu BN HT.out
          replace BR := hbu BR HT.out
          replace BI := hbu BI HT.out
          replace HB := hbu HB HT.out
          replace HZS := sz HZS HT.out.size
          clear HT
          have bg_ := Hbg.out.c3
          have bc_ := Hbc.out.c2
          cases q2
          ·have HW := Lib.hid (HNO2.out (by rw [HT4.out HQ2.out, Bool.and_false]))
           obtain rfl : z = 7 := by rw [HZE.out, if_neg (by rw [HW.out]; decide)]
           go_wp2_with fail
           go_ret
           exact ⟨rfl, HB.out⟩
          ·go_wp2_with fail
           go_roundw
           case rel => exact ⟨t + 1, by omega, by go_num, BI, ⟨HT1.out HQ1.out, HT2.out HQ2.out⟩⟩
           case measure => simp [intOf]; omega
        ·have htm' : t = bs.length := by omega
         have HHT := Lib.hid (HSN2.out (all_take_true (by rw [← htm']; exact HAI.out.1)) (all_take_true (by rw [HLEN.out, ← htm']; exact HAI.out.2)))
         go_wp2_with fail
         go_roundw
         case rel => exact ⟨j + 1, by omega, by go_num, BN, HHT⟩
         case measure => simp [intOf]; omega
      ·have hjn' : j = n := by omega
       subst hjn'
       obtain rfl : z = 0 := by rw [HZE.out, if_pos (all_take_true (by rw [HN.out]; exact HAL.out))]
       go_wp2_with fail
       go_ret
       exact ⟨rfl, HB.out⟩
end
end Go.Proofs.YtdlnnkbigeiilaaGreat
namespace Go.Proofs.YtdlnnkbigeiilaaGreat
open Go.RowKit
structure RSh (G : GP) (l : List ClaimA) (xs : List ByteArray) : Prop where
 n64 : l.length ≤ 64
 len : ∀ c ∈ l, c.bases.length ≤ 8 ∧ c.images.length = c.bases.length
 bs : ∀ c ∈ l, ∀ s ∈ c.bases, s.size ≤ 32
 ims : ∀ c ∈ l, ∀ s ∈ c.images, s.size ≤ 32
 xl : xs.length = l.length
 xs : ∀ s ∈ xs, s.size ≤ 32
section
variable {G : GP} {aq ap : Option Addr} {cq cp : Nat}
end
end Go.Proofs.YtdlnnkbigeiilaaGreat
namespace Go.Proofs.YtdlnnkbigeiilaaGreat
open Go.RowKit
def RowsOff (v : Value) (N : Nat) (w : World) (ro : List RowA) : Prop := ∀ r ∈ ro, RowA.At w r ∧ (∀ x, r.a = some x → N ≤ x.block ∧ x.block < w.heap.size ∧ v.ownBlock ≠ some x.block) ∧ r.Ok
theorem RowsOff.up {v : Value} {N : Nat} {w w1 : World} {ro : List RowA} (h : RowsOff v N w ro) (hb : Below w.heap.size w w1) : RowsOff v N w1 ro := fun r hr =>
 let ⟨h1, h2, h3⟩ := h r hr
 ⟨RowA.At.up h1 hb, fun x hx => ⟨(h2 x hx).1, Nat.lt_of_lt_of_le (h2 x hx).2.1 hb.size, (h2 x hx).2.2⟩, h3⟩
theorem RowsOff.push {v : Value} {N g n c : Nat} {w w1 : World} {ro : List RowA} {r : RowA} (h : RowsOff v N w ro) (hr : RowsOff v N w [r]) (hk : Kept (fun q => Value.ownBlock v = some q) w w1) (hf : Value.ownBlock v = some g ∨ w.heap.size ≤ g) : RowsOff (.slice (some ⟨g, 0, none⟩) n c) N w1 (ro ++ [r]) := fun s hs => by
 obtain ⟨h1, h2, h3⟩ : RowA.At w s ∧ (∀ x, s.a = some x → N ≤ x.block ∧ x.block < w.heap.size ∧ v.ownBlock ≠ some x.block) ∧ s.Ok := by
  rcases List.mem_append.1 hs with h9 | h9
  ·exact h s h9
  ·exact hr s h9
 refine ⟨Sl.kept h1 hk (fun x hx e => (h2 x hx).2.2 e), fun x hx => ⟨(h2 x hx).1, Nat.lt_of_lt_of_le (h2 x hx).2.1 hk.size, ?_⟩, h3⟩
 intro e
 have e9 : g = x.block := Option.some.inj e
 rcases hf with hf | hf
 ·exact (h2 x hx).2.2 (by rw [hf, e9])
 ·have := (h2 x hx).2.1
  omega
theorem RowsOff.one {v : Value} {N M t c k : Nat} {w : World} {g : Option Addr} {L : List ByteArray} (h : RowO M w 9 1 (.slice g t c) t (L.map Value.string)) (hN : N ≤ M) (hv : ∀ q, v.ownBlock = some q → q < M) (_hk : L.length = k) : RowsOff v N w [⟨g, c, L⟩] := fun s hs => by
 obtain rfl := List.mem_singleton.1 hs
 refine ⟨h.sl, fun x hx => ?_, RowO.rowOk h⟩
 have hx : g = some x := hx
 obtain ⟨b, e⟩ : ∃ b, g = some ⟨b, 0, none⟩ := by
  rcases h.2 with ⟨hv, _⟩ | ⟨g0, cap, cur, hv, _⟩
  ·simp only [Value.slice.injEq] at hv
   rw [hv.1] at hx
   cases hx
  ·simp only [Value.slice.injEq] at hv
   exact ⟨g0, hv.1⟩
 subst e
 cases hx
 have h9 := h.lt b rfl
 refine ⟨Nat.le_trans hN h9.1, h9.2, fun e => ?_⟩
 have := hv _ e
 have h8 : M ≤ b := h9.1
 have : b < M := this
 omega
def rvalB (G : GP) (y : Nat) (l : List ClaimA) (xs : List ByteArray) (i t : Nat) : Nat := lowN G (numOf ((l.getD i claim0).bases.getD t ⟨#[]⟩) ^ numOf (xs.getD i ⟨#[]⟩)) * lowN G (numOf ((l.getD i claim0).images.getD t ⟨#[]⟩) ^ y)
theorem rvalB_eq (G : GP) (y : Nat) {l : List ClaimA} {xs : List ByteArray} {i t : Nat} (hi : i < l.length) (hx : i < xs.length) (ht : t < l[i].bases.length) (hti : t < l[i].images.length) : rvalB G y l xs i t = lowN G (numOf l[i].bases[t] ^ numOf xs[i]) * lowN G (numOf l[i].images[t] ^ y) := by
 unfold rvalB
 simp [List.getD, hi, hx, ht, hti]
section
variable {G : GP} {aq ap : Option Addr} {cq cp : Nat}
theorem rOf0 (w : World) : Calls Tryz.prog 57 #[.int .i64 0] w fun e w' => NumR w e w' 0 := refOf_any 0 (by decide) w
theorem rBackOf (ok : G.Ok) (ch : ByteArray) (y : Nat) (hy : subQ G 0 (numOf ch) = y) (hcs : ch.size ≤ 32) (hcq : numOf ch ≤ G.q.m) (l : List ClaimA) (xs : List ByteArray) (sh : RSh G l xs) (n : Nat) (hn : l.length = n) (al ax : Option Addr) (cl cx : Nat) (w : World) (hG : RG w G aq ap) (hC : ClaimsAt w al l) (hX : Sl w w.heap.size ax (xs.map Value.string)) :
  Calls Tryz.prog 62 #[.agg #[.int .i64 (G.size : Int), .slice aq (dl G.q.m) cq, .slice ap (dl G.p.m) cp], .slice al n cl, .string ch, .slice ax n cx] w (RowsR (eachA G (rvalB G y l xs) (lens l) n) w) := by
 have OK := Lib.hid ok
 have HG := Lib.hid hG
 have HC := Lib.hid hC
 have HX := Lib.hid hX
 have HN := Lib.hid hn
 have HSH := Lib.hid sh
 have HCS := Lib.hid hcs
 have HCQ := Lib.hid hcq
 have HYE := Lib.hid hy
 have HXN := Lib.hid (show xs.length = n by rw [sh.xl, hn])
 have hn64 : n ≤ 64 := by rw [← hn]; exact sh.n64
 have HLG := Lib.hid (show ∀ i (hi : i < l.length), (lens l).getD i 0 = l[i].bases.length from fun i hi => by unfold lens; simp [List.getD, hi])
 clear ok hG hC hX hn sh hcs hcq hy
 go_enter Tryz.func62, Tryz.ntmps62
 go_wp2_with fail
 obtain ⟨w1, hq1, hb9, hz9, Hbg⟩ := new1 w 86 [.int .i64 (G.size : Int), .slice aq (dl G.q.m) cq, .slice ap (dl G.p.m) cp]
 rw [hq1]
 clear hq1
 have HB := Lib.hid hb9
 have HZS := hz9
 clear hb9 hz9
 have bg_ := Hbg.out.c3
 go_wp2_with fail
 have HT := Lib.hid (show Below w1.heap.size w1 w1.drew from (Below.refl _ _).drew)
 have hl_bg := Hbg.out.lt
 refine wp_region_tree (fun wq9 => ∃ E : Over w1, wq9 = E.w) ((.qs [0, 2] (.a 1 (.a 3 (.a 4 (.qs [5] .done)))))) (by kernel_rfl) (by kernel_rfl) (fun _ _ d _ _ h => by cases d <;> exact h) ⟨⟨_, HT.out⟩, rfl⟩ ?_
 have hov_bg := fun (E : Over w1) o => E.cell (b := w.heap.size) o hl_bg
 simp only [Tree.qs]
 repeat (refine tree_q rfl rfl ?_; go_big_quiet_step (fail); refine wpQuiet_nil ?_)
 refine tree_a rfl (fun K hK => ?_)
 go_simp
 refine (rOf0 _).mono ?_
 rintro e w2 ⟨a1, c1, rfl, hn9, hb9⟩
 replace HT := Lib.hid (below_up HT.out hb9)
 replace HZS := sz HZS (show w1.heap.size ≤ w2.heap.size from HT.out.size)
 clear hb9
 have HN1 := Lib.hid hn9
 clear hn9
 refine hK _ _ ⟨⟨⟨w2, HT.out⟩, rfl⟩, ?_⟩
 clear hK K
 repeat (refine tree_q rfl rfl ?_; go_big_quiet_step (fail); refine wpQuiet_nil ?_)
 refine tree_a rfl (fun K hK => ?_)
 go_simp
 refine (refRead_any ch (Nat.le_trans HCS.out (by decide)) _).mono ?_
 rintro e w3 ⟨a2, c2, rfl, hn9, hb9⟩
 replace HN1 := Lib.hid (HN1.out.up hb9)
 replace HT := Lib.hid (below_up HT.out hb9)
 replace HZS := sz HZS (show w1.heap.size ≤ w3.heap.size from HT.out.size)
 clear hb9
 have HN2 := Lib.hid hn9
 clear hn9
 refine hK _ _ ⟨⟨⟨w3, HT.out⟩, rfl⟩, ?_⟩
 clear hK K
 repeat (refine tree_q rfl rfl ?_; go_big_quiet_step (fail); refine wpQuiet_nil ?_)
 refine tree_a rfl (fun K hK => ?_)
 go_simp
 refine (rSubQ OK.out (show 0 < DD ^ 16 by decide) HCQ.out _ (HG.out.up (below_up HB.out HT.out)) HN1.out HN2.out).mono ?_
 rintro e w4 ⟨a3, c3, rfl, hn9, hb9⟩
 replace HN1 := Lib.hid (HN1.out.up hb9)
 replace HN2 := Lib.hid (HN2.out.up hb9)
 replace HT := Lib.hid (below_up HT.out hb9)
 replace HZS := sz HZS (show w1.heap.size ≤ w4.heap.size from HT.out.size)
 clear hb9
 have HN3 := Lib.hid hn9
 clear hn9
 refine hK _ _ ⟨⟨⟨w4, HT.out⟩, rfl⟩, ?_⟩
 clear hK K
 repeat (refine tree_q rfl rfl ?_; go_big_quiet_step (fail); refine wpQuiet_nil ?_)
 refine tree_end ?_
 clear hov_bg hl_bg bg_
 replace Hbg := Lib.hid (Hbg.out.up HT.out)
 replace HB := hbu HB HT.out
 replace HZS := sz HZS HT.out.size
 clear HT
 have bg_ := Hbg.out.c3
 have BL := Lib.hid (Below.refl w4.heap.size w4)
 have HY := HN3
 clear HN3
 have HYD := Lib.hid (Nat.le_trans (dl_of_lt _ 16 (q_16 OK.out (subQ_lt OK.out 0 (numOf ch)))) (by decide) : dl (subQ G 0 (numOf ch)) ≤ 65536)
 rw [HYE.out] at HY HYD ⊢
 clear HYE
 go_wp2_with fail
 go_loopw [22, 10] (fun i v wr => ∃ (j : Nat) (g : Option Addr) (c9 : Nat) (ro : List RowA), j ≤ n ∧ i = .int .i64 j ∧ v = .slice g j c9 ∧ Hid (ro.map RowA.l = eachA G (rvalB G y l xs) (lens l) j) ∧ Hid (Below w4.heap.size w4 wr) ∧ Hid (RowO w4.heap.size wr 23 1 (.slice g j c9) j (ro.flatMap RowA.cells)) ∧ Hid (RowsOff (.slice g j c9) w4.heap.size wr ro)) (fun i _ _ => n - (intOf i).toNat)
 case atStart => exact ⟨0, none, 0, [], Nat.zero_le _, rfl, rfl, rfl, BL, RowO.nil, fun _ h => by cases h⟩
 case round =>
  obtain ⟨j, g, c9, ro, hj, rfl, rfl, HRM, HL9, Hr, HRN⟩ := hrel
  have hb9 := HL9.out
  clear HL9 bg_
  replace Hbg := Lib.hid (Hbg.out.up hb9)
  replace HN1 := Lib.hid (HN1.out.up hb9)
  replace HN2 := Lib.hid (HN2.out.up hb9)
  replace BL := hbu BL hb9
  replace HB := hbu HB hb9
  replace HZS := sz HZS hb9.size
  clear hb9
  have bg_ := Hbg.out.c3
  by_cases hjn : j < n
  ·have hjl : j < l.length := by rw [HN.out]; exact hjn
   have hjx : j < xs.length := by rw [HXN.out]; exact hjn
   obtain ⟨bl, ol, rfl, hbl0, hc⟩ := (HC.out.s.up HB.out).elem ClaimA.cells_len (by omega) j hjl
   have hc_0 := hc 0 _ rfl
   rw [Nat.add_zero] at hc_0
   have hc_1 := hc 1 _ rfl
   clear hc
   obtain ⟨bx, ox, rfl, hbx, hcx⟩ := (HX.out.up HB.out).at j (by simpa using hjx)
   rw [List.getElem_map] at hcx
   have HAT := Lib.hid ((HC.out.up HB.out).one j hjl)
   have HSJ := Lib.hid (HSH.out.len _ (List.getElem_mem hjl))
   have HBJ := Lib.hid (HSH.out.bs _ (List.getElem_mem hjl))
   have HIJ := Lib.hid (HSH.out.ims _ (List.getElem_mem hjl))
   have HXJ := Lib.hid (HSH.out.xs _ (List.getElem_mem hjx))
   have HMM := Lib.hid (HLG.out j hjl)
   have HVE := Lib.hid (fun t (ht : t < l[j].bases.length) (hti : t < l[j].images.length) => rvalB_eq G y hjl hjx ht hti)
   generalize l[j] = c at *
   generalize xs[j] = x at *
   have HAB := Lib.hid HAT.out.b
   have HAJ := Lib.hid HAT.out.i
   clear HAT
   generalize c.bases = bs at *
   generalize c.images = ims at *
   generalize c.ab = ab at *
   generalize c.ai = ai at *
   generalize c.cb = cb at *
   generalize c.ci = ci at *
   have hm8 := HSJ.out.1
   have HCX := Lib.hid hcx
   clear hcx
   have BR := Lib.hid (Below.refl wr.heap.size wr)
   have o5_bg_ := bg_; clear bg_
   obtain ⟨w5, hq5, hb9, hz9, Hbc⟩ := new1 wr 50 [.slice ab bs.length cb, .slice ai ims.length ci]
   replace Hbg := Lib.hid (Hbg.out.up hb9)
   replace Hr := Lib.hid (Hr.out.up hb9)
   replace HN1 := Lib.hid (HN1.out.up hb9)
   replace HN2 := Lib.hid (HN2.out.up hb9)
   replace BL := hbu BL hb9
   replace BR := hbu BR hb9
   replace HB := hbu HB hb9
   replace HZS := sz HZS hz9.out
   clear hb9 hz9
   have bg_ := Hbg.out.c3
   have bc_ := Hbc.out.c2
   have hro := Hr.out.lt
   obtain ⟨wo, rfl⟩ : ∃ wo : World, wo = wr := ⟨_, rfl⟩
   have BI := Lib.hid (Below.refl w5.heap.size w5)
   go_wp2_with fail
   clear hq5 o5_bg_
   go_loopw [14, 13] (fun i v wr => ∃ (t : Nat) (g9 : Option Addr) (cz : Nat), t ≤ bs.length ∧ i = .int .i64 t ∧ v = .slice g9 t cz ∧ Hid (Below w5.heap.size w5 wr) ∧ Hid (RowO w5.heap.size wr 9 1 (.slice g9 t cz) t ((eachL G (rvalB G y l xs) j t).map Value.string))) (fun i _ _ => bs.length - (intOf i).toNat)
   case atStart => exact ⟨0, none, 0, Nat.zero_le _, rfl, rfl, BI, RowO.nil⟩
   case round =>
    obtain ⟨t, g9, cz, ht, rfl, rfl, HL9, Hq⟩ := hrel
    have hb9 := HL9.out
    clear HL9 bg_
    replace Hbg := Lib.hid (Hbg.out.up hb9)
    clear bc_
    replace Hbc := Lib.hid (Hbc.out.up hb9)
    replace Hr := Lib.hid (Hr.out.up hb9)
    replace HN1 := Lib.hid (HN1.out.up hb9)
    replace HN2 := Lib.hid (HN2.out.up hb9)
    replace BL := hbu BL hb9
    replace BR := hbu BR hb9
    replace BI := hbu BI hb9
    replace HB := hbu HB hb9
    replace HZS := sz HZS hb9.size
    clear hb9
    have bg_ := Hbg.out.c3
    have bc_ := Hbc.out.c2
    by_cases htm : t < bs.length
    ·have hti : t < ims.length := by rw [HSJ.out.2]; exact htm
     obtain ⟨b1, o1, rfl, hb10, hb1, hc1⟩ := HAB.out.atUp BR.out t (by simpa using htm)
     obtain ⟨b2, o2, rfl, hb20, hb2, hc2⟩ := HAJ.out.atUp BR.out t (by simpa using hti)
     have HB10 := Lib.hid hb10
     have HB20 := Lib.hid hb20
     have HBX0 := Lib.hid hbx
     replace HZS := sz HZS HB10.out
     replace HZS := sz HZS HB20.out
     replace HZS := sz HZS HBX0.out
     clear hb10 hb20
     rw [List.getElem_map] at hc1 hc2
     have HBT := Lib.hid (HBJ.out _ (List.getElem_mem htm))
     have HIT := Lib.hid (HIJ.out _ (List.getElem_mem hti))
     have HVT := Lib.hid (HVE.out t htm hti)
     have hcx := (BR.out.cell (p := ⟨bx, ox + j, none⟩) hbx).trans HCX.out
     have hbx' := Nat.lt_of_lt_of_le hbx BR.out.size
     generalize bs[t] = z at *
     generalize ims[t] = m at *
     clear hc_0 hc_1
     go_wp2_with fail
     have HT := Lib.hid (show Below wr.heap.size wr wr.drew from (Below.refl _ _).drew)
     have hl_bg := Hbg.out.lt
     have hl_bc := Hbc.out.lt
     refine wp_region_tree (fun wq9 => ∃ E : But wr (Value.ownBlock (.slice g9 t cz)), wq9 = E.w) ((.qs [0, 1, 2, 3, 4, 5, 6, 7, 8, 9, 10, 11, 14, 15, 16, 17, 18, 19, 20, 23, 24] (.a 12 (.a 13 (.a 21 (.a 22 (.a 25 (.a 26 (.a 27 (.qs [28] .done)))))))))) (by kernel_rfl) (by kernel_rfl) (fun _ _ d _ _ h => by cases d <;> exact h) ⟨⟨_, ((below_grown HT.out).but _)⟩, rfl⟩ ?_
     have hov_bg := fun (E : But wr (Value.ownBlock (.slice g9 t cz))) o => E.cell (b := w.heap.size) o hl_bg (by intro e9; have a1 := Hq.out.lt _ e9; have g0 := HZS.out; omega)
     have hov_bc := fun (E : But wr (Value.ownBlock (.slice g9 t cz))) o => E.cell (b := wo.heap.size) o hl_bc (by intro e9; have a1 := Hq.out.lt _ e9; have g0 := HZS.out; omega)
     have hov_b1 := fun (E : But wr (Value.ownBlock (.slice g9 t cz))) o => E.cell (b := b1) o hb1 (by intro e9; have a1 := Hq.out.lt _ e9; have g0 := HZS.out; omega)
     have hov_b2 := fun (E : But wr (Value.ownBlock (.slice g9 t cz))) o => E.cell (b := b2) o hb2 (by intro e9; have a1 := Hq.out.lt _ e9; have g0 := HZS.out; omega)
     have hov_bx := fun (E : But wr (Value.ownBlock (.slice g9 t cz))) o => E.cell (b := bx) o hbx' (by intro e9; have a1 := Hq.out.lt _ e9; have g0 := HZS.out; omega)
     simp only [Tree.qs]
     repeat (refine tree_q rfl rfl ?_; go_big_quiet_step (fail); refine wpQuiet_nil ?_)
     refine tree_a rfl (fun K hK => ?_)
     go_simp
     refine (refRead_any x (Nat.le_trans HXJ.out (by decide)) _).mono ?_
     rintro e w6 ⟨a5, c5, rfl, hn9, hb9⟩
     replace HT := Lib.hid (below_up HT.out hb9)
     replace HZS := sz HZS (show wr.heap.size ≤ w6.heap.size from HT.out.size)
     clear hb9
     have HN5 := Lib.hid hn9
     clear hn9
     refine hK _ _ ⟨⟨⟨w6, ((below_grown HT.out).but _)⟩, rfl⟩, ?_⟩
     clear hK K
     repeat (refine tree_q rfl rfl ?_; go_big_quiet_step (fail); refine wpQuiet_nil ?_)
     refine tree_a rfl (fun K hK => ?_)
     go_simp
     refine (rPower5 OK.out z HBT.out (Nat.le_trans (dl_of_lt _ 16 (numOf_16 x HXJ.out)) (by decide)) _ (HG.out.up (below_up HB.out HT.out)) HN5.out).mono ?_
     rintro e w7 ⟨a6, c6, rfl, hn9, hb9⟩
     replace HN5 := Lib.hid (HN5.out.up hb9)
     replace HT := Lib.hid (below_up HT.out hb9)
     replace HZS := sz HZS (show wr.heap.size ≤ w7.heap.size from HT.out.size)
     clear hb9
     have HN6 := Lib.hid hn9
     clear hn9
     refine hK _ _ ⟨⟨⟨w7, ((below_grown HT.out).but _)⟩, rfl⟩, ?_⟩
     clear hK K
     repeat (refine tree_q rfl rfl ?_; go_big_quiet_step (fail); refine wpQuiet_nil ?_)
     refine tree_a rfl (fun K hK => ?_)
     go_simp
     refine (rPower5 OK.out m HIT.out HYD.out _ (HG.out.up (below_up HB.out HT.out)) (HY.out.up (below_up BL.out HT.out))).mono ?_
     rintro e w8 ⟨a7, c7, rfl, hn9, hb9⟩
     replace HN5 := Lib.hid (HN5.out.up hb9)
     replace HN6 := Lib.hid (HN6.out.up hb9)
     replace HT := Lib.hid (below_up HT.out hb9)
     replace HZS := sz HZS (show wr.heap.size ≤ w8.heap.size from HT.out.size)
     clear hb9
     have HN7 := Lib.hid hn9
     clear hn9
     refine hK _ _ ⟨⟨⟨w8, ((below_grown HT.out).but _)⟩, rfl⟩, ?_⟩
     clear hK K
     repeat (refine tree_q rfl rfl ?_; go_big_quiet_step (fail); refine wpQuiet_nil ?_)
     refine tree_a rfl (fun K hK => ?_)
     go_simp
     refine (rProd OK.out (lowN_16 OK.out _) (lowN_16 OK.out _) _ (HG.out.up (below_up HB.out HT.out)) HN6.out HN7.out).mono ?_
     rintro e w9 ⟨a8, c8, rfl, hn9, hb9⟩
     replace HN5 := Lib.hid (HN5.out.up hb9)
     replace HN6 := Lib.hid (HN6.out.up hb9)
     replace HN7 := Lib.hid (HN7.out.up hb9)
     replace HT := Lib.hid (below_up HT.out hb9)
     replace HZS := sz HZS (show wr.heap.size ≤ w9.heap.size from HT.out.size)
     clear hb9
     have HN8 := Lib.hid hn9
     clear hn9
     refine hK _ _ ⟨⟨⟨w9, ((below_grown HT.out).but _)⟩, rfl⟩, ?_⟩
     clear hK K
     repeat (refine tree_q rfl rfl ?_; go_big_quiet_step (fail); refine wpQuiet_nil ?_)
     refine tree_a rfl (fun K hK => ?_)
     go_simp
     refine (rText2 OK.out _ HN8.out).mono ?_
     rintro e w10 ⟨rfl, hb9⟩
     replace HN5 := Lib.hid (HN5.out.up hb9)
     replace HN6 := Lib.hid (HN6.out.up hb9)
     replace HN7 := Lib.hid (HN7.out.up hb9)
     replace HN8 := Lib.hid (HN8.out.up hb9)
     replace HT := Lib.hid (below_up HT.out hb9)
     replace HZS := sz HZS (show wr.heap.size ≤ w10.heap.size from HT.out.size)
     clear hb9
     refine hK _ _ ⟨⟨⟨w10, ((below_grown HT.out).but _)⟩, rfl⟩, ?_⟩
     clear hK K
     repeat (refine tree_q rfl rfl ?_; go_big_quiet_step (fail); refine wpQuiet_nil ?_)
     clear hov_bg hl_bg hov_bc hl_bc hov_b1 hov_b2 hov_bx
     refine tree_a rfl (fun K hK => ?_)
     go_simp
     refine hK _ _ ⟨⟨⟨_, (below_grown (HT.out.alloc HT.out.size _)).but _⟩, rfl⟩, ?_⟩
     clear hK K
     obtain ⟨i9, hi9, hz90, hz91, hz92⟩ := info_parts infoStr
     have HG1 := Lib.hid ((below_grown HT.out).but (Value.ownBlock (.slice g9 t cz)))
     clear bg_
     replace Hbg := Lib.hid (Hbg.out.up HT.out)
     clear bc_
     replace Hbc := Lib.hid (Hbc.out.up HT.out)
     replace Hr := Lib.hid (Hr.out.up HT.out)
     replace Hq := Lib.hid (Hq.out.up HT.out)
     replace HN1 := Lib.hid (HN1.out.up HT.out)
     replace HN2 := Lib.hid (HN2.out.up HT.out)
     replace BL := hbu BL HT.out
     replace BR := hbu BR HT.out
     replace BI := hbu BI HT.out
     replace HB := hbu HB HT.out
     replace HZS := sz HZS HT.out.size
     refine tree_a rfl (fun K hK => ?_)
     refine step_pushR (w5.heap.size) w10 (by have g0 := HZS.out; omega) rfl _ _ 23 rfl 9 i9 _ 1 16 Tryz.underlying23 hi9 hz90 hz91 hz92 rfl (by omega) ((.slice g9 t cz)) (t) (((eachL G (rvalB G y l xs) j t).map Value.string)) rfl Hq.out _ _ _ rfl rfl rfl (by simp [Value.oneCell']) (by omega) (by unfold maxLen; omega) ?_
     intro g11 c11 w11 hown9 hg9
     have HGR := Lib.hid (HG1.out.trans hg9)
     have hb9 := Below.grown HB.out hg9 (by have g0 := HZS.out; omega) (fun q hq => Nat.le_trans (show w.heap.size ≤ w5.heap.size by have g0 := HZS.out; omega) (Hq.out.lt q hq).1)
     replace Hbg := Lib.hid (Hbg.out.grown hg9 (fun e9 => by have a1 := Hq.out.lt _ e9; have g0 := HZS.out; omega))
     replace Hbc := Lib.hid (Hbc.out.grown hg9 (fun e9 => by have a1 := Hq.out.lt _ e9; have g0 := HZS.out; omega))
     clear HN1 HN2 HN5 HN6 HN7 HN8
     replace BL := Lib.hid (Below.grown BL.out hg9 (by have g0 := HZS.out; omega) (fun q hq => Nat.le_trans (show w4.heap.size ≤ w5.heap.size by have g0 := HZS.out; omega) (Hq.out.lt q hq).1))
     replace BR := Lib.hid (Below.grown BR.out hg9 (by have g0 := HZS.out; omega) (fun q hq => Nat.le_trans (show wo.heap.size ≤ w5.heap.size by have g0 := HZS.out; omega) (Hq.out.lt q hq).1))
     replace BI := Lib.hid (Below.grown BI.out hg9 (by have g0 := HZS.out; omega) (fun q hq => Nat.le_trans (show w5.heap.size ≤ w5.heap.size by have g0 := HZS.out; omega) (Hq.out.lt q hq).1))
     replace HZS := sz HZS hg9.size
     clear Hq HB HT HG1
     have Hq := Lib.hid hown9
     have HB := Lib.hid hb9
     clear hb9 hown9 hg9 hi9 hz90 hz91 hz92
     refine hK _ _ ⟨⟨⟨w11, HGR.out⟩, rfl⟩, ?_⟩
     clear hK K HGR
     have bg_ := Hbg.out.c3
     have bc_ := Hbc.out.c2
     try simp only [Act.put, List.setIfInBounds_toArray, List.set_cons_succ, List.set_cons_zero]
     repeat (refine tree_q rfl rfl ?_; go_big_quiet_step (fail); refine wpQuiet_nil ?_)
     refine tree_end ?_
     go_wp2_with fail
     go_roundw
     case rel => exact ⟨t + 1, _, _, by omega, by go_num, rfl, BI, Hq.out.eq (by rw [eachL_snoc, HVT.out]) rfl⟩
     case measure => simp [intOf]; omega
    ·have htm' : t = bs.length := by omega
     subst htm'
     have HOFF := Lib.hid (HRN.out.up BR.out)
     have HONE := Lib.hid (RowsOff.one (v := .slice g j c9) (N := w4.heap.size) (k := bs.length) Hq.out (by have a1 := HZS.out; have a2 := HZS.out; omega) (fun q9 h9 => (hro q9 h9).2) (eachL_len G _ j _))
     go_upto_region 11 with fail
     clear bc_ Hbc
     have HKP := Lib.hid (Kept.refl (fun q9 => Value.ownBlock (.slice g j c9) = some q9) wr)
     obtain ⟨i9, hi9, hz90, hz91, hz92⟩ := info_parts infoStrs
     go_wp2_with (at_builtin; refine wpList_pushF (w4.heap.size) wr (by have g0 := HZS.out; omega) rfl _ _ 28 rfl 23 i9 _ 1 24 Tryz.underlying28 hi9 hz90 hz91 hz92 rfl (by omega) ((.slice g j c9)) (j) ((ro.flatMap RowA.cells)) rfl Hr.out _ _ _ rfl rfl rfl (by simp [Value.oneCell']) (by omega) (by unfold maxLen; omega) ?_)
     intro g6 c6 w6 hown9 hg9 hf9
     clear bg_
     have hb9 := Below.grown HB.out hg9 (by have g0 := HZS.out; omega) (fun q hq => Nat.le_trans (show w.heap.size ≤ w4.heap.size by have g0 := HZS.out; omega) (Hr.out.lt q hq).1)
     replace Hbg := Lib.hid (Hbg.out.grown hg9 (fun e9 => by have a1 := Hr.out.lt _ e9; have g0 := HZS.out; omega))
     clear HN1 HN2
     replace BL := Lib.hid (Below.grown BL.out hg9 (by have g0 := HZS.out; omega) (fun q hq => Nat.le_trans (show w4.heap.size ≤ w4.heap.size by have g0 := HZS.out; omega) (Hr.out.lt q hq).1))
     replace HKP := Lib.hid (Kept.grown HKP.out hg9 (fun q hq => Or.inr hq))
     replace HZS := sz HZS hg9.size
     clear Hr HB
     have Hr := Lib.hid hown9
     have HB := Lib.hid hb9
     clear hb9 hown9 hg9 hi9 hz90 hz91 hz92
     have bg_ := Hbg.out.c3
     have HRP := Lib.hid (fun (n9 c9 : Nat) => RowsOff.push (n := n9) (c := c9) HOFF.out HONE.out HKP.out hf9)
     go_wp2_with fail
     go_roundw
     case rel => exact ⟨j + 1, _, _, _, by omega, by go_num, rfl, Lib.hid (by rw [List.map_append, HRM.out, eachA_snoc, HMM.out]; rfl), BL, Hr.out.eq (by rw [List.flatMap_append]; simp [RowA.cells, eachL_len]) rfl, HRP.out _ _⟩
     case measure => simp [intOf]; omega
  ·have hjn' : j = n := by omega
   subst hjn'
   go_wp2_with fail
   go_ret
   exact ⟨HB.out, g, c9, ro, by rw [eachA_len]; rfl, HRM.out, ⟨Hr.out.sl, fun r hr => (HRN.out r hr).1⟩, fun r hr => (HRN.out r hr).2.2⟩
end
end Go.Proofs.YtdlnnkbigeiilaaGreat
namespace Go.Proofs.YtdlnnkbigeiilaaGreat
open Go.RowKit
theorem rsh_of {G : GP} (ok : G.Ok) {l : List ClaimA} {xs : List ByteArray} (h1 : wrongE G l = 0) (h2 : scE G l.length xs = 0) : RSh G l xs := by
 obtain ⟨hs, he⟩ := wrong_ok h1
 have hs := shape_ok hs
 have hx : xs.length = l.length ∧ xs.all (isSc G.q.m G.size) = true := by
  unfold scE at h2
  by_cases h : xs.length = l.length
  ·rw [if_pos h] at h2
   by_cases g : xs.all (isSc G.q.m G.size) = true
   ·exact ⟨h, g⟩
   ·rw [if_neg g] at h2; cases h2
  ·rw [if_neg h] at h2; cases h2
 have hc : ∀ c ∈ l, c.bases.all (isEl G.q.m G.size) = true ∧ c.images.all (isEl G.q.m G.size) = true := fun c hc => by
  have h9 : (c.bases.all (isEl G.q.m G.size) && c.images.all (isEl G.q.m G.size)) = true := List.all_eq_true.1 he c hc
  exact (Bool.and_eq_true _ _).mp h9
 exact ⟨hs.2.1, fun c h => (hs.2.2 c h).2, fun c h s g => el_len ok (List.all_eq_true.1 (hc c h).1 s g), fun c h s g => el_len ok (List.all_eq_true.1 (hc c h).2 s g), hx.1, fun s g => sc_len ok (List.all_eq_true.1 hx.2 s g)⟩
section
variable {G : GP} {aq ap : Option Addr} {cq cp : Nat}
theorem rWrongSc_e (ok : G.Ok) (n : Nat) (l : List ByteArray) (z : Nat) (hz : scE G n l = z) (al : Option Addr) (cl : Nat) (hlen : l.length ≤ 8796093022207) (w : World) (hG : RG w G aq ap) (hS : Sl w w.heap.size al (l.map Value.string)) :
  Calls Tryz.prog 59 #[.agg #[.int .i64 (G.size : Int), .slice aq (dl G.q.m) cq, .slice ap (dl G.p.m) cp], .int .i64 (n : Int), .slice al l.length cl] w (Gives (.int .i64 (z : Int)) w) := by
 subst hz
 exact rWrongSc ok n l al cl hlen w hG hS
end
section
variable {G : GP} {aq ap : Option Addr} {cq cp : Nat}
end
end Go.Proofs.YtdlnnkbigeiilaaGreat
namespace Go.Proofs.YtdlnnkbigeiilaaGreat
open Go.RowKit
theorem isSc_lt' {G : GP} {s : ByteArray} (h : isSc G.q.m G.size s = true) : numOf s % G.q.m = numOf s ∧ numOf s < G.q.m := by
 unfold isSc at h
 simp only [Bool.and_eq_true, decide_eq_true_eq] at h
 exact ⟨Nat.mod_eq_of_lt h.2, h.2⟩
end Go.Proofs.YtdlnnkbigeiilaaGreat
namespace Go.Proofs.YtdlnnkbigeiilaaGreat
open Go.RowKit
structure AllOk (G : GP) (l : List ClaimA) (xs : List ByteArray) : Prop where
 len : ∀ c ∈ l, c.images.length = c.bases.length
 bs : ∀ c ∈ l, ∀ s ∈ c.bases, isEl G.q.m G.size s = true
 ims : ∀ c ∈ l, ∀ s ∈ c.images, isEl G.q.m G.size s = true
 xl : xs.length = l.length
 xs : ∀ s ∈ xs, isSc G.q.m G.size s = true
theorem allOk {k : Int} {l : List ClaimA} {xs : List ByteArray} (h : openK k l xs = 0) : (1 ≤ k ∧ k ≤ 3) ∧ AllOk (grp k.toNat) l xs := by
 obtain ⟨hk, hs, he, hxl, hxa⟩ := openK_ok h
 have hs := shape_ok hs
 have hc : ∀ c ∈ l, c.bases.all (isEl (grp k.toNat).q.m (grp k.toNat).size) = true ∧ c.images.all (isEl (grp k.toNat).q.m (grp k.toNat).size) = true := fun c hc => by
  have h9 : (c.bases.all (isEl (grp k.toNat).q.m (grp k.toNat).size) && c.images.all (isEl (grp k.toNat).q.m (grp k.toNat).size)) = true := List.all_eq_true.1 he c hc
  exact (Bool.and_eq_true _ _).mp h9
 exact ⟨hk, fun c h => (hs.2.2 c h).2.2, fun c h s g => List.all_eq_true.1 (hc c h).1 s g, fun c h s g => List.all_eq_true.1 (hc c h).2 s g, hxl, fun s g => List.all_eq_true.1 hxa s g⟩
theorem eachA_congr {G : GP} {v v' : Nat → Nat → Nat} {ms : List Nat} {n : Nat} (h : ∀ i t, i < n → t < ms.getD i 0 → lowN G (v i t) = lowN G (v' i t)) : eachA G v ms n = eachA G v' ms n := by
 unfold eachA eachL
 apply List.map_congr_left
 intro i hi
 apply List.map_congr_left
 intro t ht
 rw [h i t (List.mem_range.1 hi) (List.mem_range.1 ht)]
end Go.Proofs.YtdlnnkbigeiilaaGreat
namespace Go.Proofs.YtdlnnkbigeiilaaGreat
open Go.RowKit
theorem valB_low {G : GP} (ok : G.Ok) {l : List ClaimA} {xs : List ByteArray} (h : AllOk G l xs) (y z : Nat) (hy : y = z % G.q.m) (i t : Nat) (hi : i < l.length) (_ht : t < (lens l).getD i 0) : lowN G (rvalB G y l xs i t) = lowN G (valB G z l xs i t) := by
 have hx : i < xs.length := by rw [h.xl]; exact hi
 unfold rvalB valB valF
 rw [lowN_mul ok, ← hy]
 have e : xs.getD i ⟨#[]⟩ = xs[i] := by simp [List.getD, hx]
 rw [e, (isSc_lt' (h.xs _ (List.getElem_mem hx))).1]
end Go.Proofs.YtdlnnkbigeiilaaGreat
namespace Go.Proofs.YtdlnnkbigeiilaaGreat
open Go.RowKit
end Go.Proofs.YtdlnnkbigeiilaaGreat
namespace Go.Proofs.YtdlnnkbigeiilaaGreat
open Go.RowKit
end Go.Proofs.YtdlnnkbigeiilaaGreat
namespace Go.Proofs.YtdlnnkbigeiilaaGreat
open Go.RowKit
theorem openK_we {k : Nat} (h1 : 1 ≤ k) (h3 : k ≤ 3) {l : List ClaimA} {xs : List ByteArray} (hw : wrongE (grp k) l = 0) (hs : scE (grp k) l.length xs = 0) : openK (k : Int) l xs = 0 := by
 unfold openK openE
 rw [if_pos (by omega), Int.toNat_natCast, if_neg (by simpa using hw), hs]
theorem rback_eq {k : Nat} (h1 : 1 ≤ k) (h3 : k ≤ 3) {l : List ClaimA} {xs : List ByteArray} (ch : ByteArray) (hw : wrongE (grp k) l = 0) (hs : scE (grp k) l.length xs = 0) :
  eachA (grp k) (rvalB (grp k) (subQ (grp k) 0 (numOf ch)) l xs) (lens l) l.length = eachA (grp k) (valB (grp k) ((grp k).q.m - numOf ch) l xs) (lens l) l.length := by
 obtain ⟨_, ha⟩ := allOk (openK_we h1 h3 hw hs)
 rw [Int.toNat_natCast] at ha
 exact eachA_congr fun i t hi ht => valB_low (grp_ok k h1 h3) ha _ _ (by unfold subQ; rw [Nat.zero_add]) i t hi ht
section
variable {G : GP} {aq ap : Option Addr} {cq cp : Nat}
theorem rWrongSets (ok : G.Ok) (ss : List SetA) (n : Nat) (hn : ss.length = n) (al : Option Addr) (cl : Nat) (w : World) (hG : RG w G aq ap) (hC : SetsAt w al ss) :
  Calls Tryz.prog 55 #[.agg #[.int .i64 (G.size : Int), .slice aq (dl G.q.m) cq, .slice ap (dl G.p.m) cp], .slice al n cl] w (Gives (.int .i64 (setsE G ss : Int)) w) := by
 have HW := Lib.hid (fun (l : List ClaimA) a c w hG hC => rWrong (aq := aq) (ap := ap) (cq := cq) (cp := cp) ok l l.length rfl (wrongE G l) rfl a c w hG hC)
 have HG := Lib.hid hG
 have HC := Lib.hid hC
 have HN := Lib.hid hn
 unfold Gives at HW ⊢
 by_cases h1 : 16 < n
 ·have hd : decide ((n : Int) > 16) = true := by simp; omega
  have e : setsE G ss = 3 := by unfold setsE; rw [if_pos (by omega)]
  rw [e]
  clear hG hC hn h1 e
  go_enter Tryz.func55, Tryz.ntmps55
  go_wp2_with fail
  obtain ⟨w1, hq1, hb9, hz9, Hg⟩ := new1 w 86 [.int .i64 (G.size : Int), .slice aq (dl G.q.m) cq, .slice ap (dl G.p.m) cp]
  rw [hq1]
  clear hq1
  have HB := Lib.hid hb9
  have HZS := hz9
  clear hb9 hz9
  have g_ := Hg.out.c3
  go_wp2_with fail
  go_ret
  exact ⟨rfl, HB.out⟩
 have hd : decide ((n : Int) > 16) = false := by simp; omega
 by_cases h2 : n = 0
 ·have e : setsE G ss = 2 := by unfold setsE; rw [if_neg (by omega), if_pos (by omega)]
  rw [e]
  subst h2
  clear hG hC hn h1 e
  go_enter Tryz.func55, Tryz.ntmps55
  go_wp2_with fail
  obtain ⟨w1, hq1, hb9, hz9, Hg⟩ := new1 w 86 [.int .i64 (G.size : Int), .slice aq (dl G.q.m) cq, .slice ap (dl G.p.m) cp]
  rw [hq1]
  clear hq1
  have HB := Lib.hid hb9
  have HZS := hz9
  clear hb9 hz9
  have g_ := Hg.out.c3
  go_wp2_with fail
  go_ret
  exact ⟨rfl, HB.out⟩
 have hd2 : ((n : Int) == 0) = false := by simp; omega
 have HSE := Lib.hid (show setsE G ss = wrongsE G ss by unfold setsE; rw [if_neg (by omega), if_neg (by omega)])
 clear hG hC hn h2
 go_enter Tryz.func55, Tryz.ntmps55
 go_wp2_with fail
 obtain ⟨w1, hq1, hb9, hz9, Hg⟩ := new1 w 86 [.int .i64 (G.size : Int), .slice aq (dl G.q.m) cq, .slice ap (dl G.p.m) cp]
 rw [hq1]
 clear hq1
 have HB := Lib.hid hb9
 have HZS := hz9
 clear hb9 hz9
 have g_ := Hg.out.c3
 go_wp2_with fail
 have HGZ := Lib.hid Hg.out.lt
 go_loopw [16] (fun i wr => ∃ j : Nat, j ≤ n ∧ i = .int .i64 (j : Int) ∧ Hid (wrongsE G (ss.take j) = 0) ∧ Hid (Bx wr w.heap.size 86 [.int .i64 (G.size : Int), .slice aq (dl G.q.m) cq, .slice ap (dl G.p.m) cp]) ∧ Hid (Below w.heap.size w wr)) (fun i _ => n - (intOf i).toNat)
 case atStart => exact ⟨0, Nat.zero_le _, rfl, rfl, Hg, HB⟩
 case round =>
  clear Hg HB g_
  obtain ⟨j, hj, rfl, HWR, Hg, HB⟩ := hrel
  by_cases hjn : j < n
  ·have hjl : j < ss.length := by rw [HN.out]; exact hjn
   obtain ⟨bl, ol, rfl, hbl0, hc⟩ := (HC.out.s.up HB.out).elem SetA.cells_len (by omega) j hjl
   have hc_0 := hc 0 _ rfl
   rw [Nat.add_zero] at hc_0
   clear hc
   rw [Nat.mul_one] at hc_0
   have HAT := Lib.hid (HC.out.one j hjl)
   have HWN := Lib.hid (wrongsE_not (G := G) hjl HWR.out)
   have HWS := Lib.hid (wrongsE_snoc (G := G) hjl HWR.out)
   have HGL := Lib.hid Hg.out.lt
   generalize ss[j] = s at *
   have HWJ := Lib.hid (fun w hG hC => HW.out s.l s.a s.c w hG hC)
   obtain ⟨z, hz⟩ : ∃ z, wrongE G s.l = z := ⟨_, rfl⟩
   rw [hz] at HWJ HWN HWS
   clear hz HWR HW
   replace HZS := sz HZS HGL.out
   have g_ := Hg.out.c3
   by_cases hz : z = 0
   ·subst hz
    have HWS2 := Lib.hid (HWS.out rfl)
    clear HWN HWS
    go_wp2_with fail
    refine (HWJ.out wr (HG.out.up HB.out) (HAT.out.up HB.out)).mono ?_
    rintro e w2 ⟨rfl, hb9⟩
    clear g_
    replace Hg := Lib.hid (Hg.out.up hb9)
    replace HB := hbu HB hb9
    replace HZS := sz HZS hb9.size
    clear hb9
    have g_ := Hg.out.c3
    go_wp2_with fail
    go_roundw
    case rel => exact ⟨j + 1, by omega, by go_num, HWS2, Hg, HB⟩
    case measure => simp [intOf]; omega
   ·have HWN2 := Lib.hid (HSE.out.trans (HWN.out hz))
    have hd3 : ((z : Int) != 0) = true := by simp; omega
    clear HWN HWS hz
    go_wp2_with fail
    refine (HWJ.out wr (HG.out.up HB.out) (HAT.out.up HB.out)).mono ?_
    rintro e w2 ⟨rfl, hb9⟩
    clear g_
    replace Hg := Lib.hid (Hg.out.up hb9)
    replace HB := hbu HB hb9
    replace HZS := sz HZS hb9.size
    clear hb9
    have g_ := Hg.out.c3
    go_wp2_with fail
    go_ret
    exact ⟨by rw [HWN2.out]; rfl, HB.out⟩
  ·have hjn' : j = n := by omega
   subst hjn'
   have HW2 := Lib.hid (show setsE G ss = 0 by have h9 := HWR.out; rw [List.take_of_length_le (by rw [HN.out]; exact Nat.le_refl _)] at h9; rw [HSE.out, h9])
   go_wp2_with fail
   go_ret
   exact ⟨by rw [HW2.out]; rfl, HB.out⟩
theorem rsaySets_any (s : ByteArray) (hz : s.size = 32) (ss : List SetA) (n : Nat) (hn : ss.length = n) (h16 : n ≤ 16) (sh : ∀ t ∈ ss, t.l.length ≤ 64 ∧ ∀ c ∈ t.l, SayOk c) (al : Option Addr) (cl : Nat) (w : World) (hC : SetsAt w al ss) :
  Calls Tryz.prog 56 #[.agg #[.string s], .slice al n cl] w fun e w' => e = .returned (.agg #[.string (saySs s (ss.map SetA.l))]) ∧ Below w.heap.size w w' := by
 have HTK := Lib.hid (fun j (h : j < ss.length) => by
  have h1 := saySs_take s (ss.map SetA.l) j (by rw [List.length_map]; exact h)
  rw [List.getElem_map, ← List.map_take, ← List.map_take] at h1
  exact h1)
 unfold sayS at HTK
 have HF := Lib.hid (fun s lb x hs hl hx w => (show Calls Tryz.prog 73 #[.agg #[.string s], .string lb, .string x] w fun e w' => e = .returned (.agg #[.string (say1 s lb x)]) ∧ Below w.heap.size w w' from rSay_any s lb x hs hl hx w))
 have HF2 := Lib.hid (fun s l h64 hz sh al cl w hC => rsayCl_any s l l.length rfl h64 hz sh al cl w hC)
 have HS1 := Lib.hid say1_size
 have HZ2 := Lib.hid sayCl_size
 have HT0 := Lib.hid (show saySs s ([].map SetA.l) = s from rfl)
 generalize saySs s = SS at *
 generalize sayCl = SC at *
 generalize say1 = S1 at *
 have HC := Lib.hid hC
 have HN := Lib.hid hn
 have HZ := Lib.hid hz
 have HSH := Lib.hid sh
 clear hC hn hz sh
 go_enter Tryz.func56, Tryz.ntmps56
 go_wp2_with fail
 obtain ⟨w1, hq1, hb9, hz9, Ht, Ho⟩ := new2 w 89 [.string s] 89 [.string ⟨#[]⟩]
 rw [hq1]
 clear hq1
 have HB := Lib.hid hb9
 have HZS := hz9
 clear hb9 hz9
 have t_ := Ht.out.c1
 have o_ := Ho.out.c1
 go_wp2_with fail
 go_loopw [9] (fun i wr => ∃ (j : Nat) (y : ByteArray), j ≤ n ∧ i = .int .i64 (j : Int) ∧ Hid (y.size = 32) ∧ Hid (y = SS ((ss.take j).map SetA.l)) ∧ Hid (Bx wr w.heap.size 89 [.string y]) ∧ Hid (Bx wr (w.heap.size + 1) 89 [.string ⟨#[]⟩]) ∧ Hid (Below w.heap.size w wr)) (fun i _ => n - (intOf i).toNat)
 case atStart => exact ⟨0, s, Nat.zero_le _, rfl, HZ, HT0.out.symm, Ht, Ho, HB⟩
 case round =>
  clear Ht Ho HB t_ o_
  obtain ⟨j, y, hj, rfl, HY, HYS, Ht, Ho, HB⟩ := hrel
  have HO9 := Lib.hid Ho.out.lt
  by_cases hjn : j < n
  ·have hjl : j < ss.length := by rw [HN.out]; exact hjn
   obtain ⟨bl, ol, rfl, hbl0, hc⟩ := (HC.out.s.up HB.out).elem SetA.cells_len (by omega) j hjl
   have hc_0 := hc 0 _ rfl
   rw [Nat.add_zero] at hc_0
   clear hc
   rw [Nat.mul_one] at hc_0
   have HAT := Lib.hid (HC.out.one j hjl)
   have HSJ := Lib.hid (HSH.out _ (List.getElem_mem hjl))
   have HTJ := Lib.hid (HTK.out j hjl)
   generalize ss[j] = s9 at *
   generalize s9.a = sa at *
   generalize s9.c = sc at *
   generalize s9.l = l at *
   rw [← HYS.out] at HTJ
   obtain ⟨m, hm⟩ : ∃ m, l.length = m := ⟨_, rfl⟩
   have HF3 := Lib.hid (fun s hz w hC => HF2.out s l HSJ.out.1 hz HSJ.out.2 sa sc w hC)
   rw [hm] at hc_0 HTJ HF3
   have hm0 : (0 : Int) ≤ (m : Int) := by omega
   have hm1 : (m : Int) < 256 := by have h9 := HSJ.out.1; omega
   unfold kindS at HTJ
   rw [Int.toNat_natCast] at HTJ
   clear hm HYS HSJ HF2
   replace HZS := sz HZS HO9.out
   have t_ := Ht.out.c1
   have o_ := Ho.out.c1
   have o2_t_ := t_; clear t_
   have o2_o_ := o_; clear o_
   obtain ⟨w2, hq2, hb9, hz9, Hr⟩ := new1 wr 5 [.int .u8 (m : Int)]
   replace Ht := Lib.hid (Ht.out.up hb9)
   replace Ho := Lib.hid (Ho.out.up hb9)
   replace HB := hbu HB hb9
   replace HZS := sz HZS hz9.out
   clear hb9 hz9
   have t_ := Ht.out.c1
   have o_ := Ho.out.c1
   have r_ := Hr.out.c1
   have hcv := run_convert_bytes_arg (P := Tryz.prog) w2 150 5 Tryz.underlying150 Tryz.underlying5 wr.heap.size 0 1 1 [(m : Int)] rfl (fun i hi => by
    obtain rfl : i = 0 := by omega
    exact Hr.out.cell (i := 0) rfl) 9 Tryz.underlying9
   go_wp2_with fail
   clear hq2 o2_o_ o2_t_
   refine (HF.out y setB ⟨#[UInt8.ofNat m]⟩ (by have := HY.out; omega) (by decide) (show (1 : Nat) < 140737488355328 by decide) w2).mono ?_
   rintro e w3 ⟨rfl, hb9⟩
   clear t_
   replace Ht := Lib.hid (Ht.out.up hb9)
   clear o_
   replace Ho := Lib.hid (Ho.out.up hb9)
   clear r_
   replace Hr := Lib.hid (Hr.out.up hb9)
   replace HB := hbu HB hb9
   replace HZS := sz HZS hb9.size
   clear hb9
   have t_ := Ht.out.c1
   have o_ := Ho.out.c1
   have r_ := Hr.out.c1
   clear hcv r_ Hr
   go_wp2_with fail
   refine (HF3.out (S1 y setB ⟨#[UInt8.ofNat m]⟩) (HS1.out _ _ _) w3 (HAT.out.up HB.out)).mono ?_
   rintro e w4 ⟨rfl, hb9⟩
   clear t_
   replace Ht := Lib.hid (Ht.out.up hb9)
   clear o_
   replace Ho := Lib.hid (Ho.out.up hb9)
   replace HB := hbu HB hb9
   replace HZS := sz HZS hb9.size
   clear hb9
   have t_ := Ht.out.c1
   have o_ := Ho.out.c1
   have f5_t := Ht.out.frozen
   have o5_t_ := t_; clear t_
   have o5_o_ := o_; clear o_
   obtain ⟨w5, hq5, hg9, hz9, hx9⟩ := put1 Ht 0 (.string (SC (S1 y setB ⟨#[UInt8.ofNat m]⟩) l)) [.string (SC (S1 y setB ⟨#[UInt8.ofNat m]⟩) l)] rfl
   replace Ho := Lib.hid (Ho.out.grown hg9.out (sne (by have g0 := HZS.out; omega)))
   replace HB := hbg HB hg9 (by have g0 := HZS.out; omega)
   replace HZS := sz HZS hz9.out
   replace Ht := hx9
   clear hx9 hg9 hz9
   have t_ := Ht.out.c1
   have o_ := Ho.out.c1
   go_wp2_with fail
   go_roundw
   case rel => exact ⟨j + 1, _, by omega, by go_num, Lib.hid (HZ2.out _ _ (HS1.out _ _ _)), Lib.hid HTJ.out.symm, Ht, Ho, HB⟩
   case measure => simp [intOf]; omega
  ·have hj' : j = n := by omega
   subst hj'
   rw [List.take_of_length_le (by rw [HN.out]; exact Nat.le_refl _)] at HYS
   replace HZS := sz HZS HO9.out
   have t_ := Ht.out.c1
   have o_ := Ho.out.c1
   have f2_o := Ho.out.frozen
   have o2_t_ := t_; clear t_
   have o2_o_ := o_; clear o_
   obtain ⟨w2, hq2, hg9, hz9, hx9⟩ := put1 Ho 0 (.string y) [.string y] rfl
   replace Ht := Lib.hid (Ht.out.grown hg9.out (sne (by have g0 := HZS.out; omega)))
   replace HB := hbg HB hg9 (by have g0 := HZS.out; omega)
   replace HZS := sz HZS hz9.out
   replace Ho := hx9
   clear hx9 hg9 hz9
   have t_ := Ht.out.c1
   have o_ := Ho.out.c1
   go_wp2_with fail
   clear hq2 o2_o_ o2_t_ f2_o
   rw [← HYS.out]
   simp [bodyPost, results, Tryz.results56, go_sem, o_]
   exact HB.out
end
end Go.Proofs.YtdlnnkbigeiilaaGreat
